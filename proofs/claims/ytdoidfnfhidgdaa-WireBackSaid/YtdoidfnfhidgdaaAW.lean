import Derived.Test.YtdoidfnfhidgdaaRG
import Derived.Test.YtdoidfnfhidgdaaAO
import Derived.Test.YtdoidfnfhidgdaaAR
namespace Go.Proofs.Ytdoidfnfhidgdaa
open Go.RowKit Go.Shelf
attribute [local go_sem] Oper.semAt_some

/-- what is read is there -/
theorem readF_ok {b : List Nat} (h : (readF b).2.2 = 0) : ∃ n : Nat, (readF b).2.1 = (n : Int) ∧ 6 ≤ n ∧ n ≤ b.length := by
  unfold readF at h ⊢
  by_cases h1 : b.length < 5
  · rw [if_pos h1] at h; exact absurd h (by simp)
  rw [if_neg h1] at h ⊢
  by_cases h2 : b.getD 4 0 = 0 ∨ 35 < b.getD 4 0
  · rw [if_pos h2] at h; exact absurd h (by simp)
  rw [if_neg h2] at h ⊢
  by_cases h3 : b.length < 5 + b.getD 4 0
  · rw [if_pos h3] at h; exact absurd h (by simp)
  rw [if_neg h3] at h ⊢
  by_cases h4 : sealedB ((b.drop 5).take (b.getD 4 0)) (b.take 4) = false
  · rw [if_pos h4] at h; exact absurd h (by simp)
  rw [if_neg h4] at h ⊢
  cases hr : rdB ((b.drop 5).take (b.getD 4 0)) with
  | ok e => exact ⟨5 + b.getD 4 0, by simp, by omega, by omega⟩
  | error x => rw [hr] at h; have := rdB_err _ _ hr; simp at h; omega

/-- the entries of frames, each with the place behind it, and why they end -/
def scanL : Nat → Nat → List Nat → List (Nat × Ent) × Int
  | 0, _, _ => ([], 0)
  | f + 1, at_, b => if b = [] then ([], 0) else if (readF b).2.2 = 0 then
      ((at_ + (readF b).2.1.toNat, (readF b).1) :: (scanL f (at_ + (readF b).2.1.toNat) (b.drop (readF b).2.1.toNat)).1, (scanL f (at_ + (readF b).2.1.toNat) (b.drop (readF b).2.1.toNat)).2)
    else ([], (readF b).2.2)
theorem scanL_nil (f at_ : Nat) : scanL f at_ [] = ([], 0) := by cases f <;> simp [scanL]
theorem scanL_no {f at_ : Nat} {b : List Nat} (hb : b ≠ []) (hf : b.length ≤ f) (h : (readF b).2.2 ≠ 0) : scanL f at_ b = ([], (readF b).2.2) := by
  obtain ⟨g, rfl⟩ : ∃ g, f = g + 1 := ⟨f - 1, by have := List.length_pos_iff.2 hb; omega⟩
  rw [scanL, if_neg hb, if_neg h]
theorem scanL_yes {f at_ n : Nat} {b : List Nat} (hb : b ≠ []) (h : (readF b).2.2 = 0) (hn : (readF b).2.1 = (n : Int)) :
    scanL (f + 1) at_ b = ((at_ + n, (readF b).1) :: (scanL f (at_ + n) (b.drop n)).1, (scanL f (at_ + n) (b.drop n)).2) := by
  rw [scanL, if_neg hb, if_pos h, hn, Int.toNat_natCast]

/-- everything but block O stays, of what lay below N -/
structure Ex (O N : Nat) (A B : World) : Prop where
  os : B.os = A.os
  tape : B.tape = A.tape
  output : B.output = A.output
  size : A.heap.size ≤ B.heap.size
  block : ∀ k, k < N → k ≠ O → B.heap[k]? = A.heap[k]?
theorem Ex.trans {O N : Nat} {A B C : World} (h : Ex O N A B) (k : Ex O N B C) : Ex O N A C := ⟨k.os.trans h.os, k.tape.trans h.tape, k.output.trans h.output, Nat.le_trans h.size k.size, fun i hi hO => (k.block i hi hO).trans (h.block i hi hO)⟩
theorem Ex.refl (O N : Nat) (A : World) : Ex O N A A := ⟨rfl, rfl, rfl, Nat.le_refl _, fun _ _ _ => rfl⟩
theorem Ex.mono {O N M : Nat} {A B : World} (h : Ex O N A B) (hm : M ≤ N) : Ex O M A B := ⟨h.os, h.tape, h.output, h.size, fun i hi hO => h.block i (by omega) hO⟩
theorem Ex.of_below {O N : Nat} {A B : World} (h : Below N A B) : Ex O N A B := ⟨h.os, h.tape, h.output, h.size, fun i hi _ => h.block i hi⟩
theorem Ex.setO (O N : Nat) (A : World) (i : Nat) (v : Value) : Ex O N A (A.setCell ⟨O, i, none⟩ v) := ⟨rfl, rfl, rfl, by simp [World.setCell], fun k _ hO => Below.heap_setCell A ⟨O, i, none⟩ v k hO⟩
theorem Ex.blk {O N g : Nat} {t : TypeId} {cs : Array Value} {A B : World} (h : Ex O N A B) (hb : Blk A g t cs) (hg : g < N) (hO : g ≠ O) : Blk B g t cs := (h.block g hg hO).trans hb
theorem Ex.cell {O N : Nat} {A B : World} (h : Ex O N A B) {p : Addr} (hg : p.block < N) (hO : p.block ≠ O) : B.cell? p = A.cell? p := World.cell?_of_block (h.block p.block hg hO)

/-- the three fields of what All answers -/
abbrev outC (v : Value) (g f : Int) : Array Value := #[v, .int .i64 g, .int .i64 f]
/-- what the iterator does between two rounds -/
def StepO (O : Nat) (A B : World) : Prop := Ex O A.heap.size A B ∧ ∀ v g f, Blk A O 52 (outC v g f) → ∃ f', Blk B O 52 (outC v g f')
/-- what a round keeps -/
def KeepO (O N : Nat) (A B : World) : Prop := Ex O N A B ∧ ∀ v g f, Blk A O 52 (outC v g f) → ∃ v' g', Blk B O 52 (outC v' g' f)
theorem StepO.of_below {O : Nat} {A B : World} (h : Below A.heap.size A B) : StepO O A B := ⟨Ex.of_below h, fun _ _ f hb => ⟨f, hb.below h hb.lt⟩⟩
theorem StepO.set_ {O : Nat} {A : World} (e : Int) : StepO O A (A.setCell ⟨O, 2, none⟩ (.int .i64 e)) := ⟨Ex.setO _ _ _ _ _, fun _ _ _ hb => ⟨e, hb.set_ 2 _⟩⟩

abbrev encF (p : Nat × Ent) : Array Value := #[.int .i64 (p.1 : Nat), entV p.2]

set_option maxRecDepth 100000 in
set_option maxHeartbeats 4000000 in
theorem frames1_seq (n : Nat) (hn : 3 ≤ n) (O N Bw Bb : Nat) (A : Option Addr) (b : List Nat) (c : Nat) (hm : b.length ≤ 1099511627000) (hc : b.length ≤ c) (w : World) (hN : N ≤ w.heap.size)
    (hbw : w.cell? ⟨Bw, 0, none⟩ = some (.pointer (some ⟨O, 2, none⟩))) (hbb : w.cell? ⟨Bb, 0, none⟩ = some (.slice A b.length c)) (hwN : Bw < N) (hbN : Bb < N) (hwO : Bw ≠ O) (hbO : Bb ≠ O)
    (hy : Bys w N A b) (hyO : ∀ bb off, b ≠ [] → A = some ⟨bb, off, none⟩ → bb ≠ O) (hO : ∃ v g f, Blk w O 52 (outC v g f)) :
    SeqT Fence.wide n Try.prog 80 #[.pointer (some ⟨Bw, 0, none⟩), .pointer (some ⟨Bb, 0, none⟩)] encF (StepO O) (fun _ _ => True) (KeepO O N)
      (fun ys W => ys = (scanL b.length 0 b).1 ∧ ∃ v g, Blk W O 52 (outC v g (scanL b.length 0 b).2)) b.length w := by
  intro y J W hW hJ hY h0
  obtain ⟨v0, g0, f0, hO0⟩ := hO
  have hOW : Blk W O 52 (outC v0 g0 f0) := hO0.below hW hO0.lt
  have hEW : Ex O N w W := Ex.of_below (hW.mono hN)
  have hNW : N ≤ W.heap.size := Nat.le_trans hN hW.size
  have hbw0 : W.cell? ⟨Bw, 0, none⟩ = some (.pointer (some ⟨O, 2, none⟩)) := (hEW.cell (p := ⟨Bw, 0, none⟩) hwN hwO).trans hbw
  have hf0 := hOW.frozen 2
  have hc0 := hOW.cell 2
  have hJ0 : J [] (W.setCell ⟨O, 2, none⟩ (.int .i64 0)) := hJ _ _ _ h0 (StepO.set_ 0)
  have hO1 : Blk (W.setCell ⟨O, 2, none⟩ (.int .i64 0)) O 52 (outC v0 g0 0) := hOW.set_ 2 _
  have hE1 : Ex O N w (W.setCell ⟨O, 2, none⟩ (.int .i64 0)) := hEW.trans (Ex.setO _ _ _ _ _)
  have hz1 : N ≤ (W.setCell ⟨O, 2, none⟩ (.int .i64 0)).heap.size := Nat.le_trans hN hE1.size
  refine callsIn_of_wp Try.func80 rfl trivial ?_ rfl
  simp only [Try.ntmps80, List.size_toArray, List.length_cons, List.length_nil, Nat.reduceAdd, Nat.reduceSub, Array.replicate_succ, Array.replicate_zero, List.push_toArray, List.append_toArray, List.nil_append, List.cons_append]
  gi_wp2
  clear hbw0 hf0 hc0 hOW hEW
  obtain ⟨W1, hW1⟩ : ∃ W1, W.setCell ⟨O, 2, none⟩ (.int .i64 0) = W1 := ⟨_, rfl⟩
  rw [hW1] at hJ0 hO1 hE1 hz1 ⊢
  clear hW1
  gi_loopw [4] (fun i wr => ∃ (at_ fuel : Nat) (pre : List (Nat × Ent)), at_ ≤ b.length ∧ i = .int .i64 at_ ∧ b.length - at_ ≤ fuel ∧ pre.length ≤ at_ ∧
      Hid (scanL b.length 0 b = (pre ++ (scanL fuel at_ (b.drop at_)).1, (scanL fuel at_ (b.drop at_)).2)) ∧ J pre wr ∧ Ex O N w wr ∧ ∃ v g, Blk wr O 52 (outC v g 0))
    (fun i _ => b.length - (intOf i).toNat)
  case atStart => exact ⟨0, b.length, [], Nat.zero_le _, rfl, by omega, Nat.le_refl _, Lib.hid (by simp), hJ0, hE1, _, _, hO1⟩
  case round =>
    obtain ⟨at_, fuel, pre, hat, rfl, hfu, hpl, HS, hJs, hE, vo, go, hO⟩ := hrel
    have hcb : wr.cell? ⟨Bb, 0, none⟩ = some (.slice A b.length c) := (hE.cell (p := ⟨Bb, 0, none⟩) hbN hbO).trans hbb
    have hcw : wr.cell? ⟨Bw, 0, none⟩ = some (.pointer (some ⟨O, 2, none⟩)) := (hE.cell (p := ⟨Bw, 0, none⟩) hwN hwO).trans hbw
    have hNr : N ≤ wr.heap.size := Nat.le_trans hN hE.size
    by_cases hlt : at_ < b.length
    · have hbne : b ≠ [] := by intro h; rw [h] at hlt; simp at hlt
      obtain ⟨bb, off, rfl, _, _⟩ := hy.2 hbne
      have hyO' := hyO bb off hbne rfl
      have hyr : Bys wr wr.heap.size (some ⟨bb, off, none⟩) b := by
        refine ⟨hy.1, fun hne => ?_⟩
        obtain ⟨b', o', e, hbl, hcell⟩ := hy.2 hne
        cases e
        exact ⟨bb, off, rfl, Nat.lt_of_lt_of_le hbl hNr, fun k y hk => (hE.cell (p := ⟨bb, off + k, none⟩) hbl hyO').trans (hcell k y hk)⟩
      have hyd := hyr.drop at_
      have hdl : (b.drop at_).length = b.length - at_ := List.length_drop
      have hQ := Read_any (some ⟨bb, off + at_, none⟩) (b.drop at_) (c - at_) wr hyd (by omega) (by omega)
      rw [hdl] at hQ
      obtain ⟨R, hR⟩ : ∃ R, readF (b.drop at_) = R := ⟨_, rfl⟩
      rw [hR] at hQ
      have HQ := Lib.hid hQ
      have HR := Lib.hid hR
      have hdne : b.drop at_ ≠ [] := by intro h; rw [h] at hdl; simp at hdl; omega
      have HNE := Lib.hid hdne
      have HDL := Lib.hid hdl
      obtain ⟨x, nn, f⟩ := R
      have HE : Hid (entV x = .agg #[.int .i64 x.epoch, .int .i64 x.id, .int .i64 x.num, .int .i64 x.seq, .int .i64 x.kind, .int .i64 x.value]) := rfl
      have hca : at_ ≤ c := by omega
      have hcne : ¬ (c = at_) := by omega
      have HEX := Lib.hid hE
      have hH2 : 1 ≤ n - 1 := by omega
      clear hQ hR hyd hyr hdl hdne hE
      gi_wp2
      refine ⟨trivial, fun h => (by cases h), ?_⟩
      refine (callsIn_wide.2 HQ.out).mono ?_
      rintro e w2 ⟨hx, hb2⟩
      simp only [HE.out] at hx
      subst hx
      obtain ⟨W3, hW3⟩ : ∃ W3, w2.alloc (.cells (entC x) 24) = W3 := ⟨_, rfl⟩
      have hb3 : Below wr.heap.size wr W3 := by rw [← hW3]; exact hb2.alloc hb2.size _
      have hk3 : Blk W3 w2.heap.size 24 (entC x) := by rw [← hW3]; exact Blk.new _ _ _
      have HW3 : Hid (w2.alloc (.cells #[.int .i64 x.epoch, .int .i64 x.id, .int .i64 x.num, .int .i64 x.seq, .int .i64 x.kind, .int .i64 x.value] 24) = W3) := hW3
      have hE3 : Ex O N w W3 := HEX.out.trans ((Ex.of_below hb3).mono hNr)
      have hO3 : Blk W3 O 52 (outC vo go 0) := hO.below hb3 hO.lt
      have hJ3 : J pre W3 := hJ _ _ _ hJs (StepO.of_below hb3)
      have hcw3 : W3.cell? ⟨Bw, 0, none⟩ = some (.pointer (some ⟨O, 2, none⟩)) := (hE3.cell (p := ⟨Bw, 0, none⟩) hwN hwO).trans hbw
      obtain ⟨⟨a0, a1, a2⟩, a3, a4, a5⟩ := ebox hk3
      have hf3 := hO3.frozen 2
      have hc3 := hO3.cell 2
      clear hW3 hb2 HQ hcb hcw
      by_cases hf : f = 0
      · subst hf
        have hd : ((0 : Int) != 0) = false := rfl
        obtain ⟨m, hm1, hm6, hml⟩ := readF_ok (b := b.drop at_) (by rw [HR.out])
        rw [HR.out] at hm1
        have hm1' : nn = (m : Int) := hm1
        subst hm1'
        rw [HDL.out] at hml
        obtain ⟨fn, tmps, assign, body, hyy, hRR⟩ := hY pre (at_ + m, x) W3 hJ3 trivial (by omega)
        have HRR := Lib.hid hRR
        obtain ⟨fu, hfu2⟩ : ∃ fu, fuel = fu + 1 := ⟨fuel - 1, by omega⟩
        subst hfu2
        have HS2 : Hid (scanL b.length 0 b = ((pre ++ [(at_ + m, x)]) ++ (scanL fu (at_ + m) (b.drop (at_ + m))).1, (scanL fu (at_ + m) (b.drop (at_ + m))).2)) := by
          show _ = _
          rw [HS.out, scanL_yes HNE.out (by rw [HR.out]) (by rw [HR.out]), HR.out, List.drop_drop]
          simp
        have hy2 : (Instr.yield y #[.int .i64 ((at_ : Int) + (m : Int)), .agg #[.int .i64 x.epoch, .int .i64 x.id, .int .i64 x.num, .int .i64 x.seq, .int .i64 x.kind, .int .i64 x.value]]).run Try.prog W3 = .ok (.round y fn tmps assign body) W3 := by
          have := hyy
          dsimp only [encF] at this
          rwa [Int.natCast_add, HE.out] at this
        have hwr : IntKind.i64.wrap ((at_ : Int) + (m : Int)) = (at_ : Int) + (m : Int) := IntWalk.i64_in _ (by omega)
        have hsz3 : wr.heap.size ≤ W3.heap.size := hb3.size
        clear hRR HS HR HNE HDL hm1 hyy
        have e3 := HW3.out
        clear HW3
        subst e3
        gi_wp2
        refine ⟨fun h => (by cases h), ?_⟩
        refine HRR.out.mono ?_
        rintro e W4 ⟨rfl, hJ4, hE4, hO4⟩
        obtain ⟨v4, g4, hO4⟩ := hO4 _ _ _ hO3
        gi_wp2
        go_roundw
        case rel => exact ⟨at_ + m, fu, pre ++ [(at_ + m, x)], by omega, by go_num, by omega, by rw [List.length_append, List.length_singleton]; omega, HS2, hJ4, hE3.trans hE4, v4, g4, hO4⟩
        case measure => simp [intOf]; omega
      · have hd : (f != 0) = true := bne_iff_ne.2 hf
        have e3 := HW3.out
        clear HW3
        subst e3
        gi_wp2
        refine bodyPost_ret (results_none rfl _ _ _) rfl ?_
        refine ⟨⟨_, rfl⟩, pre, ⟨?_, vo, go, ?_⟩, hJ _ _ _ hJ3 (StepO.set_ f)⟩
        · rw [HS.out, scanL_no HNE.out (by rw [HDL.out]; omega) (by rw [HR.out]; exact hf)]
          simp
        · rw [HS.out, scanL_no HNE.out (by rw [HDL.out]; omega) (by rw [HR.out]; exact hf), HR.out]
          exact hO3.set_ 2 _
    · obtain rfl : at_ = b.length := by omega
      gi_wp2
      go_end0
      refine ⟨⟨_, rfl⟩, pre, ⟨?_, vo, go, ?_⟩, hJs⟩
      · rw [HS.out, List.drop_length, scanL_nil]; simp
      · rw [HS.out, List.drop_length, scanL_nil]; exact hO
end Go.Proofs.Ytdoidfnfhidgdaa
