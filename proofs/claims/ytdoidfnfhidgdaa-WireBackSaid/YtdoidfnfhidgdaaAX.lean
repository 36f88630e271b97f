import Derived.Test.YtdoidfnfhidgdaaAW
import Derived.Test.YtdoidfnfhidgdaaAM
namespace Go.Proofs.Ytdoidfnfhidgdaa
open Go.RowKit Go.Shelf
attribute [local go_sem] Oper.semAt_some

theorem wpListIn_append_run_g {F : Fence} {n : Nat} {P : Program} (w : World) {ops : Array Oper} {rest : List Oper} {o : Oper} {a : Act} {Q : Exit → Act → World → Prop} (hgd : Region.wanted o (yielded ops a.tmps) = true) (s x : Operand) (t tn : TypeId)
    (ho : o.op = .call { callee := .builtin .append, args := #[s, x], argTypes := #[t, tn] }) (vs vx : Value) (hs : a.eval s = vs) (hx : a.eval x = vx)
    (v' : Value) (w' : World) (hr : (Builtin.append_ #[t, tn] o.type #[vs, vx]).run P w = .ok v' w') (h : wpListIn F n P ops Q rest (a.put o.dst v') w') : wpListIn F n P ops Q (o :: rest) a w := by
  refine wpListIn_step fun K hK => ?_
  rw [if_pos hgd]
  unfold Oper.wpIn
  refine ⟨by simp [Oper.about, ho, resolve, Target.leads, Sem.run_pure], ?_⟩
  rw [Oper.semAt_plain F _ _ (by rw [ho]; intro c hc; cases hc)]
  simp [execOp, ho, resolve, invoke, builtin, hs, hx, hr, Result.andThen]
  exact hK _ _ h

theorem below_putObj {n₀ l : Nat} {W : World} (o' : Obj) (hl : n₀ ≤ l) : Below n₀ W (W.putObj l o') := ⟨rfl, rfl, rfl, by simp, fun k hk => World.putObj_heap_other (by omega)⟩
theorem Blk.putObj {W : World} {g l : Nat} {t : TypeId} {cs : Array Value} (h : Blk W g t cs) (o' : Obj) (hne : g ≠ l) : Blk (W.putObj l o') g t cs := (World.putObj_heap_other hne).trans h
theorem Blk.ownRow {X Y : World} {g B : Nat} {t : TypeId} {cs : Array Value} {row : Option Nat} (h : Blk X g t cs) (hg : X.grownBy Y row) (hr : ∀ r, row = some r → B ≤ r ∧ ∃ o : Obj, X.heap[r]? = some o ∧ o.isCells = false) : Blk Y g t cs := by
  refine (hg.block g h.lt ?_).trans h
  intro e
  obtain ⟨_, o, ho, hc⟩ := hr g e.symm
  rw [show X.heap[g]? = _ from h] at ho
  cases ho
  cases hc
theorem OwnE.row {X Y : World} {base : Nat} {v : Value} {l : List Ent} {row : Option Nat} (h : OwnE X base v l) (hg : X.grownBy Y row) (hr : ∀ g, v.ownBlock = some g → row ≠ some g) : OwnE Y base v l := by
  refine World.ownsRow.kept h hg ?_
  cases hv : v.ownBlock with
  | none => simp
  | some g => simpa using fun e => hr g hv e.symm
theorem OwnE.mono {X : World} {base base' : Nat} {v : Value} {l : List Ent} (h : OwnE X base v l) (hb : base' ≤ base) : OwnE X base' v l := by
  refine ⟨h.1, ?_⟩
  rcases h.2 with h0 | ⟨g, cap, cur, e, hg, r⟩
  · exact .inl h0
  · exact .inr ⟨g, cap, cur, e, by omega, r⟩
/-- the block of a row of entries holds cells of entries -/
theorem OwnE.block {X : World} {base g : Nat} {v : Value} {l : List Ent} (h : OwnE X base v l) (hg : v.ownBlock = some g) : base ≤ g ∧ g < X.heap.size ∧ ∃ cur, X.heap[g]? = some (.cells cur 24 (0, 0)) := by
  rcases h.2 with ⟨rfl, _⟩ | ⟨g2, cap, cur, rfl, hb, h2, _⟩
  · simp [Value.ownBlock] at hg
  · obtain rfl : g2 = g := by simpa [Value.ownBlock] using hg
    exact ⟨hb, (Array.getElem?_eq_some_iff.1 h2).1, cur, h2⟩
theorem Ex.grownBy {O : Nat} {A B : World} (h : Ex O A.heap.size A B) : A.grownBy B (some O) := ⟨h.os, h.tape, h.output, h.size, fun k hk hn => h.block k hk (fun e => hn (by rw [e]))⟩

theorem out_info : (Try.prog.info? 52).map (fun i => (i.zero, i.size)) = some (some (.agg #[.slice none 0 0, .int .i64 0, .int .i64 0]), 3) := by kernel_rfl
theorem out_size : (Try.prog.info? 52).map (·.size) = some 3 := by kernel_rfl

/-- the place behind the last entry -/
def goodL (l : List (Nat × Ent)) : Int := match l.getLast? with | some p => (p.1 : Int) | none => 0
theorem goodL_snoc (l : List (Nat × Ent)) (p : Nat × Ent) : goodL (l ++ [p]) = (p.1 : Int) := by simp [goodL]

set_option maxRecDepth 100000 in
theorem frames_any (A : Option Addr) (m c : Nat) (p : Option Addr) (w : World) : Calls Try.prog 53 #[.slice A m c, .pointer p] w fun e w' =>
    e = .returned (.func (.func 80) #[] #[.pointer (some ⟨w.heap.size + 1, 0, none⟩), .pointer (some ⟨w.heap.size, 0, none⟩)]) ∧ w' = (w.alloc (.cells #[.slice A m c] 25)).alloc (.cells #[.pointer p] 74) := by
  have hmf := mk_func
  go_enter Try.func53, Try.ntmps53
  go_wp2_with fail
  go_ret
  exact ⟨rfl, rfl⟩

theorem ret_cell52 {fn : Func} {p : Tmp} (h : fn.results = #[.cell p 52]) (tmps : Array Value) (w : World) (X : Nat) (v : Value) (g f : Int) (hx : Blk w X 52 (outC v g f)) (hp : tmps.getD p undef = .pointer (some ⟨X, 0, none⟩)) :
    (results fn tmps).run Try.prog w = .ok (.agg (outC v g f)) w := by
  have a0 : w.cell? ⟨X, 0, none⟩ = some v := hx.cell 0
  have a1 : w.cell? ⟨X, 1, none⟩ = some (.int .i64 g) := hx.cell 1
  have a2 : w.cell? ⟨X, 2, none⟩ = some (.int .i64 f) := hx.cell 2
  simp at hp
  simp [results, h, go_sem, hp, a0, a1, a2]

/-- between two rounds -/
def AllAt (O N : Nat) (w : World) (pre : List (Nat × Ent)) (W : World) : Prop :=
  (∃ v f, Blk W O 52 (outC v (goodL pre) f) ∧ OwnE W N v (pre.map (·.2))) ∧ Below O w W

theorem All_own {O N B : Nat} {w : World} (hw : w.heap.size = O) (hB : O ≤ B) : OwnFrom B (AllAt O N w) := by
  rintro s X Y row ⟨⟨v, f, hO, hE⟩, hb⟩ hg hr
  refine ⟨⟨v, f, hO.ownRow hg hr, hE.row hg fun g hv e => ?_⟩, hb.grown hg (hw ▸ hb.size) fun r e => Nat.le_trans hB (hr r e).1⟩
  obtain ⟨_, _, cur, hc⟩ := hE.block hv
  obtain ⟨_, o, ho, hn⟩ := hr g e
  rw [hc] at ho
  cases ho
  cases hn
theorem All_step {O N : Nat} {w : World} (hw : w.heap.size = O) (s : List (Nat × Ent)) (A B : World) (h : AllAt O N w s A) (hs : StepO O A B) : AllAt O N w s B := by
  obtain ⟨⟨v, f, hO, hE⟩, hb⟩ := h
  obtain ⟨f', hO'⟩ := hs.2 _ _ _ hO
  refine ⟨⟨v, f', hO', hE.row hs.1.grownBy fun g hv e => ?_⟩, hb.grown hs.1.grownBy (hw ▸ hb.size) fun r e => by cases e; exact Nat.le_refl _⟩
  obtain ⟨_, _, cur, hc⟩ := hE.block hv
  injection e with e
  subst e
  rw [show A.heap[O]? = _ from hO] at hc
  cases hc

set_option maxRecDepth 100000 in
set_option maxHeartbeats 4000000 in
theorem All_any (A : Option Addr) (b : List Nat) (c : Nat) (w : World) (hb : Bys w w.heap.size A b) (hc : b.length ≤ c) (hm : b.length ≤ 1099511627000) :
    Calls Try.prog 30 #[.slice A b.length c] w fun x w' => ∃ v, x = .returned (.agg #[v, .int .i64 (goodL (scanL b.length 0 b).1), .int .i64 (scanL b.length 0 b).2]) ∧ OwnE w' w.heap.size v ((scanL b.length 0 b).1.map (·.2)) ∧ Below w.heap.size w w' := by
  refine (callsIn_wide (n := 5)).1 ?_
  refine callsIn_of_wp_marks Try.func30 rfl trivial ?_
  simp only [Try.ntmps30, List.size_toArray, List.length_cons, List.length_nil, Nat.reduceAdd, Nat.reduceSub, Array.replicate_succ, Array.replicate_zero, List.push_toArray, List.append_toArray, List.nil_append, List.cons_append]
  refine wpIn_wide.2 ?_
  go_wp2_with fail
  refine (frames_any _ _ _ _ _).mono ?_
  rintro e w1 ⟨rfl, hw1⟩
  obtain ⟨O, hO⟩ : ∃ O, w.heap.size = O := ⟨_, rfl⟩
  have hz : (w.alloc (.cells #[.slice none 0 0, .int .i64 0, .int .i64 0] 52)).heap.size = O + 1 := by simp [hO]
  rw [hO] at hb hw1 ⊢
  simp only [hz]
  have k0 : Blk (w.alloc (.cells #[.slice none 0 0, .int .i64 0, .int .i64 0] 52)) O 52 (outC (.slice none 0 0) 0 0) := by rw [← hO]; exact Blk.new _ _ _
  have k1 := Blk.new (w.alloc (.cells #[.slice none 0 0, .int .i64 0, .int .i64 0] 52)) 25 #[.slice A b.length c]
  have k2 := Blk.new ((w.alloc (.cells #[.slice none 0 0, .int .i64 0, .int .i64 0] 52)).alloc (.cells #[.slice A b.length c] 25)) 74 #[.pointer (some ⟨O, 2, none⟩)]
  rw [World.size_alloc, hz] at k2
  rw [hz] at k1
  have hO1 : Blk w1 O 52 (outC (.slice none 0 0) 0 0) := by rw [hw1]; exact (k0.alloc _).alloc _
  have hb1 : Blk w1 (O + 1) 25 #[.slice A b.length c] := by rw [hw1]; exact k1.alloc _
  have hp1 : Blk w1 (O + 1 + 1) 74 #[.pointer (some ⟨O, 2, none⟩)] := by rw [hw1]; exact k2
  have hs1 : w1.heap.size = O + 3 := by rw [hw1]; simp [hO]
  have hB1 : Below O w w1 := by rw [hw1]; exact (((Below.refl _ w).alloc (by omega) _).alloc (by simp; omega) _).alloc (by simp; omega) _
  clear hw1 k0 k1 k2 hz
  go_wp2_with fail
  have HB1 := Lib.hid hB1
  have HS1 := Lib.hid hs1
  have HO := Lib.hid hO
  refine (wpIn_wide (n := 5)).1 ?_
  refine wpIn_range_seqT rfl (by omega) (gf := 80) (lb := #[.pointer (some ⟨O + 1 + 1, 0, none⟩), .pointer (some ⟨O + 1, 0, none⟩)]) rfl trivial (enters_of Try.func80 (by kernel_rfl) rfl)
    (frames1_seq 4 (by omega) O (O + 3) (O + 1 + 1) (O + 1) A b c hm hc w1 (by omega) (hp1.cell 0) (hb1.cell 0) (by omega) (by omega) (by omega) (by omega)
      ((hb.below HB1.out (Nat.le_refl _)).mono (by omega)) (fun bb off hne hA => by obtain ⟨b', o', e, hlt, _⟩ := hb.2 hne; rw [hA] at e; cases e; omega) ⟨_, _, _, hO1⟩)
    (fun X Y k o hs hk ho hn => (hs.1.block k (Array.getElem?_eq_some_iff.1 ho).1 (by have := HS1.out; omega)).trans ho) (fun h k => ⟨h.1.trans k.1, fun v g f hx => by obtain ⟨v', g', hx'⟩ := h.2 v g f hx; exact k.2 _ _ _ hx'⟩)
    (fun W l o o' hl _ _ => ⟨Ex.of_below (below_putObj o' (by have := HS1.out; omega)), fun v g f hx => ⟨v, g, hx.putObj o' (by have := HS1.out; omega)⟩⟩) (fun _ => rfl)
    (AllAt O (O + 3) w) (All_own HO.out (by have := HS1.out; omega)) (fun s X Y => All_step HO.out s X Y) ⟨⟨_, 0, hO1, OwnE.nil _ _⟩, HB1.out⟩ ?round ?done
  case round =>
    intro l pre x W hlW hlo hI _ hlen
    obtain ⟨⟨v, f, hOW, hEW⟩, hBW⟩ := hI
    obtain ⟨at_, e⟩ := x
    obtain ⟨E, hE⟩ : ∃ E, entV e = E := ⟨_, rfl⟩
    have hE' : E = .agg #[.int .i64 e.epoch, .int .i64 e.id, .int .i64 e.num, .int .i64 e.seq, .int .i64 e.kind, .int .i64 e.value] := hE.symm
    dsimp only [encF]
    rw [hE, hE']
    clear hE hE'
    gi_wp2
    obtain ⟨o0, ho0, hoc⟩ := hlo
    have hlt0 : l < W.heap.size := (Array.getElem?_eq_some_iff.1 ho0).1
    have hs1 := HS1.out
    refine ⟨(KeepsOthers.alloc _ _).from _, ⟨Ex.of_below ((Below.refl _ W).alloc (by omega) _), fun v g f hx => ⟨v, g, hx.alloc _⟩⟩, fun o => ?_⟩
    obtain ⟨W1, hW1⟩ : ∃ W1, W.alloc (.cells (entC e) 24) = W1 := ⟨_, rfl⟩
    have hW1' : W.alloc (.cells #[.int .i64 e.epoch, .int .i64 e.id, .int .i64 e.num, .int .i64 e.seq, .int .i64 e.kind, .int .i64 e.value] 24) = W1 := hW1
    have hx1 : Blk W1 W.heap.size 24 (entC e) := by rw [← hW1]; exact Blk.new _ _ _
    have hO1' : Blk W1 O 52 (outC v (goodL pre) f) := by rw [← hW1]; exact hOW.alloc _
    have hE1 : OwnE W1 (O + 3) v (pre.map (·.2)) := by rw [← hW1]; exact hEW.alloc _
    have hBW1 : Below O w W1 := by rw [← hW1]; exact hBW.alloc (by omega) _
    have hz1 : W1.heap.size = W.heap.size + 1 := by rw [← hW1]; simp
    rw [hW1']
    obtain ⟨W2, hW2⟩ : ∃ W2, W1.putObj l o = W2 := ⟨_, rfl⟩
    have hx2 : Blk W2 W.heap.size 24 (entC e) := by rw [← hW2]; exact hx1.putObj o (by omega)
    have hO2 : Blk W2 O 52 (outC v (goodL pre) f) := by rw [← hW2]; exact hO1'.putObj o (by omega)
    have hE2 : OwnE W2 (O + 3) v (pre.map (·.2)) := by
      rw [← hW2]
      refine hE1.row (row := some l) (grownBy_putObj' _ _ _) fun g hv e => ?_
      injection e with e
      subst e
      obtain ⟨_, _, cur, hcur⟩ := hEW.block hv
      rw [hcur] at ho0
      cases ho0
      cases hoc
    have hBW2 : Below O w W2 := by rw [← hW2]; exact hBW1.trans (below_putObj o (by omega))
    have hz2 : W2.heap.size = W.heap.size + 1 := by rw [← hW2]; simp [hz1]
    rw [hW2]
    clear hW1 hW1' hx1 hO1' hE1 hBW1 hz1 hW2
    obtain ⟨⟨a0, a1, a2⟩, a3, a4, a5⟩ := ebox hx2
    have q0 := hO2.cell 0
    have hen := ents_new W2 e
    obtain ⟨v', w4, hrun, hown, hgr⟩ := run_append_ents (W2.alloc (.cells (entC e) 24)) (O + 3) _ v (pre.map (·.2)) [e] (hE2.alloc _) (some ⟨W2.heap.size, 0, none⟩) 1 hen (by rw [List.length_map, List.length_singleton]; omega) (by simp; omega)
    have hrow : ∀ g, v.ownBlock = some g → O + 3 ≤ g ∧ ∃ cur, (W2.alloc (.cells (entC e) 24)).heap[g]? = some (.cells cur 24 (0, 0)) := fun g hg => by
      obtain ⟨h1, _, h2⟩ := (hE2.alloc (.cells (entC e) 24)).block hg
      exact ⟨h1, h2⟩
    have hO4 : Blk w4 O 52 (outC v (goodL pre) f) := by
      refine (hgr.block O (hO2.alloc _).lt fun e => ?_).trans (hO2.alloc _)
      obtain ⟨_, cur, hcur⟩ := hrow O e.symm
      rw [show (W2.alloc (.cells (entC _) 24)).heap[O]? = _ from hO2.alloc _] at hcur
      cases hcur
    obtain ⟨A5, c5, hv5, _, _⟩ := hown.form
    obtain ⟨L5, hL5⟩ : ∃ L, (pre.map (·.2) ++ [e]).length = L := ⟨_, rfl⟩
    rw [hL5] at hv5
    subst hv5
    have hf0 := hO4.frozen 0
    have q4 : w4.cell? ⟨O, 0, none⟩ = some v := hO4.cell 0
    have hO5 : Blk (w4.setCell ⟨O, 0, none⟩ (.slice A5 L5 c5)) O 52 (outC (.slice A5 L5 c5) (goodL pre) f) := hO4.set_ 0 _
    have hf5 := hO5.frozen 1
    have q5 : (w4.setCell ⟨O, 0, none⟩ (.slice A5 L5 c5)).cell? ⟨O, 1, none⟩ = some (.int .i64 (goodL pre)) := hO5.cell 1
    have hO6 : Blk ((w4.setCell ⟨O, 0, none⟩ (.slice A5 L5 c5)).setCell ⟨O, 1, none⟩ (.int .i64 (at_ : Nat))) O 52 (outC (.slice A5 L5 c5) (at_ : Nat) f) := hO5.set_ 1 _
    have HR := Lib.hid hrun
    have HZ2 := Lib.hid hz2
    clear hrun hen hz2
    gi_wp2_with (gi_at_builtin; refine wpListIn_append_run_g _ rfl _ _ _ _ rfl _ _ rfl rfl _ _ HR.out ?_)
    have hz2 := HZ2.out
    have hg4 : W2.grownBy w4 v.ownBlock := (World.grownBy_alloc W2 (.cells (entC e) 24) v.ownBlock).trans hgr
    have hz6 : ((w4.setCell ⟨O, 0, none⟩ (.slice A5 L5 c5)).setCell ⟨O, 1, none⟩ (.int .i64 (at_ : Nat))).heap.size = w4.heap.size := by simp [World.setCell]
    have h6 : ∀ k, k ≠ O → ((w4.setCell ⟨O, 0, none⟩ (.slice A5 L5 c5)).setCell ⟨O, 1, none⟩ (.int .i64 (at_ : Nat))).heap[k]? = w4.heap[k]? := fun k hk =>
      (Below.heap_setCell (w4.setCell ⟨O, 0, none⟩ (.slice A5 L5 c5)) ⟨O, 1, none⟩ _ k hk).trans (Below.heap_setCell w4 ⟨O, 0, none⟩ _ k hk)
    obtain ⟨W6, hW6⟩ : ∃ W6, (w4.setCell ⟨O, 0, none⟩ (.slice A5 L5 c5)).setCell ⟨O, 1, none⟩ (.int .i64 (at_ : Nat)) = W6 := ⟨_, rfl⟩
    rw [hW6] at hO6 hz6 h6 ⊢
    have hB6 : Below O w W6 := by
      rw [← hW6]
      exact ((hBW2.grown hg4 (by omega) (fun g hg => by have := (hrow g hg).1; omega)).setCell (p := ⟨O, 0, none⟩) (Nat.le_refl _) _).setCell (p := ⟨O, 1, none⟩) (Nat.le_refl _) _
    have hE6 : OwnE W6 (O + 3) (.slice A5 L5 c5) (pre.map (·.2) ++ [e]) := by
      rw [← hW6]
      have hne : ∀ g, (Value.slice A5 L5 c5).ownBlock = some g → (some O : Option Nat) ≠ some g := fun g hg e => by
        injection e with e
        have := (hown.block hg).1
        omega
      have h5 : OwnE (w4.setCell ⟨O, 0, none⟩ (.slice A5 L5 c5)) (O + 3) (.slice A5 L5 c5) (pre.map (·.2) ++ [e]) := hown.row (row := some O) (Ex.grownBy (Ex.setO _ _ _ _ _)) hne
      exact h5.row (row := some O) (Ex.grownBy (Ex.setO _ _ _ _ _)) hne
    have hW2l : O + 3 ≤ W2.heap.size := by omega
    clear hW6 hO5 hf5 q5 hf0 q4 a0 a1 a2 a3 a4 a5 q0 hx2
    refine ⟨⟨by rw [hz6]; exact hg4.size, fun k o hk ho hn => ?_⟩, ⟨⟨hB6.os.trans hBW2.os.symm, hB6.tape.trans hBW2.tape.symm, hB6.output.trans hBW2.output.symm, by rw [hz6]; exact hg4.size, fun k hk hO => ?_⟩, fun v2 g2 f2 hx => ?_⟩, ⟨⟨.slice A5 L5 c5, f, ?_, ?_⟩, hB6⟩⟩
    · rw [h6 k (by omega)]
      refine (hg4.block k (Array.getElem?_eq_some_iff.1 ho).1 fun e => ?_).trans ho
      obtain ⟨_, cur, hcur⟩ := hrow k e.symm
      rw [heap_alloc_old W2 _ k (Array.getElem?_eq_some_iff.1 ho).1, ho] at hcur
      cases hcur
      cases hn
    · rw [h6 k hO]
      exact hg4.block k (by omega) fun e => by have := (hrow k e.symm).1; omega
    · have e := (show W2.heap[O]? = _ from hx).symm.trans hO2
      simp only [Option.some.injEq, Obj.cells.injEq, Array.mk.injEq, List.cons.injEq, Value.int.injEq] at e
      obtain ⟨⟨_, _, ⟨_, rfl⟩, _⟩, _⟩ := e
      exact ⟨_, _, hO6⟩
    · rw [goodL_snoc]
      exact hO6
    · rw [List.map_append]
      exact hE6
  case done =>
    intro D ys Wa Wb l o o' hD hl _ _ hWb hS _ hI' hKD
    obtain ⟨hys, v, g, hOv⟩ := hS
    obtain ⟨⟨v', f, hOb, hEb⟩, hBb⟩ := hI'
    have hOv' : Blk Wb O 52 (outC v g (scanL b.length 0 b).2) := by rw [hWb]; exact hOv.putObj _ (by have := HS1.out; omega)
    have e := (show Wb.heap[O]? = _ from hOb).symm.trans hOv'
    simp only [Option.some.injEq, Obj.cells.injEq, Array.mk.injEq, List.cons.injEq, Value.int.injEq] at e
    obtain ⟨⟨_, _, ⟨_, rfl⟩, _⟩, _⟩ := e
    subst hys
    clear hWb hOv hOv'
    obtain ⟨A', c', hv', _, _⟩ := hEb.form
    obtain ⟨n', hn'⟩ : ∃ n, ((scanL b.length 0 b).1.map (·.2)).length = n := ⟨_, rfl⟩
    rw [hn'] at hv'
    subst hv'
    have HEB := Lib.hid hEb
    clear hEb hn'
    obtain ⟨G, hG⟩ : ∃ G, goodL (scanL b.length 0 b).1 = G := ⟨_, rfl⟩
    obtain ⟨Y, hY⟩ : ∃ Y, (scanL b.length 0 b).2 = Y := ⟨_, rfl⟩
    rw [hG, hY] at hOb
    have HOB := Lib.hid hOb
    have HG := Lib.hid hG
    have HY := Lib.hid hY
    clear hOb hG hY
    go_wp2_with (first | (refine wpList_load_row rfl 52 _ rfl O rfl 52 (outC (.slice A' n' c') G Y) (0, 0) _ HOB.out Try.underlying52 rfl out_size ?_) | (refine wpList_store_row rfl 52 _ _ rfl O (outC (.slice A' n' c') G Y) rfl rfl 52 (outC (.slice A' n' c') G Y) HOB.out out_size rfl (by kernel_rfl) ?_))
    have hOb2 : Blk (Wb.setRow O (outC (.slice A' n' c') G Y)) O 52 (outC (.slice A' n' c') G Y) := setRow_same HOB.out
    have hs1' := HS1.out
    have hK2 : (Wb.setRow O (outC (.slice A' n' c') G Y)).heap[D]? = some (.deferred (some [])) := (setRow_far Wb O D _ (by omega)).trans hKD
    refine ⟨by simp, .inl ⟨_, _, rfl, run_takeDeferred hK2, ?_⟩⟩
    refine ⟨_, ret_cell52 rfl _ _ O (.slice A' n' c') G Y (hOb2.putObj _ (by omega)) rfl, .slice A' n' c', by rw [← HG.out, ← HY.out], ?_, ?_⟩
    · rw [hO]
      have h1 : OwnE (Wb.setRow O (outC (.slice A' n' c') G Y)) (O + 3) (.slice A' n' c') ((scanL b.length 0 b).1.map (·.2)) := HEB.out.row (row := some O) ⟨rfl, rfl, rfl, by rw [setRow_size]; exact Nat.le_refl _, fun k _ hk => setRow_far Wb O k _ (fun e => hk (by rw [e]))⟩ fun g hg e => by
        injection e with e
        have := (HEB.out.block hg).1
        omega
      have h2 := h1.row (row := some D) (grownBy_putObj' _ D (.deferred none)) fun g hg e => by
        injection e with e
        subst e
        obtain ⟨_, _, cur, hcur⟩ := h1.block hg
        rw [hK2] at hcur
        cases hcur
      exact h2.mono (by omega)
    · rw [hO]
      exact (below_setRow hBb (Nat.le_refl _) _).trans (below_putObj _ (by omega))
end Go.Proofs.Ytdoidfnfhidgdaa
