import Derived.Test.YtapfdbgplfonaaaRG
import Derived.Test.YtapfdbgplfonaaaP
import Derived.Test.YtapfdbgplfonaaaG
namespace Go.Proofs.Ytapfdbgplfonaaa
open Go.RowKit Go.Shelf
attribute [local go_sem] Oper.semAt_some

theorem wpListIn_append_run_g {F : Fence} {n : Nat} {P : Program} (w : World) {ops : Array Oper} {rest : List Oper} {o : Oper} {a : Act} {Q : Exit → Act → World → Prop} (hgd : Region.wanted o (yielded ops a.tmps) = true) (s x : Operand) (t tn : TypeId)
    (ho : o.op = .call { callee := .builtin .append, args := #[s, x], argTypes := #[t, tn] }) (vs vx : Value) (hs : a.eval s = vs) (hx : a.eval x = vx)
    (v' : Value) (w' : World) (hr : (Builtin.append_ #[t, tn] o.type #[vs, vx]).run P w = .ok v' w') (h : wpListIn F n P ops Q rest (a.put o.dst v') w') : wpListIn F n P ops Q (o :: rest) a w := by
  refine wpListIn_step fun K hK => ?_
  rw [if_pos hgd]
  unfold Oper.wpIn
  refine ⟨by simp [Oper.about, ho, resolve, Target.leads, Sem.run_pure], ?_⟩
  rw [Oper.semAt_plain F _ _ (by rw [ho]; intro c hc; cases hc)]
  simp [execOp, ho, resolve, invoke, builtin, hs, hx, hr, Result.andThen]
  exact hK _ _ h

abbrev encP (p : Part) : Array Value := #[.slice p.A p.bs.length p.c]
/-- what the parts lie in -/
structure Lies (w : World) (n₀ L : Nat) (A0 : Option Addr) (c0 : Nat) (ps : List Part) : Prop where
  box : w.cell? ⟨L, 0, none⟩ = some (.slice A0 ps.length c0)
  lt : L < n₀
  at_ : ∀ k p, ps[k]? = some p → ∃ g off, A0 = some ⟨g, off, none⟩ ∧ g < n₀ ∧ w.cell? ⟨g, off + k, none⟩ = some (.slice p.A p.bs.length p.c) ∧ Bys w n₀ p.A p.bs
theorem Lies.below {w w' : World} {n₀ L : Nat} {A0 : Option Addr} {c0 : Nat} {ps : List Part} (h : Lies w n₀ L A0 c0 ps) (hb : Below n₀ w w') : Lies w' n₀ L A0 c0 ps :=
  ⟨(hb.cell (p := ⟨L, 0, none⟩) h.lt).trans h.box, h.lt, fun k p hk => by
    obtain ⟨g, off, hA, hg, hc, hy⟩ := h.at_ k p hk
    exact ⟨g, off, hA, hg, (hb.cell (p := ⟨g, off + k, none⟩) hg).trans hc, hy.below hb (Nat.le_refl _)⟩⟩

set_option maxRecDepth 100000 in
set_option maxHeartbeats 2000000 in
theorem parts1_seq (F : Fence) (n : Nat) (h22 : F.fn 22) (hro : F.round = none) (hn : 1 ≤ n) (L n₀ : Nat) (A0 : Option Addr) (c0 : Nat) (ps : List Part) (hm : ps.length ≤ 50) (hp : ∀ p ∈ ps, p.bs.length ≤ 500) (w : World) (hn₀ : n₀ ≤ w.heap.size) (hl : Lies w n₀ L A0 c0 ps) :
    SeqT F n Try.prog 22 #[.pointer (some ⟨L, 0, none⟩)] encP (fun A B => Below A.heap.size A B) (fun p W => Bys W W.heap.size p.A p.bs ∧ p.bs.length ≤ 500) (fun A B => Below n₀ A B)
      (fun ys _ => ys.map Part.bs = ps.map Part.bs) ps.length w := by
  intro y J W hW hJ hY h0
  have hlW := hl.below (hW.mono hn₀)
  have hnW : n₀ ≤ W.heap.size := Nat.le_trans hn₀ hW.size
  refine callsIn_of_wp Try.func22 rfl h22 ?_ hro
  simp only [Try.ntmps22, List.size_toArray, List.length_cons, List.length_nil, Nat.reduceAdd, Nat.reduceSub, Array.replicate_succ, Array.replicate_zero, List.push_toArray, List.append_toArray, List.nil_append, List.cons_append]
  gi_wp2
  gi_loopw [3] (fun i wr => ∃ (k : Nat) (ys : List Part), k ≤ ps.length ∧ i = .int .i64 k ∧ ys.length = k ∧ ys.map Part.bs = (ps.take k).map Part.bs ∧ J ys wr ∧ Below n₀ W wr)
    (fun i _ => ps.length - (intOf i).toNat)
  case atStart => exact ⟨0, [], Nat.zero_le _, rfl, rfl, rfl, h0, Below.refl _ _⟩
  case round =>
    obtain ⟨k, ys, hk, rfl, hyl, hys, hJs, hb⟩ := hrel
    have HS := Lib.hid hys
    clear hys
    have hlr := hlW.below hb
    have hcb := hlr.box
    by_cases hlt : k < ps.length
    · obtain ⟨p, hpk⟩ : ∃ p, ps[k] = p := ⟨_, rfl⟩
      have hpe : ps[k]? = some p := by rw [List.getElem?_eq_getElem hlt, hpk]
      obtain ⟨g, off, rfl, hg, hc, hy⟩ := hlr.at_ k p hpe
      have hpl := hp p (List.mem_of_getElem? hpe)
      have hnr : n₀ ≤ wr.heap.size := Nat.le_trans hnW hb.size
      obtain ⟨v', w2, hrun, hown, hb2⟩ := copy_run wr p.A p.bs p.c (hy.mono hnr) (by omega)
      obtain ⟨A2, c2, rfl, hc2, hy2⟩ := hown.form
      have hba : Below wr.heap.size wr (wr.alloc (.cells #[] 5)) := (Below.refl _ wr).alloc (Nat.le_refl _) _
      have hcb' : (wr.alloc (.cells #[] 5)).cell? ⟨L, 0, none⟩ = some (.slice (some ⟨g, off, none⟩) ps.length c0) := (hba.cell (p := ⟨L, 0, none⟩) (by show L < _; have := hlr.lt; omega)).trans hcb
      have hc' : (wr.alloc (.cells #[] 5)).cell? ⟨g, off + k, none⟩ = some (.slice p.A p.bs.length p.c) := (hba.cell (p := ⟨g, off + k, none⟩) (by show g < _; omega)).trans hc
      obtain ⟨fn, tmps, assign, body, hyy, hR⟩ := hY ys ⟨A2, p.bs, c2⟩ w2 (hJ _ _ _ hJs hb2) ⟨hy2, hpl⟩ (by omega)
      dsimp only [encP] at hyy
      have HR := Lib.hid hrun
      have HRR := Lib.hid hR
      have HB2 := Lib.hid hb2
      have HPK := Lib.hid hpk
      clear hrun hR hb2 hown hpk
      gi_wp2_with (gi_at_builtin; refine wpListIn_append_run_g _ rfl _ _ _ _ rfl _ _ rfl rfl _ _ HR.out ?_)
      refine HRR.out.mono ?_
      rintro e W3 ⟨rfl, hJ3, hk3⟩
      have hb3 : Below n₀ W W3 := (hb.trans (HB2.out.mono hnr)).trans hk3
      gi_wp2
      go_roundw
      case rel => exact ⟨k + 1, ys ++ [⟨A2, p.bs, c2⟩], by omega, by go_num, by rw [List.length_append, hyl]; rfl, by rw [List.map_append, HS.out, List.take_succ_eq_append_getElem hlt, List.map_append, HPK.out]; rfl, hJ3, hb3⟩
      case measure => simp [intOf]; omega
    · obtain rfl : k = ps.length := by omega
      gi_wp2
      refine ⟨fun _ h => (by cases h), ?_⟩
      gi_wp2
      go_end0
      exact ⟨⟨_, rfl⟩, ys, by rw [HS.out, List.take_length], hJs⟩

theorem func_eq_nil (w : World) (f : Fn) (x c : Array Value) : (binOp .eql 55 (.func f x c) .nilFunc).run Try.prog w = .ok (.bool false) w := by kernel_rfl
theorem nil_eq_nil (w : World) : (binOp .eql 55 .nilFunc .nilFunc).run Try.prog w = .ok (.bool true) w := by kernel_rfl

theorem setRow_far (W : World) (g k : Nat) (cs : Array Value) (h : k ≠ g) : (W.setRow g cs).heap[k]? = W.heap[k]? := by simp only [World.setRow, Array.getElem?_modify]; rw [if_neg (Ne.symm h)]
theorem setRow_size (W : World) (g : Nat) (cs : Array Value) : (W.setRow g cs).heap.size = W.heap.size := by simp [World.setRow]

/-- the table and the word, laid -/
def ofW (w1 : World) : World := ((w1.alloc (.cells (tabA 0) 47)).alloc (.cells #[.int .u32 0] 49)).setRow w1.heap.size (tabA 256)
theorem ofW_facts (w1 : World) : Blk (ofW w1) w1.heap.size 47 (tabA 256) ∧ Blk (ofW w1) (w1.heap.size + 1) 49 #[.int .u32 0] ∧ (ofW w1).heap.size = w1.heap.size + 2 ∧ Below w1.heap.size w1 (ofW w1) := by
  have b1 : Blk ((w1.alloc (.cells (tabA 0) 47)).alloc (.cells #[.int .u32 0] 49)) w1.heap.size 47 (tabA 0) := (Blk.new w1 47 (tabA 0)).alloc _
  have b2 := Blk.new (w1.alloc (.cells (tabA 0) 47)) 49 #[.int .u32 0]
  rw [World.size_alloc] at b2
  refine ⟨setRow_same b1, (setRow_far _ _ _ _ (by omega)).trans b2, by unfold ofW; rw [setRow_size]; simp, below_setRow ((((Below.refl _ w1).alloc (Nat.le_refl _) _)).alloc (by simp) _) (Nat.le_refl _) _⟩

set_option maxRecDepth 100000 in
set_option maxHeartbeats 2000000 in
theorem Of_nil (w : World) : Calls Try.prog 21 #[.nilFunc] w fun e w' => e = .returned (.int .u32 0) ∧ Below w.heap.size w w' := by
  obtain ⟨hz, hi⟩ := zero_of_info tab_info
  rw [tabA_zero] at hz
  have hn := nil_eq_nil
  go_enter Try.func21, Try.ntmps21
  go_wp2_with fail
  refine (bits_any _).mono ?_
  rintro e w1 ⟨rfl, hb1⟩
  have HK : Hid (Blk ((w1.alloc (.cells (tabA 0) 47)).alloc (.cells #[.int .u32 0] 49)) w1.heap.size 47 (tabA 0)) := (Blk.new w1 47 (tabA 0)).alloc _
  obtain ⟨k1, k2, k3, k4⟩ := ofW_facts w1
  have hf : (((w1.alloc (.cells (tabA 0) 47)).alloc (.cells #[.int .u32 0] 49)).setRow w1.heap.size (tabA 256)).frozen? ⟨w1.heap.size + 1, 0, none⟩ = false := k2.frozen 0
  have hc : (((w1.alloc (.cells (tabA 0) 47)).alloc (.cells #[.int .u32 0] 49)).setRow w1.heap.size (tabA 256)).cell? ⟨w1.heap.size + 1, 0, none⟩ = some (.int .u32 0) := k2.cell 0
  have HB4 : Hid (Below w.heap.size w ((ofW w1).setCell ⟨w1.heap.size + 1, 0, none⟩ (.int .u32 4294967295))) := (hb1.trans (k4.mono hb1.size)).setCell (p := ⟨w1.heap.size + 1, 0, none⟩) (by have := hb1.size; show w.heap.size ≤ w1.heap.size + 1; omega) _
  clear hb1 k1 k2 k3 k4
  go_wp2_with (refine wpList_store_row rfl 47 _ _ rfl w1.heap.size (tabA 256) rfl rfl 47 (tabA 0) HK.out tab_size rfl (tabA_one 256) ?_)
  refine (sum_any 4294967295 (by omega) _).mono ?_
  rintro e w2 ⟨rfl, rfl⟩
  go_wp2_with fail
  go_ret
  exact ⟨rfl, HB4.out⟩
end Go.Proofs.Ytapfdbgplfonaaa
