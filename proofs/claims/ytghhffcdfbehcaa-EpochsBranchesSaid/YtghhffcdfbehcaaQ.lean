import Derived.Test.YtghhffcdfbehcaaP
import Derived.Maps.AppendAt
namespace Go.Proofs.Ytghhffcdfbehcaa
open Go.RowKit Go.Shelf
attribute [local go_sem] Oper.semAt_some

def stCells (p : Int × Nat) : List Value := [.int .i64 p.1, .int .i64 (p.2 : Nat)]
theorem stCells_len (ps : List (Int × Nat)) : (ps.flatMap stCells).length = ps.length * 2 := by
  induction ps with
  | nil => rfl
  | cons x r ih => rw [List.flatMap_cons, List.length_append, ih, List.length_cons]; show 2 + _ = _; omega
theorem stFrom_len (l : List Ent) : ∀ (x : Int) (k : Nat), (stFrom x k l).length ≤ l.length := by
  induction l with
  | nil => intro x k; exact Nat.le_refl _
  | cons e r ih =>
    intro x k
    rw [stFrom]
    split
    · have := ih x (k + 1); simp only [List.length_cons]; omega
    · have := ih e.epoch (k + 1); simp only [List.length_cons]; omega

theorem start_info : (Try.prog.info? 40).map (fun i => (i.zero, i.size, i.bytes)) = some (some (.agg #[.int .i64 0, .int .i64 0]), 2, 16) := by kernel_rfl

/-- what the appending of a start keeps of blocks of entries -/
theorem keepE {W w1 : World} {n₀ B : Nat} {v v' : Value} {k : Nat} {xs : List Value} {tmp : Obj}
    (hv : Boxed W B 36 v) (hrow : W.ownsRow n₀ 40 2 v k xs) (hgrow : (W.alloc tmp).grownBy w1 v.ownBlock) :
    ∀ (g : Nat) (cs : Array Value) (fr : Nat × Nat), W.heap[g]? = some (Obj.cells cs 54 fr) → (w1.setCell ⟨B, 0, none⟩ v').heap[g]? = some (Obj.cells cs 54 fr) := by
  intro g cs fr e
  have hlt : g < W.heap.size := (Array.getElem?_eq_some_iff.1 e).1
  have hne : g ≠ B := by
    intro h
    subst h
    rw [show W.heap[g]? = _ from hv] at e
    cases e
  rw [Below.heap_setCell w1 _ v' g hne]
  refine (hgrow.block g (by simp; omega) ?_).trans ((Below.heap_alloc W tmp g hlt).trans e)
  intro h
  rcases hrow.2 with ⟨rfl, _⟩ | ⟨g2, cap, cur, rfl, hb, h2, _⟩
  · simp [Value.ownBlock] at h
  · obtain rfl : g2 = g := by simpa [Value.ownBlock] using h.symm
    rw [h2] at e
    cases e

theorem cells2_new (w : World) (a b : Value) (t : TypeId) : ∀ j u, [a, b][j]? = some u → (w.alloc (.cells #[a, b] t)).cell? ((⟨w.heap.size, 0, none⟩ : Addr).add j) = some u := by
  intro j u hu
  rw [addr_add, cell_of_row _ _ _ _ _ _ (World.alloc_heap_new w _)]
  rcases j with _ | _ | j <;> simp_all
theorem one2 (a : Int) (b : Int) : ∀ u ∈ [Value.int .i64 a, Value.int .i64 b], u.oneCell' = true := by
  intro u hu
  simp at hu
  rcases hu with rfl | rfl <;> rfl

set_option maxRecDepth 100000 in
set_option maxHeartbeats 4000000 in
theorem Starts_no (A : Option Addr) (l : List Ent) (c : Nat) (w : World) (hl : Ents w w.heap.size A l) (hm : l.length ≤ 9223372036854775807) (hno : may l = false) :
    Calls Try.prog 15 #[.slice A l.length c] w fun e w' => e = .returned (.tuple #[.slice none 0 0, .int .i64 2]) ∧ Below w.heap.size w w' := by
  have hmay := May_any A l c w hl hm
  rw [hno] at hmay
  go_enter Try.func15, Try.ntmps15
  go_wp2_with (go_at_call 14; refine hmay.mono ?_; rintro e w1 ⟨rfl, hb1⟩)
  go_ret2
  exact ⟨rfl, hb1⟩

set_option maxRecDepth 100000 in
set_option maxHeartbeats 4000000 in
theorem Starts_yes (A : Option Addr) (l : List Ent) (c : Nat) (w : World) (hl : Ents w w.heap.size A l) (hm : l.length ≤ 1000000) (hyes : may l = true) :
    Calls Try.prog 15 #[.slice A l.length c] w fun e w' => ∃ v, e = .returned (.tuple #[v, .int .i64 0]) ∧ w'.ownsRow w.heap.size 40 2 v (stFrom 0 0 l).length ((stFrom 0 0 l).flatMap stCells) ∧ Below w.heap.size w w' := by
  refine callsIn_wide (n := 5).1 ?_
  have hmay := May_any A l c w hl (by omega)
  rw [hyes] at hmay
  obtain ⟨i0, hi, hz0, hz1, hz2⟩ := info_parts start_info
  refine callsIn_of_wp_marks Try.func15 rfl trivial ?_
  simp only [Try.ntmps15, List.size_toArray, List.length_cons, List.length_nil, Nat.reduceAdd, Nat.reduceSub, Array.replicate_succ, Array.replicate_zero, List.push_toArray, List.append_toArray, List.nil_append, List.cons_append]
  gi_wp2_with (first | (refine ⟨trivial, ?_⟩; gi_at_call 14; refine (callsIn_wide.2 hmay).mono ?_; rintro e w1 ⟨rfl, hb1⟩) | (refine ⟨trivial, ?_⟩; gi_at_call 29; refine (starts_in Fence.wide _ trivial rfl _ _ _ _).mono ?_; rintro e w2 ⟨rfl, rfl⟩))
  have bO := Boxed.new w1 36 (.slice none 0 0)
  have bN := Boxed.new (w1.alloc (.cells #[.slice none 0 0] 36)) 23 (.slice A l.length c)
  rw [World.size_alloc] at bN
  have hs1 := hb1.size
  have hB0 : Below w.heap.size w ((w1.alloc (.cells #[.slice none 0 0] 36)).alloc (.cells #[.slice A l.length c] 23)) := (hb1.alloc hs1 _).alloc (by simp; omega) _
  refine wpIn_rangeFunc_ownF rfl (by omega) (gf := 32) (lb := #[.pointer (some ⟨w1.heap.size + 1, 0, none⟩)]) rfl trivial (enters_of Try.func32 (by kernel_rfl) rfl)
    (starts_stops Fence.wide _ trivial rfl (by omega) (w1.heap.size + 1) w.heap.size A l c (by omega) _ (by simp) (by simp; omega) bN.cell (hl.below hB0 (Nat.le_refl _))) KpE.trans (KpE.putObj (by simp; omega)) (Below.refl _ _) (fun _ => rfl)
    (fun (pre : List (Int × Nat)) W => (∃ v, Boxed W w1.heap.size 36 v ∧ W.ownsRow w.heap.size 40 2 v pre.length (pre.flatMap stCells) ∧ True) ∧ Below w.heap.size w W)
    (fun _ _ _ => False)
    (OwnFrom.and (Own.from (holdsRow_own w.heap.size w1.heap.size 36 40 2 (fun (pre : List (Int × Nat)) => pre.length) (fun (pre : List (Int × Nat)) => pre.flatMap stCells) (fun _ _ => True)) _) (ownFrom_below (Nat.le_refl _) (by simp; omega)))
    (fun _ _ _ _ _ hs _ _ => hs)
    ⟨⟨_, bO.alloc _, World.ownsRow_nil _ _ _ _, trivial⟩, hB0⟩
    (fun x => { tmps := #[.slice A l.length c, undef, .slice none 0 0, .int .i64 0, .pointer (some ⟨w1.heap.size, 0, none⟩), .int .i64 x.1, .int .i64 (x.2 : Nat), .slice A l.length c, .bool true, .bool false, .slice A l.length c, .func (.func 32) #[] #[.pointer (some ⟨w1.heap.size + 1, 0, none⟩)], .int .i64 x.1, .int .i64 (x.2 : Nat), undef, undef, undef, undef, undef, undef, undef], defers := [] }) ?assign ?body ?done ?stop
  case assign =>
    intro y x W K hK
    gi_wp2
    exact hK
  case body =>
    rintro y pre x W ⟨⟨v, hv, hrow, _⟩, hB⟩ hlt
    have hc := hv.cell
    gi_wp2_with (gi_at_builtin; refine wpListIn_append_own _ rfl _ _ 36 rfl w.heap.size 40 i0 (.agg #[.int .i64 0, .int .i64 0]) 2 16 Try.underlying36 hi hz0 hz1 hz2 rfl (by decide) _ _ _ rfl (hrow.alloc _) ⟨W.heap.size, 0, none⟩ 1 1 [.int .i64 x.1, .int .i64 (x.2 : Nat)] rfl rfl (cells2_new _ _ _ _) (one2 _ _) (by unfold maxLen; omega) (by omega) (by have := hB.size; simp; omega) ?_; intro v' w2 hown' hgrow _; obtain ⟨g', cap', rfl⟩ := ownsRow_succ hown'; obtain ⟨hv1, hv2, hr2, hk2, hb2⟩ := hv.appended (by decide) hrow hB.size hs1 hown' hgrow; have hke := keepE (v' := .slice (some ⟨g', 0, none⟩) (pre.length + 1) cap') hv hrow hgrow; have hc1 := hv1.cell; have hf1 := hv1.frozen)
    exact ⟨hk2, ⟨hb2, hke⟩, ⟨_, hv2, by rw [List.length_append, List.flatMap_append]; simpa [stCells] using hr2, trivial⟩, hB.trans hb2⟩
  case done =>
    rintro D ys W hD rfl ⟨⟨v, hv, hrow, _⟩, hB⟩ hK
    have hc := hv.cell
    gi_wp2
    refine ⟨by simp, .inl ⟨_, _, rfl, run_takeDeferred hK, ?_⟩⟩
    refine ⟨.tuple #[v, .int .i64 0], ?_, v, rfl, ownsRow_putObj hrow _ hK rfl, hB.trans (belowK_b (w := w) (Nat.le_refl _) W D _ _ (by simp at hD; omega) hK rfl rfl)⟩
    simp [results, Try.f15, go_sem]
  case stop =>
    rintro D cc pre W _ _ h _
    exact h.elim
end Go.Proofs.Ytghhffcdfbehcaa
