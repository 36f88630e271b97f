import Derived.Test.YtdoidfnfhidgdaaP
namespace Go.Proofs.Ytdoidfnfhidgdaa
open Go.RowKit

theorem Own.alloc {w : World} {base : Nat} {v : Value} {xs : List Nat} (h : Own w base v xs) (o : Obj) : Own (w.alloc o) base v xs := ⟨h.1.alloc o, h.2⟩
/-- the cells of an entry -/
def entC (e : Ent) : Array Value := #[.int .i64 e.epoch, .int .i64 e.id, .int .i64 e.num, .int .i64 e.seq, .int .i64 e.kind, .int .i64 e.value]

theorem always_any (e : Ent) (w : World) : Calls Try.prog 57 #[entV e] w fun x w' => x = .returned (.bool true) ∧ Below w.heap.size w w' := by
  have HB : Hid (Below w.heap.size w (w.alloc (.cells (entC e) 24))) := (Below.refl _ w).alloc (Nat.le_refl _) _
  unfold entV
  go_enter Try.func57, Try.ntmps57
  go_wp2_with fail
  go_ret
  exact ⟨rfl, HB.out⟩
theorem somebody_any (e : Ent) (w : World) : Calls Try.prog 58 #[entV e] w fun x w' => x = .returned (.bool (decide (0 ≤ e.id))) ∧ Below w.heap.size w w' := by
  have HB : Hid (Below w.heap.size w (w.alloc (.cells (entC e) 24))) := (Below.refl _ w).alloc (Nat.le_refl _) _
  unfold entV
  go_enter Try.func58, Try.ntmps58
  go_wp2_with fail
  go_ret
  exact ⟨rfl, HB.out⟩
theorem data_any (e : Ent) (w : World) : Calls Try.prog 59 #[entV e] w fun x w' => x = .returned (.bool (e.kind == 1)) ∧ Below w.heap.size w w' := by
  have HB : Hid (Below w.heap.size w (w.alloc (.cells (entC e) 24))) := (Below.refl _ w).alloc (Nat.le_refl _) _
  unfold entV
  go_enter Try.func59, Try.ntmps59
  go_wp2_with fail
  go_ret
  exact ⟨rfl, HB.out⟩
set_option maxRecDepth 100000 in
set_option maxHeartbeats 1000000 in
theorem both_any (e : Ent) (p q : Addr) (w : World) (hp : w.cell? p = some (.func (.func 59) #[] #[])) (hq : w.cell? q = some (.func (.func 58) #[] #[])) (hpl : p.block < w.heap.size) (hql : q.block < w.heap.size) :
    Calls Try.prog 68 #[entV e, .pointer (some p), .pointer (some q)] w fun x w' => x = .returned (.bool ((e.kind == 1) && decide (0 ≤ e.id))) ∧ Below w.heap.size w w' := by
  obtain ⟨W1, hW1⟩ : ∃ W1, w.alloc (.cells (entC e) 24) = W1 := ⟨_, rfl⟩
  have hB : Below w.heap.size w W1 := by rw [← hW1]; exact (Below.refl _ w).alloc (Nat.le_refl _) _
  have hz : w.heap.size < W1.heap.size := by rw [← hW1]; simp
  have hq1 := (hB.cell (p := q) hql).trans hq
  have hp1 := (hB.cell (p := p) hpl).trans hp
  have hQ2 : Hid (∀ w', Below W1.heap.size W1 w' → w'.cell? q = some (.func (.func 58) #[] #[])) := fun w' h => (h.cell (p := q) (by omega)).trans hq1
  have hC2 : Hid (∀ w', Below W1.heap.size W1 w' → (w'.cell? ⟨w.heap.size, 0, none⟩ = some (.int .i64 e.epoch) ∧ w'.cell? ⟨w.heap.size, 1, none⟩ = some (.int .i64 e.id) ∧ w'.cell? ⟨w.heap.size, 2, none⟩ = some (.int .i64 e.num)) ∧ w'.cell? ⟨w.heap.size, 3, none⟩ = some (.int .i64 e.seq) ∧ w'.cell? ⟨w.heap.size, 4, none⟩ = some (.int .i64 e.kind) ∧ w'.cell? ⟨w.heap.size, 5, none⟩ = some (.int .i64 e.value)) := by
    intro w' h
    have h0 : w'.heap[w.heap.size]? = some (.cells (entC e) 24) := (h.block _ hz).trans (by rw [← hW1]; exact heap_alloc_new w _)
    exact ⟨⟨cell_of_row _ _ _ _ _ _ h0, cell_of_row _ _ _ _ _ _ h0, cell_of_row _ _ _ _ _ _ h0⟩, cell_of_row _ _ _ _ _ _ h0, cell_of_row _ _ _ _ _ _ h0, cell_of_row _ _ _ _ _ _ h0⟩
  have hc1 := hC2.out W1 (Below.refl _ _)
  unfold entC at hW1
  have HB := Lib.hid hB
  have HD := Lib.hid (data_any e W1)
  have HS := Lib.hid (somebody_any e)
  clear hB hz hpl hql hp hq
  unfold entV at HD HS ⊢
  obtain ⟨⟨a0, a1, a2⟩, a3, a4, a5⟩ := hc1
  cases hk : (e.kind == 1) with
  | true =>
    rw [hk] at HD
    go_enter Try.func68, Try.ntmps68
    go_wp2_with fail
    refine HD.out.mono ?_
    rintro x w2 ⟨rfl, hb1⟩
    have hq2 := hQ2.out w2 hb1
    obtain ⟨⟨a0, a1, a2⟩, a3, a4, a5⟩ := hC2.out w2 hb1
    have HB2 : Hid (Below w.heap.size w w2) := ext HB.out hb1
    clear hb1 HB hW1
    go_wp2_with fail
    refine (HS.out _).mono ?_
    rintro x w3 ⟨rfl, hb3⟩
    have HB3 : Hid (Below w.heap.size w w3) := ext HB2.out hb3
    clear hb3
    go_wp2_with fail
    go_ret
    exact ⟨by simp, HB3.out⟩
  | false =>
    rw [hk] at HD
    go_enter Try.func68, Try.ntmps68
    go_wp2_with fail
    refine HD.out.mono ?_
    rintro x w2 ⟨rfl, hb1⟩
    have HB2 : Hid (Below w.heap.size w w2) := ext HB.out hb1
    clear hb1 HB hW1
    go_wp2_with fail
    go_ret
    exact ⟨by simp, HB2.out⟩
end Go.Proofs.Ytdoidfnfhidgdaa
