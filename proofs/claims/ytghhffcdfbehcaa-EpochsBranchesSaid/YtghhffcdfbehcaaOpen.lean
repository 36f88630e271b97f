import Derived.Test.YtghhffcdfbehcaaRows
import Derived.Test.YtghhffcdfbehcaaD
import Derived.ProofKit
import Derived.OpenShut
import Derived.ChangeOld
namespace Go.Proofs.Ytghhffcdfbehcaa
open Go.ChangeShapes Go.WideShapes Go.ChangeAt Go.RowKit

theorem own : ownKnob Try.prog.godebug = none := by kernel_rfl
theorem laidOut : laidOutB Try.prog = true := by kernel_rfl

theorem one_le_bulk {H : Type} (d : DataW H) : 1 ≤ Rows.uptoBulk d := by
  cases d with
  | lit l => cases l <;> simp [Rows.uptoBulk]
  | nil => simp [Rows.uptoBulk]
  | ptr d => simp [Rows.uptoBulk]
  | slice elems spare => simp [Rows.uptoBulk]
  | agg parts => simp [Rows.uptoBulk]
  | iface t d => simp [Rows.uptoBulk]
  | map entries => simp [Rows.uptoBulk]
  | held h => simp [Rows.uptoBulk]
theorem length_le_bulk {H : Type} (l : List (DataW H)) : l.length ≤ Rows.uptoBulkAll l := by
  induction l with
  | nil => simp [Rows.uptoBulkAll]
  | cons x r ih => have := one_le_bulk x; simp only [Rows.uptoBulkAll, List.length_cons]; omega
theorem slice_le_bulk {H : Type} (elems spare : List (DataW H)) : elems.length ≤ Rows.uptoBulk (.slice elems spare) := by
  have h1 := length_le_bulk elems
  simp only [Rows.uptoBulk]
  omega

/-- a slice of int64 (or int) that came in: nil, or a row -/
theorem open_i64s {H : Type} {enc : TypeId × Value → H} {W : World} {base b0 : Nat} {T E : TypeId} {v : Value} {d : DataW H} {p : List MemPlace} (hT : Try.prog.underlying T = some (.slice E)) (hE : Try.prog.underlying E = some (.int .i64)) (hC : Try.prog.cellsOf E = 1)
    (hval : Value.okWide Try.prog W .any base T v) (h : DataW.Trod enc Try.prog W b0 (fun _ => true) true T v d p) :
    ∃ (A : Option Addr) (zs : List Int) (c : Nat), v = .slice A zs.length c ∧ Ints W W.heap.size A zs ∧ (∀ x ∈ p, x.block < W.heap.size) ∧ zs.length ≤ Rows.uptoBulk d := by
  have lt0 : ∀ x ∈ p, x.block < W.heap.size := by obtain ⟨m, hm⟩ := h; exact DataW.trod_lt m _ _ _ hm
  obtain ⟨a0, len0, cap0, rfl⟩ := okWide_slice hT hval
  obtain ⟨fuel, hf⟩ := h
  rcases open_ints hT hE hC hf with ⟨hcs, _⟩ | ⟨x, l, c, zs, hcs, _, hl, hm, hz, hx, hcell, hwz⟩
  · simp [Value.cells] at hcs
    obtain ⟨rfl, rfl, rfl⟩ := hcs
    exact ⟨none, [], 0, rfl, fun h => absurd rfl h, lt0, Nat.zero_le _⟩
  · simp [Value.cells] at hcs
    obtain ⟨rfl, rfl, rfl⟩ := hcs
    have hz2 : zs.length = cap0 := by simpa using hz
    have hlen : (zs.take len0).length = len0 := by simp; omega
    refine ⟨some x, zs.take len0, cap0, by rw [hlen], fun hne => ?_, lt0, ?_⟩
    · have hp : 0 < len0 := by rw [← hlen]; exact List.length_pos_iff.2 hne
      obtain ⟨b, off, spot⟩ := x
      have h0 := hcell 0 (by omega)
      have hspot : spot = none := by simpa [Addr.add] using World.cell?_spot h0
      subst hspot
      refine ⟨b, off, rfl, ?_, fun k y hy => ?_⟩
      · have := block_lt_of_cell h0
        simpa [Addr.add] using this
      · have hk : k < len0 := by
          have := (List.getElem?_eq_some_iff.1 hy).1
          rw [hlen] at this
          exact this
        have hc := hcell k (by omega)
        rw [List.getElem?_take, if_pos hk] at hy
        have e : zs.getD k 0 = y := by simp [List.getD, hy]
        rw [e] at hc
        by_cases hk0 : k = 0
        · subst hk0
          simpa [Addr.add] using hc
        · simpa [Addr.add, hk0] using hc
    · simp only [Prod.mk.injEq] at hx
      rw [hx.1]
      refine Nat.le_trans ?_ (slice_le_bulk _ _)
      simp [lits]
end Go.Proofs.Ytghhffcdfbehcaa
