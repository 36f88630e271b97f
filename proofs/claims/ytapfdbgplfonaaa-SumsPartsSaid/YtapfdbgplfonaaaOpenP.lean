import Derived.Test.YtapfdbgplfonaaaOpen
import Derived.Test.YtapfdbgplfonaaaG
import Derived.ChangeSlices
namespace Go.Proofs.Ytapfdbgplfonaaa
open Go.ChangeShapes Go.WideShapes Go.ChangeAt Go.RowKit

/-- the cells of a run of cells, one by one -/
theorem cells_each {w : World} {b : Nat} {a : Addr} : ∀ {n : Nat} {cs : List Value}, w.cells? b a n = some cs → ∀ j, j < n → w.cell? (a.add j) = cs[j]? := by
  intro n cs h j hj
  unfold World.cells? at h
  split at h
  · have := mapM_some_get h j j (by simp [hj])
    rw [← this]
  · cases h

set_option maxRecDepth 100000 in
/-- a slice of bytes within what came in -/
theorem bytes_of_cell {H : Type} {enc : TypeId × Value → H} {W : World} {b0 fuel : Nat} {cs : List Value} {y : DataW H × List MemPlace}
    (hf : DataW.trod enc Try.prog W b0 (fun _ => true) true fuel 22 cs = some y) :
    ∃ (A : Option Addr) (bs : List Nat) (c : Nat), cs = [.slice A bs.length c] ∧ Bys W W.heap.size A bs ∧ bs.length ≤ c ∧ c ≤ 9223372036854775807 := by
  rcases open_ints Try.underlying22 Try.underlying5 (by kernel_rfl) hf with ⟨hcs, _⟩ | ⟨x, len0, cap0, zs, hcs, _, hl, hm, hz, hx, hcell, hwz⟩
  · exact ⟨none, [], 0, hcs, ⟨by simp, fun h => absurd rfl h⟩, Nat.le_refl _, by omega⟩
  · have hz2 : zs.length = cap0 := by simpa using hz
    have hlen : (zs.take len0).length = len0 := by simp; omega
    have hlen2 : ((zs.take len0).map Int.toNat).length = len0 := by rw [List.length_map, hlen]
    have hz0 : ∀ n ∈ zs.take len0, 0 ≤ n ∧ n ≤ 255 := fun n hn => wf_u8 (hwz n (List.mem_of_mem_take hn))
    refine ⟨some x, (zs.take len0).map Int.toNat, cap0, by rw [hlen2]; exact hcs, ⟨?_, fun hne => ?_⟩, by rw [hlen2]; exact hl, by unfold maxLen at hm; omega⟩
    · intro c hc
      simp only [List.mem_map] at hc
      obtain ⟨n, hn, rfl⟩ := hc
      have := hz0 n hn
      omega
    · have hp : 0 < len0 := by rw [← hlen2]; exact List.length_pos_iff.2 hne
      obtain ⟨b, off, spot⟩ := x
      have h0 := hcell 0 (by omega)
      have hspot : spot = none := by simpa [Addr.add] using World.cell?_spot h0
      subst hspot
      refine ⟨b, off, rfl, ?_, fun k y hy => ?_⟩
      · have := block_lt_of_cell h0
        simpa [Addr.add] using this
      · rw [List.getElem?_map] at hy
        cases hk : (zs.take len0)[k]? with
        | none => rw [hk] at hy; cases hy
        | some n =>
          rw [hk] at hy
          obtain rfl : n.toNat = y := by simpa using hy
          have hkl : k < len0 := by
            have := (List.getElem?_eq_some_iff.1 hk).1
            rw [hlen] at this
            exact this
          have hn0 := hz0 n (List.mem_of_getElem? hk)
          have hc := hcell k (by omega)
          rw [List.getElem?_take, if_pos hkl] at hk
          have e : zs.getD k 0 = ((n.toNat : Nat) : Int) := by rw [List.getD_eq_getElem?_getD, hk]; show n = _; omega
          rw [e] at hc
          by_cases hk0 : k = 0
          · subst hk0
            simpa [Addr.add] using hc
          · simpa [Addr.add, hk0] using hc

set_option maxRecDepth 100000 in
/-- a slice of slices of bytes that came in -/
theorem open_parts {H : Type} {enc : TypeId × Value → H} {W : World} {base b0 : Nat} {v : Value} {d : DataW H} {p : List MemPlace}
    (hval : Value.okWide Try.prog W .any base 42 v) (h : DataW.Trod enc Try.prog W b0 (fun _ => true) true 42 v d p) :
    ∃ (A : Option Addr) (ps : List Part) (c : Nat), v = .slice A ps.length c ∧
      (∀ k q, ps[k]? = some q → ∃ g off, A = some ⟨g, off, none⟩ ∧ g < W.heap.size ∧ W.cell? ⟨g, off + k, none⟩ = some (.slice q.A q.bs.length q.c) ∧ Bys W W.heap.size q.A q.bs) ∧
      ps.length ≤ 9223372036854775807 ∧ (∀ q ∈ ps, q.bs.length ≤ 9223372036854775807) ∧ (∀ x ∈ p, x.block < W.heap.size) := by
  have lt0 : ∀ x ∈ p, x.block < W.heap.size := by obtain ⟨m, hm⟩ := h; exact DataW.trod_lt m _ _ _ hm
  obtain ⟨a0, len0, cap0, rfl⟩ := okWide_slice Try.underlying42 hval
  obtain ⟨fuel, hf⟩ := h
  rcases DataW.trod_slice Try.underlying42 hf with ⟨hcs, _⟩ | ⟨a, len, cap, elems, rest, n, _, hcs, _, _, hl, hm, hlen, hel, _, _⟩
  · simp [Value.cells] at hcs
    obtain ⟨rfl, rfl, rfl⟩ := hcs
    exact ⟨none, [], 0, rfl, fun k q h => by simp at h, by simp, by simp, lt0⟩
  · simp [Value.cells] at hcs
    obtain ⟨rfl, rfl, rfl⟩ := hcs
    have h1 : Try.prog.cellsOf 22 = 1 := by kernel_rfl
    rw [h1] at hel
    have each : ∀ i, i < len0 → ∃ q : Part, W.cell? (a.add i) = some (.slice q.A q.bs.length q.c) ∧ Bys W W.heap.size q.A q.bs ∧ q.bs.length ≤ 9223372036854775807 := by
      intro i hi
      have hE := hel i hi
      rw [List.getElem?_eq_getElem (by omega), Option.bind_eq_some_iff] at hE
      obtain ⟨cs, hc, ht⟩ := hE
      obtain ⟨A, bs, c, rfl, hy, hb, hc2⟩ := bytes_of_cell ht
      have := cells_each hc 0 (by omega)
      rw [Nat.mul_one] at this
      refine ⟨⟨A, bs, c⟩, ?_, hy, by show bs.length ≤ _; omega⟩
      simpa [Addr.add] using this
    have hlist : ∀ k, k ≤ len0 → ∃ l : List Part, l.length = k ∧ ∀ i q, l[i]? = some q → W.cell? (a.add i) = some (.slice q.A q.bs.length q.c) ∧ Bys W W.heap.size q.A q.bs ∧ q.bs.length ≤ 9223372036854775807 := by
      intro k
      induction k with
      | zero => exact fun _ => ⟨[], rfl, fun i q h => by simp at h⟩
      | succ k ih =>
        intro hk
        obtain ⟨l, hll, hle⟩ := ih (by omega)
        obtain ⟨e, he⟩ := each k (by omega)
        refine ⟨l ++ [e], by simp [hll], fun i x hx => ?_⟩
        by_cases hi : i < k
        · rw [List.getElem?_append_left (by omega)] at hx
          exact hle i x hx
        · have hik : i = k := by
            have := (List.getElem?_eq_some_iff.1 hx).1
            rw [List.length_append, hll, List.length_singleton] at this
            omega
          subst hik
          rw [List.getElem?_append_right (by omega), hll, Nat.sub_self] at hx
          obtain rfl : e = x := by simpa using hx
          exact he
    obtain ⟨l, hll, hle⟩ := hlist len0 (Nat.le_refl _)
    refine ⟨some a, l, cap0, by rw [hll], fun k q hk => ?_, by unfold maxLen at hm; omega, fun q hq => ?_, lt0⟩
    · obtain ⟨hc, hy, _⟩ := hle k q hk
      obtain ⟨b, off, spot⟩ := a
      have hspot : spot = none := by
        have hp : 0 < l.length := by have := (List.getElem?_eq_some_iff.1 hk).1; omega
        have := World.cell?_spot (hle 0 l[0] (List.getElem?_eq_getElem hp)).1
        simpa [Addr.add] using this
      subst hspot
      have had : (⟨b, off, none⟩ : Addr).add k = ⟨b, off + k, none⟩ := by unfold Addr.add; split <;> simp_all
      rw [had] at hc
      exact ⟨b, off, rfl, block_lt_of_cell hc, hc, hy⟩
    · obtain ⟨i, hi⟩ := List.getElem?_of_mem hq
      exact (hle i q hi).2.2
end Go.Proofs.Ytapfdbgplfonaaa
