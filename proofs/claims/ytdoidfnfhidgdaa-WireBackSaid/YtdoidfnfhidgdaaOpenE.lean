import Derived.Test.YtdoidfnfhidgdaaOpen
import Derived.Test.YtdoidfnfhidgdaaT
import Derived.ChangeSlices
namespace Go.Proofs.Ytdoidfnfhidgdaa
open Go.ChangeShapes Go.WideShapes Go.ChangeAt Go.RowKit

set_option maxRecDepth 100000 in
theorem ent_of_cells {H : Type} {enc : TypeId × Value → H} {W : World} {b0 : Nat} {f : Nat} {cs : List Value} {x : DataW H × List MemPlace}
    (h : DataW.trod enc Try.prog W b0 (fun _ => true) true f 24 cs = some x) : ∃ e : Ent, cs = e.cells := by
  obtain ⟨xs, n, _, _, hn, hlen, hg⟩ := DataW.trod_struct Try.underlying24 h
  have h6 : Try.prog.cellsOf 24 = 6 := by kernel_rfl
  rw [h6] at hn
  rcases cs with _ | ⟨x0, _ | ⟨x1, _ | ⟨x2, _ | ⟨x3, _ | ⟨x4, _ | ⟨x5, _ | ⟨x6, r⟩⟩⟩⟩⟩⟩⟩
  any_goals (simp at hn; done)
  have key : ∀ (t : TypeId) (x : Value) (i : Nat), i < xs.length → DataW.trod enc Try.prog W b0 (fun _ => true) true n t [x] = xs[i]? → Try.prog.underlying t = some (.int .i64) → ∃ z : Int, x = .int .i64 z := by
    intro t x i hi hy hu
    rw [List.getElem?_eq_getElem hi] at hy
    obtain ⟨a, ea, _, wa⟩ := DataW.trod_int hu hy
    simp only [List.cons.injEq, and_true] at ea
    exact ⟨a, ea⟩
  have hxl : xs.length = 6 := hlen
  have c2 : Try.prog.cellsOf 2 = 1 := by kernel_rfl
  have c3 : Try.prog.cellsOf 3 = 1 := by kernel_rfl
  have c22 : Try.prog.cellsOf 22 = 1 := by kernel_rfl
  have g0 : DataW.trod enc Try.prog W b0 (fun _ => true) true n 2 [x0] = xs[0]? := by
    have h : DataW.trod enc Try.prog W b0 (fun _ => true) true n 2 (List.take (Try.prog.cellsOf 2) (List.drop 0 _)) = xs[0]? := hg 0 _ rfl
    rw [c2] at h
    exact h
  obtain ⟨z0, rfl⟩ := key 2 x0 0 (by omega) g0 Try.underlying2
  have g1 : DataW.trod enc Try.prog W b0 (fun _ => true) true n 3 [x1] = xs[1]? := by
    have h : DataW.trod enc Try.prog W b0 (fun _ => true) true n 3 (List.take (Try.prog.cellsOf 3) (List.drop 1 _)) = xs[1]? := hg 1 _ rfl
    rw [c3] at h
    exact h
  obtain ⟨z1, rfl⟩ := key 3 x1 1 (by omega) g1 Try.underlying3
  have g2 : DataW.trod enc Try.prog W b0 (fun _ => true) true n 2 [x2] = xs[2]? := by
    have h : DataW.trod enc Try.prog W b0 (fun _ => true) true n 2 (List.take (Try.prog.cellsOf 2) (List.drop 2 _)) = xs[2]? := hg 2 _ rfl
    rw [c2] at h
    exact h
  obtain ⟨z2, rfl⟩ := key 2 x2 2 (by omega) g2 Try.underlying2
  have g3 : DataW.trod enc Try.prog W b0 (fun _ => true) true n 2 [x3] = xs[3]? := by
    have h : DataW.trod enc Try.prog W b0 (fun _ => true) true n 2 (List.take (Try.prog.cellsOf 2) (List.drop 3 _)) = xs[3]? := hg 3 _ rfl
    rw [c2] at h
    exact h
  obtain ⟨z3, rfl⟩ := key 2 x3 3 (by omega) g3 Try.underlying2
  have g4 : DataW.trod enc Try.prog W b0 (fun _ => true) true n 22 [x4] = xs[4]? := by
    have h : DataW.trod enc Try.prog W b0 (fun _ => true) true n 22 (List.take (Try.prog.cellsOf 22) (List.drop 4 _)) = xs[4]? := hg 4 _ rfl
    rw [c22] at h
    exact h
  obtain ⟨z4, rfl⟩ := key 22 x4 4 (by omega) g4 Try.underlying22
  have g5 : DataW.trod enc Try.prog W b0 (fun _ => true) true n 2 [x5] = xs[5]? := by
    have h : DataW.trod enc Try.prog W b0 (fun _ => true) true n 2 (List.take (Try.prog.cellsOf 2) (List.drop 5 _)) = xs[5]? := hg 5 _ rfl
    rw [c2] at h
    exact h
  obtain ⟨z5, rfl⟩ := key 2 x5 5 (by omega) g5 Try.underlying2
  exact ⟨⟨z0, z1, z2, z3, z4, z5⟩, rfl⟩

/-- the cells of a run of cells, one by one -/
theorem cells_each {w : World} {b : Nat} {a : Addr} : ∀ {n : Nat} {cs : List Value}, w.cells? b a n = some cs → ∀ j, j < n → w.cell? (a.add j) = cs[j]? := by
  intro n cs h j hj
  unfold World.cells? at h
  split at h
  · have := mapM_some_get h j j (by simp [hj])
    rw [← this]
  · cases h

theorem add_add6 (b off i j : Nat) : ((⟨b, off, none⟩ : Addr).add i).add j = ⟨b, off + i + j, none⟩ := by
  unfold Addr.add
  split <;> split <;> simp_all

set_option maxRecDepth 100000 in
/-- a slice of entries that came in: nil, or a row -/
theorem open_ents {H : Type} {enc : TypeId × Value → H} {W : World} {base b0 : Nat} {v : Value} {d : DataW H} {p : List MemPlace}
    (hval : Value.okWide Try.prog W .any base 34 v) (h : DataW.Trod enc Try.prog W b0 (fun _ => true) true 34 v d p) :
    ∃ (A : Option Addr) (l : List Ent) (c : Nat), v = .slice A l.length c ∧ Ents W W.heap.size A l ∧ l.length ≤ c ∧ c ≤ 9223372036854775807 ∧ (∀ x ∈ p, x.block < W.heap.size) := by
  have lt0 : ∀ x ∈ p, x.block < W.heap.size := by obtain ⟨m, hm⟩ := h; exact DataW.trod_lt m _ _ _ hm
  obtain ⟨a0, len0, cap0, rfl⟩ := okWide_slice Try.underlying34 hval
  obtain ⟨fuel, hf⟩ := h
  rcases DataW.trod_slice Try.underlying34 hf with ⟨hcs, _⟩ | ⟨a, len, cap, elems, rest, n, _, hcs, _, _, hl, hm, hlen, hel, _, _⟩
  · simp [Value.cells] at hcs
    obtain ⟨rfl, rfl, rfl⟩ := hcs
    exact ⟨none, [], 0, rfl, fun h => absurd rfl h, Nat.le_refl _, by omega, lt0⟩
  · simp [Value.cells] at hcs
    obtain ⟨rfl, rfl, rfl⟩ := hcs
    have h6 : Try.prog.cellsOf 24 = 6 := by kernel_rfl
    rw [h6] at hel
    have each : ∀ i, i < len0 → ∃ e : Ent, ∀ j, j < 6 → W.cell? ((a.add (i * 6)).add j) = e.cells[j]? := by
      intro i hi
      have hE := hel i hi
      rw [List.getElem?_eq_getElem (by omega), Option.bind_eq_some_iff] at hE
      obtain ⟨cs, hc, ht⟩ := hE
      obtain ⟨e, rfl⟩ := ent_of_cells ht
      exact ⟨e, cells_each hc⟩
    obtain ⟨b, off, spot⟩ := a
    have hlist : ∀ k, k ≤ len0 → ∃ l : List Ent, l.length = k ∧ ∀ i e, l[i]? = some e → ∀ j, j < 6 → W.cell? (((⟨b, off, spot⟩ : Addr).add (i * 6)).add j) = e.cells[j]? := by
      intro k
      induction k with
      | zero => exact fun _ => ⟨[], rfl, fun i e h => by simp at h⟩
      | succ k ih =>
        intro hk
        obtain ⟨l, hll, hle⟩ := ih (by omega)
        obtain ⟨e, he⟩ := each k (by omega)
        refine ⟨l ++ [e], by simp [hll], fun i x hx => ?_⟩
        by_cases hi : i < k
        · rw [List.getElem?_append_left (by omega)] at hx
          exact hle i x hx
        · have hik : i = k := by
            have := (List.getElem?_eq_some_iff.1 hx).1
            rw [List.length_append, hll, List.length_singleton] at this
            omega
          subst hik
          rw [List.getElem?_append_right (by omega), hll, Nat.sub_self] at hx
          obtain rfl : e = x := by simpa using hx
          exact he
    obtain ⟨l, hll, hle⟩ := hlist len0 (Nat.le_refl _)
    refine ⟨some ⟨b, off, spot⟩, l, cap0, by rw [hll], fun hne => ?_, by rw [hll]; exact hl, by unfold maxLen at hm; omega, lt0⟩
    obtain ⟨e0, r0, rfl⟩ : ∃ e0 r0, l = e0 :: r0 := by
      cases l with
      | nil => exact absurd rfl hne
      | cons e0 r0 => exact ⟨e0, r0, rfl⟩
    have h0 := hle 0 e0 rfl 0 (by omega)
    have hspot : spot = none := by simpa [Addr.add] using World.cell?_spot (show W.cell? _ = some _ from h0)
    subst hspot
    have hlt := block_lt_of_cell (show W.cell? _ = some _ from h0)
    rw [add_add6] at hlt
    refine ⟨b, off, rfl, hlt, fun k e hk => ?_⟩
    have hj := fun j hj => hle k e hk j hj
    simp only [add_add6] at hj
    exact ⟨hj 0 (by omega), hj 1 (by omega), hj 2 (by omega), hj 3 (by omega), hj 4 (by omega), hj 5 (by omega)⟩
end Go.Proofs.Ytdoidfnfhidgdaa
