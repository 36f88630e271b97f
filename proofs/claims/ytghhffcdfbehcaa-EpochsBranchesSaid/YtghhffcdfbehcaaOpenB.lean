import Derived.Test.YtghhffcdfbehcaaOpen
import Derived.Test.YtghhffcdfbehcaaZ
import Derived.ChangeSlices
namespace Go.Proofs.Ytghhffcdfbehcaa
open Go.ChangeShapes Go.WideShapes Go.ChangeAt Go.RowKit

theorem wf_u8 {x : Int} (h : (Lit.int .u8 x).wf = true) : ∃ n : Nat, x = n ∧ n < 256 := by
  have h2 : 0 ≤ x ∧ x ≤ 255 := by simpa [Lit.wf, IntKind.min, IntKind.max, IntKind.signed, IntKind.bits] using h
  exact ⟨x.toNat, by omega, by omega⟩

/-- an array of four bytes, opened -/
theorem open_arr4 {H : Type} {enc : TypeId × Value → H} {W : World} {base b0 : Nat} {v : Value} {d : DataW H} {p : List MemPlace}
    (hval : Value.okWide Try.prog W .any base 49 v) (h : DataW.Trod enc Try.prog W b0 (fun _ => true) true 49 v d p) :
    ∃ x0 x1 x2 x3 : Nat, v = .agg #[.int .u8 x0, .int .u8 x1, .int .u8 x2, .int .u8 x3] ∧ (∀ x ∈ p, x.block < W.heap.size) ∧ x0 < 256 ∧ x1 < 256 ∧ x2 < 256 ∧ x3 < 256 := by
  have lt0 : ∀ x ∈ p, x.block < W.heap.size := by obtain ⟨m, hm⟩ := h; exact DataW.trod_lt m _ _ _ hm
  have hu : Try.prog.underlying 49 = some (.array 4 5) := Try.underlying49
  have he : Try.prog.underlying 5 = some (.int .u8) := Try.underlying5
  have hc : Try.prog.cellsOf 5 = 1 := by kernel_rfl
  have hk : Try.prog.cellsOf 49 = 4 := by kernel_rfl
  simp only [Value.okWide, hu] at hval
  obtain ⟨cs, rfl, h2, _⟩ := hval
  rw [hk] at h2
  obtain ⟨l⟩ := cs
  rcases l with _ | ⟨a, _ | ⟨b, _ | ⟨c, _ | ⟨x, _ | ⟨y, r⟩⟩⟩⟩⟩
  · simp at h2
  · simp at h2
  · simp at h2
  · simp at h2
  · obtain ⟨fuel, hf⟩ := h
    cases fuel with
    | zero => simp [DataW.trod] at hf
    | succ m =>
      rw [DataW.trod_step] at hf
      unfold DataW.trodStep at hf
      simp only [hu, Value.cells] at hf
      rw [if_pos (by rw [hk]; rfl)] at hf
      simp only [Option.map_eq_some_iff] at hf
      obtain ⟨ys, hy, e1⟩ := hf
      rw [hc] at hy
      simp [List.range_succ, List.range_zero, Option.bind_eq_some_iff] at hy
      obtain ⟨y0, z0, h0, ys1, ⟨y1, z1, h1, ys2, ⟨y2, z2, hh2, ys3, ⟨y3, z3, h3, _⟩, _⟩, _⟩, _⟩ := hy
      obtain ⟨a0, e0, _, w0⟩ := DataW.trod_int he h0
      obtain ⟨a1, e1', _, w1⟩ := DataW.trod_int he h1
      obtain ⟨a2, e2, _, w2⟩ := DataW.trod_int he hh2
      obtain ⟨a3, e3, _, w3⟩ := DataW.trod_int he h3
      simp only [List.cons.injEq, and_true] at e0 e1' e2 e3
      subst e0 e1' e2 e3
      obtain ⟨n0, rfl, l0⟩ := wf_u8 w0
      obtain ⟨n1, rfl, l1⟩ := wf_u8 w1
      obtain ⟨n2, rfl, l2⟩ := wf_u8 w2
      obtain ⟨n3, rfl, l3⟩ := wf_u8 w3
      exact ⟨n0, n1, n2, n3, rfl, lt0, l0, l1, l2, l3⟩
  · simp at h2

theorem trip_of_cells {H : Type} {enc : TypeId × Value → H} {W : World} {b0 : Nat} {f : Nat} {cs : List Value} {x : DataW H × List MemPlace}
    (h : DataW.trod enc Try.prog W b0 (fun _ => true) true f 51 cs = some x) : ∃ t : Nat × Nat × Nat, cs = [.int .u8 t.1, .int .u8 t.2.1, .int .u8 t.2.2] ∧ t.1 < 256 ∧ t.2.1 < 256 ∧ t.2.2 < 256 := by
  have hu : Try.prog.underlying 51 = some (.array 3 5) := Try.underlying51
  have he : Try.prog.underlying 5 = some (.int .u8) := Try.underlying5
  have hc : Try.prog.cellsOf 5 = 1 := by kernel_rfl
  have hk : Try.prog.cellsOf 51 = 3 := by kernel_rfl
  cases f with
  | zero => simp [DataW.trod] at h
  | succ m =>
    rw [DataW.trod_step] at h
    unfold DataW.trodStep at h
    simp only [hu] at h
    rw [hk, hc] at h
    rcases cs with _ | ⟨a, _ | ⟨b, _ | ⟨c, _ | ⟨x, r⟩⟩⟩⟩
    · simp at h
    · simp at h
    · simp at h
    · rw [if_pos (show ([a, b, c] : List Value).length = 3 from rfl)] at h
      simp only [Option.map_eq_some_iff] at h
      obtain ⟨ys, hy, e1⟩ := h
      simp [List.range_succ, List.range_zero, Option.bind_eq_some_iff] at hy
      obtain ⟨y0, z0, h0, ys1, ⟨y1, z1, h1, ys2, ⟨y2, z2, hh2, _⟩, _⟩, _⟩ := hy
      obtain ⟨a0, e0, _, w0⟩ := DataW.trod_int he h0
      obtain ⟨a1, e1', _, w1⟩ := DataW.trod_int he h1
      obtain ⟨a2, e2, _, w2⟩ := DataW.trod_int he hh2
      simp only [List.cons.injEq, and_true] at e0 e1' e2
      subst e0 e1' e2
      obtain ⟨n0, rfl, l0⟩ := wf_u8 w0
      obtain ⟨n1, rfl, l1⟩ := wf_u8 w1
      obtain ⟨n2, rfl, l2⟩ := wf_u8 w2
      exact ⟨(n0, n1, n2), rfl, l0, l1, l2⟩
    · simp at h

/-- the cells of a run of cells, one by one -/
theorem cells_each {w : World} {b : Nat} {a : Addr} : ∀ {n : Nat} {cs : List Value}, w.cells? b a n = some cs → ∀ j, j < n → w.cell? (a.add j) = cs[j]? := by
  intro n cs h j hj
  unfold World.cells? at h
  split at h
  · have := mapM_some_get h j j (by simp [hj])
    rw [← this]
  · cases h

theorem add_add3 (b off i j : Nat) : ((⟨b, off, none⟩ : Addr).add i).add j = ⟨b, off + i + j, none⟩ := by
  unfold Addr.add
  split <;> split <;> simp_all

set_option maxRecDepth 100000 in
/-- a slice of triples of bytes that came in: nil, or a row -/
theorem open_trips {H : Type} {enc : TypeId × Value → H} {W : World} {base b0 : Nat} {v : Value} {d : DataW H} {p : List MemPlace}
    (hval : Value.okWide Try.prog W .any base 48 v) (h : DataW.Trod enc Try.prog W b0 (fun _ => true) true 48 v d p) :
    ∃ (A : Option Addr) (ts : List (Nat × Nat × Nat)) (c : Nat), v = .slice A ts.length c ∧ Trips W W.heap.size A ts ∧ (∀ x ∈ p, x.block < W.heap.size) := by
  have lt0 : ∀ x ∈ p, x.block < W.heap.size := by obtain ⟨m, hm⟩ := h; exact DataW.trod_lt m _ _ _ hm
  obtain ⟨a0, len0, cap0, rfl⟩ := okWide_slice Try.underlying48 hval
  obtain ⟨fuel, hf⟩ := h
  rcases DataW.trod_slice Try.underlying48 hf with ⟨hcs, _⟩ | ⟨a, len, cap, elems, rest, n, _, hcs, _, _, hl, hm, hlen, hel, _, _⟩
  · simp [Value.cells] at hcs
    obtain ⟨rfl, rfl, rfl⟩ := hcs
    exact ⟨none, [], 0, rfl, fun k t h => by simp at h, lt0⟩
  · simp [Value.cells] at hcs
    obtain ⟨rfl, rfl, rfl⟩ := hcs
    have h3 : Try.prog.cellsOf 51 = 3 := by kernel_rfl
    rw [h3] at hel
    have each : ∀ i, i < len0 → ∃ t : Nat × Nat × Nat, (t.1 < 256 ∧ t.2.1 < 256 ∧ t.2.2 < 256) ∧ ∀ j, j < 3 → W.cell? ((a.add (i * 3)).add j) = ([.int .u8 t.1, .int .u8 t.2.1, .int .u8 t.2.2] : List Value)[j]? := by
      intro i hi
      have hE := hel i hi
      rw [List.getElem?_eq_getElem (by omega), Option.bind_eq_some_iff] at hE
      obtain ⟨cs, hc, ht⟩ := hE
      obtain ⟨t, rfl, hlt⟩ := trip_of_cells ht
      exact ⟨t, hlt, cells_each hc⟩
    obtain ⟨b, off, spot⟩ := a
    have hlist : ∀ k, k ≤ len0 → ∃ l : List (Nat × Nat × Nat), l.length = k ∧ ∀ i t, l[i]? = some t → (t.1 < 256 ∧ t.2.1 < 256 ∧ t.2.2 < 256) ∧ ∀ j, j < 3 → W.cell? (((⟨b, off, spot⟩ : Addr).add (i * 3)).add j) = ([.int .u8 t.1, .int .u8 t.2.1, .int .u8 t.2.2] : List Value)[j]? := by
      intro k
      induction k with
      | zero => exact fun _ => ⟨[], rfl, fun i e h => by simp at h⟩
      | succ k ih =>
        intro hk
        obtain ⟨l, hll, hle⟩ := ih (by omega)
        obtain ⟨e, he⟩ := each k (by omega)
        refine ⟨l ++ [e], by simp [hll], fun i x hx => ?_⟩
        by_cases hi : i < k
        · rw [List.getElem?_append_left (by omega)] at hx
          exact hle i x hx
        · have hik : i = k := by
            have := (List.getElem?_eq_some_iff.1 hx).1
            rw [List.length_append, hll, List.length_singleton] at this
            omega
          subst hik
          rw [List.getElem?_append_right (by omega), hll, Nat.sub_self] at hx
          obtain rfl : e = x := by simpa using hx
          exact he
    obtain ⟨l, hll, hle⟩ := hlist len0 (Nat.le_refl _)
    refine ⟨some ⟨b, off, spot⟩, l, cap0, by rw [hll], fun k t hk => ?_, lt0⟩
    obtain ⟨hlt, hj⟩ := hle k t hk
    have h0 := (hle 0 _ (List.getElem?_eq_getElem (by have := (List.getElem?_eq_some_iff.1 hk).1; omega))).2 0 (by omega)
    have hspot : spot = none := by simpa [Addr.add] using World.cell?_spot (show W.cell? _ = some _ from h0)
    subst hspot
    have hlb := block_lt_of_cell (show W.cell? _ = some _ from h0)
    simp only [add_add3] at hj hlb
    exact ⟨b, off, rfl, hlb, hlt.1, hlt.2.1, hlt.2.2, hj 0 (by omega), hj 1 (by omega), hj 2 (by omega)⟩
end Go.Proofs.Ytghhffcdfbehcaa
