import Derived.Test.YtapfdbgplfonaaaOpen
namespace Go.Proofs.Ytapfdbgplfonaaa
open Go.ChangeShapes Go.WideShapes Go.ChangeAt Go.RowKit

/-- an array of three integers, opened -/
theorem open_arr3 {H : Type} {enc : TypeId × Value → H} {W : World} {base b0 : Nat} {v : Value} {d : DataW H} {p : List MemPlace} {k e : TypeId} {q : IntKind}
    (hu : Try.prog.underlying k = some (.array 3 e)) (he : Try.prog.underlying e = some (.int q)) (hc : Try.prog.cellsOf e = 1) (hk : Try.prog.cellsOf k = 3)
    (hval : Value.okWide Try.prog W .any base k v) (h : DataW.Trod enc Try.prog W b0 (fun _ => true) true k v d p) :
    ∃ x0 x1 x2 : Int, v = .agg #[.int q x0, .int q x1, .int q x2] ∧ (∀ x ∈ p, x.block < W.heap.size) ∧ (Lit.int q x0).wf = true ∧ (Lit.int q x1).wf = true ∧ (Lit.int q x2).wf = true := by
  have lt0 : ∀ x ∈ p, x.block < W.heap.size := by obtain ⟨m, hm⟩ := h; exact DataW.trod_lt m _ _ _ hm
  simp only [Value.okWide, hu] at hval
  obtain ⟨cs, rfl, h2, _⟩ := hval
  rw [hk] at h2
  obtain ⟨l⟩ := cs
  rcases l with _ | ⟨a, _ | ⟨b, _ | ⟨c, _ | ⟨x, r⟩⟩⟩⟩
  · simp at h2
  · simp at h2
  · simp at h2
  · obtain ⟨fuel, hf⟩ := h
    cases fuel with
    | zero => simp [DataW.trod] at hf
    | succ m =>
      rw [DataW.trod_step] at hf
      unfold DataW.trodStep at hf
      simp only [hu, Value.cells] at hf
      rw [if_pos (by rw [hk]; rfl)] at hf
      simp only [Option.map_eq_some_iff] at hf
      obtain ⟨ys, hy, e1⟩ := hf
      rw [hc] at hy
      simp [List.range_succ, List.range_zero, Option.bind_eq_some_iff] at hy
      obtain ⟨y0, z0, h0, ys1, ⟨y1, z1, h1, ys2, ⟨y2, z2, hh2, _⟩, _⟩, _⟩ := hy
      obtain ⟨a0, e0, _, w0⟩ := DataW.trod_int he h0
      obtain ⟨a1, e1', _, w1⟩ := DataW.trod_int he h1
      obtain ⟨a2, e2, _, w2⟩ := DataW.trod_int he hh2
      simp only [List.cons.injEq, and_true] at e0 e1' e2
      subst e0 e1' e2
      exact ⟨a0, a1, a2, rfl, lt0, w0, w1, w2⟩
  · simp at h2

/-- lists of bytes, their places weighed -/
theorem bytes_sized {H : Type} {enc : TypeId × Value → H} {W : World} {b0 l c : Nat} {A : Option Addr} {d : DataW H} {p : List MemPlace}
    (h : DataW.Trod enc Try.prog W b0 (fun _ => true) true 22 (.slice A l c) d p)
    (hz : ∀ elems spare, d = .slice elems spare → (elems.length + spare.length) * Try.prog.bytesOf 5 ≤ reachBytes) : l ≤ reachBytes := by
  obtain ⟨fuel, hf⟩ := h
  rcases open_ints Try.underlying22 Try.underlying5 (by kernel_rfl) hf with ⟨hcs, hx⟩ | ⟨x, l', c', zs, hcs, _, hl, hm, hzl, hx, hcell, hwz⟩
  · simp [Value.cells] at hcs
    omega
  · simp [Value.cells] at hcs
    obtain ⟨rfl, rfl, rfl⟩ := hcs
    have hd : d = .slice (lits .u8 (zs.take l)) (lits .u8 (zs.drop l)) := congrArg Prod.fst hx
    have := hz _ _ hd
    have h1 : Try.prog.bytesOf 5 = 1 := by kernel_rfl
    rw [h1] at this
    have hz2 : zs.length = c := by simpa using hzl
    simp [lits] at this
    omega
end Go.Proofs.Ytapfdbgplfonaaa
