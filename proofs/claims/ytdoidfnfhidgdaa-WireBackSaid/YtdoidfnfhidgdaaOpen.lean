import Derived.Test.YtdoidfnfhidgdaaRows
import Derived.Test.YtdoidfnfhidgdaaP
import Derived.ProofKit
import Derived.OpenShut
import Derived.ChangeOld
namespace Go.Proofs.Ytdoidfnfhidgdaa
open Go.ChangeShapes Go.WideShapes Go.ChangeAt Go.RowKit

set_option maxRecDepth 100000 in
theorem own : ownKnob Try.prog.godebug = none := by kernel_rfl
set_option maxRecDepth 100000 in
theorem laidOut : laidOutB Try.prog = true := by kernel_rfl

set_option maxRecDepth 100000 in
theorem wf_u8 {x : Int} (h : (Lit.int .u8 x).wf = true) : 0 ≤ x ∧ x ≤ 255 := by
  simpa [Lit.wf, IntKind.min, IntKind.max, IntKind.signed, IntKind.bits] using h
set_option maxRecDepth 100000 in
theorem wf_u32 {x : Int} (h : (Lit.int .u32 x).wf = true) : 0 ≤ x ∧ x ≤ 4294967295 := by
  simpa [Lit.wf, IntKind.min, IntKind.max, IntKind.signed, IntKind.bits] using h
set_option maxRecDepth 100000 in
theorem wf_i64 {x : Int} (h : (Lit.int .i64 x).wf = true) : -9223372036854775808 ≤ x ∧ x ≤ 9223372036854775807 := by
  simpa [Lit.wf, IntKind.min, IntKind.max, IntKind.signed, IntKind.bits] using h

set_option maxRecDepth 100000 in
/-- a slice of bytes that came in: nil, or a row -/
theorem open_bytes {H : Type} {enc : TypeId × Value → H} {W : World} {base b0 : Nat} {v : Value} {d : DataW H} {p : List MemPlace}
    (hval : Value.okWide Try.prog W .any base 25 v) (h : DataW.Trod enc Try.prog W b0 (fun _ => true) true 25 v d p) :
    ∃ (A : Option Addr) (bs : List Nat) (c : Nat), v = .slice A bs.length c ∧ Bys W W.heap.size A bs ∧ bs.length ≤ c ∧ c ≤ 9223372036854775807 ∧ (∀ x ∈ p, x.block < W.heap.size) := by
  have lt0 : ∀ x ∈ p, x.block < W.heap.size := by obtain ⟨m, hm⟩ := h; exact DataW.trod_lt m _ _ _ hm
  obtain ⟨a0, len0, cap0, rfl⟩ := okWide_slice Try.underlying25 hval
  obtain ⟨fuel, hf⟩ := h
  rcases open_ints Try.underlying25 Try.underlying5 (by kernel_rfl) hf with ⟨hcs, _⟩ | ⟨x, l, c, zs, hcs, _, hl, hm, hz, hx, hcell, hwz⟩
  · simp [Value.cells] at hcs
    obtain ⟨rfl, rfl, rfl⟩ := hcs
    exact ⟨none, [], 0, rfl, ⟨by simp, fun h => absurd rfl h⟩, Nat.le_refl _, by omega, lt0⟩
  · simp [Value.cells] at hcs
    obtain ⟨rfl, rfl, rfl⟩ := hcs
    have hz2 : zs.length = cap0 := by simpa using hz
    have hlen : (zs.take len0).length = len0 := by simp; omega
    have hlen2 : ((zs.take len0).map Int.toNat).length = len0 := by rw [List.length_map, hlen]
    have hz0 : ∀ n ∈ zs.take len0, 0 ≤ n ∧ n ≤ 255 := fun n hn => wf_u8 (hwz n (List.mem_of_mem_take hn))
    refine ⟨some x, (zs.take len0).map Int.toNat, cap0, by rw [hlen2], ⟨?_, fun hne => ?_⟩, by rw [hlen2]; exact hl, by unfold maxLen at hm; omega, lt0⟩
    · intro c hc
      simp only [List.mem_map] at hc
      obtain ⟨n, hn, rfl⟩ := hc
      have := hz0 n hn
      omega
    · have hp : 0 < len0 := by rw [← hlen2]; exact List.length_pos_iff.2 hne
      obtain ⟨b, off, spot⟩ := x
      have h0 := hcell 0 (by omega)
      have hspot : spot = none := by simpa [Addr.add] using World.cell?_spot h0
      subst hspot
      refine ⟨b, off, rfl, ?_, fun k y hy => ?_⟩
      · have := block_lt_of_cell h0
        simpa [Addr.add] using this
      · rw [List.getElem?_map] at hy
        cases hk : (zs.take len0)[k]? with
        | none => rw [hk] at hy; cases hy
        | some n =>
          rw [hk] at hy
          obtain rfl : n.toNat = y := by simpa using hy
          have hkl : k < len0 := by
            have := (List.getElem?_eq_some_iff.1 hk).1
            rw [hlen] at this
            exact this
          have hn0 := hz0 n (List.mem_of_getElem? hk)
          have hc := hcell k (by omega)
          rw [List.getElem?_take, if_pos hkl] at hk
          have e : zs.getD k 0 = ((n.toNat : Nat) : Int) := by rw [List.getD_eq_getElem?_getD, hk]; show n = _; omega
          rw [e] at hc
          by_cases hk0 : k = 0
          · subst hk0
            simpa [Addr.add] using hc
          · simpa [Addr.add, hk0] using hc

set_option maxRecDepth 100000 in
/-- an entry that came in, by value -/
theorem open_ent {H : Type} {enc : TypeId × Value → H} {W : World} {base b0 : Nat} {v : Value} {d : DataW H} {p : List MemPlace}
    (hval : Value.okWide Try.prog W .any base 24 v) (h : DataW.Trod enc Try.prog W b0 (fun _ => true) true 24 v d p) :
    ∃ e : Ent, v = entV e ∧ (∀ x ∈ p, x.block < W.heap.size) ∧ ∀ z ∈ [e.epoch, e.id, e.num, e.seq, e.kind, e.value], -9223372036854775808 ≤ z ∧ z ≤ 9223372036854775807 := by
  have lt0 : ∀ x ∈ p, x.block < W.heap.size := by obtain ⟨m, hm⟩ := h; exact DataW.trod_lt m _ _ _ hm
  obtain ⟨cs, rfl, hn⟩ := okWide_struct Try.underlying24 hval
  obtain ⟨l⟩ := cs
  have h6 : Try.prog.cellsOf 24 = 6 := by kernel_rfl
  rw [h6] at hn
  rcases l with _ | ⟨x0, _ | ⟨x1, _ | ⟨x2, _ | ⟨x3, _ | ⟨x4, _ | ⟨x5, _ | ⟨x6, r⟩⟩⟩⟩⟩⟩⟩
  any_goals (simp at hn; done)
  obtain ⟨fuel, hf⟩ := h
  obtain ⟨xs, n, _, _, _, hlen, hg⟩ := DataW.trod_struct Try.underlying24 hf
  have key : ∀ (t : TypeId) (x : Value) (i : Nat), i < xs.length → DataW.trod enc Try.prog W b0 (fun _ => true) true n t [x] = xs[i]? → Try.prog.underlying t = some (.int .i64) → ∃ z : Int, x = .int .i64 z ∧ -9223372036854775808 ≤ z ∧ z ≤ 9223372036854775807 := by
    intro t x i hi hy hu
    rw [List.getElem?_eq_getElem hi] at hy
    obtain ⟨a, ea, _, wa⟩ := DataW.trod_int hu hy
    simp only [List.cons.injEq, and_true] at ea
    exact ⟨a, ea, wf_i64 wa⟩
  have hxl : xs.length = 6 := hlen
  have c2 : Try.prog.cellsOf 2 = 1 := by kernel_rfl
  have c3 : Try.prog.cellsOf 3 = 1 := by kernel_rfl
  have c22 : Try.prog.cellsOf 22 = 1 := by kernel_rfl
  have g0 : DataW.trod enc Try.prog W b0 (fun _ => true) true n 2 [x0] = xs[0]? := by
    have h : DataW.trod enc Try.prog W b0 (fun _ => true) true n 2 (List.take (Try.prog.cellsOf 2) (List.drop 0 _)) = xs[0]? := hg 0 _ rfl
    rw [c2] at h
    exact h
  obtain ⟨z0, rfl, w0⟩ := key 2 x0 0 (by omega) g0 Try.underlying2
  have g1 : DataW.trod enc Try.prog W b0 (fun _ => true) true n 3 [x1] = xs[1]? := by
    have h : DataW.trod enc Try.prog W b0 (fun _ => true) true n 3 (List.take (Try.prog.cellsOf 3) (List.drop 1 _)) = xs[1]? := hg 1 _ rfl
    rw [c3] at h
    exact h
  obtain ⟨z1, rfl, w1⟩ := key 3 x1 1 (by omega) g1 Try.underlying3
  have g2 : DataW.trod enc Try.prog W b0 (fun _ => true) true n 2 [x2] = xs[2]? := by
    have h : DataW.trod enc Try.prog W b0 (fun _ => true) true n 2 (List.take (Try.prog.cellsOf 2) (List.drop 2 _)) = xs[2]? := hg 2 _ rfl
    rw [c2] at h
    exact h
  obtain ⟨z2, rfl, w2⟩ := key 2 x2 2 (by omega) g2 Try.underlying2
  have g3 : DataW.trod enc Try.prog W b0 (fun _ => true) true n 2 [x3] = xs[3]? := by
    have h : DataW.trod enc Try.prog W b0 (fun _ => true) true n 2 (List.take (Try.prog.cellsOf 2) (List.drop 3 _)) = xs[3]? := hg 3 _ rfl
    rw [c2] at h
    exact h
  obtain ⟨z3, rfl, w3⟩ := key 2 x3 3 (by omega) g3 Try.underlying2
  have g4 : DataW.trod enc Try.prog W b0 (fun _ => true) true n 22 [x4] = xs[4]? := by
    have h : DataW.trod enc Try.prog W b0 (fun _ => true) true n 22 (List.take (Try.prog.cellsOf 22) (List.drop 4 _)) = xs[4]? := hg 4 _ rfl
    rw [c22] at h
    exact h
  obtain ⟨z4, rfl, w4⟩ := key 22 x4 4 (by omega) g4 Try.underlying22
  have g5 : DataW.trod enc Try.prog W b0 (fun _ => true) true n 2 [x5] = xs[5]? := by
    have h : DataW.trod enc Try.prog W b0 (fun _ => true) true n 2 (List.take (Try.prog.cellsOf 2) (List.drop 5 _)) = xs[5]? := hg 5 _ rfl
    rw [c2] at h
    exact h
  obtain ⟨z5, rfl, w5⟩ := key 2 x5 5 (by omega) g5 Try.underlying2
  refine ⟨⟨z0, z1, z2, z3, z4, z5⟩, rfl, lt0, ?_⟩
  intro z hz
  simp at hz
  rcases hz with rfl | rfl | rfl | rfl | rfl | rfl <;> assumption
end Go.Proofs.Ytdoidfnfhidgdaa
