import Derived.Test.YtapfdbgplfonaaaRows
import Derived.Test.YtapfdbgplfonaaaC
import Derived.ProofKit
import Derived.OpenShut
import Derived.ChangeOld
namespace Go.Proofs.Ytapfdbgplfonaaa
open Go.ChangeShapes Go.WideShapes Go.ChangeAt Go.RowKit

theorem own : ownKnob Try.prog.godebug = none := by kernel_rfl
theorem laidOut : laidOutB Try.prog = true := by kernel_rfl

theorem wf_u8 {x : Int} (h : (Lit.int .u8 x).wf = true) : 0 ≤ x ∧ x ≤ 255 := by
  simpa [Lit.wf, IntKind.min, IntKind.max, IntKind.signed, IntKind.bits] using h
theorem wf_u32 {x : Int} (h : (Lit.int .u32 x).wf = true) : 0 ≤ x ∧ x ≤ 4294967295 := by
  simpa [Lit.wf, IntKind.min, IntKind.max, IntKind.signed, IntKind.bits] using h
theorem wf_i64 {x : Int} (h : (Lit.int .i64 x).wf = true) : -9223372036854775808 ≤ x ∧ x ≤ 9223372036854775807 := by
  simpa [Lit.wf, IntKind.min, IntKind.max, IntKind.signed, IntKind.bits] using h

/-- a slice of bytes that came in: nil, or a row -/
theorem open_bytes {H : Type} {enc : TypeId × Value → H} {W : World} {base b0 : Nat} {v : Value} {d : DataW H} {p : List MemPlace}
    (hval : Value.okWide Try.prog W .any base 22 v) (h : DataW.Trod enc Try.prog W b0 (fun _ => true) true 22 v d p) :
    ∃ (A : Option Addr) (bs : List Nat) (c : Nat), v = .slice A bs.length c ∧ Bys W W.heap.size A bs ∧ bs.length ≤ c ∧ c ≤ 9223372036854775807 ∧ (∀ x ∈ p, x.block < W.heap.size) := by
  have lt0 : ∀ x ∈ p, x.block < W.heap.size := by obtain ⟨m, hm⟩ := h; exact DataW.trod_lt m _ _ _ hm
  obtain ⟨a0, len0, cap0, rfl⟩ := okWide_slice Try.underlying22 hval
  obtain ⟨fuel, hf⟩ := h
  rcases open_ints Try.underlying22 Try.underlying5 (by kernel_rfl) hf with ⟨hcs, _⟩ | ⟨x, l, c, zs, hcs, _, hl, hm, hz, hx, hcell, hwz⟩
  · simp [Value.cells] at hcs
    obtain ⟨rfl, rfl, rfl⟩ := hcs
    exact ⟨none, [], 0, rfl, ⟨by simp, fun h => absurd rfl h⟩, Nat.le_refl _, by omega, lt0⟩
  · simp [Value.cells] at hcs
    obtain ⟨rfl, rfl, rfl⟩ := hcs
    have hz2 : zs.length = cap0 := by simpa using hz
    have hlen : (zs.take len0).length = len0 := by simp; omega
    have hlen2 : ((zs.take len0).map Int.toNat).length = len0 := by rw [List.length_map, hlen]
    have hz0 : ∀ n ∈ zs.take len0, 0 ≤ n ∧ n ≤ 255 := fun n hn => wf_u8 (hwz n (List.mem_of_mem_take hn))
    refine ⟨some x, (zs.take len0).map Int.toNat, cap0, by rw [hlen2], ⟨?_, fun hne => ?_⟩, by rw [hlen2]; exact hl, by unfold maxLen at hm; omega, lt0⟩
    · intro c hc
      simp only [List.mem_map] at hc
      obtain ⟨n, hn, rfl⟩ := hc
      have := hz0 n hn
      omega
    · have hp : 0 < len0 := by rw [← hlen2]; exact List.length_pos_iff.2 hne
      obtain ⟨b, off, spot⟩ := x
      have h0 := hcell 0 (by omega)
      have hspot : spot = none := by simpa [Addr.add] using World.cell?_spot h0
      subst hspot
      refine ⟨b, off, rfl, ?_, fun k y hy => ?_⟩
      · have := block_lt_of_cell h0
        simpa [Addr.add] using this
      · rw [List.getElem?_map] at hy
        cases hk : (zs.take len0)[k]? with
        | none => rw [hk] at hy; cases hy
        | some n =>
          rw [hk] at hy
          obtain rfl : n.toNat = y := by simpa using hy
          have hkl : k < len0 := by
            have := (List.getElem?_eq_some_iff.1 hk).1
            rw [hlen] at this
            exact this
          have hn0 := hz0 n (List.mem_of_getElem? hk)
          have hc := hcell k (by omega)
          rw [List.getElem?_take, if_pos hkl] at hk
          have e : zs.getD k 0 = ((n.toNat : Nat) : Int) := by rw [List.getD_eq_getElem?_getD, hk]; show n = _; omega
          rw [e] at hc
          by_cases hk0 : k = 0
          · subst hk0
            simpa [Addr.add] using hc
          · simpa [Addr.add, hk0] using hc
end Go.Proofs.Ytapfdbgplfonaaa
