import Derived.Test.YtdoidfnfhidgdaaE
import Derived.Lib.AppendZerosOnto
import Derived.Lib.Walk
import Derived.Lib.SliceRun
namespace Go.Proofs.Ytdoidfnfhidgdaa
open Go.RowKit

set_option maxRecDepth 100000 in
theorem run_append_nil_src (w : World) (base : Nat) (i : TypeInfo) (hi : Try.prog.info? 5 = some i) (v : Value) (n : Nat) (xs : List Value) (hown : w.ownsRow base 5 1 v n xs) (c : Nat) :
    (Builtin.append_ #[25, 25] 25 #[v, .slice none 0 c]).run Try.prog w = .ok v w := by
  rcases hown.2 with ⟨rfl, rfl⟩ | ⟨g, cap, cur, rfl, _, _, hnc, _⟩
  · simp [Builtin.append_, run_underlying Try.underlying25, sizeOf, typeInfo, hi, Builtin.lenOf, Builtin.firstCells]
  · simp [Builtin.append_, run_underlying Try.underlying25, sizeOf, typeInfo, hi, Builtin.lenOf, Builtin.firstCells, hnc, storeCells]

set_option maxRecDepth 100000 in
/-- 'append(s, x...)': s is the call's own, x whatever bytes -/
theorem run_append_bys (w : World) (base B : Nat) (v : Value) (xs bs : List Nat) (hown : Own w base v xs) (A : Option Addr) (c : Nat) (hb : Bys w B A bs)
    (hn : xs.length + bs.length ≤ 1099511627776) (hbase : base ≤ w.heap.size) :
    ∃ v' w', (Builtin.append_ #[25, 25] 25 #[v, .slice A bs.length c]).run Try.prog w = .ok v' w' ∧ Own w' base v' (xs ++ bs) ∧ w.grownBy w' v.ownBlock := by
  obtain ⟨i0, hi, hz0, hz1, hz2⟩ := info_parts byte_info
  rcases A with _ | ad
  · have h0 : bs = [] := by
      rcases bs with _ | ⟨x, r⟩
      · rfl
      · obtain ⟨b, off, h, _⟩ := hb.2 (by simp)
        cases h
    subst h0
    exact ⟨v, w, run_append_nil_src w base i0 hi v _ _ hown.1 c, by simpa using hown, World.grownBy.refl w _⟩
  · have hcells : ∀ j u, (bs.map B8)[j]? = some u → w.cell? (ad.add j) = some u := by
      intro j u hu
      rw [List.getElem?_map] at hu
      cases hj : bs[j]? with
      | none => rw [hj] at hu; cases hu
      | some x =>
        rw [hj] at hu
        obtain rfl : B8 x = u := by simpa using hu
        have hj2 : j < bs.length := (List.getElem?_eq_some_iff.1 hj).1
        obtain ⟨b, off, hA, _, hc⟩ := hb.2 (by intro e; subst e; simp at hj2)
        injection hA with hA
        subst hA
        have := hc j x hj
        unfold Addr.add
        split
        · rename_i h0; subst h0; simpa [B8] using this
        · simpa [B8] using this
    obtain ⟨v', w', hrun, h2, h3, _⟩ := run_append_own (P := Try.prog) w base 25 25 5 i0 _ 1 1 Try.underlying25 hi hz0 hz1 hz2 rfl (by decide) v xs.length (xs.map B8) hown.1 ad bs.length c (bs.map B8) (by simp) hcells (B8_all bs)
      (by unfold maxLen; omega) (by omega) hbase
    refine ⟨v', w', hrun, ⟨by rw [List.length_append, List.map_append]; exact h2, ?_⟩, h3⟩
    intro y hy
    rcases List.mem_append.1 hy with h | h
    · exact hown.2 y h
    · exact hb.1 y h
end Go.Proofs.Ytdoidfnfhidgdaa
