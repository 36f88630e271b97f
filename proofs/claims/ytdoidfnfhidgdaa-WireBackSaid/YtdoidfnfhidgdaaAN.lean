import Derived.Test.YtdoidfnfhidgdaaAN00
import Derived.Test.YtdoidfnfhidgdaaAN01
import Derived.Test.YtdoidfnfhidgdaaAN10
import Derived.Test.YtdoidfnfhidgdaaAN11
namespace Go.Proofs.Ytdoidfnfhidgdaa
open Go.RowKit

/-- ref.entry -/
theorem entry_any (bb off : Nat) (y0 : Nat) (r0 : List Nat) (c n : Nat) (w : World) (hn : n = r0.length + 1) (hb : Bys w w.heap.size (some ⟨bb, off, none⟩) (y0 :: r0)) (hc : n ≤ c) (hm : n ≤ 255) :
    Calls Try.prog 48 #[.slice (some ⟨bb, off, none⟩) n c] w (EntR w (rdB (y0 :: r0))) := by
  have hs : (∀ m y t, tk 121 0 0 r0 = .ok (m, y :: t) → y = 0) ∨ (∀ m y t, tk 121 0 0 r0 = .ok (m, y :: t) → y ≠ 0) := by
    cases h : tk 121 0 0 r0 with
    | error e => exact .inl fun m y t h => by cases h
    | ok p =>
      obtain ⟨m, r⟩ := p
      rcases r with _ | ⟨y, t⟩
      · exact .inl fun m y t h => by cases h
      · by_cases hy : y = 0
        · exact .inl fun m y' t' h => by cases h; exact hy
        · exact .inr fun m y' t' h => by cases h; exact hy
  rcases hs with hv | hv <;> by_cases hk : y0 = 1
  · exact entry_01 y0 r0 hv hk bb off c n w hn hb hc hm
  · exact entry_00 y0 r0 hv hk bb off c n w hn hb hc hm
  · exact entry_11 y0 r0 hv hk bb off c n w hn hb hc hm
  · exact entry_10 y0 r0 hv hk bb off c n w hn hb hc hm
end Go.Proofs.Ytdoidfnfhidgdaa
