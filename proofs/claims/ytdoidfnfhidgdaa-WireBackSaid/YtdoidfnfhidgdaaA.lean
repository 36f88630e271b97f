import Derived.Test.YtdoidfnfhidgdaaProg
import Derived.Test.YtdoidfnfhidgdaaCrc
import Derived.WalkKit
import Derived.WalkSpells
import Derived.Lib.Hide
import Derived.Deep.QuietTactic
import Derived.BigQuiet
import Derived.Handy
namespace Go.Proofs.Ytdoidfnfhidgdaa
open Go.RowKit

set_option maxHeartbeats 400000 in
theorem bits1_any (n : Nat) (hn : n < 4294967296) (w : World) :
    Calls Try.prog 87 #[.int .u32 n] w fun e w' => e = .returned (.int .u32 (Crc.steps 8 n : Nat)) ∧ w = w' := by
  go_enter Try.func87, Try.ntmps87
  go_wp2
  go_loop [0, 3, 4] (fun x lo i => ∃ (k m : Nat) , k ≤ 8 ∧ i = .int .i64 k ∧ x = .int .u32 m ∧ m < 4294967296 ∧ Crc.steps 8 n = Crc.steps (8 - k) m)
    (fun _ _ i => 8 - (intOf i).toNat)
  case atStart => exact ⟨0, n, by omega, rfl, rfl, hn, rfl⟩
  case round =>
    obtain ⟨k, m, hk, rfl, rfl, hm, hs⟩ := hrel
    have HS := Lib.hid hs
    clear hs
    by_cases hlt : k < 8
    · have h1 : bits .and .u32 (m : Int) 1 = ((m % 2 : Nat) : Int) := by rw [← nat_mask1]; exact u32_and_nat m 1 hm (by omega)
      by_cases ho : m % 2 = 1
      · have h2 : (((m % 2 : Nat) : Int) == 1) = true := by rw [ho]; rfl
        have hx : bits .xor .u32 ((m : Int) / 2) 2197175160 = ((m / 2 ^^^ 2197175160 : Nat) : Int) := by
          rw [show ((m : Int) / 2) = ((m / 2 : Nat) : Int) by omega]; exact u32_xor_nat (m / 2) 2197175160 (by omega) (by omega)
        have HX := Lib.hid hx
        clear hx
        go_wp2_with fail
        go_round
        case rel => exact ⟨k + 1, Crc.step m, by omega, by go_num, by rw [HX.out, Crc.step, if_pos ho]; rfl, Crc.step_lt hm, by rw [HS.out, show 8 - k = 8 - (k + 1) + 1 by omega]; rfl⟩
        case measure => simp [intOf]; omega
      · have h2 : (((m % 2 : Nat) : Int) == 1) = false := by rw [show m % 2 = 0 by omega]; rfl
        go_wp2_with fail
        go_round
        case rel => exact ⟨k + 1, Crc.step m, by omega, by go_num, by rw [Crc.step, if_neg ho]; go_num, Crc.step_lt hm, by rw [HS.out, show 8 - k = 8 - (k + 1) + 1 by omega]; rfl⟩
        case measure => simp [intOf]; omega
    · obtain rfl : k = 8 := by omega
      have HE : Hid (Crc.steps 8 n = m) := by show Crc.steps 8 n = m; rw [HS.out]; rfl
      go_wp2_with fail
      go_ret
      exact ⟨by rw [HE.out]; rfl, rfl⟩

/-! ### the table -/
def tabA (k : Nat) : Array Value := ((List.range 256).map fun i => Value.int .u32 (if i < k then (Crc.s8 i : Nat) else (0 : Nat) : Nat)).toArray
theorem tabA_size (k : Nat) : (tabA k).size = 256 := by simp [tabA]
theorem tabA_get (k i : Nat) (hi : i < 256) : (tabA k)[i]? = some (.int .u32 (if i < k then (Crc.s8 i : Nat) else (0 : Nat) : Nat)) := by
  simp [tabA, hi]
theorem tabA_one (k : Nat) : (tabA k).all (·.oneCell') = true := by
  rw [Array.all_eq_true_iff_forall_mem]
  intro v hv
  simp [tabA] at hv
  obtain ⟨i, _, rfl⟩ := hv
  rfl
theorem tabA_set (k : Nat) : (tabA k).setIfInBounds k (.int .u32 (Crc.s8 k : Nat)) = tabA (k + 1) := by
  apply Array.ext
  · simp [tabA]
  · intro i h1 h2
    have hi : i < 256 := by simpa [tabA] using h2
    rw [Array.getElem_setIfInBounds (by simpa [tabA] using hi)]
    split
    · rename_i e
      subst e
      simp [tabA]
    · rename_i e
      simp only [tabA, List.getElem_toArray, List.getElem_map, List.getElem_range]
      by_cases hik : i < k
      · rw [if_pos hik, if_pos (by omega)]
      · rw [if_neg hik, if_neg (by omega)]

theorem tab_info : (Try.prog.info? 100).map (fun i => (i.zero, i.size)) = some (some (.agg (Array.replicate 256 (.int .u32 0))), 256) := by kernel_rfl
theorem tab_size : (Try.prog.info? 100).map (·.size) = some 256 := by kernel_rfl
theorem tabA_zero : Array.replicate 256 (Value.int .u32 0) = tabA 0 := by
  apply Array.ext
  · simp [tabA]
  · intro i h1 h2
    simp [tabA]
end Go.Proofs.Ytdoidfnfhidgdaa
