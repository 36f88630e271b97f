import Derived.Test.YtdoidfnfhidgdaaL
namespace Go.Proofs.Ytdoidfnfhidgdaa
open Go.RowKit

set_option maxRecDepth 100000 in
set_option maxHeartbeats 2000000 in
theorem run_any (x : Nat) (A : Option Addr) (bs : List Nat) (c : Nat) (w : World) (hx : x < 4294967296) (hbs : Bys w w.heap.size A bs) (hm : bs.length ≤ 9223372036854775807) :
    Calls Try.prog 79 #[.int .u32 x, .slice A bs.length c] w fun e w' => e = .returned (.int .u32 (Crc.run x bs : Nat)) ∧ w = w' := by
  go_enter Try.func79, Try.ntmps79
  go_wp2_with fail
  go_loop [0, 5] (fun u i => ∃ (k m : Nat), k ≤ bs.length ∧ i = .int .i64 k ∧ u = .int .u32 m ∧ m < 4294967296 ∧ Crc.run x bs = Crc.run m (bs.drop k))
    (fun _ i => bs.length - (intOf i).toNat)
  case atStart => exact ⟨0, x, Nat.zero_le _, rfl, rfl, hx, rfl⟩
  case round =>
    obtain ⟨k, m, hk, rfl, rfl, hmb, hs⟩ := hrel
    have HS := Lib.hid hs
    clear hs
    by_cases hlt : k < bs.length
    · obtain ⟨b, off, rfl, _, hc⟩ := hbs.at_ hlt
      have hcl : bs[k] < 256 := hbs.1 _ (List.getElem_mem hlt)
      generalize hcc : bs[k] = c0 at *
      have HC := Lib.hid hcc
      clear hcc
      go_wp2_with fail
      refine (xor_any m c0 hmb (by omega) _).mono ?_
      rintro e w1 ⟨rfl, rfl⟩
      have hx2 : m ^^^ c0 < 4294967296 := Nat.xor_lt_two_pow (n := 32) hmb (by omega)
      have HX : Hid (Crc.run x bs = Crc.run (Crc.steps 8 (m ^^^ c0)) (bs.drop (k + 1))) := by
        show _ = _
        rw [HS.out, run_drop hlt, HC.out, Crc.s8_eq]
      generalize m ^^^ c0 = y at *
      go_wp2_with fail
      go_loop [0, 6] (fun u i => ∃ (j z : Nat), j ≤ 8 ∧ i = .int .i64 j ∧ u = .int .u32 z ∧ z < 4294967296 ∧ Crc.steps 8 y = Crc.steps (8 - j) z)
        (fun _ i => 8 - (intOf i).toNat)
      case atStart => exact ⟨0, y, by omega, rfl, rfl, hx2, rfl⟩
      case round =>
        obtain ⟨j, z, hj, rfl, rfl, hz, hs2⟩ := hrel
        have HS2 := Lib.hid hs2
        clear hs2
        by_cases hj8 : j < 8
        · have hz2 : ((z : Int) / 2) = ((z / 2 : Nat) : Int) := by omega
          by_cases ho : z % 2 = 1
          · have h2 : (((z : Int) % 2) == 1) = true := by rw [beq_iff_eq]; omega
            have HZ := Lib.hid hz2
            clear hz2
            go_wp2_with fail
            rw [HZ.out]
            refine (xor_any (z / 2) 2197175160 (by omega) (by omega) _).mono ?_
            rintro e w1 ⟨rfl, rfl⟩
            go_wp2_with fail
            go_round
            case rel => exact ⟨j + 1, Crc.step z, by omega, by go_num, by rw [Crc.step, if_pos ho]; rfl, Crc.step_lt hz, by rw [HS2.out, show 8 - j = 8 - (j + 1) + 1 by omega]; rfl⟩
            case measure => simp [intOf]; omega
          · have h2 : (((z : Int) % 2) == 1) = false := by rw [beq_eq_false_iff_ne]; omega
            clear hz2
            go_wp2_with fail
            go_round
            case rel => exact ⟨j + 1, Crc.step z, by omega, by go_num, by rw [Crc.step, if_neg ho]; go_num, Crc.step_lt hz, by rw [HS2.out, show 8 - j = 8 - (j + 1) + 1 by omega]; rfl⟩
            case measure => simp [intOf]; omega
        · obtain rfl : j = 8 := by omega
          go_wp2_with fail
          go_round
          case rel => exact ⟨k + 1, z, by omega, by go_num, rfl, hz, by rw [HX.out, HS2.out]; rfl⟩
          case measure => simp [intOf]; omega
    · obtain rfl : k = bs.length := by omega
      have HE : Hid (Crc.run x bs = m) := by show Crc.run x bs = m; rw [HS.out, List.drop_eq_nil_of_le (Nat.le_refl _)]; rfl
      go_wp2_with fail
      go_ret
      exact ⟨by rw [HE.out]; rfl, rfl⟩

set_option maxRecDepth 100000 in
theorem refSum_any (A : Option Addr) (bs : List Nat) (c : Nat) (w : World) (hbs : Bys w w.heap.size A bs) (hm : bs.length ≤ 9223372036854775807) :
    Calls Try.prog 49 #[.slice A bs.length c] w fun e w' => e = .returned (.int .u32 (Crc.sum bs : Nat)) ∧ w = w' := by
  have hr := Crc.run_lt bs (w := 4294967295) (by omega) hbs.1
  have hsub : (4294967295 : Int) - (Crc.run 4294967295 bs : Nat) = (Crc.sum bs : Nat) := by unfold Crc.sum; omega
  have hc := run_any 4294967295 A bs c w (by omega) hbs hm
  have HS := Lib.hid hsub
  have HC := Lib.hid hc
  clear hsub hc
  go_enter Try.func49, Try.ntmps49
  go_wp2_with fail
  refine HC.out.mono ?_
  rintro e w1 ⟨rfl, rfl⟩
  go_wp2_with fail
  go_ret
  exact ⟨by rw [← HS.out]; rfl, rfl⟩
end Go.Proofs.Ytdoidfnfhidgdaa
