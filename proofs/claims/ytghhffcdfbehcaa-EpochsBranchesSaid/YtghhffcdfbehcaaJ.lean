import Derived.Test.YtghhffcdfbehcaaH
namespace Go.Proofs.Ytghhffcdfbehcaa
open Go.RowKit

theorem below_drewN {B : Nat} {a w : World} (h : Below B a w) (n : Nat) : Below B a (w.drewN n) := ⟨h.os, h.tape, h.output, h.size, h.block⟩

/-- the epoch ahead of entry k -/
def ahead (l : List Ent) : Nat → Int
  | 0 => 1
  | k + 1 => (l[k]?.map Ent.epoch).getD 0

theorem ahead_pos {l : List Ent} {k : Nat} (h : k < l.length) : ahead l (k + 1) = l[k].epoch := by simp [ahead, h]

set_option maxRecDepth 100000 in
set_option maxHeartbeats 2000000 in
theorem refMay_any (A : Option Addr) (l : List Ent) (c : Nat) (w : World) (hl : Ents w w.heap.size A l) (hm : l.length ≤ 9223372036854775807) :
    Calls Try.prog 17 #[.slice A l.length c] w fun e w' => e = .returned (.bool (may l)) ∧ Below w.heap.size w w' := by
  go_enter Try.func17, Try.ntmps17
  go_wp2_with fail
  go_loopw [3] (fun i wr => ∃ k : Nat, k ≤ l.length ∧ i = .int .i64 k ∧ mayFrom 1 l = mayFrom (ahead l k) (l.drop k) ∧ 1 ≤ ahead l k ∧ Below w.heap.size w wr) (fun i _ => l.length - (intOf i).toNat)
  case atStart => exact ⟨0, Nat.zero_le _, rfl, by simp [ahead], by simp [ahead], Below.refl _ _⟩
  case round =>
    obtain ⟨k, hk, rfl, hf, ha1, hb⟩ := hrel
    have HF := Lib.hid hf
    clear hf
    by_cases hlt : k < l.length
    · obtain ⟨b, off, rfl, hbB, he⟩ := (hl.below hb (Nat.le_refl _)).at_ hlt
      obtain ⟨h0, _, _, _, _, _⟩ := he
      by_cases t1 : l[k].epoch < 1
      · have d1 : decide (l[k].epoch < 1) = true := by simpa using t1
        go_wp2_with fail
        go_quiet (fail)
        go_wp2_with fail
        go_ret
        exact ⟨by rw [may, HF.out, mayFrom_no hlt (.inl (by omega))]; rfl, below_drewN hb _⟩
      · have d1 : decide (l[k].epoch < 1) = false := by simpa using t1
        by_cases t2 : 2147483647 < l[k].epoch
        · have d2 : decide (2147483647 < l[k].epoch) = true := by simpa using t2
          go_wp2_with fail
          go_quiet (fail)
          go_wp2_with fail
          go_ret
          exact ⟨by rw [may, HF.out, mayFrom_no hlt (.inr t2)]; rfl, below_drewN hb _⟩
        · have d2 : decide (2147483647 < l[k].epoch) = false := by simpa using t2
          by_cases hk0 : k = 0
          · have d3 : decide (0 < k) = false := by simp; omega
            have HA : Hid (ahead l k = 1) := by show ahead l k = 1; rw [hk0]; rfl
            clear hk0
            go_wp2_with fail
            go_quiet (fail)
            go_wp2_with fail
            go_roundw
            case rel =>
              refine ⟨k + 1, by omega, by go_num, ?_, by rw [ahead_pos hlt]; omega, below_drewN hb _⟩
              rw [HF.out, mayFrom_yes hlt (by rw [HA.out]; omega) (by omega), ahead_pos hlt]
            case measure => simp [intOf]; omega
          · have hkp : 0 < k := by omega
            have d3 : decide (0 < k) = true := by simpa using hkp
            have hlt1 : k - 1 < l.length := by omega
            obtain ⟨b', off', hA', _, he'⟩ := (hl.below hb (Nat.le_refl _)).at_ hlt1
            cases hA'
            have h1 := he'.c0
            have HA : Hid (ahead l k = l[k - 1].epoch) := by
              show ahead l k = _
              obtain ⟨j, rfl⟩ : ∃ j, k = j + 1 := ⟨k - 1, by omega⟩
              exact ahead_pos hlt1
            clear hk0 he'
            by_cases t3 : l[k].epoch < l[k - 1].epoch
            · have d4 : decide (l[k].epoch < l[k - 1].epoch) = true := by simpa using t3
              go_wp2_with fail
              go_quiet (fail)
              go_wp2_with fail
              go_ret
              exact ⟨by rw [may, HF.out, mayFrom_no hlt (.inl (by rw [HA.out]; exact t3))]; rfl, below_drewN hb _⟩
            · have d4 : decide (l[k].epoch < l[k - 1].epoch) = false := by simpa using t3
              go_wp2_with fail
              go_quiet (fail)
              go_wp2_with fail
              go_roundw
              case rel =>
                refine ⟨k + 1, by omega, by go_num, ?_, by rw [ahead_pos hlt]; omega, below_drewN hb _⟩
                rw [HF.out, mayFrom_yes hlt (by rw [HA.out]; omega) (by omega), ahead_pos hlt]
              case measure => simp [intOf]; omega
    · obtain rfl : k = l.length := by omega
      have HM : Hid (may l = decide (l.length ≤ 4096)) := by
        show may l = _
        rw [may, HF.out, List.drop_eq_nil_of_le (Nat.le_refl _)]
        simp [mayFrom]
      go_wp2_with fail
      go_ret
      exact ⟨by rw [HM.out]; go_num, hb⟩
end Go.Proofs.Ytghhffcdfbehcaa
