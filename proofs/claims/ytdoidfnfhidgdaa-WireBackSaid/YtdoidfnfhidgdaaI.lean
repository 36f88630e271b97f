import Derived.Test.YtdoidfnfhidgdaaF
namespace Go.Proofs.Ytdoidfnfhidgdaa
open Go.RowKit

set_option maxRecDepth 100000 in
theorem eq_of_drop {a b : List Nat} (hl : a.length = b.length) {k : Nat} (hk : k < a.length) (hpre : a.take k = b.take k) (he : a[k] = b[k]'(by omega)) : a.take (k + 1) = b.take (k + 1) := by
  rw [List.take_succ_eq_append_getElem hk, List.take_succ_eq_append_getElem (by omega), hpre, he]

set_option maxRecDepth 100000 in
theorem below_drewN {B : Nat} {a w : World} (h : Below B a w) (n : Nat) : Below B a (w.drewN n) := ⟨h.os, h.tape, h.output, h.size, h.block⟩

set_option maxRecDepth 100000 in
set_option maxHeartbeats 1000000 in
/-- slices.Equal -/
theorem Equal_any (A1 A2 : Option Addr) (a b : List Nat) (c1 c2 : Nat) (w : World) (ha : Bys w w.heap.size A1 a) (hb : Bys w w.heap.size A2 b) (hm : a.length ≤ 9223372036854775807) (hm2 : b.length ≤ 9223372036854775807) :
    Calls Try.prog 74 #[.slice A1 a.length c1, .slice A2 b.length c2] w fun e w' => e = .returned (.bool (decide (a = b))) ∧ Below w.heap.size w w' := by
  by_cases hl : a.length = b.length
  · have hne : ((a.length : Int) != (b.length : Int)) = false := by rw [hl]; exact bne_self_eq_false _
    have HL := Lib.hid hl
    clear hl
    go_enter Try.func74, Try.ntmps74
    go_wp2_with fail
    go_loopw [13] (fun i wr => ∃ k : Nat, k ≤ a.length ∧ i = .int .i64 k ∧ a.take k = b.take k ∧ Below w.heap.size w wr) (fun i _ => a.length - (intOf i).toNat)
    case atStart => exact ⟨0, Nat.zero_le _, rfl, rfl, Below.refl _ _⟩
    case round =>
      obtain ⟨k, hk, rfl, hpre, hbl⟩ := hrel
      have HP := Lib.hid hpre
      clear hpre
      by_cases hlt : k < a.length
      · have hl := HL.out
        have hlt2 : k < b.length := by omega
        obtain ⟨b1, o1, rfl, _, hc1⟩ := (ha.below hbl (Nat.le_refl _)).at_ hlt
        obtain ⟨b2, o2, rfl, _, hc2⟩ := (hb.below hbl (Nat.le_refl _)).at_ hlt2
        clear hl
        by_cases he : a[k] = b[k]
        · have HE := Lib.hid he
          have hd : ((a[k] : Int) != (b[k] : Int)) = false := by rw [he]; exact bne_self_eq_false _
          clear he
          go_wp2_with fail
          go_quiet (fail)
          go_wp2_with fail
          go_roundw
          case rel => exact ⟨k + 1, by omega, by go_num, eq_of_drop HL.out hlt HP.out HE.out, below_drewN hbl _⟩
          case measure => simp [intOf]; omega
        · have hd : ((a[k] : Int) != (b[k] : Int)) = true := by rw [bne_iff_ne]; omega
          have HD : Hid (decide (a = b) = false) := by
            show _ = _
            rw [decide_eq_false_iff_not]
            intro e
            subst e
            exact he rfl
          clear he
          go_wp2_with fail
          go_quiet (fail)
          go_wp2_with fail
          go_ret
          exact ⟨by rw [HD.out]; rfl, below_drewN hbl _⟩
      · obtain rfl : k = a.length := by omega
        have HD : Hid (decide (a = b) = true) := by
          show _ = _
          rw [decide_eq_true_iff]
          have h1 := HP.out
          rw [List.take_length, HL.out, List.take_length] at h1
          exact h1
        go_wp2_with fail
        go_ret
        exact ⟨by rw [HD.out]; rfl, hbl⟩
  · have hne : ((a.length : Int) != (b.length : Int)) = true := by rw [bne_iff_ne]; omega
    have HD : Hid (decide (a = b) = false) := by
      show _ = _
      rw [decide_eq_false_iff_not]
      intro e
      exact hl (by rw [e])
    clear hl
    go_enter Try.func74, Try.ntmps74
    go_wp2_with fail
    go_ret
    exact ⟨by rw [HD.out]; rfl, Below.refl _ _⟩
end Go.Proofs.Ytdoidfnfhidgdaa
