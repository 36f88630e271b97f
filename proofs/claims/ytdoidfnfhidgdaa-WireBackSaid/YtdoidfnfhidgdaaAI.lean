import Derived.Test.YtdoidfnfhidgdaaAH
import Derived.OwnWalk
namespace Go.Proofs.Ytdoidfnfhidgdaa
open Go.RowKit

theorem tk_bound (no : Int) : ∀ (bs : List Nat) (i n m : Nat) (r : List Nat), i ≤ 8 → n < 128 ^ i → tk no i n bs = .ok (m, r) → m < 9223372036854775808
  | [], i, n, m, r, _, _, h => by simp [tk] at h
  | y :: t, i, n, m, r, hi, hn, h => by
    have h1 := next_lt n (y % 128) i hn (by omega)
    rw [tk] at h
    split at h
    · cases h
    · next h2 =>
      split at h
      · next h3 => exact tk_bound no t _ _ _ _ (by omega) h1 h
      · split at h
        · cases h
        · cases h
          have h9 : (128 : Nat) ^ (i + 1) ≤ 128 ^ 9 := Nat.pow_le_pow_right (by omega) (by omega)
          have h9' : (128 : Nat) ^ 9 = 9223372036854775808 := by decide
          omega

theorem takeN_nat (bs : List Nat) : ∃ m : Nat, takeN bs = (m : Int) ∧ m < 9223372036854775808 := by
  unfold takeN
  cases h : tk 120 0 0 bs with
  | error e => exact ⟨0, rfl, by omega⟩
  | ok p => exact ⟨p.1, rfl, tk_bound 120 bs 0 0 p.1 p.2 (by omega) (by simp) h⟩

/-- what a taking answers -/
def tkV (L : Nat) (t : Except Int (Nat × List Nat)) : Value :=
  match t with
  | .ok p => .tuple #[.int .i64 (p.1 : Nat), .int .i64 ((L : Int) - (p.2.length : Int)), .int .i64 0]
  | .error e => .tuple #[.int .i64 0, .int .i64 0, .int .i64 e]
theorem tkV_take (bs : List Nat) : tkV bs.length (tk 120 0 0 bs) = .tuple #[.int .i64 (takeN bs), .int .i64 (takeK bs), .int .i64 (takeE bs)] := by
  unfold tkV takeN takeK takeE
  cases tk 120 0 0 bs <;> rfl

set_option maxRecDepth 100000 in
set_option maxHeartbeats 4000000 in
theorem refTake_any (A : Option Addr) (bs : List Nat) (c : Nat) (w : World) (hb : Bys w w.heap.size A bs) (hm : bs.length ≤ 1099511627776) :
    Calls Try.prog 27 #[.slice A bs.length c] w fun x w' => x = .returned (.tuple #[.int .i64 (takeN bs), .int .i64 (takeK bs), .int .i64 (takeE bs)]) ∧ w = w' := by
  rw [← tkV_take]
  obtain ⟨T, hT⟩ : ∃ T, tk 120 0 0 bs = T := ⟨_, rfl⟩
  rw [hT]
  have HT := Lib.hid hT
  have HB := Lib.hid hb
  clear hT hb
  go_enter Try.func27, Try.ntmps27
  go_wp2_with fail
  go_loop [5, 6, 7] (fun nn uu ii => ∃ (i n u : Nat), i ≤ 8 ∧ i ≤ bs.length ∧ ii = .int .i64 i ∧ nn = .int .i64 n ∧ uu = .int .i64 u ∧ u ≤ 72057594037927936 ∧ Hid (u = 128 ^ i) ∧ Hid (n < 128 ^ i) ∧ Hid (T = tk 120 i n (bs.drop i)))
    (fun _ _ ii => 9 - (intOf ii).toNat)
  case atStart => exact ⟨0, 0, 1, by omega, by omega, rfl, rfl, rfl, by omega, Lib.hid rfl, Lib.hid (by simp), Lib.hid HT.out.symm⟩
  case round =>
    obtain ⟨i, n, u, hi, hil, rfl, rfl, rfl, hu, HU, HN, HTi⟩ := hrel
    by_cases hlt : i < bs.length
    · obtain ⟨b, off, rfl, _, hc⟩ := HB.out.at_ hlt
      have hcl : bs[i] < 256 := HB.out.1 _ (List.getElem_mem hlt)
      have HTd : Hid (T = tk 120 i n (bs[i] :: bs.drop (i + 1))) := by show _ = _; rw [HTi.out, List.drop_eq_getElem_cons hlt]
      clear HTi
      obtain ⟨y, hy⟩ : ∃ y, bs[i] = y := ⟨_, rfl⟩
      rw [hy] at hc hcl HTd
      have HR : Hid (((bs.drop (i + 1)).length : Int) = (bs.length : Int) - (i : Int) - 1) := by show _ = _; rw [List.length_drop]; omega
      clear hy
      obtain ⟨t, ht⟩ : ∃ t, y % 128 * 128 ^ i = t := ⟨_, rfl⟩
      have hlt9 := next_lt n (y % 128) i HN.out (by omega)
      rw [ht] at hlt9
      have h9 : (128 : Nat) ^ (i + 1) ≤ 128 ^ 9 := Nat.pow_le_pow_right (by omega) (by omega)
      have h9' : (128 : Nat) ^ 9 = 9223372036854775808 := by decide
      rw [h9'] at h9
      have hnt : n + t < 9223372036854775808 := by omega
      have hmul : wrap64 ((y : Int) % 128 * (u : Int)) = (t : Int) := by
        have e : (y : Int) % 128 * (u : Int) = (t : Int) := by rw [HU.out, ← ht]; push_cast; rfl
        rw [e]; unfold wrap64; omega
      have HLT := Lib.hid hlt9
      have HT2 := Lib.hid ht
      clear ht hlt9 h9 h9'
      have hmulc : wrap64 ((n : Int) + (t : Int)) = (n : Int) + (t : Int) := by unfold wrap64; omega
      rcases Nat.lt_or_ge y 128 with hy8 | hy8
      · have b1 : decide ((y : Int) < 128) = true := by rw [decide_eq_true_eq]; omega
        have b2 : decide ((128 : Int) ≤ (y : Int)) = false := by rw [decide_eq_false_iff_not]; omega
        have b3 : decide ((y : Int) ≥ 128) = false := b2
        by_cases hi0 : i = 0
        · subst hi0
          have hc0 := hc
          rw [Nat.add_zero] at hc0
          have HTR : Hid (T = .ok (n + t, bs.drop (0 + 1))) := by show _ = _; rw [HTd.out, tk, if_neg (by omega), if_neg (by omega), if_neg (by omega), HT2.out]
          go_wp2_with fail
          go_ret3
          exact ⟨by rw [HTR.out]; unfold tkV; simp only [HR.out]; go_num, rfl⟩
        · have b0 : decide ((i : Int) > 0) = true := by rw [decide_eq_true_eq]; omega
          have b00 : decide ((0 : Int) < (i : Int)) = true := b0
          by_cases hy0 : y = 0
          · have HTR : Hid (T = .error 121) := by show _ = _; rw [HTd.out, tk, if_neg (by omega), if_neg (by omega), if_pos ⟨hi0, hy0⟩]
            have b4 : ((y : Int) == 0) = true := by rw [beq_iff_eq]; omega
            by_cases hi8 : i = 8
            · subst hi8
              go_wp2_with fail
              go_ret3
              exact ⟨by rw [HTR.out]; rfl, rfl⟩
            · have b5 : ((i : Int) == 8) = false := beq_eq_false_iff_ne.2 (by omega)
              go_wp2_with fail
              go_ret3
              exact ⟨by rw [HTR.out]; rfl, rfl⟩
          · have HTR : Hid (T = .ok (n + t, bs.drop (i + 1))) := by show _ = _; rw [HTd.out, tk, if_neg (by omega), if_neg (by omega), if_neg (by omega), HT2.out]
            have b4 : ((y : Int) == 0) = false := beq_eq_false_iff_ne.2 (by omega)
            by_cases hi8 : i = 8
            · subst hi8
              go_wp2_with fail
              go_ret3
              exact ⟨by rw [HTR.out]; unfold tkV; simp only [HR.out]; go_num, rfl⟩
            · have b5 : ((i : Int) == 8) = false := beq_eq_false_iff_ne.2 (by omega)
              go_wp2_with fail
              go_ret3
              exact ⟨by rw [HTR.out]; unfold tkV; simp only [HR.out]; go_num, rfl⟩
      · have b1 : decide ((y : Int) < 128) = false := by rw [decide_eq_false_iff_not]; omega
        have b2 : decide ((128 : Int) ≤ (y : Int)) = true := by rw [decide_eq_true_eq]; omega
        have b3 : decide ((y : Int) ≥ 128) = true := b2
        by_cases hi8 : i = 8
        · have HTR : Hid (T = .error 121) := by show _ = _; rw [HTd.out, tk, if_pos (by omega)]
          subst hi8
          go_wp2_with fail
          go_ret3
          exact ⟨by rw [HTR.out]; rfl, rfl⟩
        · have HTR : Hid (T = tk 120 (i + 1) (n + t) (bs.drop (i + 1))) := by show _ = _; rw [HTd.out, tk, if_neg (by omega), if_pos (by omega), HT2.out]
          have b5 : ((i : Int) == 8) = false := beq_eq_false_iff_ne.2 (by omega)
          have hu7 : u ≤ 562949953421312 := by
            rw [HU.out]
            have h7 : (128 : Nat) ^ i ≤ 128 ^ 7 := Nat.pow_le_pow_right (by omega) (by omega)
            have h7' : (128 : Nat) ^ 7 = 562949953421312 := by decide
            omega
          have HUn : Hid (u * 128 = 128 ^ (i + 1)) := by show _ = _; rw [HU.out, Nat.pow_succ]
          go_wp2_with fail
          go_round
          case rel => exact ⟨i + 1, n + t, u * 128, by omega, by omega, by go_num, by go_num, by go_num, by omega, HUn, HLT, HTR⟩
          case measure => simp [intOf]; omega
    · obtain rfl : i = bs.length := by omega
      have HTR : Hid (T = .error 120) := by show _ = _; rw [HTi.out, List.drop_eq_nil_of_le (Nat.le_refl _), tk]
      go_wp2_with fail
      go_ret3
      exact ⟨by rw [HTR.out]; rfl, rfl⟩

set_option maxRecDepth 100000 in
theorem takeSigned_any (A : Option Addr) (bs : List Nat) (c : Nat) (w : World) (hb : Bys w w.heap.size A bs) (hc : bs.length ≤ c) (hm : bs.length ≤ 9223372036854775807) :
    Calls Try.prog 28 #[.slice A bs.length c] w fun x w' => x = .returned (.tuple #[.int .i64 (unz (takeN bs).toNat), .int .i64 (takeK bs), .int .i64 (takeE bs)]) ∧ Below w.heap.size w w' := by
  have HQ := Lib.hid (Take_any A bs c w hb hc hm)
  obtain ⟨m, hm1, hm2⟩ := takeN_nat bs
  rw [hm1] at HQ ⊢
  rw [Int.toNat_natCast]
  clear hb hc hm1
  go_enter Try.func28, Try.ntmps28
  go_wp2_with fail
  refine HQ.out.mono ?_
  rintro x w1 ⟨rfl, hb1⟩
  go_wp2_with fail
  refine (unsigned_any m hm2 _).mono ?_
  rintro x w2 ⟨rfl, rfl⟩
  go_wp2_with fail
  go_ret3
  exact ⟨rfl, hb1⟩

theorem takeE_ok (bs : List Nat) (h : takeE bs ≠ 0) : takeN bs = 0 ∧ takeK bs = 0 := by
  unfold takeE at h
  unfold takeN takeK
  cases ht : tk 120 0 0 bs with
  | ok p => rw [ht] at h; exact absurd rfl h
  | error e => exact ⟨rfl, rfl⟩

set_option maxRecDepth 100000 in
theorem refTakeSigned_any (A : Option Addr) (bs : List Nat) (c : Nat) (w : World) (hb : Bys w w.heap.size A bs) (hm : bs.length ≤ 1099511627776) :
    Calls Try.prog 29 #[.slice A bs.length c] w fun x w' => x = .returned (.tuple #[.int .i64 (unz (takeN bs).toNat), .int .i64 (takeK bs), .int .i64 (takeE bs)]) ∧ w = w' := by
  have HQ := Lib.hid (refTake_any A bs c w hb hm)
  have hE := takeE_ok bs
  obtain ⟨m, hm1, hm2⟩ := takeN_nat bs
  rw [hm1] at HQ hE ⊢
  rw [Int.toNat_natCast]
  obtain ⟨k, hk⟩ : ∃ k, takeK bs = k := ⟨_, rfl⟩
  obtain ⟨e, he⟩ : ∃ e, takeE bs = e := ⟨_, rfl⟩
  rw [hk, he] at HQ hE ⊢
  clear hb hm1 hk he
  by_cases he0 : e = 0
  · subst he0
    clear hE
    rcases Nat.mod_two_eq_zero_or_one m with h2 | h2
    · have HR : Hid (unz m = (m : Int) / 2) := by show _ = _; unfold unz; rw [if_neg (by omega)]; omega
      have b1 : ((m : Int) % 2 == 1) = false := beq_eq_false_iff_ne.2 (by omega)
      go_enter Try.func29, Try.ntmps29
      go_wp2_with fail
      refine HQ.out.mono ?_
      rintro x w1 ⟨rfl, rfl⟩
      go_wp2_with fail
      go_ret3
      exact ⟨by rw [HR.out]; rfl, rfl⟩
    · have HR : Hid (unz m = -((m : Int) / 2) - 1) := by show _ = _; unfold unz; rw [if_pos h2]; omega
      have b1 : ((m : Int) % 2 == 1) = true := by rw [beq_iff_eq]; omega
      go_enter Try.func29, Try.ntmps29
      go_wp2_with fail
      refine HQ.out.mono ?_
      rintro x w1 ⟨rfl, rfl⟩
      go_wp2_with fail
      go_ret3
      exact ⟨by rw [HR.out]; rfl, rfl⟩
  · obtain ⟨h0, rfl⟩ := hE he0
    obtain rfl : m = 0 := by omega
    have b1 : (e != 0) = true := by rw [bne_iff_ne]; exact he0
    go_enter Try.func29, Try.ntmps29
    go_wp2_with fail
    refine HQ.out.mono ?_
    rintro x w1 ⟨rfl, rfl⟩
    go_wp2_with fail
    go_ret3
    exact ⟨rfl, rfl⟩
end Go.Proofs.Ytdoidfnfhidgdaa
