import Derived.Test.YtdoidfnfhidgdaaV
namespace Go.Proofs.Ytdoidfnfhidgdaa
open Go.RowKit

/-- the number that bytes tell, from its byte i on; no: what is said where they end -/
def tk (no : Int) : Nat → Nat → List Nat → Except Int (Nat × List Nat)
  | _, _, [] => .error no
  | i, n, y :: r => if 8 ≤ i ∧ 128 ≤ y then .error 121 else if 128 ≤ y then tk no (i + 1) (n + y % 128 * 128 ^ i) r else if i ≠ 0 ∧ y = 0 then .error 121 else .ok (n + y % 128 * 128 ^ i, r)

theorem pow7 (i : Nat) : (128 : Nat) ^ i = 2 ^ (7 * i) := by rw [Nat.pow_mul]
theorem pow_le8 {i : Nat} (hi : i ≤ 8) : (128 : Nat) ^ i ≤ 128 ^ 8 := Nat.pow_le_pow_right (by omega) hi
theorem or_join (n z i : Nat) (hn : n < 128 ^ i) (hz : z < 128) (hi : i ≤ 8) : bits .or .i64 (n : Int) ((z * 128 ^ i : Nat) : Int) = ((n + z * 128 ^ i : Nat) : Int) := by
  have h8 := pow_le8 hi
  have h8' : (128 : Nat) ^ 8 = 72057594037927936 := by decide
  rw [h8'] at h8
  have hp : 0 < 128 ^ i := Nat.pow_pos (by omega)
  have hzt : z * 128 ^ i ≤ 127 * 128 ^ i := Nat.mul_le_mul_right _ (by omega)
  have hj : n ||| z * 128 ^ i = n + z * 128 ^ i := by
    rw [pow7] at hn ⊢
    have := Nat.two_pow_add_eq_or_of_lt hn z
    rw [Nat.or_comm, Nat.mul_comm z, ← this, Nat.add_comm]
  have e64 : ∀ a : Nat, a < 18446744073709551616 → (BitVec.ofInt 64 (a : Int)).toNat = a := fun a ha => by rw [BitVec.ofInt_natCast, BitVec.toNat_ofNat]; exact Nat.mod_eq_of_lt (by omega)
  show IntKind.i64.wrap ((BitVec.ofInt 64 (n : Int) ||| BitVec.ofInt 64 ((z * 128 ^ i : Nat) : Int)).toNat : Int) = _
  rw [BitVec.toNat_or, e64 _ (by omega), e64 _ (by omega), hj, IntKind.wrap_i64]
  omega
theorem shl_join (z i : Nat) (hz : z < 128) (hi : i ≤ 8) : wrap64 ((z : Int) * 2 ^ (7 * i)) = ((z * 128 ^ i : Nat) : Int) := by
  have h8 := pow_le8 hi
  have h8' : (128 : Nat) ^ 8 = 72057594037927936 := by decide
  rw [h8'] at h8
  have hzt : z * 128 ^ i ≤ 127 * 128 ^ i := Nat.mul_le_mul_right _ (by omega)
  have e : (z : Int) * 2 ^ (7 * i) = ((z * 128 ^ i : Nat) : Int) := by rw [pow7]; push_cast; rfl
  rw [e]
  unfold wrap64
  omega
theorem and127 (y : Nat) (hy : y < 256) : bits .and .u8 (y : Int) 127 = ((y % 128 : Nat) : Int) := by
  have h := u8_and_nat y 127 hy (by omega)
  rw [show ((127 : Nat) : Int) = 127 from rfl] at h
  rw [h, show (127 : Nat) = 2 ^ 7 - 1 from rfl, Nat.and_two_pow_sub_one_eq_mod]
theorem next_lt (n z i : Nat) (hn : n < 128 ^ i) (hz : z < 128) : n + z * 128 ^ i < 128 ^ (i + 1) := by
  have : z * 128 ^ i ≤ 127 * 128 ^ i := Nat.mul_le_mul_right _ (by omega)
  rw [Nat.pow_succ]
  omega

def TakeRes (w : World) (L : Nat) (t : Except Int (Nat × List Nat)) (x : Ending) (w' : World) : Prop :=
  (match t with
  | .ok p => x = .returned (.int .i64 (p.1 : Nat)) ∧ Left w' L p.2
  | .error e => x = upP e) ∧ w.grownBy w' (some L)

abbrev nextV (P1 P2 : Nat) : Value := .func (.func 78) #[] #[.pointer (some ⟨P1, 0, none⟩), .pointer (some ⟨P2, 0, none⟩)]

theorem cell_lt {w : World} {b o : Nat} {v : Value} (h : w.cell? ⟨b, o, none⟩ = some v) : b < w.heap.size := block_lt_of_cell h

set_option maxRecDepth 100000 in
set_option maxHeartbeats 4000000 in
theorem take_any (w : World) (P1 P2 L : Nat) (no : Int) (bs : List Nat) (h1 : w.cell? ⟨P1, 0, none⟩ = some (.pointer (some ⟨L, 0, none⟩))) (h2 : w.cell? ⟨P2, 0, none⟩ = some (.int .i64 no)) (n1 : P1 ≠ L) (n2 : P2 ≠ L) (hL : Left w L bs) (hm : bs.length ≤ 9223372036854775807) :
    Calls Try.prog 51 #[nextV P1 P2] w (TakeRes w L (tk no 0 0 bs)) := by
  have HC1 : Hid (∀ w', w.grownBy w' (some L) → w'.cell? ⟨P1, 0, none⟩ = some (.pointer (some ⟨L, 0, none⟩))) := fun w' h => (h.cell_far ⟨P1, 0, none⟩ (cell_lt h1) (by intro e; injection e with e; exact n1 e)).trans h1
  have HC2 : Hid (∀ w', w.grownBy w' (some L) → w'.cell? ⟨P2, 0, none⟩ = some (.int .i64 no)) := fun w' h => (h.cell_far ⟨P2, 0, none⟩ (cell_lt h2) (by intro e; injection e with e; exact n2 e)).trans h2
  clear h1 h2 n1 n2
  obtain ⟨T, hT⟩ : ∃ T, tk no 0 0 bs = T := ⟨_, rfl⟩
  rw [hT]
  have HT := Lib.hid hT
  clear hT
  unfold nextV
  go_enter Try.func51, Try.ntmps51
  go_wp2_with fail
  go_loopw [3, 4] (fun nn ii wr => ∃ (i n : Nat) (bs' : List Nat), i ≤ 8 ∧ ii = .int .i64 i ∧ nn = .int .i64 n ∧ Hid (n < 128 ^ i) ∧ Hid (T = tk no i n bs') ∧ Left wr L bs' ∧ bs'.length ≤ 9223372036854775807 ∧ w.grownBy wr (some L))
    (fun _ ii _ => 9 - (intOf ii).toNat)
  case atStart => exact ⟨0, 0, bs, by omega, rfl, rfl, Lib.hid (by simp), Lib.hid HT.out.symm, hL, hm, World.grownBy.refl _ _⟩
  case round =>
    obtain ⟨i, n, bs', hi, rfl, rfl, HNB, HTi, hLr, hmr, hg⟩ := hrel
    have HQ := HC1.out wr hg
    have HQ2 := HC2.out wr hg
    rcases bs' with _ | ⟨y, r⟩
    · have hq := Lib.hid (next_no wr P1 P2 L no HQ HQ2 hLr)
      clear HQ HQ2 hLr
      go_wp2_with fail
      refine hq.out.mono ?_
      rintro x w2 ⟨rfl, hg2⟩
      go_wp2_with fail
      refine ⟨rfl, ?_⟩
      unfold TakeRes
      rw [HTi.out, tk]
      exact ⟨rfl, hg.trans hg2⟩
    · have hyb : y < 256 := by obtain ⟨_, _, _, _, hb, _⟩ := hLr; exact hb.1 y (by simp)
      have hq := Lib.hid (next_yes wr P1 P2 L no y r HQ HQ2 hLr hmr)
      have hmr2 : r.length ≤ 9223372036854775807 := by rw [List.length_cons] at hmr; omega
      clear HQ HQ2 hLr hmr
      obtain ⟨z, hz⟩ : ∃ z, y % 128 = z := ⟨_, rfl⟩
      have hz128 : z < 128 := by omega
      have hand := and127 y hyb
      rw [hz] at hand
      obtain ⟨t, ht⟩ : ∃ t, z * 128 ^ i = t := ⟨_, rfl⟩
      obtain ⟨m, hmm⟩ : ∃ m, n + t = m := ⟨_, rfl⟩
      have hshl := shl_join z i hz128 hi
      have hor := or_join n z i HNB.out hz128 hi
      rw [ht] at hshl hor
      rw [hmm] at hor
      have HLT : Hid (m < 128 ^ (i + 1)) := by have := next_lt n z i HNB.out hz128; rw [ht, hmm] at this; exact this
      have HM : Hid (n + y % 128 * 128 ^ i = m) := by show _ = _; rw [hz, ht, hmm]
      have HT0 := Lib.hid ht
      clear hz ht hmm
      by_cases hy : y < 128
      · by_cases hi0 : i = 0
        · subst hi0
          have HTR : Hid (T = .ok (m, r)) := by show _ = _; rw [HTi.out, tk, if_neg (by omega), if_neg (by omega), if_neg (by omega), HM.out]
          have e1 : z = t := by have := HT0.out; simpa using this
          subst e1
          clear hshl
          go_wp2_with fail
          refine hq.out.mono ?_
          rintro x w2 ⟨rfl, hL2, hg2⟩
          go_wp2_with fail
          refine (must_yes _ _).mono ?_
          rintro x w3 ⟨rfl, rfl⟩
          go_wp2_with fail
          refine (must_yes _ _).mono ?_
          rintro x w3 ⟨rfl, rfl⟩
          go_wp2_with fail
          go_ret
          unfold TakeRes
          rw [HTR.out]
          exact ⟨⟨rfl, hL2⟩, hg.trans hg2⟩
        · have hi0' : ((i : Int) == 0) = false := beq_eq_false_iff_ne.2 (by omega)
          by_cases hy0 : y = 0
          · subst hy0
            have HTR : Hid (T = .error 121) := by show _ = _; rw [HTi.out, tk, if_neg (by omega), if_neg (by omega), if_pos ⟨hi0, rfl⟩]
            by_cases hi8 : i < 8
            · have b1 : decide ((i : Int) < 8) = true := by rw [decide_eq_true_eq]; omega
              go_wp2_with fail
              refine hq.out.mono ?_
              rintro x w2 ⟨rfl, hL2, hg2⟩
              go_wp2_with fail
              refine (must_yes _ _).mono ?_
              rintro x w3 ⟨rfl, rfl⟩
              go_wp2_with fail
              refine (must_no _ _).mono ?_
              rintro x w3 ⟨rfl, rfl⟩
              go_wp2_with fail
              refine ⟨rfl, ?_⟩
              unfold TakeRes
              rw [HTR.out]
              exact ⟨rfl, hg.trans hg2⟩
            · have b1 : decide ((i : Int) < 8) = false := by rw [decide_eq_false_iff_not]; omega
              go_wp2_with fail
              refine hq.out.mono ?_
              rintro x w2 ⟨rfl, hL2, hg2⟩
              go_wp2_with fail
              refine (must_yes _ _).mono ?_
              rintro x w3 ⟨rfl, rfl⟩
              go_wp2_with fail
              refine (must_no _ _).mono ?_
              rintro x w3 ⟨rfl, rfl⟩
              go_wp2_with fail
              refine ⟨rfl, ?_⟩
              unfold TakeRes
              rw [HTR.out]
              exact ⟨rfl, hg.trans hg2⟩
          · have hy0' : ((y : Int) != 0) = true := by rw [bne_iff_ne]; omega
            have HTR : Hid (T = .ok (m, r)) := by show _ = _; rw [HTi.out, tk, if_neg (by omega), if_neg (by omega), if_neg (by omega), HM.out]
            have b2 : decide ((y : Int) < 128) = true := by rw [decide_eq_true_eq]; omega
            by_cases hi8 : i < 8
            · have b1 : decide ((i : Int) < 8) = true := by rw [decide_eq_true_eq]; omega
              go_wp2_with fail
              refine hq.out.mono ?_
              rintro x w2 ⟨rfl, hL2, hg2⟩
              go_wp2_with fail
              refine (must_yes _ _).mono ?_
              rintro x w3 ⟨rfl, rfl⟩
              go_wp2_with fail
              refine (must_yes _ _).mono ?_
              rintro x w3 ⟨rfl, rfl⟩
              go_wp2_with fail
              go_ret
              unfold TakeRes
              rw [HTR.out]
              exact ⟨⟨rfl, hL2⟩, hg.trans hg2⟩
            · have b1 : decide ((i : Int) < 8) = false := by rw [decide_eq_false_iff_not]; omega
              go_wp2_with fail
              refine hq.out.mono ?_
              rintro x w2 ⟨rfl, hL2, hg2⟩
              go_wp2_with fail
              refine (must_yes _ _).mono ?_
              rintro x w3 ⟨rfl, rfl⟩
              go_wp2_with fail
              refine (must_yes _ _).mono ?_
              rintro x w3 ⟨rfl, rfl⟩
              go_wp2_with fail
              go_ret
              unfold TakeRes
              rw [HTR.out]
              exact ⟨⟨rfl, hL2⟩, hg.trans hg2⟩
      · by_cases hi8 : i < 8
        · have HTR : Hid (T = tk no (i + 1) m r) := by show _ = _; rw [HTi.out, tk, if_neg (by omega), if_pos (by omega), HM.out]
          go_wp2_with fail
          refine hq.out.mono ?_
          rintro x w2 ⟨rfl, hL2, hg2⟩
          go_wp2_with fail
          refine (must_yes _ _).mono ?_
          rintro x w3 ⟨rfl, rfl⟩
          go_wp2_with fail
          go_roundw
          case rel => exact ⟨i + 1, m, r, by omega, by go_num, rfl, HLT, HTR, hL2, hmr2, hg.trans hg2⟩
          case measure => simp [intOf]; omega
        · have HTR : Hid (T = .error 121) := by show _ = _; rw [HTi.out, tk, if_pos (by omega)]
          have b1 : decide ((i : Int) < 8) = false := by rw [decide_eq_false_iff_not]; omega
          clear hshl hor
          have b2 : decide ((y : Int) < 128) = false := by rw [decide_eq_false_iff_not]; omega
          go_wp2_with fail
          refine hq.out.mono ?_
          rintro x w2 ⟨rfl, hL2, hg2⟩
          go_wp2_with fail
          refine (must_no _ _).mono ?_
          rintro x w3 ⟨rfl, rfl⟩
          go_wp2_with fail
          refine ⟨rfl, ?_⟩
          unfold TakeRes
          rw [HTR.out]
          exact ⟨rfl, hg.trans hg2⟩
end Go.Proofs.Ytdoidfnfhidgdaa
