import Derived.Test.YtdoidfnfhidgdaaAM
import Derived.Test.YtdoidfnfhidgdaaAH
import Derived.Test.YtdoidfnfhidgdaaAK
namespace Go.Proofs.Ytdoidfnfhidgdaa
open Go.RowKit

theorem rdE_err (e : Ent) (bs : List Nat) (j : Nat) (x : Int) (h : rdE e bs j = .error x) : x = 121 := by
  unfold rdE at h
  split at h
  · split at h
    · injection h with h; exact h.symm
    · cases h
  · split at h
    · cases h
    · next y hy => injection h with h; subst h; exact tk_err bs 0 0 _ hy
  · split at h
    · injection h with h; exact h.symm
    · cases h
  all_goals (split at h; (cases h); (next y hy => injection h with h; subst h; exact tk_err bs 0 0 _ hy))
theorem rdN_err (bs : List Nat) : ∀ (j : Nat) (x : Int), rdN bs j = .error x → x = 121
  | 0, x, h => by cases h
  | j + 1, x, h => by
    rw [rdN] at h
    split at h
    · next p hp =>
      rw [rdS] at h
      split at h
      · exact rdE_err _ _ _ _ h
      · cases h
    · next y hy => injection h with h; subst h; exact rdN_err bs j _ hy
theorem rdB_err (bs : List Nat) (x : Int) (h : rdB bs = .error x) : x = 121 := by
  rw [rdB] at h
  split at h
  · split at h
    · cases h
    · injection h with h; exact h.symm
  · next y hy => injection h with h; subst h; exact rdN_err bs 6 _ hy

theorem tk_one (n : Nat) (r : List Nat) (h : n < 9223372036854775808) : tk 121 0 0 (numB n ++ r) = .ok (n, r) := by
  have := tk_num 121 n 0 0 r (by have := numB_len 8 n (by omega); omega) (fun h => absurd rfl h)
  simpa using this
theorem bodyE_eq (e : Ent) : bodyE e = e.kind.toNat :: (numB e.epoch.toNat ++ ((e.id + 1).toNat :: ((if 0 ≤ e.id then numB e.num.toNat else []) ++ ((if e.kind = 1 ∧ 0 ≤ e.id then numB e.seq.toNat else []) ++ (if e.kind = 1 then numB (zig e.value) else []))))) := by
  simp [bodyE, bodyN, pt, List.range_succ]
/-- the body of an entry that may be is read as that entry -/
theorem rd_body (e : Ent) (h : Right e) : rdB (bodyE e) = .ok e := by
  have hR := h
  obtain ⟨⟨a1, a2⟩, ⟨b1, b2⟩, hk, ⟨s1, s2⟩, ⟨v1, v2⟩, h6, h7, h8⟩ := h
  obtain ⟨ep, id, nu, se, ki, va⟩ := e
  simp only at a1 a2 b1 b2 hk s1 s2 v1 v2 h6 h7 h8
  obtain ⟨B, hB⟩ : ∃ B, bodyE ⟨ep, id, nu, se, ki, va⟩ = B := ⟨_, rfl⟩
  rw [hB]
  rw [bodyE_eq] at hB
  simp only at hB
  have hzig : zig va < 9223372036854775808 := zig_lt ⟨by omega, by omega⟩
  have hva := unz_zig va
  obtain ⟨P5, hP5⟩ : ∃ P, (if ki = 1 then numB (zig va) else []) = P := ⟨_, rfl⟩
  obtain ⟨P4, hP4⟩ : ∃ P, (if ki = 1 ∧ 0 ≤ id then numB se.toNat else []) = P := ⟨_, rfl⟩
  obtain ⟨P3, hP3⟩ : ∃ P, (if 0 ≤ id then numB nu.toNat else []) = P := ⟨_, rfl⟩
  rw [hP3, hP4, hP5] at hB
  have r0 : rdN B 0 = .ok (zeroE, B) := rfl
  have r1 : rdN B 1 = .ok (⟨0, 0, 0, 0, ki, 0⟩, numB ep.toNat ++ ((id + 1).toNat :: (P3 ++ (P4 ++ P5)))) := by
    rw [rdN_e r0 rfl, ← hB]
    simp [rdE, zeroE]
    omega
  have r2 : rdN B 2 = .ok (⟨ep, 0, 0, 0, ki, 0⟩, (id + 1).toNat :: (P3 ++ (P4 ++ P5))) := by
    rw [rdN_e r1 rfl]
    simp only [rdE]
    rw [tk_one _ _ (by omega)]
    simp only [Int.toNat_of_nonneg (show 0 ≤ ep by omega)]
  have r3 : rdN B 3 = .ok (⟨ep, id, 0, 0, ki, 0⟩, P3 ++ (P4 ++ P5)) := by
    rw [rdN_e r2 rfl]
    simp only [rdE]
    rw [Int.toNat_of_nonneg (show 0 ≤ id + 1 by omega), show id + 1 - 1 = id by omega]
  have r4 : rdN B 4 = .ok (⟨ep, id, nu, 0, ki, 0⟩, P4 ++ P5) := by
    by_cases hi : 0 ≤ id
    · rw [if_pos hi] at hP3
      rw [rdN_e r3 (by simp [has, hi]), ← hP3]
      simp only [rdE]
      rw [tk_one _ _ (by have := h8 hi; omega)]
      simp only [Int.toNat_of_nonneg (show 0 ≤ nu by have := h8 hi; omega)]
    · rw [if_neg hi] at hP3
      rw [rdN_s r3 (by simp [has]; omega), ← hP3, (h7 (by omega)).1]
      rfl
  have r5 : rdN B 5 = .ok (⟨ep, id, nu, se, ki, 0⟩, P5) := by
    by_cases hi : ki = 1 ∧ 0 ≤ id
    · rw [if_pos hi] at hP4
      rw [rdN_e r4 (by simp [has, hi]), ← hP4]
      simp only [rdE]
      rw [tk_one _ _ (by omega)]
      simp only [Int.toNat_of_nonneg s1]
    · rw [if_neg hi] at hP4
      have hs0 : se = 0 := by
        by_cases h1 : ki = 1
        · exact (h7 (by omega)).2
        · exact (h6 h1).2.1
      rw [rdN_s r4 (by simp only [has]; rw [← Bool.not_eq_true, Bool.and_eq_true, beq_iff_eq, decide_eq_true_iff]; exact hi), ← hP4, hs0]
      rfl
  have r6 : rdN B 6 = .ok (⟨ep, id, nu, se, ki, va⟩, []) := by
    by_cases hi : ki = 1
    · rw [if_pos hi] at hP5
      rw [rdN_e r5 (by simp [has, hi]), ← hP5]
      simp only [rdE]
      have := tk_one (zig va) [] hzig
      rw [List.append_nil] at this
      rw [this]
      simp only [hva]
    · rw [if_neg hi] at hP5
      rw [rdN_s r5 (by simp [has, hi]), ← hP5, (h6 hi).2.2]
  rw [rdB, r6]
  show (if ([] : List Nat) = [] ∧ Right ⟨ep, id, nu, se, ki, va⟩ then Except.ok (⟨ep, id, nu, se, ki, va⟩ : Ent) else Except.error 121) = _
  rw [if_pos ⟨rfl, hR⟩]

theorem bodyE_len (e : Ent) (h : Right e) : 1 ≤ (bodyE e).length ∧ (bodyE e).length ≤ 35 := by
  have h1 := frameE_len2 e h
  have h2 := bodyE_eq e
  unfold frameE at h1
  simp [Crc.le4] at h1
  refine ⟨by rw [h2]; simp, by omega⟩
/-- a frame is read, with whatever bytes behind it -/
theorem readF_frame (e : Ent) (h : Right e) (r : List Nat) : readF (frameE e ++ r) = (e, ((frameE e).length : Int), 0) := by
  obtain ⟨l1, l2⟩ := bodyE_len e h
  obtain ⟨B, hB⟩ : ∃ B, bodyE e = B := ⟨_, rfl⟩
  have hr := rd_body e h
  have hf : frameE e = Crc.le4 (Crc.sum B) ++ [B.length] ++ B := by rw [frameE, hB]
  rw [hB] at l1 l2 hr
  obtain ⟨a, b, c, d, hq⟩ : ∃ a b c d, Crc.le4 (Crc.sum B) = [a, b, c, d] := ⟨_, _, _, _, rfl⟩
  have hs := sealedB_seal B
  rw [hq] at hf hs
  have hlist : frameE e ++ r = a :: b :: c :: d :: B.length :: (B ++ r) := by rw [hf]; simp
  have hlen : (frameE e).length = 5 + B.length := by rw [hf]; simp; omega
  rw [hlen, hlist, readF]
  have hg : (a :: b :: c :: d :: B.length :: (B ++ r)).getD 4 0 = B.length := rfl
  have ht : (a :: b :: c :: d :: B.length :: (B ++ r)).take 4 = [a, b, c, d] := rfl
  have hd : ((a :: b :: c :: d :: B.length :: (B ++ r)).drop 5).take B.length = B := by simp
  have hl : (a :: b :: c :: d :: B.length :: (B ++ r)).length = 5 + B.length + r.length := by simp; omega
  rw [hg, ht, hd, hl, if_neg (by omega), if_neg (by omega), if_neg (by omega), hs, if_neg (by simp), hr]
  simp
end Go.Proofs.Ytdoidfnfhidgdaa
