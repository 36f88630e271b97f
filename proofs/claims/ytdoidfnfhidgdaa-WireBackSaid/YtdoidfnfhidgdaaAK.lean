import Derived.Test.YtdoidfnfhidgdaaAI
namespace Go.Proofs.Ytdoidfnfhidgdaa
open Go.RowKit

/-- a number's bytes are taken as the number -/
theorem tk_num (no : Int) (n : Nat) : ∀ (i acc : Nat) (r : List Nat), i + (numB n).length ≤ 9 → (i ≠ 0 → n ≠ 0) → tk no i acc (numB n ++ r) = .ok (acc + n * 128 ^ i, r) := by
  induction n using Nat.strongRecOn with
  | _ n ih =>
    intro i acc r hi h0
    by_cases h1 : n < 128
    · rw [numB_lt h1, List.cons_append, List.nil_append, tk, if_neg (by omega), if_neg (by omega), if_neg (by intro ⟨h, e⟩; exact h0 h e), Nat.mod_eq_of_lt h1]
    · rw [numB_ge (by omega), List.length_cons] at hi
      have hl : 1 ≤ (numB (n / 128)).length := by
        by_cases h2 : n / 128 < 128
        · rw [numB_lt h2]; simp
        · rw [numB_ge (by omega)]; simp
      rw [numB_ge (by omega), List.cons_append, tk, if_neg (by omega), if_pos (by omega), ih (n / 128) (by omega) (i + 1) _ r (by omega) (by omega)]
      have e1 : (n % 128 + 128) % 128 = n % 128 := by omega
      have e2 : n / 128 * 128 ^ (i + 1) = 128 * (n / 128) * 128 ^ i := by rw [Nat.pow_succ, Nat.mul_comm (128 ^ i) 128, ← Nat.mul_assoc, Nat.mul_comm (n / 128) 128]
      have e3 : n % 128 * 128 ^ i + 128 * (n / 128) * 128 ^ i = n * 128 ^ i := by rw [← Nat.add_mul, Nat.mod_add_div]
      rw [e1, e2, Nat.add_assoc, e3]

theorem take_num (n : Nat) (r : List Nat) (h : n < 9223372036854775808) : takeN (numB n ++ r) = n ∧ takeK (numB n ++ r) = (numB n).length ∧ takeE (numB n ++ r) = 0 := by
  have hl := numB_len 8 n (by omega)
  have ht := tk_num 120 n 0 0 r (by omega) (fun h => absurd rfl h)
  unfold takeN takeK takeE
  rw [ht]
  refine ⟨?_, ?_, rfl⟩
  · simp
  · simp only [List.length_append]
    omega

/-- numbers that may have a sign -/
def InS (n : Int) : Prop := -4611686018427387904 ≤ n ∧ n < 4611686018427387904
instance (n : Int) : Decidable (InS n) := by unfold InS; infer_instance
theorem unz_zig (n : Int) : unz (zig n) = n := by
  unfold zig unz
  by_cases h : n < 0
  · rw [if_pos h, if_pos (by omega)]; omega
  · rw [if_neg h, if_neg (by omega)]; omega
theorem zig_lt {n : Int} (h : InS n) : zig n < 9223372036854775808 := by
  obtain ⟨h1, h2⟩ := h
  unfold zig; split <;> omega

set_option maxRecDepth 100000 in
theorem may_any (n : Int) (w : World) : Calls Try.prog 55 #[.int .i64 n] w fun x w' => x = .returned (.bool (decide (InS n))) ∧ w = w' := by
  by_cases h1 : -4611686018427387904 ≤ n
  · by_cases h2 : n < 4611686018427387904
    · have HR : Hid (decide (InS n) = true) := decide_eq_true ⟨h1, h2⟩
      go_enter Try.func55, Try.ntmps55
      go_wp2_with fail
      go_ret
      exact ⟨by rw [HR.out]; rfl, rfl⟩
    · have HR : Hid (decide (InS n) = false) := decide_eq_false (fun h => h2 h.2)
      go_enter Try.func55, Try.ntmps55
      go_wp2_with fail
      go_ret
      exact ⟨by rw [HR.out]; rfl, rfl⟩
  · have HR : Hid (decide (InS n) = false) := decide_eq_false (fun h => h1 h.1)
    go_enter Try.func55, Try.ntmps55
    go_wp2_with fail
    go_ret
    exact ⟨by rw [HR.out]; rfl, rfl⟩

set_option maxRecDepth 100000 in
theorem refInSign_any (n : Int) (w : World) : Calls Try.prog 34 #[.int .i64 n] w fun x w' => x = .returned (.bool (decide (InS n))) ∧ w = w' := by
  by_cases h1 : -4611686018427387904 ≤ n
  · by_cases h2 : n < 4611686018427387904
    · have HR : Hid (decide (InS n) = true) := decide_eq_true ⟨h1, h2⟩
      go_enter Try.func34, Try.ntmps34
      go_wp2_with fail
      go_ret
      exact ⟨by rw [HR.out]; rfl, rfl⟩
    · have HR : Hid (decide (InS n) = false) := decide_eq_false (fun h => h2 h.2)
      go_enter Try.func34, Try.ntmps34
      go_wp2_with fail
      go_ret
      exact ⟨by rw [HR.out]; rfl, rfl⟩
  · have HR : Hid (decide (InS n) = false) := decide_eq_false (fun h => h1 h.1)
    go_enter Try.func34, Try.ntmps34
    go_wp2_with fail
    go_ret
    exact ⟨by rw [HR.out]; rfl, rfl⟩

set_option maxRecDepth 100000 in
theorem Number_yes (n : Nat) (w : World) (hn : n < 9223372036854775808) : Calls Try.prog 32 #[.int .i64 n] w fun x w' => ∃ v, x = .returned (.tuple #[v, .int .i64 0]) ∧ Own w' w.heap.size v (numB n) ∧ Below w.heap.size w w' := by
  have HQ := Lib.hid (number_any n w.heap.size (.slice none 0 0) [] w hn (Own.nil _ _) (Nat.le_refl _) (by simp))
  rw [List.nil_append] at HQ
  go_enter Try.func32, Try.ntmps32
  go_wp2_with fail
  refine HQ.out.mono ?_
  rintro x w1 ⟨v, rfl, ho, hb⟩
  go_wp2_with fail
  go_ret2
  exact ⟨v, rfl, ho, hb⟩
set_option maxRecDepth 100000 in
theorem Number_no (n : Int) (w : World) (hn : n < 0) : Calls Try.prog 32 #[.int .i64 n] w fun x w' => x = .returned (.tuple #[.slice none 0 0, .int .i64 2]) ∧ w = w' := by
  go_enter Try.func32, Try.ntmps32
  go_wp2_with fail
  go_ret2
  exact ⟨rfl, rfl⟩
set_option maxRecDepth 100000 in
theorem Signed_yes (n : Int) (w : World) (hn : InS n) : Calls Try.prog 33 #[.int .i64 n] w fun x w' => ∃ v, x = .returned (.tuple #[v, .int .i64 0]) ∧ Own w' w.heap.size v (numB (zig n)) ∧ Below w.heap.size w w' := by
  have HQ := Lib.hid (signed_any n w.heap.size (.slice none 0 0) [] w hn.1 hn.2 (Own.nil _ _) (Nat.le_refl _) (by simp))
  rw [List.nil_append] at HQ
  have HM := Lib.hid (may_any n w)
  rw [decide_eq_true hn] at HM
  clear hn
  go_enter Try.func33, Try.ntmps33
  go_wp2_with fail
  refine HM.out.mono ?_
  rintro x w1 ⟨rfl, rfl⟩
  go_wp2_with fail
  refine HQ.out.mono ?_
  rintro x w1 ⟨v, rfl, ho, hb⟩
  go_wp2_with fail
  go_ret2
  exact ⟨v, rfl, ho, hb⟩
set_option maxRecDepth 100000 in
theorem Signed_no (n : Int) (w : World) (hn : ¬ InS n) : Calls Try.prog 33 #[.int .i64 n] w fun x w' => x = .returned (.tuple #[.slice none 0 0, .int .i64 2]) ∧ w = w' := by
  have HM := Lib.hid (may_any n w)
  rw [decide_eq_false hn] at HM
  clear hn
  go_enter Try.func33, Try.ntmps33
  go_wp2_with fail
  refine HM.out.mono ?_
  rintro x w1 ⟨rfl, rfl⟩
  go_wp2_with fail
  go_ret2
  exact ⟨rfl, rfl⟩
end Go.Proofs.Ytdoidfnfhidgdaa
