import Derived.Test.YtdoidfnfhidgdaaO
namespace Go.Proofs.Ytdoidfnfhidgdaa
open Go.RowKit

structure Ent where
  epoch : Int
  id : Int
  num : Int
  seq : Int
  kind : Int
  value : Int
/-- an entry, by value -/
def entV (e : Ent) : Value := .agg #[.int .i64 e.epoch, .int .i64 e.id, .int .i64 e.num, .int .i64 e.seq, .int .i64 e.kind, .int .i64 e.value]
/-- may an entry be? -/
def Right (e : Ent) : Prop := (1 ≤ e.epoch ∧ e.epoch ≤ 2147483647) ∧ (-1 ≤ e.id ∧ e.id ≤ 3) ∧ (e.kind = 1 ∨ e.kind = 2 ∨ e.kind = 3) ∧ (0 ≤ e.seq ∧ e.seq ≤ 2147483647) ∧ (-2147483648 ≤ e.value ∧ e.value ≤ 2147483647) ∧
  (e.kind ≠ 1 → 0 ≤ e.id ∧ e.seq = 0 ∧ e.value = 0) ∧ (e.id < 0 → e.num = 0 ∧ e.seq = 0) ∧ (0 ≤ e.id → 1 ≤ e.num ∧ e.num ≤ 2147483647)
instance (e : Ent) : Decidable (Right e) := by unfold Right; exact inferInstance

theorem in_any (n a b : Int) (w : World) : Calls Try.prog 38 #[.int .i64 n, .int .i64 a, .int .i64 b] w fun e w' => e = .returned (.bool (decide (a ≤ n ∧ n ≤ b))) ∧ w = w' := by
  by_cases h1 : a ≤ n
  · go_enter Try.func38, Try.ntmps38
    go_wp2_with fail
    go_ret
    exact ⟨by simp [h1], rfl⟩
  · go_enter Try.func38, Try.ntmps38
    go_wp2_with fail
    go_ret
    exact ⟨by rw [decide_eq_false (by omega : ¬ a ≤ n)]; rfl, rfl⟩
theorem within_any (n a b : Int) (w : World) : Calls Try.prog 37 #[.int .i64 n, .int .i64 a, .int .i64 b] w fun e w' => e = .returned (.bool (decide (a ≤ n ∧ n ≤ b))) ∧ w = w' := by
  by_cases h1 : a ≤ n
  · go_enter Try.func37, Try.ntmps37
    go_wp2_with fail
    go_ret
    exact ⟨by simp [h1], rfl⟩
  · go_enter Try.func37, Try.ntmps37
    go_wp2_with fail
    go_ret
    exact ⟨by rw [decide_eq_false (by omega : ¬ a ≤ n)]; rfl, rfl⟩

theorem in_yes {n a b : Int} (h : a ≤ n ∧ n ≤ b) : Hid (∀ w, Calls Try.prog 38 #[.int .i64 n, .int .i64 a, .int .i64 b] w fun e w' => e = .returned (.bool true) ∧ w = w') := fun w => by
  have := in_any n a b w
  rwa [decide_eq_true h] at this
theorem in_no {n a b : Int} (h : ¬ (a ≤ n ∧ n ≤ b)) : Hid (∀ w, Calls Try.prog 38 #[.int .i64 n, .int .i64 a, .int .i64 b] w fun e w' => e = .returned (.bool false) ∧ w = w') := fun w => by
  have := in_any n a b w
  rwa [decide_eq_false h] at this
theorem within_yes {n a b : Int} (h : a ≤ n ∧ n ≤ b) : Hid (∀ w, Calls Try.prog 37 #[.int .i64 n, .int .i64 a, .int .i64 b] w fun e w' => e = .returned (.bool true) ∧ w = w') := fun w => by
  have := within_any n a b w
  rwa [decide_eq_true h] at this
theorem within_no {n a b : Int} (h : ¬ (a ≤ n ∧ n ≤ b)) : Hid (∀ w, Calls Try.prog 37 #[.int .i64 n, .int .i64 a, .int .i64 b] w fun e w' => e = .returned (.bool false) ∧ w = w') := fun w => by
  have := within_any n a b w
  rwa [decide_eq_false h] at this

set_option maxRecDepth 100000 in
set_option maxHeartbeats 8000000 in
theorem Check1 (ep id nu se ki va : Int) (hk : ki = 1) (w : World) : Calls Try.prog 17 #[.agg #[.int .i64 ep, .int .i64 id, .int .i64 nu, .int .i64 se, .int .i64 ki, .int .i64 va]] w fun x w' => x = .returned (.int .i64 (if Right ⟨ep, id, nu, se, ki, va⟩ then 0 else 2)) ∧ Below w.heap.size w w' := by
  have HB : Hid (Below w.heap.size w (w.alloc (.cells #[.int .i64 ep, .int .i64 id, .int .i64 nu, .int .i64 se, .int .i64 ki, .int .i64 va] 24))) := (Below.refl _ w).alloc (Nat.le_refl _) _
  subst hk
  by_cases hE : 1 ≤ ep ∧ ep ≤ 2147483647
  · have KE := in_yes hE
    by_cases hI : -1 ≤ id ∧ id ≤ 3
    · have KI := in_yes hI
      by_cases hV : -2147483648 ≤ va ∧ va ≤ 2147483647
      · by_cases hS : 0 ≤ se ∧ se ≤ 2147483647
        · have KS := in_yes hS
          by_cases hid : 0 ≤ id
          · by_cases hN : 1 ≤ nu ∧ nu ≤ 2147483647
            · have KN := in_yes hN
              have hR : Right ⟨ep, id, nu, se, 1, va⟩ := by unfold Right; dsimp only; omega
              have HR := Lib.hid hR
              clear hR
              clear hE hI hS hN
              go_enter Try.func17, Try.ntmps17
              go_wp2_with fail
              refine (KE.out _).mono ?_
              rintro e w1 ⟨rfl, rfl⟩
              go_wp2_with fail
              refine (KI.out _).mono ?_
              rintro e w1 ⟨rfl, rfl⟩
              go_wp2_with fail
              refine (KS.out _).mono ?_
              rintro e w1 ⟨rfl, rfl⟩
              go_wp2_with fail
              refine (KN.out _).mono ?_
              rintro e w1 ⟨rfl, rfl⟩
              go_wp2_with fail
              go_ret
              first | exact ⟨rfl, HB.out⟩ | exact ⟨by rw [if_pos HR.out]; rfl, HB.out⟩
            · have KN := in_no hN
              have hR : ¬ Right ⟨ep, id, nu, se, 1, va⟩ := by unfold Right; dsimp only; omega
              have HR := Lib.hid hR
              clear hR
              clear hE hI hS hN
              go_enter Try.func17, Try.ntmps17
              go_wp2_with fail
              refine (KE.out _).mono ?_
              rintro e w1 ⟨rfl, rfl⟩
              go_wp2_with fail
              refine (KI.out _).mono ?_
              rintro e w1 ⟨rfl, rfl⟩
              go_wp2_with fail
              refine (KS.out _).mono ?_
              rintro e w1 ⟨rfl, rfl⟩
              go_wp2_with fail
              refine (KN.out _).mono ?_
              rintro e w1 ⟨rfl, rfl⟩
              go_wp2_with fail
              go_ret
              first | exact ⟨rfl, HB.out⟩ | exact ⟨by rw [if_neg HR.out]; rfl, HB.out⟩
          · by_cases hs0 : se = 0
            · have hs0' : (se == 0) = true := by simpa using hs0
              by_cases hn0 : nu = 0
              · have hn0' : (nu == 0) = true := by simpa using hn0
                have hR : Right ⟨ep, id, nu, se, 1, va⟩ := by unfold Right; dsimp only; omega
                have HR := Lib.hid hR
                clear hR
                clear hE hI hS hs0 hn0
                go_enter Try.func17, Try.ntmps17
                go_wp2_with fail
                refine (KE.out _).mono ?_
                rintro e w1 ⟨rfl, rfl⟩
                go_wp2_with fail
                refine (KI.out _).mono ?_
                rintro e w1 ⟨rfl, rfl⟩
                go_wp2_with fail
                refine (KS.out _).mono ?_
                rintro e w1 ⟨rfl, rfl⟩
                go_wp2_with fail
                go_ret
                first | exact ⟨rfl, HB.out⟩ | exact ⟨by rw [if_pos HR.out]; rfl, HB.out⟩
              · have hn0' : (nu == 0) = false := by simpa using hn0
                have hR : ¬ Right ⟨ep, id, nu, se, 1, va⟩ := by unfold Right; dsimp only; omega
                have HR := Lib.hid hR
                clear hR
                clear hE hI hS hs0 hn0
                go_enter Try.func17, Try.ntmps17
                go_wp2_with fail
                refine (KE.out _).mono ?_
                rintro e w1 ⟨rfl, rfl⟩
                go_wp2_with fail
                refine (KI.out _).mono ?_
                rintro e w1 ⟨rfl, rfl⟩
                go_wp2_with fail
                refine (KS.out _).mono ?_
                rintro e w1 ⟨rfl, rfl⟩
                go_wp2_with fail
                go_ret
                first | exact ⟨rfl, HB.out⟩ | exact ⟨by rw [if_neg HR.out]; rfl, HB.out⟩
            · have hs0' : (se == 0) = false := by simpa using hs0
              have hR : ¬ Right ⟨ep, id, nu, se, 1, va⟩ := by unfold Right; dsimp only; omega
              have HR := Lib.hid hR
              clear hR
              clear hE hI hS hs0
              go_enter Try.func17, Try.ntmps17
              go_wp2_with fail
              refine (KE.out _).mono ?_
              rintro e w1 ⟨rfl, rfl⟩
              go_wp2_with fail
              refine (KI.out _).mono ?_
              rintro e w1 ⟨rfl, rfl⟩
              go_wp2_with fail
              refine (KS.out _).mono ?_
              rintro e w1 ⟨rfl, rfl⟩
              go_wp2_with fail
              go_ret
              first | exact ⟨rfl, HB.out⟩ | exact ⟨by rw [if_neg HR.out]; rfl, HB.out⟩
        · have KS := in_no hS
          by_cases hid : 0 ≤ id
          · have hR : ¬ Right ⟨ep, id, nu, se, 1, va⟩ := by unfold Right; dsimp only; omega
            have HR := Lib.hid hR
            clear hR
            clear hE hI hS
            go_enter Try.func17, Try.ntmps17
            go_wp2_with fail
            refine (KE.out _).mono ?_
            rintro e w1 ⟨rfl, rfl⟩
            go_wp2_with fail
            refine (KI.out _).mono ?_
            rintro e w1 ⟨rfl, rfl⟩
            go_wp2_with fail
            refine (KS.out _).mono ?_
            rintro e w1 ⟨rfl, rfl⟩
            go_wp2_with fail
            go_ret
            first | exact ⟨rfl, HB.out⟩ | exact ⟨by rw [if_neg HR.out]; rfl, HB.out⟩
          · have hR : ¬ Right ⟨ep, id, nu, se, 1, va⟩ := by unfold Right; dsimp only; omega
            have HR := Lib.hid hR
            clear hR
            clear hE hI hS
            go_enter Try.func17, Try.ntmps17
            go_wp2_with fail
            refine (KE.out _).mono ?_
            rintro e w1 ⟨rfl, rfl⟩
            go_wp2_with fail
            refine (KI.out _).mono ?_
            rintro e w1 ⟨rfl, rfl⟩
            go_wp2_with fail
            refine (KS.out _).mono ?_
            rintro e w1 ⟨rfl, rfl⟩
            go_wp2_with fail
            go_ret
            first | exact ⟨rfl, HB.out⟩ | exact ⟨by rw [if_neg HR.out]; rfl, HB.out⟩
      · obtain ⟨z, hz⟩ : ∃ z, IntKind.i32.wrap va = z := ⟨_, rfl⟩
        have hz0 : ¬ va = z := by rw [← hz, IntKind.wrap_i32]; omega
        have hz1 : -2147483648 ≤ z := by rw [← hz, IntKind.wrap_i32]; omega
        have hz2 : z ≤ 2147483647 := by rw [← hz, IntKind.wrap_i32]; omega
        have hv' : (va == z) = false := by simpa using hz0
        clear hz0
        by_cases hid : 0 ≤ id
        · have hR : ¬ Right ⟨ep, id, nu, se, 1, va⟩ := by unfold Right; dsimp only; omega
          have HR := Lib.hid hR
          clear hR
          clear hE hI hV
          go_enter Try.func17, Try.ntmps17
          go_wp2_with fail
          refine (KE.out _).mono ?_
          rintro e w1 ⟨rfl, rfl⟩
          go_wp2_with fail
          refine (KI.out _).mono ?_
          rintro e w1 ⟨rfl, rfl⟩
          go_wp2_with fail
          go_ret
          first | exact ⟨rfl, HB.out⟩ | exact ⟨by rw [if_neg HR.out]; rfl, HB.out⟩
        · have hR : ¬ Right ⟨ep, id, nu, se, 1, va⟩ := by unfold Right; dsimp only; omega
          have HR := Lib.hid hR
          clear hR
          clear hE hI hV
          go_enter Try.func17, Try.ntmps17
          go_wp2_with fail
          refine (KE.out _).mono ?_
          rintro e w1 ⟨rfl, rfl⟩
          go_wp2_with fail
          refine (KI.out _).mono ?_
          rintro e w1 ⟨rfl, rfl⟩
          go_wp2_with fail
          go_ret
          first | exact ⟨rfl, HB.out⟩ | exact ⟨by rw [if_neg HR.out]; rfl, HB.out⟩
    · have KI := in_no hI
      by_cases hid : 0 ≤ id
      · have hR : ¬ Right ⟨ep, id, nu, se, 1, va⟩ := by unfold Right; dsimp only; omega
        have HR := Lib.hid hR
        clear hR
        clear hE hI
        go_enter Try.func17, Try.ntmps17
        go_wp2_with fail
        refine (KE.out _).mono ?_
        rintro e w1 ⟨rfl, rfl⟩
        go_wp2_with fail
        refine (KI.out _).mono ?_
        rintro e w1 ⟨rfl, rfl⟩
        go_wp2_with fail
        go_ret
        first | exact ⟨rfl, HB.out⟩ | exact ⟨by rw [if_neg HR.out]; rfl, HB.out⟩
      · have hR : ¬ Right ⟨ep, id, nu, se, 1, va⟩ := by unfold Right; dsimp only; omega
        have HR := Lib.hid hR
        clear hR
        clear hE hI
        go_enter Try.func17, Try.ntmps17
        go_wp2_with fail
        refine (KE.out _).mono ?_
        rintro e w1 ⟨rfl, rfl⟩
        go_wp2_with fail
        refine (KI.out _).mono ?_
        rintro e w1 ⟨rfl, rfl⟩
        go_wp2_with fail
        go_ret
        first | exact ⟨rfl, HB.out⟩ | exact ⟨by rw [if_neg HR.out]; rfl, HB.out⟩
  · have KE := in_no hE
    by_cases hid : 0 ≤ id
    · have hR : ¬ Right ⟨ep, id, nu, se, 1, va⟩ := by unfold Right; dsimp only; omega
      have HR := Lib.hid hR
      clear hR
      clear hE
      go_enter Try.func17, Try.ntmps17
      go_wp2_with fail
      refine (KE.out _).mono ?_
      rintro e w1 ⟨rfl, rfl⟩
      go_wp2_with fail
      go_ret
      first | exact ⟨rfl, HB.out⟩ | exact ⟨by rw [if_neg HR.out]; rfl, HB.out⟩
    · have hR : ¬ Right ⟨ep, id, nu, se, 1, va⟩ := by unfold Right; dsimp only; omega
      have HR := Lib.hid hR
      clear hR
      clear hE
      go_enter Try.func17, Try.ntmps17
      go_wp2_with fail
      refine (KE.out _).mono ?_
      rintro e w1 ⟨rfl, rfl⟩
      go_wp2_with fail
      go_ret
      first | exact ⟨rfl, HB.out⟩ | exact ⟨by rw [if_neg HR.out]; rfl, HB.out⟩

set_option maxRecDepth 100000 in
set_option maxHeartbeats 8000000 in
theorem Check2 (ep id nu se ki va : Int) (hk : ki = 2) (w : World) : Calls Try.prog 17 #[.agg #[.int .i64 ep, .int .i64 id, .int .i64 nu, .int .i64 se, .int .i64 ki, .int .i64 va]] w fun x w' => x = .returned (.int .i64 (if Right ⟨ep, id, nu, se, ki, va⟩ then 0 else 2)) ∧ Below w.heap.size w w' := by
  have HB : Hid (Below w.heap.size w (w.alloc (.cells #[.int .i64 ep, .int .i64 id, .int .i64 nu, .int .i64 se, .int .i64 ki, .int .i64 va] 24))) := (Below.refl _ w).alloc (Nat.le_refl _) _
  subst hk
  by_cases hE : 1 ≤ ep ∧ ep ≤ 2147483647
  · have KE := in_yes hE
    by_cases hI : -1 ≤ id ∧ id ≤ 3
    · have KI := in_yes hI
      by_cases hid : 0 ≤ id
      · by_cases hs0 : se = 0
        · have hs0' : (se == 0) = true := by simpa using hs0
          by_cases hv0 : va = 0
          · have hv0' : (va == 0) = true := by simpa using hv0
            by_cases hN : 1 ≤ nu ∧ nu ≤ 2147483647
            · have KN := in_yes hN
              have hR : Right ⟨ep, id, nu, se, 2, va⟩ := by unfold Right; dsimp only; omega
              have HR := Lib.hid hR
              clear hR
              clear hE hI hs0 hv0 hN
              go_enter Try.func17, Try.ntmps17
              go_wp2_with fail
              refine (KE.out _).mono ?_
              rintro e w1 ⟨rfl, rfl⟩
              go_wp2_with fail
              refine (KI.out _).mono ?_
              rintro e w1 ⟨rfl, rfl⟩
              go_wp2_with fail
              refine (KN.out _).mono ?_
              rintro e w1 ⟨rfl, rfl⟩
              go_wp2_with fail
              go_ret
              first | exact ⟨rfl, HB.out⟩ | exact ⟨by rw [if_pos HR.out]; rfl, HB.out⟩
            · have KN := in_no hN
              have hR : ¬ Right ⟨ep, id, nu, se, 2, va⟩ := by unfold Right; dsimp only; omega
              have HR := Lib.hid hR
              clear hR
              clear hE hI hs0 hv0 hN
              go_enter Try.func17, Try.ntmps17
              go_wp2_with fail
              refine (KE.out _).mono ?_
              rintro e w1 ⟨rfl, rfl⟩
              go_wp2_with fail
              refine (KI.out _).mono ?_
              rintro e w1 ⟨rfl, rfl⟩
              go_wp2_with fail
              refine (KN.out _).mono ?_
              rintro e w1 ⟨rfl, rfl⟩
              go_wp2_with fail
              go_ret
              first | exact ⟨rfl, HB.out⟩ | exact ⟨by rw [if_neg HR.out]; rfl, HB.out⟩
          · have hv0' : (va == 0) = false := by simpa using hv0
            have hR : ¬ Right ⟨ep, id, nu, se, 2, va⟩ := by unfold Right; dsimp only; omega
            have HR := Lib.hid hR
            clear hR
            clear hE hI hs0 hv0
            go_enter Try.func17, Try.ntmps17
            go_wp2_with fail
            refine (KE.out _).mono ?_
            rintro e w1 ⟨rfl, rfl⟩
            go_wp2_with fail
            refine (KI.out _).mono ?_
            rintro e w1 ⟨rfl, rfl⟩
            go_wp2_with fail
            go_ret
            first | exact ⟨rfl, HB.out⟩ | exact ⟨by rw [if_neg HR.out]; rfl, HB.out⟩
        · have hs0' : (se == 0) = false := by simpa using hs0
          have hR : ¬ Right ⟨ep, id, nu, se, 2, va⟩ := by unfold Right; dsimp only; omega
          have HR := Lib.hid hR
          clear hR
          clear hE hI hs0
          go_enter Try.func17, Try.ntmps17
          go_wp2_with fail
          refine (KE.out _).mono ?_
          rintro e w1 ⟨rfl, rfl⟩
          go_wp2_with fail
          refine (KI.out _).mono ?_
          rintro e w1 ⟨rfl, rfl⟩
          go_wp2_with fail
          go_ret
          first | exact ⟨rfl, HB.out⟩ | exact ⟨by rw [if_neg HR.out]; rfl, HB.out⟩
      · have hR : ¬ Right ⟨ep, id, nu, se, 2, va⟩ := by unfold Right; dsimp only; omega
        have HR := Lib.hid hR
        clear hR
        clear hE hI
        go_enter Try.func17, Try.ntmps17
        go_wp2_with fail
        refine (KE.out _).mono ?_
        rintro e w1 ⟨rfl, rfl⟩
        go_wp2_with fail
        refine (KI.out _).mono ?_
        rintro e w1 ⟨rfl, rfl⟩
        go_wp2_with fail
        go_ret
        first | exact ⟨rfl, HB.out⟩ | exact ⟨by rw [if_neg HR.out]; rfl, HB.out⟩
    · have KI := in_no hI
      by_cases hid : 0 ≤ id
      · have hR : ¬ Right ⟨ep, id, nu, se, 2, va⟩ := by unfold Right; dsimp only; omega
        have HR := Lib.hid hR
        clear hR
        clear hE hI
        go_enter Try.func17, Try.ntmps17
        go_wp2_with fail
        refine (KE.out _).mono ?_
        rintro e w1 ⟨rfl, rfl⟩
        go_wp2_with fail
        refine (KI.out _).mono ?_
        rintro e w1 ⟨rfl, rfl⟩
        go_wp2_with fail
        go_ret
        first | exact ⟨rfl, HB.out⟩ | exact ⟨by rw [if_neg HR.out]; rfl, HB.out⟩
      · have hR : ¬ Right ⟨ep, id, nu, se, 2, va⟩ := by unfold Right; dsimp only; omega
        have HR := Lib.hid hR
        clear hR
        clear hE hI
        go_enter Try.func17, Try.ntmps17
        go_wp2_with fail
        refine (KE.out _).mono ?_
        rintro e w1 ⟨rfl, rfl⟩
        go_wp2_with fail
        refine (KI.out _).mono ?_
        rintro e w1 ⟨rfl, rfl⟩
        go_wp2_with fail
        go_ret
        first | exact ⟨rfl, HB.out⟩ | exact ⟨by rw [if_neg HR.out]; rfl, HB.out⟩
  · have KE := in_no hE
    by_cases hid : 0 ≤ id
    · have hR : ¬ Right ⟨ep, id, nu, se, 2, va⟩ := by unfold Right; dsimp only; omega
      have HR := Lib.hid hR
      clear hR
      clear hE
      go_enter Try.func17, Try.ntmps17
      go_wp2_with fail
      refine (KE.out _).mono ?_
      rintro e w1 ⟨rfl, rfl⟩
      go_wp2_with fail
      go_ret
      first | exact ⟨rfl, HB.out⟩ | exact ⟨by rw [if_neg HR.out]; rfl, HB.out⟩
    · have hR : ¬ Right ⟨ep, id, nu, se, 2, va⟩ := by unfold Right; dsimp only; omega
      have HR := Lib.hid hR
      clear hR
      clear hE
      go_enter Try.func17, Try.ntmps17
      go_wp2_with fail
      refine (KE.out _).mono ?_
      rintro e w1 ⟨rfl, rfl⟩
      go_wp2_with fail
      go_ret
      first | exact ⟨rfl, HB.out⟩ | exact ⟨by rw [if_neg HR.out]; rfl, HB.out⟩

set_option maxRecDepth 100000 in
set_option maxHeartbeats 8000000 in
theorem Check3 (ep id nu se ki va : Int) (hk : ki = 3) (w : World) : Calls Try.prog 17 #[.agg #[.int .i64 ep, .int .i64 id, .int .i64 nu, .int .i64 se, .int .i64 ki, .int .i64 va]] w fun x w' => x = .returned (.int .i64 (if Right ⟨ep, id, nu, se, ki, va⟩ then 0 else 2)) ∧ Below w.heap.size w w' := by
  have HB : Hid (Below w.heap.size w (w.alloc (.cells #[.int .i64 ep, .int .i64 id, .int .i64 nu, .int .i64 se, .int .i64 ki, .int .i64 va] 24))) := (Below.refl _ w).alloc (Nat.le_refl _) _
  subst hk
  by_cases hE : 1 ≤ ep ∧ ep ≤ 2147483647
  · have KE := in_yes hE
    by_cases hI : -1 ≤ id ∧ id ≤ 3
    · have KI := in_yes hI
      by_cases hid : 0 ≤ id
      · by_cases hs0 : se = 0
        · have hs0' : (se == 0) = true := by simpa using hs0
          by_cases hv0 : va = 0
          · have hv0' : (va == 0) = true := by simpa using hv0
            by_cases hN : 1 ≤ nu ∧ nu ≤ 2147483647
            · have KN := in_yes hN
              have hR : Right ⟨ep, id, nu, se, 3, va⟩ := by unfold Right; dsimp only; omega
              have HR := Lib.hid hR
              clear hR
              clear hE hI hs0 hv0 hN
              go_enter Try.func17, Try.ntmps17
              go_wp2_with fail
              refine (KE.out _).mono ?_
              rintro e w1 ⟨rfl, rfl⟩
              go_wp2_with fail
              refine (KI.out _).mono ?_
              rintro e w1 ⟨rfl, rfl⟩
              go_wp2_with fail
              refine (KN.out _).mono ?_
              rintro e w1 ⟨rfl, rfl⟩
              go_wp2_with fail
              go_ret
              first | exact ⟨rfl, HB.out⟩ | exact ⟨by rw [if_pos HR.out]; rfl, HB.out⟩
            · have KN := in_no hN
              have hR : ¬ Right ⟨ep, id, nu, se, 3, va⟩ := by unfold Right; dsimp only; omega
              have HR := Lib.hid hR
              clear hR
              clear hE hI hs0 hv0 hN
              go_enter Try.func17, Try.ntmps17
              go_wp2_with fail
              refine (KE.out _).mono ?_
              rintro e w1 ⟨rfl, rfl⟩
              go_wp2_with fail
              refine (KI.out _).mono ?_
              rintro e w1 ⟨rfl, rfl⟩
              go_wp2_with fail
              refine (KN.out _).mono ?_
              rintro e w1 ⟨rfl, rfl⟩
              go_wp2_with fail
              go_ret
              first | exact ⟨rfl, HB.out⟩ | exact ⟨by rw [if_neg HR.out]; rfl, HB.out⟩
          · have hv0' : (va == 0) = false := by simpa using hv0
            have hR : ¬ Right ⟨ep, id, nu, se, 3, va⟩ := by unfold Right; dsimp only; omega
            have HR := Lib.hid hR
            clear hR
            clear hE hI hs0 hv0
            go_enter Try.func17, Try.ntmps17
            go_wp2_with fail
            refine (KE.out _).mono ?_
            rintro e w1 ⟨rfl, rfl⟩
            go_wp2_with fail
            refine (KI.out _).mono ?_
            rintro e w1 ⟨rfl, rfl⟩
            go_wp2_with fail
            go_ret
            first | exact ⟨rfl, HB.out⟩ | exact ⟨by rw [if_neg HR.out]; rfl, HB.out⟩
        · have hs0' : (se == 0) = false := by simpa using hs0
          have hR : ¬ Right ⟨ep, id, nu, se, 3, va⟩ := by unfold Right; dsimp only; omega
          have HR := Lib.hid hR
          clear hR
          clear hE hI hs0
          go_enter Try.func17, Try.ntmps17
          go_wp2_with fail
          refine (KE.out _).mono ?_
          rintro e w1 ⟨rfl, rfl⟩
          go_wp2_with fail
          refine (KI.out _).mono ?_
          rintro e w1 ⟨rfl, rfl⟩
          go_wp2_with fail
          go_ret
          first | exact ⟨rfl, HB.out⟩ | exact ⟨by rw [if_neg HR.out]; rfl, HB.out⟩
      · have hR : ¬ Right ⟨ep, id, nu, se, 3, va⟩ := by unfold Right; dsimp only; omega
        have HR := Lib.hid hR
        clear hR
        clear hE hI
        go_enter Try.func17, Try.ntmps17
        go_wp2_with fail
        refine (KE.out _).mono ?_
        rintro e w1 ⟨rfl, rfl⟩
        go_wp2_with fail
        refine (KI.out _).mono ?_
        rintro e w1 ⟨rfl, rfl⟩
        go_wp2_with fail
        go_ret
        first | exact ⟨rfl, HB.out⟩ | exact ⟨by rw [if_neg HR.out]; rfl, HB.out⟩
    · have KI := in_no hI
      by_cases hid : 0 ≤ id
      · have hR : ¬ Right ⟨ep, id, nu, se, 3, va⟩ := by unfold Right; dsimp only; omega
        have HR := Lib.hid hR
        clear hR
        clear hE hI
        go_enter Try.func17, Try.ntmps17
        go_wp2_with fail
        refine (KE.out _).mono ?_
        rintro e w1 ⟨rfl, rfl⟩
        go_wp2_with fail
        refine (KI.out _).mono ?_
        rintro e w1 ⟨rfl, rfl⟩
        go_wp2_with fail
        go_ret
        first | exact ⟨rfl, HB.out⟩ | exact ⟨by rw [if_neg HR.out]; rfl, HB.out⟩
      · have hR : ¬ Right ⟨ep, id, nu, se, 3, va⟩ := by unfold Right; dsimp only; omega
        have HR := Lib.hid hR
        clear hR
        clear hE hI
        go_enter Try.func17, Try.ntmps17
        go_wp2_with fail
        refine (KE.out _).mono ?_
        rintro e w1 ⟨rfl, rfl⟩
        go_wp2_with fail
        refine (KI.out _).mono ?_
        rintro e w1 ⟨rfl, rfl⟩
        go_wp2_with fail
        go_ret
        first | exact ⟨rfl, HB.out⟩ | exact ⟨by rw [if_neg HR.out]; rfl, HB.out⟩
  · have KE := in_no hE
    by_cases hid : 0 ≤ id
    · have hR : ¬ Right ⟨ep, id, nu, se, 3, va⟩ := by unfold Right; dsimp only; omega
      have HR := Lib.hid hR
      clear hR
      clear hE
      go_enter Try.func17, Try.ntmps17
      go_wp2_with fail
      refine (KE.out _).mono ?_
      rintro e w1 ⟨rfl, rfl⟩
      go_wp2_with fail
      go_ret
      first | exact ⟨rfl, HB.out⟩ | exact ⟨by rw [if_neg HR.out]; rfl, HB.out⟩
    · have hR : ¬ Right ⟨ep, id, nu, se, 3, va⟩ := by unfold Right; dsimp only; omega
      have HR := Lib.hid hR
      clear hR
      clear hE
      go_enter Try.func17, Try.ntmps17
      go_wp2_with fail
      refine (KE.out _).mono ?_
      rintro e w1 ⟨rfl, rfl⟩
      go_wp2_with fail
      go_ret
      first | exact ⟨rfl, HB.out⟩ | exact ⟨by rw [if_neg HR.out]; rfl, HB.out⟩

set_option maxRecDepth 100000 in
set_option maxHeartbeats 8000000 in
theorem CheckX (ep id nu se ki va : Int) (h1 : ki ≠ 1) (h2 : ki ≠ 2) (h3 : ki ≠ 3) (w : World) : Calls Try.prog 17 #[.agg #[.int .i64 ep, .int .i64 id, .int .i64 nu, .int .i64 se, .int .i64 ki, .int .i64 va]] w fun x w' => x = .returned (.int .i64 (if Right ⟨ep, id, nu, se, ki, va⟩ then 0 else 2)) ∧ Below w.heap.size w w' := by
  have HB : Hid (Below w.heap.size w (w.alloc (.cells #[.int .i64 ep, .int .i64 id, .int .i64 nu, .int .i64 se, .int .i64 ki, .int .i64 va] 24))) := (Below.refl _ w).alloc (Nat.le_refl _) _
  have q1 : (ki == 1) = false := by simpa using h1
  have q2 : (ki == 2) = false := by simpa using h2
  have q3 : (ki == 3) = false := by simpa using h3
  by_cases hE : 1 ≤ ep ∧ ep ≤ 2147483647
  · have KE := in_yes hE
    by_cases hI : -1 ≤ id ∧ id ≤ 3
    · have KI := in_yes hI
      by_cases hid : 0 ≤ id
      · have hR : ¬ Right ⟨ep, id, nu, se, ki, va⟩ := by unfold Right; dsimp only; omega
        have HR := Lib.hid hR
        clear hR
        clear h1 h2 h3 hE hI
        go_enter Try.func17, Try.ntmps17
        go_wp2_with fail
        refine (KE.out _).mono ?_
        rintro e w1 ⟨rfl, rfl⟩
        go_wp2_with fail
        refine (KI.out _).mono ?_
        rintro e w1 ⟨rfl, rfl⟩
        go_wp2_with fail
        go_ret
        first | exact ⟨rfl, HB.out⟩ | exact ⟨by rw [if_neg HR.out]; rfl, HB.out⟩
      · have hR : ¬ Right ⟨ep, id, nu, se, ki, va⟩ := by unfold Right; dsimp only; omega
        have HR := Lib.hid hR
        clear hR
        clear h1 h2 h3 hE hI
        go_enter Try.func17, Try.ntmps17
        go_wp2_with fail
        refine (KE.out _).mono ?_
        rintro e w1 ⟨rfl, rfl⟩
        go_wp2_with fail
        refine (KI.out _).mono ?_
        rintro e w1 ⟨rfl, rfl⟩
        go_wp2_with fail
        go_ret
        first | exact ⟨rfl, HB.out⟩ | exact ⟨by rw [if_neg HR.out]; rfl, HB.out⟩
    · have KI := in_no hI
      by_cases hid : 0 ≤ id
      · have hR : ¬ Right ⟨ep, id, nu, se, ki, va⟩ := by unfold Right; dsimp only; omega
        have HR := Lib.hid hR
        clear hR
        clear h1 h2 h3 hE hI
        go_enter Try.func17, Try.ntmps17
        go_wp2_with fail
        refine (KE.out _).mono ?_
        rintro e w1 ⟨rfl, rfl⟩
        go_wp2_with fail
        refine (KI.out _).mono ?_
        rintro e w1 ⟨rfl, rfl⟩
        go_wp2_with fail
        go_ret
        first | exact ⟨rfl, HB.out⟩ | exact ⟨by rw [if_neg HR.out]; rfl, HB.out⟩
      · have hR : ¬ Right ⟨ep, id, nu, se, ki, va⟩ := by unfold Right; dsimp only; omega
        have HR := Lib.hid hR
        clear hR
        clear h1 h2 h3 hE hI
        go_enter Try.func17, Try.ntmps17
        go_wp2_with fail
        refine (KE.out _).mono ?_
        rintro e w1 ⟨rfl, rfl⟩
        go_wp2_with fail
        refine (KI.out _).mono ?_
        rintro e w1 ⟨rfl, rfl⟩
        go_wp2_with fail
        go_ret
        first | exact ⟨rfl, HB.out⟩ | exact ⟨by rw [if_neg HR.out]; rfl, HB.out⟩
  · have KE := in_no hE
    by_cases hid : 0 ≤ id
    · have hR : ¬ Right ⟨ep, id, nu, se, ki, va⟩ := by unfold Right; dsimp only; omega
      have HR := Lib.hid hR
      clear hR
      clear h1 h2 h3 hE
      go_enter Try.func17, Try.ntmps17
      go_wp2_with fail
      refine (KE.out _).mono ?_
      rintro e w1 ⟨rfl, rfl⟩
      go_wp2_with fail
      go_ret
      first | exact ⟨rfl, HB.out⟩ | exact ⟨by rw [if_neg HR.out]; rfl, HB.out⟩
    · have hR : ¬ Right ⟨ep, id, nu, se, ki, va⟩ := by unfold Right; dsimp only; omega
      have HR := Lib.hid hR
      clear hR
      clear h1 h2 h3 hE
      go_enter Try.func17, Try.ntmps17
      go_wp2_with fail
      refine (KE.out _).mono ?_
      rintro e w1 ⟨rfl, rfl⟩
      go_wp2_with fail
      go_ret
      first | exact ⟨rfl, HB.out⟩ | exact ⟨by rw [if_neg HR.out]; rfl, HB.out⟩

theorem Check_any (e : Ent) (w : World) : Calls Try.prog 17 #[entV e] w fun x w' => x = .returned (.int .i64 (if Right e then 0 else 2)) ∧ Below w.heap.size w w' := by
  obtain ⟨ep, id, nu, se, ki, va⟩ := e
  by_cases h1 : ki = 1
  · exact Check1 ep id nu se ki va h1 w
  · by_cases h2 : ki = 2
    · exact Check2 ep id nu se ki va h2 w
    · by_cases h3 : ki = 3
      · exact Check3 ep id nu se ki va h3 w
      · exact CheckX ep id nu se ki va h1 h2 h3 w
end Go.Proofs.Ytdoidfnfhidgdaa
