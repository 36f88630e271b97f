import Derived.Test.YtdoidfnfhidgdaaP
namespace Go.Proofs.Ytdoidfnfhidgdaa
open Go.RowKit

set_option maxRecDepth 100000 in
set_option maxHeartbeats 8000000 in
theorem Right1 (ep id nu se ki va : Int) (hk : ki = 1) (w : World) : Calls Try.prog 15 #[.agg #[.int .i64 ep, .int .i64 id, .int .i64 nu, .int .i64 se, .int .i64 ki, .int .i64 va]] w fun x w' => x = .returned (.bool (decide (Right ⟨ep, id, nu, se, ki, va⟩))) ∧ Below w.heap.size w w' := by
  have HB : Hid (Below w.heap.size w (w.alloc (.cells #[.int .i64 ep, .int .i64 id, .int .i64 nu, .int .i64 se, .int .i64 ki, .int .i64 va] 24))) := (Below.refl _ w).alloc (Nat.le_refl _) _
  subst hk
  by_cases hE : 1 ≤ ep ∧ ep ≤ 2147483647
  · have KE := within_yes hE
    by_cases hI : -1 ≤ id ∧ id ≤ 3
    · have KI := within_yes hI
      by_cases hid : 0 ≤ id
      · by_cases hN : 1 ≤ nu ∧ nu ≤ 2147483647
        · have KN := within_yes hN
          by_cases hS : 0 ≤ se ∧ se ≤ 2147483647
          · have KS := within_yes hS
            by_cases hV : -2147483648 ≤ va ∧ va ≤ 2147483647
            · have KV := within_yes hV
              have hR : Right ⟨ep, id, nu, se, 1, va⟩ := by unfold Right; dsimp only; omega
              have HR := Lib.hid hR
              clear hR
              clear hE hI hN hS hV
              go_enter Try.func15, Try.ntmps15
              go_wp2_with fail
              refine (KE.out _).mono ?_
              rintro e w1 ⟨rfl, rfl⟩
              go_wp2_with fail
              refine (KI.out _).mono ?_
              rintro e w1 ⟨rfl, rfl⟩
              go_wp2_with fail
              refine (KN.out _).mono ?_
              rintro e w1 ⟨rfl, rfl⟩
              go_wp2_with fail
              refine (KS.out _).mono ?_
              rintro e w1 ⟨rfl, rfl⟩
              go_wp2_with fail
              refine (KV.out _).mono ?_
              rintro e w1 ⟨rfl, rfl⟩
              go_wp2_with fail
              go_ret
              first | exact ⟨rfl, HB.out⟩ | exact ⟨by rw [decide_eq_true HR.out]; rfl, HB.out⟩
            · have KV := within_no hV
              have hR : ¬ Right ⟨ep, id, nu, se, 1, va⟩ := by unfold Right; dsimp only; omega
              have HR := Lib.hid hR
              clear hR
              clear hE hI hN hS hV
              go_enter Try.func15, Try.ntmps15
              go_wp2_with fail
              refine (KE.out _).mono ?_
              rintro e w1 ⟨rfl, rfl⟩
              go_wp2_with fail
              refine (KI.out _).mono ?_
              rintro e w1 ⟨rfl, rfl⟩
              go_wp2_with fail
              refine (KN.out _).mono ?_
              rintro e w1 ⟨rfl, rfl⟩
              go_wp2_with fail
              refine (KS.out _).mono ?_
              rintro e w1 ⟨rfl, rfl⟩
              go_wp2_with fail
              refine (KV.out _).mono ?_
              rintro e w1 ⟨rfl, rfl⟩
              go_wp2_with fail
              go_ret
              first | exact ⟨rfl, HB.out⟩ | exact ⟨by rw [decide_eq_false HR.out]; rfl, HB.out⟩
          · have KS := within_no hS
            have hR : ¬ Right ⟨ep, id, nu, se, 1, va⟩ := by unfold Right; dsimp only; omega
            have HR := Lib.hid hR
            clear hR
            clear hE hI hN hS
            go_enter Try.func15, Try.ntmps15
            go_wp2_with fail
            refine (KE.out _).mono ?_
            rintro e w1 ⟨rfl, rfl⟩
            go_wp2_with fail
            refine (KI.out _).mono ?_
            rintro e w1 ⟨rfl, rfl⟩
            go_wp2_with fail
            refine (KN.out _).mono ?_
            rintro e w1 ⟨rfl, rfl⟩
            go_wp2_with fail
            refine (KS.out _).mono ?_
            rintro e w1 ⟨rfl, rfl⟩
            go_wp2_with fail
            go_ret
            first | exact ⟨rfl, HB.out⟩ | exact ⟨by rw [decide_eq_false HR.out]; rfl, HB.out⟩
        · have KN := within_no hN
          have hR : ¬ Right ⟨ep, id, nu, se, 1, va⟩ := by unfold Right; dsimp only; omega
          have HR := Lib.hid hR
          clear hR
          clear hE hI hN
          go_enter Try.func15, Try.ntmps15
          go_wp2_with fail
          refine (KE.out _).mono ?_
          rintro e w1 ⟨rfl, rfl⟩
          go_wp2_with fail
          refine (KI.out _).mono ?_
          rintro e w1 ⟨rfl, rfl⟩
          go_wp2_with fail
          refine (KN.out _).mono ?_
          rintro e w1 ⟨rfl, rfl⟩
          go_wp2_with fail
          go_ret
          first | exact ⟨rfl, HB.out⟩ | exact ⟨by rw [decide_eq_false HR.out]; rfl, HB.out⟩
      · by_cases hn0 : nu = 0
        · have hn0' : (nu != 0) = false := by simpa using hn0
          by_cases hs0 : se = 0
          · have hs0' : (se != 0) = false := by simpa using hs0
            have KS : Hid (∀ w, Calls Try.prog 37 #[.int .i64 se, .int .i64 0, .int .i64 2147483647] w fun e w' => e = .returned (.bool true) ∧ w = w') := within_yes (by omega)
            by_cases hV : -2147483648 ≤ va ∧ va ≤ 2147483647
            · have KV := within_yes hV
              have hR : Right ⟨ep, id, nu, se, 1, va⟩ := by unfold Right; dsimp only; omega
              have HR := Lib.hid hR
              clear hR
              clear hE hI hn0 hs0 hV
              go_enter Try.func15, Try.ntmps15
              go_wp2_with fail
              refine (KE.out _).mono ?_
              rintro e w1 ⟨rfl, rfl⟩
              go_wp2_with fail
              refine (KI.out _).mono ?_
              rintro e w1 ⟨rfl, rfl⟩
              go_wp2_with fail
              refine (KS.out _).mono ?_
              rintro e w1 ⟨rfl, rfl⟩
              go_wp2_with fail
              refine (KV.out _).mono ?_
              rintro e w1 ⟨rfl, rfl⟩
              go_wp2_with fail
              go_ret
              first | exact ⟨rfl, HB.out⟩ | exact ⟨by rw [decide_eq_true HR.out]; rfl, HB.out⟩
            · have KV := within_no hV
              have hR : ¬ Right ⟨ep, id, nu, se, 1, va⟩ := by unfold Right; dsimp only; omega
              have HR := Lib.hid hR
              clear hR
              clear hE hI hn0 hs0 hV
              go_enter Try.func15, Try.ntmps15
              go_wp2_with fail
              refine (KE.out _).mono ?_
              rintro e w1 ⟨rfl, rfl⟩
              go_wp2_with fail
              refine (KI.out _).mono ?_
              rintro e w1 ⟨rfl, rfl⟩
              go_wp2_with fail
              refine (KS.out _).mono ?_
              rintro e w1 ⟨rfl, rfl⟩
              go_wp2_with fail
              refine (KV.out _).mono ?_
              rintro e w1 ⟨rfl, rfl⟩
              go_wp2_with fail
              go_ret
              first | exact ⟨rfl, HB.out⟩ | exact ⟨by rw [decide_eq_false HR.out]; rfl, HB.out⟩
          · have hs0' : (se != 0) = true := by simpa using hs0
            have hR : ¬ Right ⟨ep, id, nu, se, 1, va⟩ := by unfold Right; dsimp only; omega
            have HR := Lib.hid hR
            clear hR
            clear hE hI hn0 hs0
            go_enter Try.func15, Try.ntmps15
            go_wp2_with fail
            refine (KE.out _).mono ?_
            rintro e w1 ⟨rfl, rfl⟩
            go_wp2_with fail
            refine (KI.out _).mono ?_
            rintro e w1 ⟨rfl, rfl⟩
            go_wp2_with fail
            go_ret
            first | exact ⟨rfl, HB.out⟩ | exact ⟨by rw [decide_eq_false HR.out]; rfl, HB.out⟩
        · have hn0' : (nu != 0) = true := by simpa using hn0
          have hR : ¬ Right ⟨ep, id, nu, se, 1, va⟩ := by unfold Right; dsimp only; omega
          have HR := Lib.hid hR
          clear hR
          clear hE hI hn0
          go_enter Try.func15, Try.ntmps15
          go_wp2_with fail
          refine (KE.out _).mono ?_
          rintro e w1 ⟨rfl, rfl⟩
          go_wp2_with fail
          refine (KI.out _).mono ?_
          rintro e w1 ⟨rfl, rfl⟩
          go_wp2_with fail
          go_ret
          first | exact ⟨rfl, HB.out⟩ | exact ⟨by rw [decide_eq_false HR.out]; rfl, HB.out⟩
    · have KI := within_no hI
      have hR : ¬ Right ⟨ep, id, nu, se, 1, va⟩ := by unfold Right; dsimp only; omega
      have HR := Lib.hid hR
      clear hR
      clear hE hI
      go_enter Try.func15, Try.ntmps15
      go_wp2_with fail
      refine (KE.out _).mono ?_
      rintro e w1 ⟨rfl, rfl⟩
      go_wp2_with fail
      refine (KI.out _).mono ?_
      rintro e w1 ⟨rfl, rfl⟩
      go_wp2_with fail
      go_ret
      first | exact ⟨rfl, HB.out⟩ | exact ⟨by rw [decide_eq_false HR.out]; rfl, HB.out⟩
  · have KE := within_no hE
    have hR : ¬ Right ⟨ep, id, nu, se, 1, va⟩ := by unfold Right; dsimp only; omega
    have HR := Lib.hid hR
    clear hR
    clear hE
    go_enter Try.func15, Try.ntmps15
    go_wp2_with fail
    refine (KE.out _).mono ?_
    rintro e w1 ⟨rfl, rfl⟩
    go_wp2_with fail
    go_ret
    first | exact ⟨rfl, HB.out⟩ | exact ⟨by rw [decide_eq_false HR.out]; rfl, HB.out⟩

set_option maxRecDepth 100000 in
set_option maxHeartbeats 8000000 in
theorem Right2 (ep id nu se ki va : Int) (hk : ki = 2) (w : World) : Calls Try.prog 15 #[.agg #[.int .i64 ep, .int .i64 id, .int .i64 nu, .int .i64 se, .int .i64 ki, .int .i64 va]] w fun x w' => x = .returned (.bool (decide (Right ⟨ep, id, nu, se, ki, va⟩))) ∧ Below w.heap.size w w' := by
  have HB : Hid (Below w.heap.size w (w.alloc (.cells #[.int .i64 ep, .int .i64 id, .int .i64 nu, .int .i64 se, .int .i64 ki, .int .i64 va] 24))) := (Below.refl _ w).alloc (Nat.le_refl _) _
  subst hk
  by_cases hE : 1 ≤ ep ∧ ep ≤ 2147483647
  · have KE := within_yes hE
    by_cases hI : -1 ≤ id ∧ id ≤ 3
    · have KI := within_yes hI
      by_cases hid : 0 ≤ id
      · by_cases hN : 1 ≤ nu ∧ nu ≤ 2147483647
        · have KN := within_yes hN
          by_cases hs0 : se = 0
          · have hs0' : (se != 0) = false := by simpa using hs0
            by_cases hv0 : va = 0
            · have hv0' : (va != 0) = false := by simpa using hv0
              have KS : Hid (∀ w, Calls Try.prog 37 #[.int .i64 se, .int .i64 0, .int .i64 2147483647] w fun e w' => e = .returned (.bool true) ∧ w = w') := within_yes (by omega)
              have KV : Hid (∀ w, Calls Try.prog 37 #[.int .i64 va, .int .i64 (-2147483648), .int .i64 2147483647] w fun e w' => e = .returned (.bool true) ∧ w = w') := within_yes (by omega)
              have hR : Right ⟨ep, id, nu, se, 2, va⟩ := by unfold Right; dsimp only; omega
              have HR := Lib.hid hR
              clear hR
              clear hE hI hN hs0 hv0
              go_enter Try.func15, Try.ntmps15
              go_wp2_with fail
              refine (KE.out _).mono ?_
              rintro e w1 ⟨rfl, rfl⟩
              go_wp2_with fail
              refine (KI.out _).mono ?_
              rintro e w1 ⟨rfl, rfl⟩
              go_wp2_with fail
              refine (KN.out _).mono ?_
              rintro e w1 ⟨rfl, rfl⟩
              go_wp2_with fail
              refine (KS.out _).mono ?_
              rintro e w1 ⟨rfl, rfl⟩
              go_wp2_with fail
              refine (KV.out _).mono ?_
              rintro e w1 ⟨rfl, rfl⟩
              go_wp2_with fail
              go_ret
              first | exact ⟨rfl, HB.out⟩ | exact ⟨by rw [decide_eq_true HR.out]; rfl, HB.out⟩
            · have hv0' : (va != 0) = true := by simpa using hv0
              have hR : ¬ Right ⟨ep, id, nu, se, 2, va⟩ := by unfold Right; dsimp only; omega
              have HR := Lib.hid hR
              clear hR
              clear hE hI hN hs0 hv0
              go_enter Try.func15, Try.ntmps15
              go_wp2_with fail
              refine (KE.out _).mono ?_
              rintro e w1 ⟨rfl, rfl⟩
              go_wp2_with fail
              refine (KI.out _).mono ?_
              rintro e w1 ⟨rfl, rfl⟩
              go_wp2_with fail
              refine (KN.out _).mono ?_
              rintro e w1 ⟨rfl, rfl⟩
              go_wp2_with fail
              go_ret
              first | exact ⟨rfl, HB.out⟩ | exact ⟨by rw [decide_eq_false HR.out]; rfl, HB.out⟩
          · have hs0' : (se != 0) = true := by simpa using hs0
            have hR : ¬ Right ⟨ep, id, nu, se, 2, va⟩ := by unfold Right; dsimp only; omega
            have HR := Lib.hid hR
            clear hR
            clear hE hI hN hs0
            go_enter Try.func15, Try.ntmps15
            go_wp2_with fail
            refine (KE.out _).mono ?_
            rintro e w1 ⟨rfl, rfl⟩
            go_wp2_with fail
            refine (KI.out _).mono ?_
            rintro e w1 ⟨rfl, rfl⟩
            go_wp2_with fail
            refine (KN.out _).mono ?_
            rintro e w1 ⟨rfl, rfl⟩
            go_wp2_with fail
            go_ret
            first | exact ⟨rfl, HB.out⟩ | exact ⟨by rw [decide_eq_false HR.out]; rfl, HB.out⟩
        · have KN := within_no hN
          have hR : ¬ Right ⟨ep, id, nu, se, 2, va⟩ := by unfold Right; dsimp only; omega
          have HR := Lib.hid hR
          clear hR
          clear hE hI hN
          go_enter Try.func15, Try.ntmps15
          go_wp2_with fail
          refine (KE.out _).mono ?_
          rintro e w1 ⟨rfl, rfl⟩
          go_wp2_with fail
          refine (KI.out _).mono ?_
          rintro e w1 ⟨rfl, rfl⟩
          go_wp2_with fail
          refine (KN.out _).mono ?_
          rintro e w1 ⟨rfl, rfl⟩
          go_wp2_with fail
          go_ret
          first | exact ⟨rfl, HB.out⟩ | exact ⟨by rw [decide_eq_false HR.out]; rfl, HB.out⟩
      · have hR : ¬ Right ⟨ep, id, nu, se, 2, va⟩ := by unfold Right; dsimp only; omega
        have HR := Lib.hid hR
        clear hR
        clear hE hI
        go_enter Try.func15, Try.ntmps15
        go_wp2_with fail
        refine (KE.out _).mono ?_
        rintro e w1 ⟨rfl, rfl⟩
        go_wp2_with fail
        refine (KI.out _).mono ?_
        rintro e w1 ⟨rfl, rfl⟩
        go_wp2_with fail
        go_ret
        first | exact ⟨rfl, HB.out⟩ | exact ⟨by rw [decide_eq_false HR.out]; rfl, HB.out⟩
    · have KI := within_no hI
      have hR : ¬ Right ⟨ep, id, nu, se, 2, va⟩ := by unfold Right; dsimp only; omega
      have HR := Lib.hid hR
      clear hR
      clear hE hI
      go_enter Try.func15, Try.ntmps15
      go_wp2_with fail
      refine (KE.out _).mono ?_
      rintro e w1 ⟨rfl, rfl⟩
      go_wp2_with fail
      refine (KI.out _).mono ?_
      rintro e w1 ⟨rfl, rfl⟩
      go_wp2_with fail
      go_ret
      first | exact ⟨rfl, HB.out⟩ | exact ⟨by rw [decide_eq_false HR.out]; rfl, HB.out⟩
  · have KE := within_no hE
    have hR : ¬ Right ⟨ep, id, nu, se, 2, va⟩ := by unfold Right; dsimp only; omega
    have HR := Lib.hid hR
    clear hR
    clear hE
    go_enter Try.func15, Try.ntmps15
    go_wp2_with fail
    refine (KE.out _).mono ?_
    rintro e w1 ⟨rfl, rfl⟩
    go_wp2_with fail
    go_ret
    first | exact ⟨rfl, HB.out⟩ | exact ⟨by rw [decide_eq_false HR.out]; rfl, HB.out⟩

set_option maxRecDepth 100000 in
set_option maxHeartbeats 8000000 in
theorem Right3 (ep id nu se ki va : Int) (hk : ki = 3) (w : World) : Calls Try.prog 15 #[.agg #[.int .i64 ep, .int .i64 id, .int .i64 nu, .int .i64 se, .int .i64 ki, .int .i64 va]] w fun x w' => x = .returned (.bool (decide (Right ⟨ep, id, nu, se, ki, va⟩))) ∧ Below w.heap.size w w' := by
  have HB : Hid (Below w.heap.size w (w.alloc (.cells #[.int .i64 ep, .int .i64 id, .int .i64 nu, .int .i64 se, .int .i64 ki, .int .i64 va] 24))) := (Below.refl _ w).alloc (Nat.le_refl _) _
  subst hk
  by_cases hE : 1 ≤ ep ∧ ep ≤ 2147483647
  · have KE := within_yes hE
    by_cases hI : -1 ≤ id ∧ id ≤ 3
    · have KI := within_yes hI
      by_cases hid : 0 ≤ id
      · by_cases hN : 1 ≤ nu ∧ nu ≤ 2147483647
        · have KN := within_yes hN
          by_cases hs0 : se = 0
          · have hs0' : (se != 0) = false := by simpa using hs0
            by_cases hv0 : va = 0
            · have hv0' : (va != 0) = false := by simpa using hv0
              have KS : Hid (∀ w, Calls Try.prog 37 #[.int .i64 se, .int .i64 0, .int .i64 2147483647] w fun e w' => e = .returned (.bool true) ∧ w = w') := within_yes (by omega)
              have KV : Hid (∀ w, Calls Try.prog 37 #[.int .i64 va, .int .i64 (-2147483648), .int .i64 2147483647] w fun e w' => e = .returned (.bool true) ∧ w = w') := within_yes (by omega)
              have hR : Right ⟨ep, id, nu, se, 3, va⟩ := by unfold Right; dsimp only; omega
              have HR := Lib.hid hR
              clear hR
              clear hE hI hN hs0 hv0
              go_enter Try.func15, Try.ntmps15
              go_wp2_with fail
              refine (KE.out _).mono ?_
              rintro e w1 ⟨rfl, rfl⟩
              go_wp2_with fail
              refine (KI.out _).mono ?_
              rintro e w1 ⟨rfl, rfl⟩
              go_wp2_with fail
              refine (KN.out _).mono ?_
              rintro e w1 ⟨rfl, rfl⟩
              go_wp2_with fail
              refine (KS.out _).mono ?_
              rintro e w1 ⟨rfl, rfl⟩
              go_wp2_with fail
              refine (KV.out _).mono ?_
              rintro e w1 ⟨rfl, rfl⟩
              go_wp2_with fail
              go_ret
              first | exact ⟨rfl, HB.out⟩ | exact ⟨by rw [decide_eq_true HR.out]; rfl, HB.out⟩
            · have hv0' : (va != 0) = true := by simpa using hv0
              have hR : ¬ Right ⟨ep, id, nu, se, 3, va⟩ := by unfold Right; dsimp only; omega
              have HR := Lib.hid hR
              clear hR
              clear hE hI hN hs0 hv0
              go_enter Try.func15, Try.ntmps15
              go_wp2_with fail
              refine (KE.out _).mono ?_
              rintro e w1 ⟨rfl, rfl⟩
              go_wp2_with fail
              refine (KI.out _).mono ?_
              rintro e w1 ⟨rfl, rfl⟩
              go_wp2_with fail
              refine (KN.out _).mono ?_
              rintro e w1 ⟨rfl, rfl⟩
              go_wp2_with fail
              go_ret
              first | exact ⟨rfl, HB.out⟩ | exact ⟨by rw [decide_eq_false HR.out]; rfl, HB.out⟩
          · have hs0' : (se != 0) = true := by simpa using hs0
            have hR : ¬ Right ⟨ep, id, nu, se, 3, va⟩ := by unfold Right; dsimp only; omega
            have HR := Lib.hid hR
            clear hR
            clear hE hI hN hs0
            go_enter Try.func15, Try.ntmps15
            go_wp2_with fail
            refine (KE.out _).mono ?_
            rintro e w1 ⟨rfl, rfl⟩
            go_wp2_with fail
            refine (KI.out _).mono ?_
            rintro e w1 ⟨rfl, rfl⟩
            go_wp2_with fail
            refine (KN.out _).mono ?_
            rintro e w1 ⟨rfl, rfl⟩
            go_wp2_with fail
            go_ret
            first | exact ⟨rfl, HB.out⟩ | exact ⟨by rw [decide_eq_false HR.out]; rfl, HB.out⟩
        · have KN := within_no hN
          have hR : ¬ Right ⟨ep, id, nu, se, 3, va⟩ := by unfold Right; dsimp only; omega
          have HR := Lib.hid hR
          clear hR
          clear hE hI hN
          go_enter Try.func15, Try.ntmps15
          go_wp2_with fail
          refine (KE.out _).mono ?_
          rintro e w1 ⟨rfl, rfl⟩
          go_wp2_with fail
          refine (KI.out _).mono ?_
          rintro e w1 ⟨rfl, rfl⟩
          go_wp2_with fail
          refine (KN.out _).mono ?_
          rintro e w1 ⟨rfl, rfl⟩
          go_wp2_with fail
          go_ret
          first | exact ⟨rfl, HB.out⟩ | exact ⟨by rw [decide_eq_false HR.out]; rfl, HB.out⟩
      · have hR : ¬ Right ⟨ep, id, nu, se, 3, va⟩ := by unfold Right; dsimp only; omega
        have HR := Lib.hid hR
        clear hR
        clear hE hI
        go_enter Try.func15, Try.ntmps15
        go_wp2_with fail
        refine (KE.out _).mono ?_
        rintro e w1 ⟨rfl, rfl⟩
        go_wp2_with fail
        refine (KI.out _).mono ?_
        rintro e w1 ⟨rfl, rfl⟩
        go_wp2_with fail
        go_ret
        first | exact ⟨rfl, HB.out⟩ | exact ⟨by rw [decide_eq_false HR.out]; rfl, HB.out⟩
    · have KI := within_no hI
      have hR : ¬ Right ⟨ep, id, nu, se, 3, va⟩ := by unfold Right; dsimp only; omega
      have HR := Lib.hid hR
      clear hR
      clear hE hI
      go_enter Try.func15, Try.ntmps15
      go_wp2_with fail
      refine (KE.out _).mono ?_
      rintro e w1 ⟨rfl, rfl⟩
      go_wp2_with fail
      refine (KI.out _).mono ?_
      rintro e w1 ⟨rfl, rfl⟩
      go_wp2_with fail
      go_ret
      first | exact ⟨rfl, HB.out⟩ | exact ⟨by rw [decide_eq_false HR.out]; rfl, HB.out⟩
  · have KE := within_no hE
    have hR : ¬ Right ⟨ep, id, nu, se, 3, va⟩ := by unfold Right; dsimp only; omega
    have HR := Lib.hid hR
    clear hR
    clear hE
    go_enter Try.func15, Try.ntmps15
    go_wp2_with fail
    refine (KE.out _).mono ?_
    rintro e w1 ⟨rfl, rfl⟩
    go_wp2_with fail
    go_ret
    first | exact ⟨rfl, HB.out⟩ | exact ⟨by rw [decide_eq_false HR.out]; rfl, HB.out⟩

set_option maxRecDepth 100000 in
set_option maxHeartbeats 8000000 in
theorem RightX (ep id nu se ki va : Int) (hx : ki < 1 ∨ 3 < ki) (w : World) : Calls Try.prog 15 #[.agg #[.int .i64 ep, .int .i64 id, .int .i64 nu, .int .i64 se, .int .i64 ki, .int .i64 va]] w fun x w' => x = .returned (.bool (decide (Right ⟨ep, id, nu, se, ki, va⟩))) ∧ Below w.heap.size w w' := by
  have HB : Hid (Below w.heap.size w (w.alloc (.cells #[.int .i64 ep, .int .i64 id, .int .i64 nu, .int .i64 se, .int .i64 ki, .int .i64 va] 24))) := (Below.refl _ w).alloc (Nat.le_refl _) _
  by_cases hE : 1 ≤ ep ∧ ep ≤ 2147483647
  · have KE := within_yes hE
    by_cases hk1 : ki < 1
    · have hR : ¬ Right ⟨ep, id, nu, se, ki, va⟩ := by unfold Right; dsimp only; omega
      have HR := Lib.hid hR
      clear hR
      clear hE
      go_enter Try.func15, Try.ntmps15
      go_wp2_with fail
      refine (KE.out _).mono ?_
      rintro e w1 ⟨rfl, rfl⟩
      go_wp2_with fail
      go_ret
      first | exact ⟨rfl, HB.out⟩ | exact ⟨by rw [decide_eq_false HR.out]; rfl, HB.out⟩
    · have hR : ¬ Right ⟨ep, id, nu, se, ki, va⟩ := by unfold Right; dsimp only; omega
      have HR := Lib.hid hR
      clear hR
      clear hE
      go_enter Try.func15, Try.ntmps15
      go_wp2_with fail
      refine (KE.out _).mono ?_
      rintro e w1 ⟨rfl, rfl⟩
      go_wp2_with fail
      go_ret
      first | exact ⟨rfl, HB.out⟩ | exact ⟨by rw [decide_eq_false HR.out]; rfl, HB.out⟩
  · have KE := within_no hE
    have hR : ¬ Right ⟨ep, id, nu, se, ki, va⟩ := by unfold Right; dsimp only; omega
    have HR := Lib.hid hR
    clear hR
    clear hE
    go_enter Try.func15, Try.ntmps15
    go_wp2_with fail
    refine (KE.out _).mono ?_
    rintro e w1 ⟨rfl, rfl⟩
    go_wp2_with fail
    go_ret
    first | exact ⟨rfl, HB.out⟩ | exact ⟨by rw [decide_eq_false HR.out]; rfl, HB.out⟩

theorem Right_any (e : Ent) (w : World) : Calls Try.prog 15 #[entV e] w fun x w' => x = .returned (.bool (decide (Right e))) ∧ Below w.heap.size w w' := by
  obtain ⟨ep, id, nu, se, ki, va⟩ := e
  by_cases h1 : ki = 1
  · exact Right1 ep id nu se ki va h1 w
  · by_cases h2 : ki = 2
    · exact Right2 ep id nu se ki va h2 w
    · by_cases h3 : ki = 3
      · exact Right3 ep id nu se ki va h3 w
      · exact RightX ep id nu se ki va (by omega) w
end Go.Proofs.Ytdoidfnfhidgdaa
