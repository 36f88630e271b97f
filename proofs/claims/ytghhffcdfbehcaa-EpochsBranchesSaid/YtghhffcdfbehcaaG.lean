import Derived.Test.YtghhffcdfbehcaaF
namespace Go.Proofs.Ytghhffcdfbehcaa
open Go.RowKit

theorem logE_at {zs : List Int} {k : Nat} (hk : k < zs.length) : ((logE zs)[k]'(by rw [logE_length]; exact hk)).epoch = zs[k] := by
  rw [logE_get]; simp [List.getD, hk]

/-- what the law's walk wants to know where End answers -/
theorem ends_facts {zs : List Int} {x : Int} (h : may (logE zs) = true) :
    aboveN x (logE zs) ≤ zs.length ∧ (∀ k (hk : k < zs.length), zs[k] ≤ x ↔ k < aboveN x (logE zs)) ∧
    (∀ (_ : 0 < aboveN x (logE zs)) (hk : aboveN x (logE zs) - 1 < zs.length), lastE ((logE zs).take (aboveN x (logE zs))) = zs[aboveN x (logE zs) - 1]) ∧
    (aboveN x (logE zs) = 0 → lastE ((logE zs).take (aboveN x (logE zs))) = 0) := by
  have hle := aboveN_le x (logE zs)
  rw [logE_length] at hle
  refine ⟨hle, fun k hk => ?_, fun h0 hk => ?_, fun h0 => by rw [h0]; rfl⟩
  · have hk2 : k < (logE zs).length := by rw [logE_length]; exact hk
    have := above_iff x (may_from h) k hk2
    rw [logE_at hk] at this
    exact this
  · rw [lastE_take h0 (aboveN_le x _)]
    exact logE_at hk

set_option maxRecDepth 100000 in
set_option maxHeartbeats 1000000 in
theorem ends_big (A : Option Addr) (zs : List Int) (c : Nat) (x n : Int) (w : World) (hz : Ints w w.heap.size A zs) (hm : zs.length ≤ 1048576) (hn2 : n ≤ 9223372036854775807)
    (h : 60 < zs.length ∨ endOk (logE zs) x = false) :
    Calls Try.prog 3 #[.slice A zs.length c, .int .i64 x, .int .i64 n] w fun e w' => e = .returned (.bool true) ∧ Below w.heap.size w w' := by
  have hE : 60 < zs.length ∨ (endE (logE zs) x = 2) := h.imp id fun h => by simp [endE, h]
  clear h
  have hll := logE_length zs
  go_enter Try.func3, Try.ntmps3
  have HLL := Lib.hid hll
  clear hll
  have HE := Lib.hid hE
  clear hE
  go_wp2_with fail
  refine (log_any A zs c w hz hm).mono ?_
  rintro e w1 ⟨A1, c1, rfl, hc1, he1, hb1⟩
  have hend := End_any A1 (logE zs) c1 x w1 he1 (by rw [HLL.out]; omega) (by rw [HLL.out]; exact hc1)
  rw [HLL.out] at hend
  have HD := Lib.hid hend
  clear hend
  go_wp2_with fail
  refine HD.out.mono ?_
  rintro e w2 ⟨rfl, hb2⟩
  have hcut := Cut_any A1 (logE zs) c1 x n w2 (he1.grow hb2) (by rw [HLL.out]; omega) hn2
  rw [HLL.out] at hcut
  have HC := Lib.hid hcut
  clear hcut
  go_wp2_with fail
  refine HC.out.mono ?_
  rintro e w3 ⟨rfl, hb3⟩
  have hb : Below w.heap.size w w3 := (hb1.trans (hb2.mono hb1.size)).trans (hb3.mono (Nat.le_trans hb1.size hb2.size))
  have HK := Lib.hid (known_any w3)
  by_cases h60 : 60 < zs.length
  · go_wp2_with fail
    refine HK.out.mono ?_
    rintro e w4 ⟨rfl, hb4⟩
    go_wp2
    go_ret
    exact ⟨rfl, hb.trans (hb4.mono hb.size)⟩
  · have h2 := HE.out.resolve_left h60
    rw [h2]
    go_wp2_with fail
    refine HK.out.mono ?_
    rintro e w4 ⟨rfl, hb4⟩
    go_wp2
    go_ret
    exact ⟨rfl, hb.trans (hb4.mono hb.size)⟩

set_option maxRecDepth 100000 in
set_option maxHeartbeats 2000000 in
theorem ends_ok (A : Option Addr) (zs : List Int) (c : Nat) (x n : Int) (w : World) (hz : Ints w w.heap.size A zs) (hn2 : n ≤ 9223372036854775807)
    (h60 : zs.length ≤ 60) (hok : endOk (logE zs) x = true) :
    Calls Try.prog 3 #[.slice A zs.length c, .int .i64 x, .int .i64 n] w fun e w' => e = .returned (.bool true) ∧ Below w.heap.size w w' := by
  have hok2 := hok
  simp only [endOk, Bool.and_eq_true, decide_eq_true_eq] at hok2
  obtain ⟨hx0, hmay⟩ := hok2
  obtain ⟨hle, hiff, hlast, hzero⟩ := ends_facts (x := x) hmay
  have e1 : endX (logE zs) x = lastE ((logE zs).take (aboveN x (logE zs))) := by simp [endX, hok]
  have e2 : endN (logE zs) x = (aboveN x (logE zs) : Nat) := by simp [endN, hok]
  have e3 : endE (logE zs) x = 0 := by simp [endE, hok]
  have hll := logE_length zs
  generalize hN : aboveN x (logE zs) = N at *
  generalize hX : lastE ((logE zs).take N) = X at *
  have c1 : n < 0 → cutN (logE zs) x n = 0 := fun h => by simp [cutN, cutOk, show ¬ 0 ≤ n by omega]
  have c2 : n < 0 → cutE (logE zs) x n = 2 := fun h => by simp [cutE, cutOk, show ¬ 0 ≤ n by omega]
  have c3 : 0 ≤ n → cutN (logE zs) x n = min n (N : Nat) := fun h => by simp [cutN, cutOk, h, hx0, hmay, hN]
  have c4 : 0 ≤ n → cutE (logE zs) x n = 0 := fun h => by simp [cutE, cutOk, h, hx0, hmay]
  have HLL := Lib.hid hll
  have HE := Lib.hid (And.intro e1 (And.intro e2 e3))
  have HIF := Lib.hid hiff
  have HLA := Lib.hid hlast
  have HZE := Lib.hid hzero
  have C1 := Lib.hid c1
  have C2 := Lib.hid c2
  have C3 := Lib.hid c3
  have C4 := Lib.hid c4
  clear hll e1 e2 e3 hiff hlast hzero c1 c2 c3 c4 hok hmay hN hX
  go_enter Try.func3, Try.ntmps3
  go_wp2_with fail
  refine (log_any A zs c w hz (by omega)).mono ?_
  rintro e w1 ⟨A1, c1, rfl, hc1, he1, hb1⟩
  have hend := End_any A1 (logE zs) c1 x w1 he1 (by rw [HLL.out]; omega) (by rw [HLL.out]; exact hc1)
  rw [HLL.out, HE.out.1, HE.out.2.1, HE.out.2.2] at hend
  have HD := Lib.hid hend
  clear hend
  go_wp2_with fail
  refine HD.out.mono ?_
  rintro e w2 ⟨rfl, hb2⟩
  have hcut := Cut_any A1 (logE zs) c1 x n w2 (he1.grow hb2) (by rw [HLL.out]; omega) hn2
  rw [HLL.out] at hcut
  have HC := Lib.hid hcut
  clear hcut
  go_wp2_with fail
  refine HC.out.mono ?_
  rintro e w3 ⟨rfl, hb3⟩
  have hb : Below w.heap.size w w3 := (hb1.trans (hb2.mono hb1.size)).trans (hb3.mono (Nat.le_trans hb1.size hb2.size))
  have hz3 := hz.below hb (Nat.le_refl _)
  clear hb1 hb2 hb3 he1 hc1 hz HD HC
  have hpart : (N = 0 ∧ X = 0) ∨ (0 < N ∧ (0 < N → ∃ b off, A = some ⟨b, off, none⟩ ∧ w3.cell? ⟨b, off + (N - 1), none⟩ = some (.int .i64 X))) := by
    rcases Nat.eq_zero_or_pos N with h0 | h0
    · exact .inl ⟨h0, HZE.out h0⟩
    · obtain ⟨b, off, rfl, _, hc⟩ := hz3.at_ (k := N - 1) (by omega)
      exact .inr ⟨h0, fun _ => ⟨b, off, rfl, by rw [hc, HLA.out h0 (by omega)]⟩⟩
  clear HZE HLA
  rcases hpart with ⟨rfl, rfl⟩ | ⟨h0, hp⟩
  · go_wp2_with fail
    go_loop [13] (fun i => ∃ k : Nat, k ≤ zs.length ∧ i = .int .i64 k) (fun i => zs.length - (intOf i).toNat)
    case atStart => exact ⟨0, Nat.zero_le _, rfl⟩
    case round =>
      obtain ⟨k, hk, rfl⟩ := hrel
      by_cases hlt : k < zs.length
      · obtain ⟨b1, off1, hA1, _, hck⟩ := hz3.at_ hlt
        subst hA1
        have hif := HIF.out k hlt
        have d2 : (!(decide (zs[k] ≤ x) == decide ((k : Int) < (0 : Int)))) = false := by
          have : decide (zs[k] ≤ x) = decide ((k : Int) < (0 : Int)) := by rw [decide_eq_decide, hif]; omega
          rw [this]; simp
        clear hif
        go_wp2_with fail
        go_round
        case rel => exact ⟨k + 1, by omega, by go_num⟩
        case measure => simp [intOf]; omega
      · obtain rfl : k = zs.length := by omega
        by_cases hn : n < 0
        · rw [C1.out hn, C2.out hn]
          go_wp2_with fail
          refine (known_any w3).mono ?_
          rintro e w4 ⟨rfl, hb4⟩
          go_wp2
          go_ret
          exact ⟨rfl, hb.trans (hb4.mono hb.size)⟩
        · rw [C3.out (by omega), C4.out (by omega)]
          by_cases hnN : n ≤ ((0 : Nat) : Int)
          · rw [show min n ((0 : Nat) : Int) = n from Int.min_eq_left hnN]
            go_wp2_with fail
            refine (known_any w3).mono ?_
            rintro e w4 ⟨rfl, hb4⟩
            go_wp2
            go_ret
            exact ⟨rfl, hb.trans (hb4.mono hb.size)⟩
          · rw [show min n ((0 : Nat) : Int) = ((0 : Nat) : Int) from Int.min_eq_right (by omega)]
            go_wp2_with fail
            refine (known_any w3).mono ?_
            rintro e w4 ⟨rfl, hb4⟩
            go_wp2
            go_ret
            exact ⟨rfl, hb.trans (hb4.mono hb.size)⟩
  · obtain ⟨b, off, rfl, hc⟩ := hp h0
    clear hp
    have t1 : decide (0 < N) = true := by simpa using h0
    have t2 : ((N : Int) == 0) = false := beq_eq_false_iff_ne.2 (by omega)
    go_wp2_with fail
    go_loop [13] (fun i => ∃ k : Nat, k ≤ zs.length ∧ i = .int .i64 k) (fun i => zs.length - (intOf i).toNat)
    case atStart => exact ⟨0, Nat.zero_le _, rfl⟩
    case round =>
      obtain ⟨k, hk, rfl⟩ := hrel
      by_cases hlt : k < zs.length
      · obtain ⟨b1, off1, hA1, _, hck⟩ := hz3.at_ hlt
        cases hA1
        have hif := HIF.out k hlt
        have d2 : (!(decide (zs[k] ≤ x) == decide (k < N))) = false := by
          have : decide (zs[k] ≤ x) = decide (k < N) := by rw [decide_eq_decide, hif]
          rw [this]; simp
        clear hif
        go_wp2_with fail
        go_round
        case rel => exact ⟨k + 1, by omega, by go_num⟩
        case measure => simp [intOf]; omega
      · obtain rfl : k = zs.length := by omega
        by_cases hn : n < 0
        · rw [C1.out hn, C2.out hn]
          go_wp2_with fail
          refine (known_any w3).mono ?_
          rintro e w4 ⟨rfl, hb4⟩
          go_wp2
          go_ret
          exact ⟨rfl, hb.trans (hb4.mono hb.size)⟩
        · rw [C3.out (by omega), C4.out (by omega)]
          by_cases hnN : n ≤ (N : Int)
          · rw [show min n (N : Int) = n from Int.min_eq_left hnN]
            go_wp2_with fail
            refine (known_any w3).mono ?_
            rintro e w4 ⟨rfl, hb4⟩
            go_wp2
            go_ret
            exact ⟨rfl, hb.trans (hb4.mono hb.size)⟩
          · rw [show min n (N : Int) = (N : Int) from Int.min_eq_right (by omega)]
            go_wp2_with fail
            refine (known_any w3).mono ?_
            rintro e w4 ⟨rfl, hb4⟩
            go_wp2
            go_ret
            exact ⟨rfl, hb.trans (hb4.mono hb.size)⟩
end Go.Proofs.Ytghhffcdfbehcaa
