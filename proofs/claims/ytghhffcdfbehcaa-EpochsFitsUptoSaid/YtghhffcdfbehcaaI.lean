import Derived.Test.YtghhffcdfbehcaaH
namespace Go.Proofs.Ytghhffcdfbehcaa
open Go.RowKit

set_option maxRecDepth 100000 in
set_option maxHeartbeats 1000000 in
theorem fits_big (A : Option Addr) (zs : List Int) (c : Nat) (n x : Int) (w : World) (hz : Ints w w.heap.size A zs) (hm : zs.length ≤ 1048576)
    (h : 60 < zs.length ∨ may (logE zs) = false) :
    Calls Try.prog 4 #[.slice A zs.length c, .int .i64 n, .int .i64 x] w fun e w' => e = .returned (.bool true) ∧ Below w.heap.size w w' := by
  have HH := Lib.hid h
  clear h
  have HLL := Lib.hid (logE_length zs)
  go_enter Try.func4, Try.ntmps4
  go_wp2_with fail
  refine (log_any A zs c w hz hm).mono ?_
  rintro e w1 ⟨A1, c1, rfl, hc1, he1, hb1⟩
  have hfit := Fits_any A1 (logE zs) c1 n x w1 he1 (by rw [HLL.out]; omega) (by rw [HLL.out]; exact hc1)
  rw [HLL.out] at hfit
  have HD := Lib.hid hfit
  clear hfit
  go_wp2_with fail
  refine HD.out.mono ?_
  rintro e w2 ⟨rfl, hb2⟩
  have hb : Below w.heap.size w w2 := hb1.trans (hb2.mono hb1.size)
  by_cases h60 : 60 < zs.length
  · go_wp2_with fail
    refine (known_any w2).mono ?_
    rintro e w4 ⟨rfl, hb4⟩
    go_wp2
    go_ret
    exact ⟨rfl, hb.trans (hb4.mono hb.size)⟩
  · have HM := Lib.hid (HH.out.resolve_left h60)
    have hmay := May_any A1 (logE zs) c1 w2 (he1.grow hb2) (by rw [HLL.out]; omega)
    rw [HLL.out, HM.out] at hmay
    have HMA := Lib.hid hmay
    clear hmay
    go_wp2_with fail
    refine HMA.out.mono ?_
    rintro e w3 ⟨rfl, hb3⟩
    have hb' : Below w.heap.size w w3 := hb.trans (hb3.mono hb.size)
    go_wp2_with fail
    refine (known_any w3).mono ?_
    rintro e w4 ⟨rfl, hb4⟩
    go_wp2
    go_ret
    exact ⟨rfl, hb'.trans (hb4.mono hb'.size)⟩

set_option maxRecDepth 100000 in
set_option maxHeartbeats 2000000 in
theorem fits_ok (A : Option Addr) (zs : List Int) (c : Nat) (n x : Int) (w : World) (hz : Ints w w.heap.size A zs)
    (h60 : zs.length ≤ 60) (hn2 : n ≤ 9223372036854775807) (hmay : may (logE zs) = true) :
    Calls Try.prog 4 #[.slice A zs.length c, .int .i64 n, .int .i64 x] w fun e w' => e = .returned (.bool true) ∧ Below w.heap.size w w' := by
  have HLL := Lib.hid (logE_length zs)
  have HM := Lib.hid hmay
  clear hmay
  go_enter Try.func4, Try.ntmps4
  go_wp2_with fail
  refine (log_any A zs c w hz (by omega)).mono ?_
  rintro e w1 ⟨A1, c1, rfl, hc1, he1, hb1⟩
  have hfit := Fits_any A1 (logE zs) c1 n x w1 he1 (by rw [HLL.out]; omega) (by rw [HLL.out]; exact hc1)
  rw [HLL.out] at hfit
  have HD := Lib.hid hfit
  clear hfit
  go_wp2_with fail
  refine HD.out.mono ?_
  rintro e w2 ⟨rfl, hb2⟩
  have hb : Below w.heap.size w w2 := hb1.trans (hb2.mono hb1.size)
  have hmay := May_any A1 (logE zs) c1 w2 (he1.grow hb2) (by rw [HLL.out]; omega)
  rw [HLL.out, HM.out] at hmay
  have HMA := Lib.hid hmay
  clear hmay
  go_wp2_with fail
  refine HMA.out.mono ?_
  rintro e w3 ⟨rfl, hb3⟩
  have hb' : Below w.heap.size w w3 := hb.trans (hb3.mono hb.size)
  have hz3 := hz.below hb' (Nat.le_refl _)
  clear hb1 hb2 hb3 he1 hc1 hz HD HMA hb
  by_cases hneg : n < 0 ∨ x < 0
  · have hok : fitsOk (logE zs) n x = false := by
      rcases hneg with h | h <;> simp [fitsOk, Int.not_le.2 h]
    have e1 : fitsV (logE zs) n x = false := by simp [fitsV, hok]
    have e2 : fitsE (logE zs) n x = 2 := by simp [fitsE, hok]
    clear hok
    rw [e1, e2]
    clear e1 e2
    by_cases hn : n < 0
    · go_wp2_with fail
      refine (known_any w3).mono ?_
      rintro e w4 ⟨rfl, hb4⟩
      go_wp2
      go_ret
      exact ⟨rfl, hb'.trans (hb4.mono hb'.size)⟩
    · have hx : x < 0 := hneg.resolve_left hn
      clear hneg
      go_wp2_with fail
      refine (known_any w3).mono ?_
      rintro e w4 ⟨rfl, hb4⟩
      go_wp2
      go_ret
      exact ⟨rfl, hb'.trans (hb4.mono hb'.size)⟩
  · obtain ⟨m, rfl⟩ := Int.eq_ofNat_of_zero_le (show 0 ≤ n by omega)
    have hx : 0 ≤ x := by omega
    have e1 : fitsV (logE zs) m x = fitsB (logE zs) m x := by simp [fitsV, fitsOk, hx, HM.out]
    have e2 : fitsE (logE zs) m x = 0 := by simp [fitsE, fitsOk, hx, HM.out]
    rw [e1, e2]
    clear e1 e2 hneg
    by_cases hml : m ≤ zs.length
    · have hfb : fitsB (logE zs) m x = (lastE ((logE zs).take m) == x) := by simp [fitsB, HLL.out, hml]
      rw [hfb]
      clear hfb
      rcases Nat.eq_zero_or_pos m with rfl | hm0
      · have h0 : lastE ((logE zs).take 0) = 0 := rfl
        rw [h0]
        clear h0
        cases hx0 : ((0 : Int) == x) with
        | true =>
          go_wp2_with fail
          refine (known_any w3).mono ?_
          rintro e w4 ⟨rfl, hb4⟩
          go_wp2
          go_ret
          exact ⟨rfl, hb'.trans (hb4.mono hb'.size)⟩
        | false =>
          go_wp2_with fail
          refine (known_any w3).mono ?_
          rintro e w4 ⟨rfl, hb4⟩
          go_wp2
          go_ret
          exact ⟨rfl, hb'.trans (hb4.mono hb'.size)⟩
      · have hlt : lastE ((logE zs).take m) = zs[m - 1] := by
          rw [lastE_take hm0 (by rw [HLL.out]; exact hml)]
          exact logE_at (by omega)
        rw [hlt]
        clear hlt
        obtain ⟨b, off, rfl, _, hc⟩ := hz3.at_ (k := m - 1) (by omega)
        cases hx0 : (zs[m - 1] == x) with
        | true =>
          go_wp2_with fail
          refine (known_any w3).mono ?_
          rintro e w4 ⟨rfl, hb4⟩
          go_wp2
          go_ret
          exact ⟨rfl, hb'.trans (hb4.mono hb'.size)⟩
        | false =>
          go_wp2_with fail
          refine (known_any w3).mono ?_
          rintro e w4 ⟨rfl, hb4⟩
          go_wp2
          go_ret
          exact ⟨rfl, hb'.trans (hb4.mono hb'.size)⟩
    · have hfb : fitsB (logE zs) m x = false := by simp [fitsB, HLL.out, hml]
      rw [hfb]
      clear hfb
      go_wp2_with fail
      refine (known_any w3).mono ?_
      rintro e w4 ⟨rfl, hb4⟩
      go_wp2
      go_ret
      exact ⟨rfl, hb'.trans (hb4.mono hb'.size)⟩
end Go.Proofs.Ytghhffcdfbehcaa
