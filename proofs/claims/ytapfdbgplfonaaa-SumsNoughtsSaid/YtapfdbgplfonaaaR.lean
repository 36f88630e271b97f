import Derived.Test.YtapfdbgplfonaaaQ
namespace Go.Proofs.Ytapfdbgplfonaaa
open Go.RowKit

set_option maxRecDepth 100000 in
set_option maxHeartbeats 2000000 in
theorem noughts_big (A1 : Option Addr) (a : List Nat) (c1 : Nat) (n : Int) (w : World) (hma : a.length ≤ 9223372036854775807) (h : 300 < a.length ∨ n < 1 ∨ 100 < n) :
    Calls Try.prog 8 #[.slice A1 a.length c1, .int .i64 n] w fun e w' => e = .returned (.bool true) ∧ Below w.heap.size w w' := by
  have H := Lib.hid h
  clear h
  by_cases h1 : 300 < a.length
  · go_enter Try.func8, Try.ntmps8
    go_wp2_with fail
    refine (works_any w).mono ?_
    rintro e w1 ⟨rfl, hb1⟩
    go_wp2_with fail
    go_ret
    exact ⟨rfl, hb1⟩
  · by_cases h2 : n < 1
    · go_enter Try.func8, Try.ntmps8
      go_wp2_with fail
      refine (works_any w).mono ?_
      rintro e w1 ⟨rfl, hb1⟩
      go_wp2_with fail
      go_ret
      exact ⟨rfl, hb1⟩
    · have h3 : 100 < n := (H.out.resolve_left h1).resolve_left h2
      go_enter Try.func8, Try.ntmps8
      go_wp2_with fail
      refine (works_any w).mono ?_
      rintro e w1 ⟨rfl, hb1⟩
      go_wp2_with fail
      go_ret
      exact ⟨rfl, hb1⟩

set_option maxRecDepth 100000 in
set_option maxHeartbeats 4000000 in
theorem noughts_ok (A1 : Option Addr) (a : List Nat) (c1 n : Nat) (w : World) (ha : Bys w w.heap.size A1 a) (hma : a.length ≤ 300) (h1 : 1 ≤ n) (h2 : n ≤ 100) :
    Calls Try.prog 8 #[.slice A1 a.length c1, .int .i64 n] w fun e w' => e = .returned (.bool true) ∧ Below w.heap.size w w' := by
  have h1i : ¬ (n : Int) < 1 := by omega
  have h2i : ¬ (100 : Int) < (n : Int) := by omega
  have hzl := zeros_length n
  have hmk := make_zeros n (by omega)
  have hbW : Below w.heap.size w (w.alloc (.cells (zc n) 5)) := (Below.refl _ w).alloc (Nat.le_refl _) _
  have hz := bys_zeros w n
  obtain ⟨v1, w1, v2, w2, hr1, hr2, ho2, hb2⟩ := copy2_run (w.alloc (.cells (zc n) 5)) (some ⟨w.heap.size, 0, none⟩) A1 (zeros n) a n c1 hz (ha.grow hbW) (by omega)
  obtain ⟨A2, c2, rfl, hc2, hbys2⟩ := ho2.formN (n := n + a.length) (by simp; omega)
  have hb2' : Below w.heap.size w w2 := hbW.trans (hb2.mono hbW.size)
  have hs2 := Sum_any A2 (zeros n ++ a) c2 w2 hbys2 (by simp; omega)
  rw [List.length_append, hzl] at hs2
  have hz2 := (hz.grow hb2)
  rw [hzl] at hr1
  simp only [World.size_alloc] at hr1
  have HR1 := Lib.hid hr1
  have HR2 := Lib.hid hr2
  have HZL := Lib.hid hzl
  have HS2 := Lib.hid hs2
  clear hr1 hr2 hzl hs2 hz hb2 ho2
  go_enter Try.func8, Try.ntmps8
  go_wp2_with (first | (at_builtin; refine Lib.wpList_append_run _ rfl _ _ _ _ rfl _ _ rfl rfl _ _ HR1.out ?_) | (at_builtin; refine Lib.wpList_append_run _ rfl _ _ _ _ rfl _ _ rfl rfl _ _ HR2.out ?_))
  refine HS2.out.mono ?_
  rintro e w3 ⟨rfl, hb3⟩
  have hbw3 : Below w.heap.size w w3 := hb2'.trans (hb3.mono hb2'.size)
  have hz3 := hz2.grow hb3
  have ha3 := ha.grow hbw3
  clear HS2 HR1 HR2 hb3 hz2 hbys2 hb2' hbW hmk
  obtain ⟨v4, w4, v5, w5, hr4, hr5, ho5, hb5⟩ := copy2_run w3 (some ⟨w.heap.size, 0, none⟩) A1 (zeros n) a n c1 hz3 ha3 (by rw [HZL.out]; omega)
  obtain ⟨A5, c5, rfl, hc5, hbys5⟩ := ho5.formN (n := n + a.length) (by rw [List.length_append, HZL.out])
  have hs5 := refSum_any A5 (zeros n ++ a) c5 w5 hbys5 (by rw [List.length_append, HZL.out]; omega)
  rw [List.length_append, HZL.out] at hs5
  rw [HZL.out] at hr4
  have HR4 := Lib.hid hr4
  have HR5 := Lib.hid hr5
  have HS5 := Lib.hid hs5
  clear hr4 hr5 hs5 ho5
  have hbw5 : Below w.heap.size w w5 := hbw3.trans (hb5.mono hbw3.size)
  have hz5 := hz3.grow hb5
  have ha5 := ha.grow hbw5
  go_wp2_with (first | (at_builtin; refine Lib.wpList_append_run _ rfl _ _ _ _ rfl _ _ rfl rfl _ _ HR4.out ?_) | (at_builtin; refine Lib.wpList_append_run _ rfl _ _ _ _ rfl _ _ rfl rfl _ _ HR5.out ?_))
  refine HS5.out.mono ?_
  rintro e w6 ⟨rfl, rfl⟩
  clear HR4 HR5 HS5 hz3 ha3 hb5 hbys5
  go_wp2_with fail
  refine (Sum_any A1 a c1 w5 ha5 (by omega)).mono ?_
  rintro e w6 ⟨rfl, hb6⟩
  have hbw6 : Below w.heap.size w w6 := hbw5.trans (hb6.mono hbw5.size)
  have hz6 := hz5.grow hb6
  clear hb6 hz5 ha5
  have hmo := More_any (Crc.sum a) (some ⟨w.heap.size, 0, none⟩) (zeros n) n w6 (sum_lt a) hz6 (by rw [HZL.out]; omega)
  rw [HZL.out, more_sum a (zeros n) ha.1] at hmo
  have HMO := Lib.hid hmo
  clear hmo
  go_wp2_with fail
  refine HMO.out.mono ?_
  rintro e w7 ⟨rfl, hb7⟩
  have hbw7 : Below w.heap.size w w7 := hbw6.trans (hb7.mono hbw6.size)
  have hz7 := hz6.grow hb7
  have ha7 := ha.grow hbw7
  clear HMO hb7 hz6
  obtain ⟨v8, w8, v9, w9, hr8, hr9, ho9, hb9⟩ := copy2_run w7 A1 (some ⟨w.heap.size, 0, none⟩) a (zeros n) c1 n ha7 hz7 (by rw [HZL.out]; omega)
  obtain ⟨A9, c9, rfl, hc9, hbys9⟩ := ho9.formN (n := a.length + n) (by rw [List.length_append, HZL.out])
  have hs9 := refSum_any A9 (a ++ zeros n) c9 w9 hbys9 (by rw [List.length_append, HZL.out]; omega)
  rw [List.length_append, HZL.out] at hs9
  rw [HZL.out] at hr9
  have HR8 := Lib.hid hr8
  have HR9 := Lib.hid hr9
  have HS9 := Lib.hid hs9
  clear hr8 hr9 hs9 ho9
  have hbw9 : Below w.heap.size w w9 := hbw7.trans (hb9.mono hbw7.size)
  go_wp2_with (first | (at_builtin; refine wpList_append_run_g _ (by rfl) _ _ _ _ rfl _ _ rfl rfl _ _ HR8.out ?_) | (at_builtin; refine wpList_append_run_g _ (by rfl) _ _ _ _ rfl _ _ rfl rfl _ _ HR9.out ?_))
  refine HS9.out.mono ?_
  rintro e w10 ⟨rfl, rfl⟩
  clear HR8 HR9 HS9 hz7 ha7 hb9 hbys9
  go_wp2_with fail
  refine (works_any w9).mono ?_
  rintro e w11 ⟨rfl, hb11⟩
  go_wp2_with fail
  go_ret
  exact ⟨rfl, hbw9.trans (hb11.mono hbw9.size)⟩
end Go.Proofs.Ytapfdbgplfonaaa
