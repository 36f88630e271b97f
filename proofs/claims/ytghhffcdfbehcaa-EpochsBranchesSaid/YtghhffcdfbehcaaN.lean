import Derived.Test.YtghhffcdfbehcaaM
namespace Go.Proofs.Ytghhffcdfbehcaa
open Go.RowKit

theorem lastE_nonneg {l : List Ent} (h : mayFrom 1 l = true) : 0 ≤ lastE l := by
  cases l with
  | nil => exact Int.le_refl _
  | cons e r =>
    rw [lastE_eq (by simp)]
    have := mayFrom_ge h ((e :: r).length - 1) (by simp)
    omega

set_option maxRecDepth 100000 in
set_option maxHeartbeats 2000000 in
theorem meet_big (A1 A2 : Option Addr) (za zb : List Int) (c1 c2 : Nat) (w : World) (h : 40 < za.length ∨ 40 < zb.length) :
    Calls Try.prog 6 #[.slice A1 za.length c1, .slice A2 zb.length c2] w fun e w' => e = .returned (.bool true) ∧ Below w.heap.size w w' := by
  by_cases h1 : 40 < za.length
  · clear h
    go_enter Try.func6, Try.ntmps6
    go_wp2_with fail
    refine (known_any w).mono ?_
    rintro e w1 ⟨rfl, hb1⟩
    go_wp2_with fail
    go_ret
    exact ⟨rfl, hb1⟩
  · have h2 := h.resolve_left h1
    clear h
    go_enter Try.func6, Try.ntmps6
    go_wp2_with fail
    refine (known_any w).mono ?_
    rintro e w1 ⟨rfl, hb1⟩
    go_wp2_with fail
    go_ret
    exact ⟨rfl, hb1⟩

set_option maxRecDepth 100000 in
set_option maxHeartbeats 4000000 in
theorem meet_ok (A1 A2 : Option Addr) (za zb : List Int) (c1 c2 : Nat) (w : World) (ha : Ints w w.heap.size A1 za) (hb : Ints w w.heap.size A2 zb) (h1 : za.length ≤ 40) (h2 : zb.length ≤ 40) :
    Calls Try.prog 6 #[.slice A1 za.length c1, .slice A2 zb.length c2] w fun e w' => e = .returned (.bool true) ∧ Below w.heap.size w w' := by
  obtain ⟨X, hX⟩ : ∃ X, logE za = X := ⟨_, rfl⟩
  obtain ⟨Y, hY⟩ : ∃ Y, logE zb = Y := ⟨_, rfl⟩
  have hXl : X.length = za.length := by rw [← hX]; exact logE_length za
  have hYl : Y.length = zb.length := by rw [← hY]; exact logE_length zb
  have L1 := log_any A1 za c1 w ha (by omega)
  have HLX := Lib.hid hXl
  have HLY := Lib.hid hYl
  have HX := Lib.hid hX
  have HY := Lib.hid hY
  have HL1 := Lib.hid L1
  clear hXl hYl hX hY L1
  go_enter Try.func6, Try.ntmps6
  go_wp2_with fail
  refine HL1.out.mono ?_
  rintro e w1 ⟨A3, c3, rfl, hc3, he3, hb1⟩
  rw [HX.out] at he3
  go_wp2_with fail
  refine (log_any A2 zb c2 w1 (hb.grow hb1) (by omega)).mono ?_
  rintro e w2 ⟨A4, c4, rfl, hc4, he4, hb2⟩
  rw [HY.out] at he4
  have he3b := he3.grow hb2
  have hbw2 : Below w.heap.size w w2 := hb1.trans (hb2.mono hb1.size)
  clear hb1 hb2 he3 HL1
  have hXl := HLX.out
  have hYl := HLY.out
  by_cases hm : may X = true ∧ may Y = true
  · obtain ⟨m1, m2⟩ := hm
    have hmeet := Meet_yes A3 A4 X Y c3 c4 w2 he3b he4 (by omega) (by omega) (by omega) (by omega) m1 m2
    obtain ⟨hf1, hf2, hf3⟩ := meetF_facts (leader := X) (l := Y) Y.length Y.length 0 (Nat.le_refl _)
    obtain ⟨n, hn⟩ : ∃ n, (meetN X Y).1 = n := ⟨_, rfl⟩
    obtain ⟨o, ho⟩ : ∃ o, (meetN X Y).2 = o := ⟨_, rfl⟩
    have hn' : (meetF X Y Y.length Y.length 0).1 = n := hn
    have ho' : (meetF X Y Y.length Y.length 0).2 = o := ho
    rw [hn'] at hf1 hf2 hf3
    rw [ho'] at hf3
    rw [hn, ho, hXl, hYl] at hmeet
    have HME := Lib.hid hmeet
    have HM1 := Lib.hid m1
    have HM2 := Lib.hid m2
    have HF1 := Lib.hid hf1
    have HN := Lib.hid hn
    have HO := Lib.hid ho
    rw [hYl] at hf2 hf3
    clear hmeet m1 m2 hf1 hn ho hn' ho' hXl hYl
    go_wp2_with fail
    refine HME.out.mono ?_
    rintro e w3 ⟨rfl, hb3⟩
    have hbw3 : Below w.heap.size w w3 := hbw2.trans (hb3.mono hbw2.size)
    have he3c := he3b.grow hb3
    have he4c := he4.grow hb3
    clear hb3 he3b he4 HME
    have hr1 := refMay_any A3 X c3 w3 he3c (by rw [HLX.out]; omega)
    rw [HLX.out, HM1.out] at hr1
    have HR1 := Lib.hid hr1
    clear hr1
    go_wp2_with fail
    refine HR1.out.mono ?_
    rintro e w4 ⟨rfl, hb4⟩
    have hbw4 : Below w.heap.size w w4 := hbw3.trans (hb4.mono hbw3.size)
    have he3d := he3c.grow hb4
    have he4d := he4c.grow hb4
    clear hb4 he3c he4c HR1
    have hr2 := refMay_any A4 Y c4 w4 he4d (by rw [HLY.out]; omega)
    rw [HLY.out, HM2.out] at hr2
    have HR2 := Lib.hid hr2
    clear hr2
    go_wp2_with fail
    refine HR2.out.mono ?_
    rintro e w5 ⟨rfl, hb5⟩
    have hbw5 : Below w.heap.size w w5 := hbw4.trans (hb5.mono hbw4.size)
    have he3e := he3d.grow hb5
    have he4e := he4d.grow hb5
    clear hb5 he3d he4d HR2
    have hr3 := refMeet_any A3 A4 X Y c3 c4 w5 he3e he4e (by rw [HLX.out]; omega) (by rw [HLY.out]; omega) (by rw [HLY.out]; omega) HM1.out HM2.out
    rw [HLX.out, HLY.out, HN.out, HO.out] at hr3
    have HR3 := Lib.hid hr3
    clear hr3
    go_wp2_with fail
    refine HR3.out.mono ?_
    rintro e w6 ⟨rfl, rfl⟩
    clear HR3
    have ht := take_len (l := Y) (n := n) (by rw [HLY.out]; exact hf2)
    have hr4 := refLast_any A4 (Y.take n) _ c4 w5 (he4e.take n) (by omega)
    rw [ht] at hr4
    have HR4 := Lib.hid hr4
    clear hr4 ht
    have hnc : n ≤ c4 := by omega
    go_wp2_with fail
    refine HR4.out.mono ?_
    rintro e w6 ⟨rfl, rfl⟩
    clear HR4
    have hr5 := Fits_any A3 X c3 n (lastE (Y.take n)) w5 he3e (by rw [HLX.out]; omega) (by rw [HLX.out]; omega)
    have hx0 : 0 ≤ lastE (Y.take n) := lastE_nonneg (mayFrom_take n (may_from HM2.out))
    have hok : fitsOk X n (lastE (Y.take n)) = true := by simp [fitsOk, hx0, HM1.out]
    have hv : fitsV X n (lastE (Y.take n)) = true := by
      have h := HF1.out
      unfold meets at h
      simp [fitsV, hok, h]
    have hE : fitsE X n (lastE (Y.take n)) = 0 := by simp [fitsE, hok]
    rw [HLX.out, hv, hE] at hr5
    have HR5 := Lib.hid hr5
    clear hr5 hx0 hok hv hE
    go_wp2_with fail
    refine HR5.out.mono ?_
    rintro e w6 ⟨rfl, hb6⟩
    have hbw6 : Below w.heap.size w w6 := hbw5.trans (hb6.mono hbw5.size)
    clear HR5 hb6 he3e he4e
    have hol : o ≤ zb.length := by omega
    go_wp2_with fail
    refine (known_any w6).mono ?_
    rintro e w7 ⟨rfl, hb7⟩
    go_wp2_with fail
    go_ret
    exact ⟨rfl, hbw6.trans (hb7.mono hbw6.size)⟩
  · have hno : may X = false ∨ may Y = false := by
      cases h : may X with
      | false => exact .inl rfl
      | true =>
        cases h2 : may Y with
        | false => exact .inr rfl
        | true => exact absurd ⟨h, h2⟩ hm
    have hmeet := Meet_no A3 A4 X Y c3 c4 w2 he3b he4 (by omega) (by omega) hno
    rw [hXl, hYl] at hmeet
    have HME := Lib.hid hmeet
    have HNO := Lib.hid hno
    clear hmeet hm hno hXl hYl
    go_wp2_with fail
    refine HME.out.mono ?_
    rintro e w3 ⟨rfl, hb3⟩
    have hbw3 : Below w.heap.size w w3 := hbw2.trans (hb3.mono hbw2.size)
    have he3c := he3b.grow hb3
    have he4c := he4.grow hb3
    clear hb3 he3b he4 HME
    have hr1 := refMay_any A3 X c3 w3 he3c (by rw [HLX.out]; omega)
    rw [HLX.out] at hr1
    have HR1 := Lib.hid hr1
    clear hr1
    go_wp2_with fail
    refine HR1.out.mono ?_
    rintro e w4 ⟨rfl, hb4⟩
    have hbw4 : Below w.heap.size w w4 := hbw3.trans (hb4.mono hbw3.size)
    have he4d := he4c.grow hb4
    clear hb4 he3c he4c HR1
    cases m1 : may X with
    | false =>
      clear m1
      go_wp2_with fail
      refine (known_any w4).mono ?_
      rintro e w7 ⟨rfl, hb7⟩
      go_wp2_with fail
      go_ret
      exact ⟨rfl, hbw4.trans (hb7.mono hbw4.size)⟩
    | true =>
      have HM2 := Lib.hid (HNO.out.resolve_left (by rw [m1]; decide))
      clear m1
      have hr2 := refMay_any A4 Y c4 w4 he4d (by rw [HLY.out]; omega)
      rw [HLY.out, HM2.out] at hr2
      have HR2 := Lib.hid hr2
      clear hr2
      go_wp2_with fail
      refine HR2.out.mono ?_
      rintro e w5 ⟨rfl, hb5⟩
      have hbw5 : Below w.heap.size w w5 := hbw4.trans (hb5.mono hbw4.size)
      clear hb5 he4d HR2
      go_wp2_with fail
      refine (known_any w5).mono ?_
      rintro e w7 ⟨rfl, hb7⟩
      go_wp2_with fail
      go_ret
      exact ⟨rfl, hbw5.trans (hb7.mono hbw5.size)⟩
end Go.Proofs.Ytghhffcdfbehcaa
