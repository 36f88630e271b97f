import Derived.Test.YtghhffcdfbehcaaR
namespace Go.Proofs.Ytghhffcdfbehcaa
open Go.RowKit


set_option maxRecDepth 100000 in
set_option maxHeartbeats 4000000 in
theorem starts_ok (A : Option Addr) (zs : List Int) (c : Nat) (w : World) (hz : Ints w w.heap.size A zs)
    (h60 : zs.length ≤ 60) (hmay : may (logE zs) = true) :
    Calls Try.prog 5 #[.slice A zs.length c] w fun e w' => e = .returned (.bool true) ∧ Below w.heap.size w w' := by
  have HLL := Lib.hid (logE_length zs)
  have hpos := may_pos hmay
  go_enter Try.func5, Try.ntmps5
  go_wp2_with fail
  refine (log_any A zs c w hz (by omega)).mono ?_
  rintro e w1 ⟨A1, c1, rfl, hc1, he1, hb1⟩
  have hst := Starts_any A1 (logE zs) c1 w1 he1 (by rw [HLL.out]; omega)
  rw [HLL.out] at hst
  have hno : stNo (logE zs) = 0 := by simp [stNo, hmay]
  have han : stAns (logE zs) = stFrom 0 0 (logE zs) := by simp [stAns, hmay]
  rw [hno, han] at hst
  have hlen := stFrom_len (logE zs) 0 0
  rw [logE_length] at hlen
  have hst0 := Stand.start (logE zs)
  obtain ⟨S, hS⟩ : ∃ S, stFrom 0 0 (logE zs) = S := ⟨_, rfl⟩
  rw [hS] at hst hlen hst0
  have HD := Lib.hid hst
  clear hst hno han hS
  go_wp2_with fail
  refine HD.out.mono ?_
  rintro e w2 ⟨A2, c2, rfl, hc2, hs2, hb2⟩
  have hb : Below w.heap.size w w2 := hb1.trans (hb2.mono hb1.size)
  have hz2 := hz.grow hb
  clear hb1 hb2 HD he1
  obtain ⟨n, hn⟩ : ∃ n, S.length = n := ⟨_, rfl⟩
  have HN := Lib.hid hn
  rw [hn] at hlen hc2 ⊢
  clear hn
  go_wp2_with fail
  go_loopw [5, 6] (fun kk i wr => ∃ (k m : Nat) (x : Int), k ≤ zs.length ∧ i = .int .i64 k ∧ kk = .int .i64 ((m : Int) - 1) ∧ Stand S (logE zs) k m x ∧ m ≤ n ∧ Below w2.heap.size w2 wr)
    (fun _ i _ => zs.length - (intOf i).toNat)
  case atStart => exact ⟨0, 0, 0, Nat.zero_le _, rfl, rfl, hst0, Nat.zero_le _, Below.refl _ _⟩
  case round =>
    obtain ⟨k, m, x, hk, rfl, rfl, hstd, hmn, hbr⟩ := hrel
    by_cases hlt : k < zs.length
    · have hkl : k < (logE zs).length := by rw [HLL.out]; exact hlt
      have hs3 := hs2.grow hbr
      obtain ⟨b, off, rfl, _, hcell⟩ := (hz2.grow hbr).at_ hlt
      have hep : (logE zs)[k].epoch = zs[k] := by rw [logE_get]; simp [List.getD_eq_getElem?_getD, hlt]
      have hp1 := hpos k hkl
      by_cases t1 : (logE zs)[k].epoch = x
      · obtain ⟨hfar, ⟨j, t, rfl, hSj⟩, hstd2⟩ := hstd.same hkl t1 hp1
        have hq : (((j + 1 : Nat) : Int) - 1) = (j : Int) := by omega
        rw [hq]
        clear hq
        obtain ⟨b2, o2, rfl, hj0, hj1⟩ := hs3.at_ hSj
        have hjn : j < n := by have := (List.getElem?_eq_some_iff.1 hSj).1; rw [HN.out] at this; exact this
        have hxz : x = zs[k] := by rw [← t1, hep]
        have hne : (x != zs[k]) = false := by simp [hxz]
        dsimp only at hj0 hj1
        clear hSj hxz
        by_cases t2 : j + 1 < n
        · have hsl : j + 1 < S.length := by rw [HN.out]; exact t2
          have hp := hfar _ (List.getElem?_eq_getElem hsl)
          obtain ⟨b3, o3, e3, hp0, hp1c⟩ := hs3.at_ (List.getElem?_eq_getElem hsl)
          injection e3 with e3
          injection e3 with e3 e4
          subst e3 e4
          obtain ⟨pt, hpt⟩ : ∃ pt, S[j + 1].2 = pt := ⟨_, rfl⟩
          rw [hpt] at hp hp1c
          have hpe : ((pt : Int) == (k : Int)) = false := by rw [beq_eq_false_iff_ne]; omega
          clear hp0 hpt hfar
          go_wp2_with fail
          go_quiet (fail)
          go_wp2_with fail
          go_roundw
          case rel => exact ⟨k + 1, j + 1, x, by omega, by go_num, by rw [show (((j + 1 : Nat) : Int) - 1) = (j : Int) by omega], hstd2, by omega, below_drewN hbr _⟩
          case measure => simp [intOf]; omega
        · clear hfar
          go_wp2_with fail
          go_quiet (fail)
          go_wp2_with fail
          go_roundw
          case rel => exact ⟨k + 1, j + 1, x, by omega, by go_num, by rw [show (((j + 1 : Nat) : Int) - 1) = (j : Int) by omega], hstd2, by omega, below_drewN hbr _⟩
          case measure => simp [intOf]; omega
      · obtain ⟨hSm, hstd2⟩ := hstd.new hkl t1
        obtain ⟨b2, o2, rfl, hj0, hj1⟩ := hs3.at_ hSm
        have hjn : m < n := by have := (List.getElem?_eq_some_iff.1 hSm).1; rw [HN.out] at this; exact this
        have hne : ((logE zs)[k].epoch != zs[k]) = false := by simp [hep]
        dsimp only at hj0 hj1
        obtain ⟨ep, hepp⟩ : ∃ ep, (logE zs)[k].epoch = ep := ⟨_, rfl⟩
        rw [hepp] at hj0 hne hstd2
        clear hSm hepp t1 hep hp1
        go_wp2_with fail
        go_quiet (fail)
        go_wp2_with fail
        go_roundw
        case rel => exact ⟨k + 1, m + 1, ep, by omega, by go_num, by rw [show (((m + 1 : Nat) : Int) - 1) = (m : Int) by omega], hstd2, by omega, below_drewN hbr _⟩
        case measure => simp [intOf]; omega
    · obtain rfl : k = zs.length := by omega
      have hdone := (show Stand S (logE zs) (logE zs).length m x by rw [HLL.out]; exact hstd).done
      rw [HN.out] at hdone
      subst hdone
      go_wp2_with fail
      have hbw : Below w.heap.size w wr := hb.trans (hbr.mono hb.size)
      refine (known_any wr).mono ?_
      rintro e w4 ⟨rfl, hb4⟩
      go_wp2_with fail
      go_ret
      exact ⟨rfl, hbw.trans (hb4.mono hbw.size)⟩
end Go.Proofs.Ytghhffcdfbehcaa
