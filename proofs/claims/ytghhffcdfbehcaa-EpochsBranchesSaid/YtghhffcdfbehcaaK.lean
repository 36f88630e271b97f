import Derived.Test.YtghhffcdfbehcaaJ
namespace Go.Proofs.Ytghhffcdfbehcaa
open Go.RowKit

/-- the last epoch of the first so many -/
theorem lastE_min_succ {l : List Ent} {k N : Nat} (hk : k < l.length) (hkN : k < N) : lastE (l.take (min (k + 1) N)) = l[k].epoch := by
  rw [show min (k + 1) N = k + 1 by omega, lastE_take (by omega) (by omega)]
  rfl

set_option maxRecDepth 100000 in
set_option maxHeartbeats 2000000 in
theorem refEnd_any (A : Option Addr) (l : List Ent) (c : Nat) (x : Int) (w : World) (hl : Ents w w.heap.size A l) (hm : l.length ≤ 9223372036854775807) (hmay : may l = true) :
    Calls Try.prog 23 #[.slice A l.length c, .int .i64 x] w fun e w' => e = .returned (.tuple #[.int .i64 (lastE (l.take (aboveN x l))), .int .i64 (aboveN x l : Nat)]) ∧ w = w' := by
  have hle := aboveN_le x l
  have HI := Lib.hid (above_iff (l := l) x (may_from hmay))
  clear hmay
  obtain ⟨N, hN⟩ : ∃ N, aboveN x l = N := ⟨_, rfl⟩
  rw [hN] at hle ⊢
  have HN := Lib.hid hN
  clear hN
  go_enter Try.func23, Try.ntmps23
  go_wp2_with fail
  go_loop [6, 7, 8] (fun e at_ i => ∃ (k M : Nat) (y : Int), k ≤ l.length ∧ i = .int .i64 k ∧ at_ = .int .i64 M ∧ e = .int .i64 y ∧ M = min k N ∧ y = lastE (l.take M)) (fun _ _ i => l.length - (intOf i).toNat)
  case atStart => exact ⟨0, 0, 0, Nat.zero_le _, rfl, rfl, rfl, by simp, by simp [lastE]⟩
  case round =>
    obtain ⟨k, M, y, hk, rfl, rfl, rfl, hM, hy⟩ := hrel
    have HY := Lib.hid hy
    have HM := Lib.hid hM
    clear hy hM
    by_cases hlt : k < l.length
    · obtain ⟨b, off, rfl, hbB, he⟩ := hl.at_ hlt
      have h0 := he.c0
      have hiff := HI.out k hlt
      rw [HN.out] at hiff
      by_cases hkN : k < N
      · have d1 : l[k].epoch ≤ x := hiff.2 hkN
        clear hiff he
        go_wp2_with fail
        go_round
        case rel => exact ⟨k + 1, k + 1, _, by omega, by go_num, by have h := HM.out; go_num, rfl, by omega, by rw [lastE_take (by omega) (by omega)]; rfl⟩
        case measure => simp [intOf]; omega
      · have d1 : ¬ l[k].epoch ≤ x := fun h => hkN (hiff.1 h)
        have d2 : x < l[k].epoch := by omega
        clear hiff he
        go_wp2_with fail
        go_round
        case rel =>
          exact ⟨k + 1, M, y, by omega, by go_num, rfl, rfl, by have h := HM.out; omega, HY.out⟩
        case measure => simp [intOf]; omega
    · obtain rfl : k = l.length := by omega
      have hMN : Hid (M = N) := by show M = N; have := HM.out; omega
      go_wp2_with fail
      go_ret2
      exact ⟨by rw [HY.out, hMN.out]; rfl, rfl⟩

set_option maxRecDepth 100000 in
set_option maxHeartbeats 2000000 in
theorem refCut_any (A : Option Addr) (l : List Ent) (c : Nat) (x : Int) (E : Nat) (w : World) (hl : Ents w w.heap.size A l) (_hm : l.length ≤ 9223372036854775807) (hE : E ≤ 9223372036854775807) (hmay : mayFrom 1 l = true) :
    Calls Try.prog 25 #[.slice A l.length c, .int .i64 x, .int .i64 E] w fun e w' => e = .returned (.int .i64 (min E (aboveN x l) : Nat)) ∧ w = w' := by
  have hle := aboveN_le x l
  have HI := Lib.hid (above_iff (l := l) x hmay)
  clear hmay
  obtain ⟨N, hN⟩ : ∃ N, aboveN x l = N := ⟨_, rfl⟩
  rw [hN] at hle ⊢
  have HN := Lib.hid hN
  clear hN
  go_enter Try.func25, Try.ntmps25
  go_wp2_with fail
  go_loop [7, 8] (fun n i => ∃ (k M : Nat), k ≤ l.length ∧ k ≤ E ∧ i = .int .i64 k ∧ n = .int .i64 M ∧ M = min k N) (fun _ i => l.length - (intOf i).toNat)
  case atStart => exact ⟨0, 0, Nat.zero_le _, Nat.zero_le _, rfl, rfl, by simp⟩
  case round =>
    obtain ⟨k, M, hk, hkE, rfl, rfl, hM⟩ := hrel
    have HM := Lib.hid hM
    clear hM
    by_cases hlt : k < l.length
    · by_cases hlE : k < E
      · obtain ⟨b, off, rfl, hbB, he⟩ := hl.at_ hlt
        have h0 := he.c0
        have hiff := HI.out k hlt
        rw [HN.out] at hiff
        by_cases hkN : k < N
        · have d1 : l[k].epoch ≤ x := hiff.2 hkN
          clear hiff he
          go_wp2_with fail
          go_round
          case rel => exact ⟨k + 1, k + 1, by omega, by omega, by go_num, by go_num, by omega⟩
          case measure => simp [intOf]; omega
        · have d1 : ¬ l[k].epoch ≤ x := fun h => hkN (hiff.1 h)
          have d2 : x < l[k].epoch := by omega
          clear hiff he
          have e1 : Hid (M = min (k + 1) N) := by show M = _; have h := HM.out; omega
          go_wp2_with fail
          go_round
          case rel => exact ⟨k + 1, M, by omega, by omega, by go_num, rfl, e1.out⟩
          case measure => simp [intOf]; omega
      · have e1 : Hid (min E N = M) := by show _ = M; have h := HM.out; omega
        go_wp2_with fail
        go_ret
        exact ⟨by rw [e1.out]; rfl, rfl⟩
    · obtain rfl : k = l.length := by omega
      have e1 : Hid (min E N = M) := by show _ = M; have h := HM.out; omega
      go_wp2_with fail
      go_ret
      exact ⟨by rw [e1.out]; rfl, rfl⟩

set_option maxHeartbeats 1000000 in
theorem refFits_any (A : Option Addr) (l : List Ent) (c n : Nat) (x : Int) (w : World) (hl : Ents w w.heap.size A l) (_hm : l.length ≤ 9223372036854775807) (hn : n ≤ 9223372036854775807) :
    Calls Try.prog 24 #[.slice A l.length c, .int .i64 n, .int .i64 x] w fun e w' => e = .returned (.bool (fitsB l n x)) ∧ w = w' := by
  by_cases h0 : n = 0
  · subst h0
    have hf : fitsB l 0 x = (x == 0) := by
      have h1 : lastE (l.take 0) = 0 := rfl
      simp only [fitsB, h1]
      rw [Bool.eq_iff_iff]
      simp
      omega
    rw [hf]
    clear hf
    go_enter Try.func24, Try.ntmps24
    go_wp2_with fail
    go_ret
    exact ⟨rfl, rfl⟩
  · have hne : ((n : Int) == 0) = false := beq_eq_false_iff_ne.2 (by omega)
    by_cases hnl : n ≤ l.length
    · obtain ⟨b, off, rfl, hbB, he⟩ := hl.at_ (k := n - 1) (by omega)
      have hc := he.c0
      have hp : 0 < n := by omega
      have hf : fitsB l n x = (l[n - 1].epoch == x) := by
        simp only [fitsB, hnl, decide_true, Bool.true_and]
        rw [lastE_take hp hnl]
      rw [hf]
      clear hf he
      go_enter Try.func24, Try.ntmps24
      go_wp2_with fail
      go_ret
      exact ⟨rfl, rfl⟩
    · have hf : fitsB l n x = false := by simp [fitsB, hnl]
      rw [hf]
      clear hf h0
      go_enter Try.func24, Try.ntmps24
      go_wp2_with fail
      go_ret
      exact ⟨rfl, rfl⟩
end Go.Proofs.Ytghhffcdfbehcaa
