import Derived.Test.YtdoidfnfhidgdaaU
namespace Go.Proofs.Ytdoidfnfhidgdaa
open Go.RowKit

set_option maxRecDepth 100000 in
set_option maxHeartbeats 1000000 in
theorem refNumber_any (n : Nat) (w : World) (hn : n < 9223372036854775808) :
    Calls Try.prog 35 #[.int .i64 n] w fun e w' => ∃ v', e = .returned v' ∧ Own w' w.heap.size v' (numB n) ∧ Below w.heap.size w w' := by
  have hlen := numB_len 8 n (by omega)
  go_enter Try.func35, Try.ntmps35
  go_wp2_with fail
  go_loopw [0, 3] (fun nn vv wr => ∃ (m : Nat) (pre : List Nat), nn = .int .i64 m ∧ m < 9223372036854775808 ∧ Hid (numB n = pre ++ numB m) ∧ Own wr w.heap.size vv pre ∧ Below w.heap.size w wr)
    (fun nn _ _ => (intOf nn).toNat)
  case atStart => exact ⟨n, [], rfl, hn, Lib.hid (by simp), Own.nil _ _, Below.refl _ _⟩
  case round =>
    obtain ⟨m, pre, rfl, hm2, HN, hownr, hb⟩ := hrel
    have hpl : pre.length ≤ 9 := by have := congrArg List.length HN.out; rw [List.length_append] at this; omega
    have hsz := hb.size
    by_cases hge : 128 ≤ m
    · go_wp2_with (at_builtin; refine wpList_append_byte rfl _ _ rfl w.heap.size u3 pre rfl wr hownr _ (m % 128 + 128) (by omega) (by omega) rfl (by omega) (by omega) ?_; intro v' w1 hown' hb1)
      go_roundw
      case rel => exact ⟨m / 128, pre ++ [m % 128 + 128], by go_num, by omega, Lib.hid (by rw [HN.out, numB_ge hge]; simp), hown', hb.trans hb1⟩
      case measure => simp [intOf]; omega
    · go_wp2_with (at_builtin; refine wpList_append_byte rfl _ _ rfl w.heap.size u3 pre rfl wr hownr _ m (by omega) (by omega) rfl (by omega) (by omega) ?_; intro v' w1 hown' hb1)
      go_ret
      refine ⟨v', rfl, ?_, hb.trans hb1⟩
      rw [HN.out, numB_lt (by omega)]
      exact hown'

set_option maxRecDepth 100000 in
theorem refSigned_any (n : Int) (w : World) (h1 : -4611686018427387904 ≤ n) (h2 : n < 4611686018427387904) :
    Calls Try.prog 36 #[.int .i64 n] w fun e w' => ∃ v', e = .returned v' ∧ Own w' w.heap.size v' (numB (zig n)) ∧ Below w.heap.size w w' := by
  have hz : zig n < 9223372036854775808 := by unfold zig; split <;> omega
  have HQ := Lib.hid (refNumber_any (zig n) w hz)
  by_cases hn : n < 0
  · have hzn : (zig n : Int) = -2 * n - 1 := by unfold zig; rw [if_pos hn]; omega
    have HZ : Hid (wrap64 (wrap64 (-2 * n) - 1) = (zig n : Int)) := by show _ = _; rw [hzn]; unfold wrap64; omega
    clear hzn hz
    go_enter Try.func36, Try.ntmps36
    go_wp2_with fail
    rw [HZ.out]
    refine HQ.out.mono ?_
    rintro e w1 ⟨v, rfl, ho, hb⟩
    go_wp2_with fail
    go_ret
    exact ⟨v, rfl, ho, hb⟩
  · have hzn : (zig n : Int) = 2 * n := by unfold zig; rw [if_neg hn]; omega
    have HZ := Lib.hid hzn
    clear hzn hz
    go_enter Try.func36, Try.ntmps36
    go_wp2_with fail
    rw [← HZ.out]
    refine HQ.out.mono ?_
    rintro e w1 ⟨v, rfl, ho, hb⟩
    go_wp2_with fail
    go_ret
    exact ⟨v, rfl, ho, hb⟩

set_option maxRecDepth 100000 in
set_option maxHeartbeats 1000000 in
theorem refFramed_any (A : Option Addr) (bs : List Nat) (c : Nat) (w : World) (hb : Bys w w.heap.size A bs) (hm : bs.length < 256) :
    Calls Try.prog 25 #[.slice A bs.length c] w fun e w' => ∃ v', e = .returned v' ∧ Own w' w.heap.size v' (Crc.le4 (Crc.sum bs) ++ [bs.length] ++ bs) ∧ Below w.heap.size w w' := by
  have hs := refSum_any A bs c w hb (by omega)
  have hsl := sum_lt bs
  obtain ⟨sm, hsm⟩ : ∃ sm, Crc.sum bs = sm := ⟨_, rfl⟩
  rw [hsm] at hs hsl ⊢
  have HS := Lib.hid hs
  have HB := Lib.hid hb
  clear hs hsm hb
  obtain ⟨N, hN⟩ : ∃ N, bs.length = N := ⟨_, rfl⟩
  have HN := Lib.hid hN
  rw [hN] at HS hm ⊢
  clear hN
  go_enter Try.func25, Try.ntmps25
  go_wp2_with fail
  refine HS.out.mono ?_
  rintro e w1 ⟨rfl, rfl⟩
  go_wp2_with fail
  go_loopw [3, 4, 5] (fun x v i wr => ∃ (k m : Nat), k ≤ 4 ∧ i = .int .i64 k ∧ x = .int .u32 m ∧ m < 4294967296 ∧ Hid (m = sm / 256 ^ k) ∧ Own wr w.heap.size v (leN sm k) ∧ Below w.heap.size w wr)
    (fun _ _ i _ => 4 - (intOf i).toNat)
  case atStart => exact ⟨0, sm, Nat.zero_le _, rfl, rfl, hsl, Lib.hid (by simp), by simpa [leN] using Own.nil _ _, Below.refl _ _⟩
  case round =>
    obtain ⟨k, m, hk, rfl, rfl, hm2, HM, hown, hb⟩ := hrel
    have hll := leN_length sm k
    have hsz := hb.size
    by_cases hlt : k < 4
    · go_wp2_with (at_builtin; refine wpList_append_byte rfl _ _ rfl w.heap.size u4 (leN sm k) rfl wr hown _ (m % 256) (by omega) (by omega) rfl (by omega) (by omega) ?_; intro v' w2 hown' hb1)
      go_roundw
      case rel => exact ⟨k + 1, m / 256, by omega, by go_num, by go_num, by omega, Lib.hid (by rw [HM.out, Nat.pow_succ, Nat.div_div_eq_div_mul]), by rw [leN_succ, ← HM.out]; exact hown', hb.trans hb1⟩
      case measure => simp [intOf]; omega
    · obtain rfl : k = 4 := by omega
      rw [leN_four] at hown hll
      obtain ⟨HO, hO⟩ : ∃ X, X = wr := ⟨_, rfl⟩
      subst hO
      go_wp2_with (first | (at_builtin; refine wpList_append_byte rfl _ _ rfl w.heap.size u4 (Crc.le4 sm) rfl _ hown _ N (by omega) (by omega) rfl (by omega) (by omega) ?_; intro v' w2 hown' hb1; obtain ⟨v8, w8, hr8, ho8, hg8⟩ := run_append_bys w2 w.heap.size _ v' _ bs hown' A c (HB.out.grow (hb.trans hb1)) (by rw [HN.out, List.length_append]; simp [Crc.le4]; omega) (Nat.le_trans hsz hb1.size); rw [HN.out] at hr8; have HR8 := Lib.hid hr8; clear hr8) | (at_builtin; refine Lib.wpList_append_run _ rfl _ _ _ _ rfl _ _ rfl rfl _ _ HR8.out ?_; clear HR8))
      go_ret
      exact ⟨v8, rfl, ho8, (hb.trans hb1).grown hg8 (Nat.le_trans hsz hb1.size) fun g hg => (hown'.1.lt g hg).1⟩

theorem own_new (w : World) (base c : Nat) (hc : c < 256) (hb : base ≤ w.heap.size) : Own (w.alloc (.cells #[.int .u8 (c : Int)] 5)) base (.slice (some ⟨w.heap.size, 0, none⟩) 1 1) [c] := by
  refine ⟨⟨rfl, .inr ⟨w.heap.size, 1, #[.int .u8 (c : Int)], rfl, hb, heap_alloc_new w _, Nat.le_refl _, ?_⟩⟩, by simp; exact hc⟩
  exact ⟨by unfold maxLen; omega, rfl, rfl⟩

end Go.Proofs.Ytdoidfnfhidgdaa
