import Derived.Test.YtapfdbgplfonaaaQ
namespace Go.Proofs.Ytapfdbgplfonaaa
open Go.RowKit

theorem own_snoc {w w2 : World} {base : Nat} {v v' : Value} {xs : List Nat} {c : Nat} (hc : c < 256) (h : Own w base v xs) (h2 : w2.ownsRow base 5 1 v' (xs.length + 1) (xs.map B8 ++ [B8 c])) : Own w2 base v' (xs ++ [c]) := by
  refine ⟨by rw [List.length_append, List.map_append]; exact h2, ?_⟩
  intro x hx
  rcases List.mem_append.1 hx with h3 | h3
  · exact h.2 x h3
  · have : x = c := by simpa using h3
    omega

set_option maxRecDepth 100000 in
set_option maxHeartbeats 2000000 in
theorem refSeal_any (A : Option Addr) (a : List Nat) (c : Nat) (w : World) (ha : Bys w w.heap.size A a) (hm : a.length ≤ 1099511627700) :
    Calls Try.prog 17 #[.slice A a.length c] w fun e w' => ∃ v, e = .returned v ∧ Own w' w.heap.size v (a ++ Crc.le4 (Crc.sum a)) ∧ Below w.heap.size w w' := by
  obtain ⟨i0, hi, hz0, hz1, hz2⟩ := info_parts byte_info
  obtain ⟨v0, w0, hr0, ho0, hb0⟩ := copy_run w A a c ha (by omega)
  have HR0 := Lib.hid hr0
  clear hr0
  have hs := sum_lt a
  obtain ⟨n, hn⟩ : ∃ n, Crc.sum a = n := ⟨_, rfl⟩
  have hrs := refSum_any A a c w ha (by omega)
  rw [hn] at hs hrs
  rw [hn]
  have HRS := Lib.hid hrs
  clear hrs hn
  go_enter Try.func17, Try.ntmps17
  go_wp2_with (first | (go_at_call 13; refine HRS.out.mono ?_; rintro e w1 ⟨rfl, rfl⟩) | (at_builtin; refine Lib.wpList_append_run _ rfl _ _ _ _ rfl _ _ rfl rfl _ _ HR0.out ?_))
  go_loopw [3, 4, 5] (fun x v i wr => ∃ (k m : Nat), k ≤ 4 ∧ i = .int .i64 k ∧ x = .int .u32 m ∧ m < 4294967296 ∧ m = n / 256 ^ k ∧ Own wr w.heap.size v (a ++ leN n k) ∧ Below w.heap.size w wr)
    (fun _ _ i _ => 4 - (intOf i).toNat)
  case atStart => exact ⟨0, n, Nat.zero_le _, rfl, rfl, hs, by simp, by simpa [leN] using ho0, hb0⟩
  case round =>
    obtain ⟨k, m, hk, rfl, rfl, hm2, hmn, hown, hb⟩ := hrel
    have HM := Lib.hid hmn
    clear hmn
    by_cases hlt : k < 4
    · have hll : (a ++ leN n k).length ≤ 1099511627710 := by rw [List.length_append, leN_length]; omega
      have b2 : (a ++ leN n k).length + 1 ≤ maxLen := by unfold maxLen; omega
      have b3 : ((a ++ leN n k).length + 1) * 1 ≤ 140737488355328 := by omega
      have b4 := hb.size
      obtain ⟨L, hL⟩ : ∃ L, a ++ leN n k = L := ⟨_, rfl⟩
      have HLL := Lib.hid hL
      rw [hL] at hown hll b2 b3
      clear hL
      go_wp2_with (at_builtin; refine wpList_append_own _ rfl (.tmp 15) (.tmp 19) 22 rfl w.heap.size 5 i0 _ 1 1 Try.underlying22 hi hz0 hz1 hz2 rfl (by decide) u4 _ _ rfl (hown.1.alloc _) ⟨wr.heap.size, 0, none⟩ 1 1 [Value.int .u8 ((m : Int) % 256)] rfl rfl (cell_one_new _ _ _) (fun u hu => by simp at hu; subst hu; rfl) b2 b3 (by simp; omega) ?_; intro v' w1 hown' hgrow _)
      have hb1 : Below w.heap.size w w1 := (hb.alloc hb.size _).grown hgrow (by simp; omega) fun g hg => (hown.1.lt g hg).1
      have ho1 : Own w1 w.heap.size v' (L ++ [m % 256]) := own_snoc (by omega) hown hown'
      go_roundw
      case rel =>
        refine ⟨k + 1, m / 256, by omega, by go_num, by go_num, by omega, by rw [HM.out, Nat.pow_succ, Nat.div_div_eq_div_mul], ?_, hb1⟩
        rw [leN_succ, ← List.append_assoc, HLL.out, ← HM.out]
        exact ho1
      case measure => simp [intOf]; omega
    · obtain rfl : k = 4 := by omega
      rw [leN_four] at hown
      go_wp2_with fail
      go_ret
      exact ⟨_, rfl, hown, hb⟩
end Go.Proofs.Ytapfdbgplfonaaa
