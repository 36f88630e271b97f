import Derived.Test.YtdoidfnfhidgdaaN
import Derived.WalkLawsBesides
namespace Go.Proofs.Ytdoidfnfhidgdaa
open Go.RowKit

/-- a number's bytes -/
def numB (n : Nat) : List Nat := if h : n < 128 then [n] else (n % 128 + 128) :: numB (n / 128)
termination_by n
decreasing_by omega
theorem numB_lt {n : Nat} (h : n < 128) : numB n = [n] := by rw [numB, dif_pos h]
theorem numB_ge {n : Nat} (h : 128 ≤ n) : numB n = (n % 128 + 128) :: numB (n / 128) := by rw [numB, dif_neg (by omega)]
theorem numB_len (k : Nat) : ∀ n, n < 128 ^ (k + 1) → (numB n).length ≤ k + 1 := by
  induction k with
  | zero => intro n h; rw [numB_lt (by omega)]; simp
  | succ k ih =>
    intro n h
    by_cases h1 : n < 128
    · rw [numB_lt h1]; simp
    · rw [numB_ge (by omega), List.length_cons]
      have : n / 128 < 128 ^ (k + 1) := by rw [Nat.pow_succ] at h; omega
      have := ih _ this
      omega
theorem numB_byte (n : Nat) : ∀ c ∈ numB n, c < 256 := by
  induction n using Nat.strongRecOn with
  | _ n ih =>
    by_cases h1 : n < 128
    · rw [numB_lt h1]; simp; omega
    · rw [numB_ge (by omega)]
      intro c hc
      rcases List.mem_cons.1 hc with rfl | hc
      · omega
      · exact ih _ (by omega) c hc

theorem or128 (n : Nat) : bits .or .u8 ((n : Int) % 256) 128 = ((n % 128 + 128 : Nat) : Int) := by
  have h := u8_or_nat (n % 256) 128 (by omega) (by omega)
  rw [show (((n % 256 : Nat)) : Int) = (n : Int) % 256 by omega] at h
  rw [show ((128 : Nat) : Int) = 128 from rfl] at h
  rw [h]
  congr 1
  have key : ∀ m : Nat, m < 256 → m ||| 128 = m % 128 + 128 := by decide +kernel
  rw [key _ (by omega)]
  omega

set_option maxRecDepth 100000 in
/-- 'append(s, x)' of one byte to own bytes -/
theorem wpList_append_byte {ops : Array Oper} {rest : List Oper} {o : Oper} {a : Act} {Q : Exit → Act → World → Prop} (hgd : o.guard = none) (s x : Operand)
    (ho : o.op = .call { callee := .builtin .append, args := #[s, x], argTypes := #[25, 25] }) (base : Nat) (v : Value) (xs : List Nat) (hs : a.eval s = v) (W : World) (hown : Own W base v xs) (y : Int) (c : Nat) (hy : y = (c : Int)) (hc : c < 256)
    (hx : a.eval x = .slice (some ⟨W.heap.size, 0, none⟩) 1 1) (hbase : base ≤ W.heap.size) (hm : xs.length ≤ 1099511627700)
    (h : ∀ v' w', Own w' base v' (xs ++ [c]) → Below base W w' → wpList Try.prog ops Q rest (a.put o.dst v') w') : wpList Try.prog ops Q (o :: rest) a (W.alloc (.cells #[.int .u8 y] 5)) := by
  obtain ⟨i0, hi, hz0, hz1, hz2⟩ := info_parts byte_info
  subst hy
  refine wpList_append_own _ hgd s x 25 ho base 5 i0 _ 1 1 Try.underlying25 hi hz0 hz1 hz2 rfl (by decide) v xs.length (xs.map B8) hs (hown.1.alloc _) ⟨W.heap.size, 0, none⟩ 1 1 [.int .u8 (c : Int)] hx rfl (cell_one_new _ _ _) (fun u hu => by simp at hu; subst hu; rfl) (by unfold maxLen; omega) (by omega) (by simp; omega) ?_
  intro v' w1 hown' hgrow _
  exact h v' w1 (own_snoc hc hown hown') (((Below.refl base W).alloc hbase _).grown hgrow (by simp; omega) fun g hg => (hown.1.lt g hg).1)

set_option maxRecDepth 100000 in
set_option maxHeartbeats 1000000 in
theorem number_any (n base : Nat) (v : Value) (xs : List Nat) (w : World) (hn : n < 9223372036854775808) (hown : Own w base v xs) (hbase : base ≤ w.heap.size) (hm : xs.length ≤ 1099511627000) :
    Calls Try.prog 54 #[v, .int .i64 n] w fun e w' => ∃ v', e = .returned v' ∧ Own w' base v' (xs ++ numB n) ∧ Below base w w' := by
  have hlen := numB_len 8 n (by omega)
  go_enter Try.func54, Try.ntmps54
  go_wp2_with fail
  go_loopw [0, 1] (fun vv nn wr => ∃ (m : Nat) (pre : List Nat), nn = .int .i64 m ∧ m < 9223372036854775808 ∧ Hid (numB n = pre ++ numB m) ∧ Own wr base vv (xs ++ pre) ∧ Below base w wr)
    (fun _ nn _ => (intOf nn).toNat)
  case atStart => exact ⟨n, [], rfl, hn, Lib.hid (by simp), by simpa using hown, Below.refl _ _⟩
  case round =>
    obtain ⟨m, pre, rfl, hm2, HN, hownr, hb⟩ := hrel
    have hpl : pre.length ≤ 9 := by have := congrArg List.length HN.out; rw [List.length_append] at this; omega
    have hsz := hb.size
    by_cases hge : 128 ≤ m
    · go_wp2_with (at_builtin; refine wpList_append_byte rfl _ _ rfl base u0 (xs ++ pre) rfl wr hownr _ (m % 128 + 128) (or128 m) (by omega) rfl (by omega) (by rw [List.length_append]; omega) ?_; intro v' w1 hown' hb1)
      go_roundw
      case rel => exact ⟨m / 128, pre ++ [m % 128 + 128], by go_num, by omega, Lib.hid (by rw [HN.out, numB_ge hge]; simp), by rw [← List.append_assoc]; exact hown', hb.trans hb1⟩
      case measure => simp [intOf]; omega
    · go_wp2_with (at_builtin; refine wpList_append_byte rfl _ _ rfl base u0 (xs ++ pre) rfl wr hownr _ m (by omega) (by omega) rfl (by omega) (by rw [List.length_append]; omega) ?_; intro v' w1 hown' hb1)
      go_ret
      refine ⟨v', rfl, ?_, hb.trans hb1⟩
      rw [HN.out, numB_lt (by omega), ← List.append_assoc]
      exact hown'

set_option maxRecDepth 100000 in
set_option maxHeartbeats 1000000 in
theorem unumber_any (n base : Nat) (v : Value) (xs : List Nat) (w : World) (hn : n < 9223372036854775808) (hown : Own w base v xs) (hbase : base ≤ w.heap.size) (hm : xs.length ≤ 1099511627000) :
    Calls Try.prog 81 #[v, .int .u64 n] w fun e w' => ∃ v', e = .returned v' ∧ Own w' base v' (xs ++ numB n) ∧ Below base w w' := by
  have hlen := numB_len 8 n (by omega)
  go_enter Try.func81, Try.ntmps81
  go_wp2_with fail
  go_loopw [0, 1] (fun vv nn wr => ∃ (m : Nat) (pre : List Nat), nn = .int .u64 m ∧ m < 9223372036854775808 ∧ Hid (numB n = pre ++ numB m) ∧ Own wr base vv (xs ++ pre) ∧ Below base w wr)
    (fun _ nn _ => (intOf nn).toNat)
  case atStart => exact ⟨n, [], rfl, hn, Lib.hid (by simp), by simpa using hown, Below.refl _ _⟩
  case round =>
    obtain ⟨m, pre, rfl, hm2, HN, hownr, hb⟩ := hrel
    have hpl : pre.length ≤ 9 := by have := congrArg List.length HN.out; rw [List.length_append] at this; omega
    have hsz := hb.size
    by_cases hge : 128 ≤ m
    · go_wp2_with (at_builtin; refine wpList_append_byte rfl _ _ rfl base u0 (xs ++ pre) rfl wr hownr _ (m % 128 + 128) (or128 m) (by omega) rfl (by omega) (by rw [List.length_append]; omega) ?_; intro v' w1 hown' hb1)
      go_roundw
      case rel => exact ⟨m / 128, pre ++ [m % 128 + 128], by go_num, by omega, Lib.hid (by rw [HN.out, numB_ge hge]; simp), by rw [← List.append_assoc]; exact hown', hb.trans hb1⟩
      case measure => simp [intOf]; omega
    · go_wp2_with (at_builtin; refine wpList_append_byte rfl _ _ rfl base u0 (xs ++ pre) rfl wr hownr _ m (by omega) (by omega) rfl (by omega) (by rw [List.length_append]; omega) ?_; intro v' w1 hown' hb1)
      go_ret
      refine ⟨v', rfl, ?_, hb.trans hb1⟩
      rw [HN.out, numB_lt (by omega), ← List.append_assoc]
      exact hown'

/-- a number with a sign, as one without -/
def zig (n : Int) : Nat := if n < 0 then (-2 * n - 1).toNat else (2 * n).toNat

theorem not64 {w : Nat} (h : w < 18446744073709551616) : w ^^^ 18446744073709551615 = 18446744073709551615 - w := by
  have h1 : w ^^^ (2 ^ 64 - 1) = 2 ^ 64 - 1 - w := by
    apply Nat.eq_of_testBit_eq
    intro i
    rw [Nat.testBit_xor, Nat.testBit_two_pow_sub_one, show 2 ^ 64 - 1 - w = 2 ^ 64 - (w + 1) by omega, Nat.testBit_two_pow_sub_succ (n := 64) h]
    by_cases hi : i < 64
    · simp [hi]
    · have : w.testBit i = false := Nat.testBit_lt_two_pow (Nat.lt_of_lt_of_le h (Nat.pow_le_pow_right (n := 2) (by decide) (by omega : 64 ≤ i)))
      simp [hi, this]
  exact h1
theorem zig_bits (n : Int) (h1 : -4611686018427387904 ≤ n) (h2 : n < 4611686018427387904) : bits .xor .u64 (IntKind.u64.wrap (n * 2)) (IntKind.u64.wrap (n / 9223372036854775808)) = (zig n : Int) := by
  by_cases hn : n < 0
  · have e1 : n / 9223372036854775808 = -1 := by omega
    obtain ⟨m, hm⟩ : ∃ m : Nat, n = -(m : Int) := ⟨(-n).toNat, by omega⟩
    have e2 : IntKind.u64.wrap (n * 2) = ((18446744073709551616 - 2 * m : Nat) : Int) := by rw [IntKind.wrap_u64]; omega
    have e3 : IntKind.u64.wrap (-1) = ((18446744073709551615 : Nat) : Int) := by rw [IntKind.wrap_u64]; omega
    rw [e1, e2, e3, u64_xor_nat _ _ (by omega) (by omega), not64 (by omega)]
    unfold zig
    rw [if_pos hn]
    omega
  · have e1 : n / 9223372036854775808 = 0 := by omega
    obtain ⟨m, rfl⟩ : ∃ m : Nat, n = (m : Int) := ⟨n.toNat, by omega⟩
    have e2 : IntKind.u64.wrap ((m : Int) * 2) = ((2 * m : Nat) : Int) := by rw [IntKind.wrap_u64]; omega
    have e3 : IntKind.u64.wrap 0 = ((0 : Nat) : Int) := by rw [IntKind.wrap_u64]; omega
    rw [e1, e2, e3, u64_xor_nat _ _ (by omega) (by omega), Nat.xor_zero]
    unfold zig
    rw [if_neg hn]
    omega

set_option maxRecDepth 100000 in
set_option maxHeartbeats 1000000 in
theorem signed_any (n : Int) (base : Nat) (v : Value) (xs : List Nat) (w : World) (h1 : -4611686018427387904 ≤ n) (h2 : n < 4611686018427387904) (hown : Own w base v xs) (hbase : base ≤ w.heap.size) (hm : xs.length ≤ 1099511627000) :
    Calls Try.prog 56 #[v, .int .i64 n] w fun e w' => ∃ v', e = .returned v' ∧ Own w' base v' (xs ++ numB (zig n)) ∧ Below base w w' := by
  have hz : zig n < 9223372036854775808 := by unfold zig; split <;> omega
  have HQ := Lib.hid (unumber_any (zig n) base v xs w hz hown hbase hm)
  go_enter Try.func56, Try.ntmps56
  go_wp2_with fail
  rw [zig_bits n h1 h2]
  refine HQ.out.mono ?_
  rintro e w1 ⟨v', rfl, hown', hb⟩
  go_wp2_with fail
  go_ret
  exact ⟨v', rfl, hown', hb⟩
end Go.Proofs.Ytdoidfnfhidgdaa
