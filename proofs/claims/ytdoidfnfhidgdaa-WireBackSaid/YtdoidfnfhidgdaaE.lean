import Derived.Test.YtdoidfnfhidgdaaC
import Derived.Maps.AppendAt
import Derived.Deep.AppendLies
namespace Go.Proofs.Ytdoidfnfhidgdaa
open Go.RowKit

def B8 (c : Nat) : Value := .int .u8 (c : Nat)
theorem B8_one (c : Nat) : (B8 c).oneCell' = true := rfl
theorem B8_all (l : List Nat) : ∀ u ∈ l.map B8, u.oneCell' = true := by
  intro u hu
  simp only [List.mem_map] at hu
  obtain ⟨c, _, rfl⟩ := hu
  rfl

/-- bytes of the call's own, from block base on -/
def Own (w : World) (base : Nat) (v : Value) (bs : List Nat) : Prop :=
  w.ownsRow base 5 1 v bs.length (bs.map B8) ∧ ∀ c ∈ bs, c < 256

theorem addr_add (g j : Nat) : (⟨g, 0, none⟩ : Addr).add j = ⟨g, j, none⟩ := by
  unfold Addr.add; split <;> simp_all

theorem Own.form {w : World} {base : Nat} {v : Value} {bs : List Nat} (h : Own w base v bs) :
    ∃ A c, v = .slice A bs.length c ∧ bs.length ≤ c ∧ Bys w w.heap.size A bs := by
  rcases h.1.2 with ⟨rfl, h0⟩ | ⟨g, cap, cur, rfl, _, hg, hc, _⟩
  · have : bs = [] := List.eq_nil_of_length_eq_zero h0
    subst this
    exact ⟨none, 0, rfl, Nat.le_refl _, h.2, fun h => absurd rfl h⟩
  · refine ⟨_, _, rfl, hc, h.2, fun _ => ⟨g, 0, rfl, (Array.getElem?_eq_some_iff.1 hg).1, fun k c hk => ?_⟩⟩
    have := h.1.cells (g := g) rfl k (B8 c) (by simp [hk])
    rw [addr_add] at this
    rw [Nat.zero_add]
    exact this

theorem Own.mono {w : World} {base base' : Nat} {v : Value} {bs : List Nat} (h : Own w base v bs) (hb : base' ≤ base) : Own w base' v bs := by
  refine ⟨⟨h.1.1, ?_⟩, h.2⟩
  rcases h.1.2 with h0 | ⟨g, cap, cur, rfl, hg, r⟩
  · exact .inl h0
  · exact .inr ⟨g, cap, cur, rfl, by omega, r⟩

theorem Own.below {w w' : World} {base B : Nat} {v : Value} {bs : List Nat} (h : Own w base v bs) (hb : Below B w w') (hB : w.heap.size ≤ B) : Own w' base v bs := by
  refine ⟨h.1.kept (row := none) ⟨hb.os, hb.tape, hb.output, hb.size, fun k hk _ => hb.block k (by omega)⟩ ?_, h.2⟩
  cases v.ownBlock <;> simp

theorem byte_info : (Try.prog.info? 5).map (fun i => (i.zero, i.size, i.bytes)) = some (some (.int .u8 0), 1, 1) := by kernel_rfl

def leN (n k : Nat) : List Nat := (List.range k).map fun i => n / 256 ^ i % 256
theorem leN_succ (n k : Nat) : leN n (k + 1) = leN n k ++ [n / 256 ^ k % 256] := by simp [leN, List.range_succ]
theorem leN_length (n k : Nat) : (leN n k).length = k := by simp [leN]
theorem leN_lt (n k : Nat) : ∀ c ∈ leN n k, c < 256 := by
  intro c hc
  simp only [leN, List.mem_map] at hc
  obtain ⟨i, _, rfl⟩ := hc
  exact Nat.mod_lt _ (by omega)
theorem leN_four (n : Nat) : leN n 4 = Crc.le4 n := by simp [leN, List.range_succ, Crc.le4]

set_option maxRecDepth 100000 in
set_option maxHeartbeats 1000000 in
theorem little_any (n : Nat) (w : World) (hn : n < 4294967296) :
    Calls Try.prog 75 #[.int .u32 n, .int .i64 4] w fun e w' => ∃ v, e = .returned v ∧ Own w' w.heap.size v (Crc.le4 n) ∧ Below w.heap.size w w' := by
  obtain ⟨i0, hi, hz0, hz1, hz2⟩ := info_parts byte_info
  go_enter Try.func75, Try.ntmps75
  go_wp2_with fail
  go_loopw [0, 5, 7] (fun x v i wr => ∃ (k m : Nat), k ≤ 4 ∧ i = .int .i64 k ∧ x = .int .u32 m ∧ m < 4294967296 ∧ m = n / 256 ^ k ∧ wr.ownsRow w.heap.size 5 1 v k ((leN n k).map B8) ∧ Below w.heap.size w wr)
    (fun _ _ i _ => 4 - (intOf i).toNat)
  case atStart => exact ⟨0, n, Nat.zero_le _, rfl, rfl, hn, by simp, World.ownsRow_nil _ _ _ _, Below.refl _ _⟩
  case round =>
    obtain ⟨k, m, hk, rfl, rfl, hm, hmn, hown, hb⟩ := hrel
    have HM := Lib.hid hmn
    clear hmn
    by_cases hlt : k < 4
    · have b2 : k + 1 ≤ maxLen := by unfold maxLen; omega
      have b3 : (k + 1) * 1 ≤ 140737488355328 := by omega
      have b4 := hb.size
      go_wp2_with (at_builtin; refine wpList_append_own _ rfl (.tmp 9) (.tmp 12) 25 rfl w.heap.size 5 i0 _ 1 1 Try.underlying25 hi hz0 hz1 hz2 rfl (by decide) u5 k _ rfl (hown.alloc _) ⟨wr.heap.size, 0, none⟩ 1 1 [Value.int .u8 ((m : Int) % 256)] rfl rfl (cell_one_new _ _ _) (fun u hu => by simp at hu; subst hu; rfl) b2 b3 (by simp; omega) ?_; intro v' w1 hown' hgrow _)
      have hb1 : Below w.heap.size w w1 := (hb.alloc hb.size _).grown hgrow (by simp; omega) fun g hg => (hown.lt g hg).1
      go_roundw
      case rel =>
        refine ⟨k + 1, m / 256, by omega, by go_num, by go_num, by omega, by rw [HM.out, Nat.pow_succ, Nat.div_div_eq_div_mul], ?_, hb1⟩
        rw [leN_succ, List.map_append, ← HM.out]
        exact hown'
      case measure => simp [intOf]; omega
    · obtain rfl : k = 4 := by omega
      have HL : Hid ((leN n 4).map B8 = (Crc.le4 n).map B8) := by show _ = _; rw [leN_four]
      have HO : Own wr w.heap.size u5 (Crc.le4 n) := ⟨by rw [← HL.out]; exact hown, by rw [← leN_four]; exact leN_lt n 4⟩
      go_wp2_with fail
      go_ret
      exact ⟨u5, rfl, HO, hb⟩
end Go.Proofs.Ytdoidfnfhidgdaa
