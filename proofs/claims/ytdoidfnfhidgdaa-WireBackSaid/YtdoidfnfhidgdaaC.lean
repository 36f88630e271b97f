import Derived.Test.YtdoidfnfhidgdaaB
namespace Go.Proofs.Ytdoidfnfhidgdaa
open Go.RowKit

set_option maxRecDepth 100000 in
set_option maxHeartbeats 1000000 in
theorem bits_any (w : World) :
    Calls Try.prog 82 #[] w fun e w' => e = .returned (.agg (tabA 256)) ∧ Below w.heap.size w w' := by
  obtain ⟨hz, hi⟩ := zero_of_info tab_info
  rw [tabA_zero] at hz
  go_enter Try.func82, Try.ntmps82
  go_wp2_with fail
  refine (made_any _).mono ?_
  rintro e w1 ⟨rfl, hb1⟩
  clear hz hi
  have hB := (Blk.new w 100 (tabA 0)).below hb1 (by simp)
  have hb : Below w.heap.size w w1 := ((Below.refl _ w).alloc (Nat.le_refl _) _).trans (hb1.mono (by simp))
  clear hb1
  go_wp2_with (refine wpList_store_row rfl 100 _ _ rfl w.heap.size (tabA 256) rfl rfl 100 _ hB tab_size rfl (tabA_one 256) ?_)
  refine bodyPost_ret (v := .agg (tabA 256)) ?_ rfl ?_
  · exact results_cell_row rfl _ _ w.heap.size 100 _ (0, 0) _ rfl (setRow_same hB) Try.underlying100 rfl tab_size
  · exact ⟨rfl, below_setRow hb (Nat.le_refl _) _⟩

/-! ### bytes -/
/-- a slice of bytes below block B -/
def Bys (w : World) (B : Nat) (A : Option Addr) (bs : List Nat) : Prop :=
  (∀ c ∈ bs, c < 256) ∧ (bs ≠ [] → ∃ b off, A = some ⟨b, off, none⟩ ∧ b < B ∧ ∀ k c, bs[k]? = some c → w.cell? ⟨b, off + k, none⟩ = some (.int .u8 (c : Nat)))

theorem Bys.below {w w' : World} {B B' : Nat} {A : Option Addr} {l : List Nat} (h : Bys w B A l) (hb : Below B' w w') (hB : B ≤ B') : Bys w' B A l := by
  refine ⟨h.1, fun hl => ?_⟩
  obtain ⟨b, off, hA, hlt, hc⟩ := h.2 hl
  exact ⟨b, off, hA, hlt, fun k e he => (hb.cell (p := ⟨b, off + k, none⟩) (by show b < B'; omega)).trans (hc k e he)⟩
theorem Bys.mono {w : World} {B B' : Nat} {A : Option Addr} {l : List Nat} (h : Bys w B A l) (hB : B ≤ B') : Bys w B' A l := by
  refine ⟨h.1, fun hl => ?_⟩
  obtain ⟨b, off, hA, hlt, hc⟩ := h.2 hl
  exact ⟨b, off, hA, by omega, hc⟩
theorem Bys.at_ {w : World} {B : Nat} {A : Option Addr} {l : List Nat} (h : Bys w B A l) {k : Nat} (hk : k < l.length) : ∃ b off, A = some ⟨b, off, none⟩ ∧ b < B ∧ w.cell? ⟨b, off + k, none⟩ = some (.int .u8 (l[k] : Nat)) := by
  obtain ⟨b, off, hA, hlt, hc⟩ := h.2 (by intro e; subst e; simp at hk)
  exact ⟨b, off, hA, hlt, hc k _ (List.getElem?_eq_getElem hk)⟩
theorem Bys.grow {w w' : World} {A : Option Addr} {l : List Nat} (h : Bys w w.heap.size A l) (hb : Below w.heap.size w w') : Bys w' w'.heap.size A l :=
  (h.below hb (Nat.le_refl _)).mono hb.size

theorem run_drop {l : List Nat} {k : Nat} (hk : k < l.length) (m : Nat) : Crc.run m (l.drop k) = Crc.run (Crc.s8 (m ^^^ l[k])) (l.drop (k + 1)) := by
  rw [List.drop_eq_getElem_cons hk]; rfl

set_option maxRecDepth 100000 in
set_option maxHeartbeats 1000000 in
theorem on_any (x : Nat) (T : Nat) (A : Option Addr) (bs : List Nat) (c : Nat) (w : World) (hx : x < 4294967296) (hT : Blk w T 100 (tabA 256)) (hbs : Bys w w.heap.size A bs) (hm : bs.length ≤ 9223372036854775807) :
    Calls Try.prog 83 #[.int .u32 x, .pointer (some ⟨T, 0, none⟩), .slice A bs.length c] w fun e w' => e = .returned (.int .u32 (Crc.run x bs : Nat)) ∧ w = w' := by
  go_enter Try.func83, Try.ntmps83
  go_wp2
  go_loop [0, 11] (fun u i => ∃ (k m : Nat), k ≤ bs.length ∧ i = .int .i64 k ∧ u = .int .u32 m ∧ m < 4294967296 ∧ Crc.run x bs = Crc.run m (bs.drop k))
    (fun _ i => bs.length - (intOf i).toNat)
  case atStart => exact ⟨0, x, Nat.zero_le _, rfl, rfl, hx, rfl⟩
  case round =>
    obtain ⟨k, m, hk, rfl, rfl, hmb, hs⟩ := hrel
    have HS := Lib.hid hs
    clear hs
    by_cases hlt : k < bs.length
    · obtain ⟨b, off, rfl, _, hc⟩ := hbs.at_ hlt
      have hcl : bs[k] < 256 := hbs.1 _ (List.getElem_mem hlt)
      generalize hcc : bs[k] = c0 at *
      have HC := Lib.hid hcc
      clear hcc
      obtain ⟨j, hj⟩ : ∃ j, (m ^^^ c0) % 256 = j := ⟨_, rfl⟩
      have hj2 : j < 256 := by omega
      have hxj : bits .xor .u8 ((m : Int) % 256) (c0 : Int) = (j : Int) := by
        rw [show ((m : Int) % 256) = ((m % 256 : Nat) : Int) by omega, u8_xor_nat (m % 256) c0 (by omega) hcl, ← hj, Crc.xor_mod8, Nat.mod_eq_of_lt hcl]
      have hs8 : Crc.s8 j < 4294967296 := Crc.s8_lt (by omega)
      have hcell : w.cell? ⟨T, j, none⟩ = some (.int .u32 (Crc.s8 j : Nat)) := by rw [hT.cell, tabA_get 256 j hj2, if_pos hj2]
      have hres : bits .xor .u32 ((m : Int) / 256) (Crc.s8 j : Nat) = ((Crc.s8 (m ^^^ c0) : Nat) : Int) := by
        rw [show ((m : Int) / 256) = ((m / 256 : Nat) : Int) by omega, u32_xor_nat (m / 256) _ (by omega) hs8, ← hj, Crc.round_eq m c0 hcl]
      have HR := Lib.hid hres
      have HJ := Lib.hid hj
      clear hres hj
      go_wp2_with fail
      go_round
      case rel => exact ⟨k + 1, Crc.s8 (m ^^^ c0), by omega, by go_num, by rw [HR.out], Crc.s8_lt (Nat.xor_lt_two_pow (n := 32) hmb (by omega)), by rw [HS.out, run_drop hlt, HC.out]⟩
      case measure => simp [intOf]; omega
    · obtain rfl : k = bs.length := by omega
      have HE : Hid (Crc.run x bs = m) := by show Crc.run x bs = m; rw [HS.out, List.drop_eq_nil_of_le (Nat.le_refl _)]; rfl
      go_wp2_with fail
      go_ret
      exact ⟨by rw [HE.out]; rfl, rfl⟩

theorem sum_any (x : Nat) (hx : x < 4294967296) (w : World) : Calls Try.prog 84 #[.int .u32 x] w fun e w' => e = .returned (.int .u32 (4294967295 - x : Nat)) ∧ w = w' := by
  have h : bits .xor .u32 IntKind.u32.max (x : Int) = ((4294967295 - x : Nat) : Int) := by
    rw [show IntKind.u32.max = ((4294967295 : Nat) : Int) from rfl, u32_xor_nat 4294967295 x (by omega) hx, Nat.xor_comm, ← Crc.not_eq hx]
  go_enter Try.func84, Try.ntmps84
  have hsg : IntKind.u32.signed = false := rfl
  go_wp2
  go_ret
  exact ⟨rfl, rfl⟩

end Go.Proofs.Ytdoidfnfhidgdaa
