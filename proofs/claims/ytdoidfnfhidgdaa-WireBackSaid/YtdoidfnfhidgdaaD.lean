import Derived.Test.YtdoidfnfhidgdaaC
namespace Go.Proofs.Ytdoidfnfhidgdaa
open Go.RowKit

/-- the sum of some bytes, and of others behind -/
def moreN (s : Nat) (bs : List Nat) : Nat := 4294967295 - Crc.run (4294967295 - s) bs

set_option maxRecDepth 100000 in
set_option maxHeartbeats 1000000 in
theorem More_any (s : Nat) (A : Option Addr) (bs : List Nat) (c : Nat) (w : World) (hs : s < 4294967296) (hbs : Bys w w.heap.size A bs) (hm : bs.length ≤ 9223372036854775807) :
    Calls Try.prog 73 #[.int .u32 s, .slice A bs.length c] w fun e w' => e = .returned (.int .u32 (moreN s bs : Nat)) ∧ Below w.heap.size w w' := by
  obtain ⟨hz, hi⟩ := zero_of_info tab_info
  rw [tabA_zero] at hz
  have h : bits .xor .u32 IntKind.u32.max (s : Int) = ((4294967295 - s : Nat) : Int) := by
    rw [show IntKind.u32.max = ((4294967295 : Nat) : Int) from rfl, u32_xor_nat 4294967295 s (by omega) hs, Nat.xor_comm, ← Crc.not_eq hs]
  go_enter Try.func73, Try.ntmps73
  go_wp2_with fail
  refine (bits_any _).mono ?_
  rintro e w1 ⟨rfl, hb1⟩
  have hsg : IntKind.u32.signed = false := rfl
  go_wp2_with (refine wpList_store_row rfl 100 _ _ rfl w1.heap.size (tabA 256) rfl rfl 100 (tabA 0) (Blk.new w1 100 (tabA 0)) tab_size rfl (tabA_one 256) ?_)
  rw [World.setRow_alloc_new]
  clear hz hi h
  have hb2 : Below w.heap.size w (w1.alloc (.cells (tabA 256) 100)) := hb1.alloc hb1.size _
  refine (on_any (4294967295 - s) w1.heap.size A bs c _ (by omega) (Blk.new _ _ _) (hbs.grow hb2) hm).mono ?_
  rintro e w2 ⟨rfl, rfl⟩
  go_wp2_with fail
  refine (sum_any _ (Crc.run_lt bs (by omega) hbs.1) _).mono ?_
  rintro e w2 ⟨rfl, rfl⟩
  go_wp2_with fail
  go_ret
  exact ⟨rfl, hb2⟩

theorem Sum_any (A : Option Addr) (bs : List Nat) (c : Nat) (w : World) (hbs : Bys w w.heap.size A bs) (hm : bs.length ≤ 9223372036854775807) :
    Calls Try.prog 41 #[.slice A bs.length c] w fun e w' => e = .returned (.int .u32 (Crc.sum bs : Nat)) ∧ Below w.heap.size w w' := by
  go_enter Try.func41, Try.ntmps41
  go_wp2_with fail
  refine (More_any 0 A bs c w (by omega) hbs hm).mono ?_
  rintro e w1 ⟨rfl, hb1⟩
  go_wp2_with fail
  go_ret
  exact ⟨rfl, hb1⟩
end Go.Proofs.Ytdoidfnfhidgdaa
