import Derived.Test.YtdoidfnfhidgdaaA
import Derived.Deep.WholeRow
namespace Go.Proofs.Ytdoidfnfhidgdaa
open Go.RowKit

def Blk (w : World) (g : Nat) (t : TypeId) (cs : Array Value) : Prop := w.heap[g]? = some (.cells cs t (0, 0))
theorem Blk.lt {w : World} {g : Nat} {t : TypeId} {cs : Array Value} (h : Blk w g t cs) : g < w.heap.size := (Array.getElem?_eq_some_iff.1 h).1
theorem Blk.cell {w : World} {g : Nat} {t : TypeId} {cs : Array Value} (h : Blk w g t cs) (i : Nat) : w.cell? ⟨g, i, none⟩ = cs[i]? := cell_of_row w g i cs t (0, 0) h
theorem Blk.frozen {w : World} {g : Nat} {t : TypeId} {cs : Array Value} (h : Blk w g t cs) (i : Nat) : w.frozen? ⟨g, i, none⟩ = false := frozen_of_row w g i cs t h
theorem Blk.new (w : World) (t : TypeId) (cs : Array Value) : Blk (w.alloc (.cells cs t)) w.heap.size t cs := heap_alloc_new w _
theorem Blk.alloc {w : World} {g : Nat} {t : TypeId} {cs : Array Value} (h : Blk w g t cs) (o : Obj) : Blk (w.alloc o) g t cs := (Below.heap_alloc w o g h.lt).trans h
theorem Blk.set_ {w : World} {g : Nat} {t : TypeId} {cs : Array Value} (h : Blk w g t cs) (i : Nat) (u : Value) : Blk (w.setCell ⟨g, i, none⟩ u) g t (cs.setIfInBounds i u) :=
  heap_setCell_same w g i cs t u h
theorem Blk.below {B : Nat} {w w' : World} {g : Nat} {t : TypeId} {cs : Array Value} (h : Blk w g t cs) (hb : Below B w w') (hg : g < B) : Blk w' g t cs := (hb.block g hg).trans h

theorem setRow_same {w : World} {g : Nat} {t : TypeId} {cs cs' : Array Value} (h : Blk w g t cs) : Blk (w.setRow g cs') g t cs' := setRow_heap w g cs cs' t _ h
theorem below_setRow {B : Nat} {a w : World} {g : Nat} (h : Below B a w) (hg : B ≤ g) (cs : Array Value) : Below B a (w.setRow g cs) :=
  h.trans ⟨rfl, rfl, rfl, by simp, fun k hk => by simp only [World.setRow, Array.getElem?_modify]; rw [if_neg (by omega)]⟩

set_option maxRecDepth 100000 in
set_option maxHeartbeats 1000000 in
theorem made_any (w : World) :
    Calls Try.prog 86 #[.func (.func 87) #[] #[]] w fun e w' => e = .returned (.agg (tabA 256)) ∧ Below w.heap.size w w' := by
  obtain ⟨hz, hi⟩ := zero_of_info tab_info
  rw [tabA_zero] at hz
  have hsz := tabA_size
  go_enter Try.func86, Try.ntmps86
  go_wp2_with fail
  clear hz hi hsz
  go_loopw [4] (fun i wr => ∃ k : Nat, k ≤ 256 ∧ i = .int .i64 k ∧ Blk wr w.heap.size 100 (tabA k) ∧ Below w.heap.size w wr)
    (fun i _ => 256 - (intOf i).toNat)
  case atStart => exact ⟨0, Nat.zero_le _, rfl, Blk.new _ _ _, (Below.refl _ _).alloc (Nat.le_refl _) _⟩
  case round =>
    obtain ⟨k, hk, rfl, hB, hb⟩ := hrel
    by_cases hlt : k < 256
    · have hc := hB.cell k
      rw [tabA_get k k hlt] at hc
      have hfz := hB.frozen k
      go_wp2_with fail
      refine (bits1_any k (by omega) wr).mono ?_
      rintro e w1 ⟨rfl, rfl⟩
      go_wp2_with fail
      go_roundw
      case rel => exact ⟨k + 1, by omega, by go_num, by have := hB.set_ k (.int .u32 (Crc.s8 k : Nat)); rw [tabA_set] at this; rw [← Crc.s8_eq]; exact this, hb.setCell (p := ⟨w.heap.size, k, none⟩) (Nat.le_refl _) _⟩
      case measure => simp [intOf]; omega
    · obtain rfl : k = 256 := by omega
      go_wp2_with (first | (refine wpList_load_row rfl 100 _ rfl w.heap.size rfl 100 (tabA 256) (0, 0) _ hB Try.underlying100 rfl tab_size ?_) | (refine wpList_store_row rfl 100 _ _ rfl w.heap.size (tabA 256) rfl rfl 100 _ hB tab_size rfl (tabA_one 256) ?_))
      refine bodyPost_ret (v := .agg (tabA 256)) ?_ rfl ?_
      · exact results_cell_row rfl _ _ w.heap.size 100 _ (0, 0) _ rfl (setRow_same hB) Try.underlying100 rfl tab_size
      · exact ⟨rfl, below_setRow hb (Nat.le_refl _) _⟩
end Go.Proofs.Ytdoidfnfhidgdaa
