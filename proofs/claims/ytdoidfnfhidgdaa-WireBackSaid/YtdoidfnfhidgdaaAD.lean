import Derived.Test.YtdoidfnfhidgdaaAC
namespace Go.Proofs.Ytdoidfnfhidgdaa
open Go.RowKit

theorem ents_one {w : World} {g B : Nat} {e : Ent} (h : Blk w g 24 (entC e)) (hg : g < B) : Ents w B (some ⟨g, 0, none⟩) [e] := by
  intro _
  refine ⟨g, 0, rfl, hg, fun k e' hk => ?_⟩
  obtain rfl : k = 0 := by rcases k with _ | k <;> simp_all
  obtain rfl : e = e' := by simpa using hk
  exact ⟨h.cell 0, h.cell 1, h.cell 2, h.cell 3, h.cell 4, h.cell 5⟩

set_option maxRecDepth 100000 in
set_option maxHeartbeats 1000000 in
theorem Frame_any (e : Ent) (w : World) :
    Calls Try.prog 14 #[entV e] w fun x w' => ((Right e ∧ ∃ v, x = .returned (.tuple #[v, .int .i64 0]) ∧ Own w' w.heap.size v (frameE e)) ∨ (¬ Right e ∧ x = .returned (.tuple #[.slice none 0 0, .int .i64 2]))) ∧ Below w.heap.size w w' := by
  obtain ⟨W1, h1⟩ : ∃ W1, w.alloc (.cells (entC e) 24) = W1 := ⟨_, rfl⟩
  have z1 : W1.heap.size = w.heap.size + 1 := by rw [← h1]; simp
  have l1 : Below w.heap.size w W1 := by rw [← h1]; exact (Below.refl _ w).alloc (Nat.le_refl _) _
  have b2 := Blk.new W1 24 (entC e)
  obtain ⟨W2, h2⟩ : ∃ W2, W1.alloc (.cells (entC e) 24) = W2 := ⟨_, rfl⟩
  have z2 : W2.heap.size = w.heap.size + 1 + 1 := by rw [← h2]; simp [z1]
  have l2 : Below w.heap.size w W2 := by rw [← h2]; exact l1.alloc (by omega) _
  rw [h2, z1] at b2
  have hf := Frames_any (some ⟨w.heap.size + 1, 0, none⟩) [e] 1 W2 (ents_one b2 (by omega)) (by simp)
  have HF := Lib.hid hf
  have HL := Lib.hid l2
  have HW : Hid ((w.alloc (.cells (entC e) 24)).alloc (.cells (entC e) 24) = W2) := by show _ = _; rw [h1, h2]
  clear hf l2 l1 b2 h1 h2 z1
  unfold entC at HW
  unfold entV
  go_enter Try.func14, Try.ntmps14
  go_wp2_with fail
  rw [HW.out]
  refine HF.out.mono ?_
  rintro x w3 ⟨hx, hb3⟩
  have HB : Hid (Below w.heap.size w w3) := HL.out.trans (hb3.mono HL.out.size)
  rcases hx with ⟨hr, v, rfl, ho⟩ | ⟨hr, rfl⟩
  · have HO := Lib.hid ho
    have HR := Lib.hid hr
    clear ho hr hb3
    go_wp2_with fail
    go_ret2
    refine ⟨.inl ⟨HR.out e (by simp), v, rfl, ?_⟩, HB.out⟩
    have := HO.out.mono (show w.heap.size ≤ W2.heap.size by omega)
    simpa using this
  · have HR := Lib.hid hr
    clear hr hb3
    go_wp2_with fail
    go_ret2
    exact ⟨.inr ⟨fun h => HR.out (fun x hx => by rw [List.mem_singleton.1 hx]; exact h), rfl⟩, HB.out⟩

/-- the entry of 'works', its frame, and it with another bit -/
def ent0 : Ent := ⟨2, 3, 300, 1, 1, -5⟩
theorem right0 : Right ent0 := by decide
theorem body0 : bodyE ent0 = [1, 2, 4, 172, 2, 1, 9] := by
  simp [bodyE, bodyN, pt, List.range_succ, ent0, zig, numB_lt, numB_ge]
def fr0 : List Nat := Crc.le4 (Crc.sum [1, 2, 4, 172, 2, 1, 9]) ++ [7] ++ [1, 2, 4, 172, 2, 1, 9]
theorem frame0 : frameE ent0 = fr0 := by rw [frameE, body0]; rfl
theorem len0 : fr0.length = 12 := by simp [fr0, Crc.le4]
theorem read0 : readF fr0 = (ent0, 12, 0) := by kernel_rfl
def fr1 : List Nat := fr0.set 6 3
theorem read1 : readF fr1 = (zeroE, 0, 110) := by kernel_rfl
end Go.Proofs.Ytdoidfnfhidgdaa
