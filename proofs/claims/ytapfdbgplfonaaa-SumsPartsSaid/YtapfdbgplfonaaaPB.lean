import Derived.Test.YtapfdbgplfonaaaPA
namespace Go.Proofs.Ytapfdbgplfonaaa
open Go.RowKit Go.Shelf
attribute [local go_sem] Oper.semAt_some

theorem below_putObj {n₀ l : Nat} {W : World} (o' : Obj) (hl : n₀ ≤ l) : Below n₀ W (W.putObj l o') := ⟨rfl, rfl, rfl, by simp, fun k hk => World.putObj_heap_other (by omega)⟩
theorem Blk.putObj {W : World} {g l : Nat} {t : TypeId} {cs : Array Value} (h : Blk W g t cs) (o' : Obj) (hne : g ≠ l) : Blk (W.putObj l o') g t cs := (World.putObj_heap_other hne).trans h
theorem Blk.ownRow {X Y : World} {g B : Nat} {t : TypeId} {cs : Array Value} {row : Option Nat} (h : Blk X g t cs) (hg : X.grownBy Y row) (hr : ∀ r, row = some r → B ≤ r ∧ ∃ o : Obj, X.heap[r]? = some o ∧ o.isCells = false) : Blk Y g t cs := by
  refine (hg.block g h.lt ?_).trans h
  intro e
  obtain ⟨_, o, ho, hc⟩ := hr g e.symm
  rw [show X.heap[g]? = _ from h] at ho
  cases ho
  cases hc

/-- between two rounds: the table, and the word so far -/
def OfAt (n₀ T E : Nat) (w : World) (pre : List Part) (W : World) : Prop :=
  Blk W T 47 (tabA 256) ∧ Blk W E 49 #[.int .u32 (Crc.run 4294967295 (joined pre) : Nat)] ∧ (∀ c ∈ joined pre, c < 256) ∧ Below n₀ w W

set_option maxRecDepth 100000 in
set_option maxHeartbeats 4000000 in
theorem Of_parts (L : Nat) (A0 : Option Addr) (c0 : Nat) (ps : List Part) (hm : ps.length ≤ 50) (hp : ∀ p ∈ ps, p.bs.length ≤ 500) (w : World) (hl : Lies w w.heap.size L A0 c0 ps) :
    Calls Try.prog 21 #[.func (.func 22) #[] #[.pointer (some ⟨L, 0, none⟩)]] w fun e w' => e = .returned (.int .u32 (Crc.sum (joined ps) : Nat)) ∧ Below w.heap.size w w' := by
  obtain ⟨hz, hi⟩ := zero_of_info tab_info
  rw [tabA_zero] at hz
  have hn := func_eq_nil
  refine (callsIn_wide (n := 5)).1 ?_
  refine callsIn_of_wp_marks Try.func21 rfl trivial ?_
  simp only [Try.ntmps21, List.size_toArray, List.length_cons, List.length_nil, Nat.reduceAdd, Nat.reduceSub, Array.replicate_succ, Array.replicate_zero, List.push_toArray, List.append_toArray, List.nil_append, List.cons_append]
  refine wpIn_wide.2 ?_
  go_wp2_with fail
  refine (bits_any _).mono ?_
  rintro e w1 ⟨rfl, hb1⟩
  have HK : Hid (Blk ((w1.alloc (.cells (tabA 0) 47)).alloc (.cells #[.int .u32 0] 49)) w1.heap.size 47 (tabA 0)) := (Blk.new w1 47 (tabA 0)).alloc _
  obtain ⟨k1, k2, k3, k4⟩ := ofW_facts w1
  have hf : (((w1.alloc (.cells (tabA 0) 47)).alloc (.cells #[.int .u32 0] 49)).setRow w1.heap.size (tabA 256)).frozen? ⟨w1.heap.size + 1, 0, none⟩ = false := k2.frozen 0
  have hc : (((w1.alloc (.cells (tabA 0) 47)).alloc (.cells #[.int .u32 0] 49)).setRow w1.heap.size (tabA 256)).cell? ⟨w1.heap.size + 1, 0, none⟩ = some (.int .u32 0) := k2.cell 0
  have HB4 : Hid (Below w.heap.size w ((ofW w1).setCell ⟨w1.heap.size + 1, 0, none⟩ (.int .u32 4294967295))) := (hb1.trans (k4.mono hb1.size)).setCell (p := ⟨w1.heap.size + 1, 0, none⟩) (by have := hb1.size; show w.heap.size ≤ w1.heap.size + 1; omega) _
  have HT4 : Hid (Blk ((ofW w1).setCell ⟨w1.heap.size + 1, 0, none⟩ (.int .u32 4294967295)) w1.heap.size 47 (tabA 256)) := (Below.heap_setCell (ofW w1) ⟨w1.heap.size + 1, 0, none⟩ _ w1.heap.size (by show w1.heap.size ≠ w1.heap.size + 1; omega)).trans k1
  have HE4 : Hid (Blk ((ofW w1).setCell ⟨w1.heap.size + 1, 0, none⟩ (.int .u32 4294967295)) (w1.heap.size + 1) 49 #[.int .u32 4294967295]) := k2.set_ 0 _
  have HZ1 := Lib.hid hb1.size
  clear hb1 k1 k2 k3 k4
  go_wp2_with (refine wpList_store_row rfl 47 _ _ rfl w1.heap.size (tabA 256) rfl rfl 47 (tabA 0) HK.out tab_size rfl (tabA_one 256) ?_)
  clear hf hc hz
  obtain ⟨W4, hW4⟩ : ∃ W4, (ofW w1).setCell ⟨w1.heap.size + 1, 0, none⟩ (.int .u32 4294967295) = W4 := ⟨_, rfl⟩
  rw [hW4] at HB4 HT4 HE4
  have HW4 : Hid ((((w1.alloc (.cells (tabA 0) 47)).alloc (.cells #[.int .u32 0] 49)).setRow w1.heap.size (tabA 256)).setCell ⟨w1.heap.size + 1, 0, none⟩ (.int .u32 4294967295) = W4) := hW4
  clear hW4 HK
  rw [HW4.out]
  refine (wpIn_wide (n := 5)).1 ?_
  refine wpIn_range_seqT rfl (by omega) (gf := 22) (lb := #[.pointer (some ⟨L, 0, none⟩)]) rfl trivial (enters_of Try.func22 (by kernel_rfl) rfl)
    (parts1_seq Fence.wide _ trivial rfl (by omega) L w.heap.size A0 c0 ps hm hp W4 HB4.out.size (hl.below HB4.out))
    (fun A B k o hs _ ho _ => (hs.block k (Array.getElem?_eq_some_iff.1 ho).1).trans ho) (fun h k => h.trans k) (fun W l o o' hl _ _ => below_putObj o' (Nat.le_trans HB4.out.size hl)) (fun _ => rfl)
    (OfAt w.heap.size w1.heap.size (w1.heap.size + 1) w)
    (fun s X Y row hs hg hr => ⟨hs.1.ownRow hg hr, hs.2.1.ownRow hg hr, hs.2.2.1, hs.2.2.2.grown hg hs.2.2.2.size (fun r e => Nat.le_trans HB4.out.size (hr r e).1)⟩)
    (fun s A B hs h => ⟨hs.1.below h hs.1.lt, hs.2.1.below h hs.2.1.lt, hs.2.2.1, hs.2.2.2.trans (h.mono hs.2.2.2.size)⟩)
    ⟨HT4.out, HE4.out, by simp [joined], HB4.out⟩ ?round ?done
  case round =>
    intro l pre x W hlW hlo hI hG hlen
    obtain ⟨hT, hE, hlt, hB⟩ := hI
    gi_wp2
    refine ⟨KeepsFrom.refl _ _, Below.refl _ _, fun o => ?_⟩
    have hTl : w1.heap.size + 1 < l := Nat.lt_of_lt_of_le HE4.out.lt hlW
    have hT2 := hT.putObj (l := l) o (by omega)
    have hE2 := hE.putObj (l := l) o (by omega)
    have hbp : Below w.heap.size W (W.putObj l o) := below_putObj o (Nat.le_trans HB4.out.size hlW)
    have hB2 := hB.trans hbp
    obtain ⟨W2, hW2⟩ : ∃ W2, W.putObj l o = W2 := ⟨_, rfl⟩
    have hy2 : Bys W2 W2.heap.size x.A x.bs := by
      have h1 := hG.1
      rw [← hW2]
      refine ⟨h1.1, fun hne => ?_⟩
      obtain ⟨b, off, hA, hb, hcell⟩ := h1.2 hne
      have h0 := hcell 0 (x.bs[0]'(List.length_pos_iff.2 hne)) (List.getElem?_eq_getElem _)
      have hbl : b ≠ l := by
        rintro rfl
        obtain ⟨o1, ho1, hc1⟩ := cells_of_cell h0
        obtain ⟨o2, ho2, hc2⟩ := hlo
        rw [show W.heap[b]? = _ from ho1] at ho2
        cases ho2
        rw [hc1] at hc2
        cases hc2
      exact ⟨b, off, hA, by simpa using hb, fun k c hk => (World.cell?_of_block (World.putObj_heap_other hbl)).trans (hcell k c hk)⟩
    rw [hW2] at hT2 hE2 hB2
    obtain ⟨m, hm'⟩ : ∃ m, Crc.run 4294967295 (joined pre) = m := ⟨_, rfl⟩
    rw [hm'] at hE2
    have hmlt : m < 4294967296 := by rw [← hm']; exact Crc.run_lt _ (by omega) hlt
    have hon := on_any m w1.heap.size x.A x.bs x.c W2 hmlt hT2 hy2 (by have := hG.2; omega)
    have hcE := hE2.cell 0
    have hfE := hE2.frozen 0
    have hj : Crc.run 4294967295 (joined (pre ++ [x])) = Crc.run m x.bs := by
      rw [← hm', show joined (pre ++ [x]) = joined pre ++ x.bs by simp [joined]]
      exact Crc.run_append _ _ _
    obtain ⟨m2, hm2⟩ : ∃ q, Crc.run m x.bs = q := ⟨_, rfl⟩
    rw [hm2] at hon hj
    have HJ := Lib.hid hj
    have HON := Lib.hid hon
    have hlen2 : 1 ≤ 5 - 1 - 1 := by omega
    clear hj hon hm'
    gi_wp2_with (refine ⟨trivial, ?_⟩; gi_at_call 25; refine (CallsIn.inRound l (callsIn_wide.2 HON.out)).mono ?_; rintro e w' ⟨rfl, rfl⟩)
    rw [hW2]
    refine ⟨⟨by simp [World.setCell], fun k o hk ho _ => (Below.heap_setCell W2 ⟨w1.heap.size + 1, 0, none⟩ _ k (by have := HE4.out.lt; show k ≠ w1.heap.size + 1; omega)).trans ho⟩, (Below.refl _ _).setCell (p := ⟨w1.heap.size + 1, 0, none⟩) (by have := HZ1.out; show w.heap.size ≤ w1.heap.size + 1; omega) _, ?_⟩
    refine ⟨(Below.heap_setCell W2 ⟨w1.heap.size + 1, 0, none⟩ _ w1.heap.size (by show w1.heap.size ≠ w1.heap.size + 1; omega)).trans hT2, ?_, ?_, hB2.setCell (p := ⟨w1.heap.size + 1, 0, none⟩) (by have := HZ1.out; show w.heap.size ≤ w1.heap.size + 1; omega) _⟩
    · rw [HJ.out]
      exact hE2.set_ 0 (.int .u32 (m2 : Nat))
    · intro c hc
      rw [show joined (pre ++ [x]) = joined pre ++ x.bs by simp [joined]] at hc
      rcases List.mem_append.1 hc with h | h
      · exact hlt c h
      · exact hy2.1 c h
  case done =>
    intro D ys Wa Wb l o o' hD _ _ _ hWb hys _ hI hKD
    clear hWb
    obtain ⟨hT, hE, hlt, hB⟩ := hI
    have hj : joined ys = joined ps := by
      unfold joined
      rw [List.flatMap_def, List.flatMap_def, hys]
    rw [hj] at hE hlt
    have hcE := hE.cell 0
    have hrl := Crc.run_lt (joined ps) (show 4294967295 < 4294967296 by omega) hlt
    have HSU : Hid (Crc.sum (joined ps) = 4294967295 - Crc.run 4294967295 (joined ps)) := rfl
    obtain ⟨m, hm'⟩ : ∃ m, Crc.run 4294967295 (joined ps) = m := ⟨_, rfl⟩
    rw [hm'] at hcE hrl HSU
    clear hj hys hlt hm'
    go_wp2_with fail
    refine (sum_any m hrl _).mono ?_
    rintro e w2 ⟨rfl, rfl⟩
    go_wp2_with fail
    refine ⟨by simp, .inl ⟨_, _, rfl, run_takeDeferred hKD, ?_⟩⟩
    refine ⟨_, results_tmp rfl _ _ _, ?_, hB.trans (below_putObj _ (Nat.le_trans HB4.out.size hD))⟩
    rw [HSU.out]
    rfl
end Go.Proofs.Ytapfdbgplfonaaa
