import Derived.Test.YtdoidfnfhidgdaaAO
import Derived.Test.YtdoidfnfhidgdaaAE
namespace Go.Proofs.Ytdoidfnfhidgdaa
open Go.RowKit

set_option maxRecDepth 100000 in
set_option maxHeartbeats 4000000 in
theorem one_walk (e : Ent) (A : Option Addr) (bs : List Nat) (c : Nat) (w : World) (hb : Bys w w.heap.size A bs) :
    Calls Try.prog 7 #[entV e, .slice A bs.length c] w fun x w' => x = .returned (.bool true) ∧ Below w.heap.size w w' := by
  obtain ⟨W1, h1⟩ : ∃ W1, w.alloc (.cells (entC e) 24) = W1 := ⟨_, rfl⟩
  have l1 : Below w.heap.size w W1 := by rw [← h1]; exact (Below.refl _ w).alloc (Nat.le_refl _) _
  have b1 : Blk W1 w.heap.size 24 (entC e) := by rw [← h1]; exact Blk.new w 24 _
  have HL := Lib.hid l1
  have HB1 := Lib.hid b1
  have HY1 := Lib.hid (hb.grow l1)
  have HW : Hid (w.alloc (.cells (entC e) 24) = W1) := h1
  obtain ⟨⟨a0, a1, a2⟩, a3, a4, a5⟩ := ebox b1
  have HRT := Lib.hid (Right_any e)
  clear h1 l1 b1 hb
  unfold entC at HW
  have HE : Hid (entV e = .agg #[.int .i64 e.epoch, .int .i64 e.id, .int .i64 e.num, .int .i64 e.seq, .int .i64 e.kind, .int .i64 e.value]) := rfl
  have HQ := Lib.hid (fun W => Frame_any e W)
  unfold entV at HQ HRT ⊢
  by_cases h : 200 < bs.length
  · have hi : (200 : Int) < (bs.length : Int) := by omega
    go_enter Try.func7, Try.ntmps7
    go_wp2_with fail
    rw [HW.out]
    refine (works_any _).mono ?_
    rintro x w2 ⟨rfl, hb2⟩
    have HB2 : Hid (Below w.heap.size w w2) := HL.out.trans (hb2.mono HL.out.size)
    clear hb2
    go_wp2_with fail
    go_ret
    exact ⟨rfl, HB2.out⟩
  have hi : ¬ ((200 : Int) < (bs.length : Int)) := by omega
  by_cases hR : Right e
  · have hrt := HRT.out
    rw [decide_eq_true hR] at hrt
    have HRT2 := Lib.hid hrt
    have HRD := Lib.hid (readF_frame e hR bs)
    have hfl := frameE_len e hR
    clear HRT hrt
    go_enter Try.func7, Try.ntmps7
    go_wp2_with fail
    rw [HW.out]
    refine (HRT2.out _).mono ?_
    rintro x w2 ⟨rfl, hb2⟩
    have HB2 : Hid (Below w.heap.size w w2) := HL.out.trans (hb2.mono HL.out.size)
    have HK2 : Hid (Blk w2 w.heap.size 24 (entC e)) := HB1.out.below hb2 HB1.out.lt
    have HY2 := Lib.hid (HY1.out.grow hb2)
    clear hb2 a0 a1 a2 a3 a4 a5
    obtain ⟨⟨a0, a1, a2⟩, a3, a4, a5⟩ := ebox HK2.out
    go_wp2_with fail
    refine (HQ.out _).mono ?_
    rintro x w3 ⟨hx, hb3⟩
    have HB3 : Hid (Below w.heap.size w w3) := HB2.out.trans (hb3.mono HB2.out.size)
    have HK3 : Hid (Blk w3 w.heap.size 24 (entC e)) := HK2.out.below hb3 HK2.out.lt
    have HY3 := Lib.hid (HY2.out.grow hb3)
    obtain ⟨v, hx2, ho⟩ : ∃ v, x = Ending.returned (Value.tuple #[v, Value.int IntKind.i64 0]) ∧ Own w3 w2.heap.size v (frameE e) := by
      rcases hx with ⟨_, h⟩ | ⟨hn, _⟩
      · exact h
      · exact absurd hR hn
    subst hx2
    clear hx
    obtain ⟨F, hF⟩ : ∃ F, (frameE e).length = F := ⟨_, rfl⟩
    have HF := Lib.hid hF
    obtain ⟨A3, c3, rfl, _, hy3⟩ := ho.formN hF
    rw [hF] at HRD hfl
    obtain ⟨r1, x1, r2, x2, hr1, hr2, hor, hbr⟩ := copy2_run w3 A3 A (frameE e) bs c3 c hy3 HY3.out (by omega)
    rw [hF] at hr1
    obtain ⟨Z, hZ⟩ : ∃ Z, (frameE e ++ bs).length = Z := ⟨_, rfl⟩
    have HZl : Hid (Z = F + bs.length) := by show _ = _; rw [← hZ, List.length_append, hF]
    obtain ⟨Ar, cr, rfl, hcr, hyr⟩ := hor.formN hZ
    have HR1 := Lib.hid hr1
    have HR2 := Lib.hid hr2
    have HB4 : Hid (Below w.heap.size w x2) := HB3.out.trans (hbr.mono HB3.out.size)
    have HK4 : Hid (Blk x2 w.heap.size 24 (entC e)) := HK3.out.below hbr HK3.out.lt
    have HRR := Lib.hid (Read_any Ar (frameE e ++ bs) cr x2 hyr (by rw [hZ]; exact hcr) (by rw [hZ]; have := HZl.out; omega))
    rw [hZ, HRD.out] at HRR
    clear hr1 hr2 hor hbr hyr hb3 ho hy3 hF hZ a0 a1 a2 a3 a4 a5 HRD
    go_wp2_with (first | (at_builtin; refine Lib.wpList_append_run _ rfl _ _ _ _ rfl _ _ rfl rfl _ _ HR1.out ?_) | (at_builtin; refine Lib.wpList_append_run _ rfl _ _ _ _ rfl _ _ rfl rfl _ _ HR2.out ?_))
    refine HRR.out.mono ?_
    rintro x w5 ⟨hx5, hb5⟩
    simp only [HE.out] at hx5
    subst hx5
    have HB5 : Hid (Below w.heap.size w w5) := HB4.out.trans (hb5.mono HB4.out.size)
    have HK5 : Hid (Blk w5 w.heap.size 24 (entC e)) := HK4.out.below hb5 HK4.out.lt
    obtain ⟨⟨a0, a1, a2⟩, a3, a4, a5⟩ := ebox HK5.out
    have hlt5 : w.heap.size < w5.heap.size := HK5.out.lt
    clear hb5 HR1 HR2 HRR
    go_wp2_with fail
    refine (num_any _ _).mono ?_
    rintro x wn ⟨rfl, hwn⟩
    go_wp2_with fail
    refine (num_any _ _).mono ?_
    rintro x wm ⟨rfl, hwm⟩
    subst hwn hwm
    go_wp2_with fail
    refine (works_any _).mono ?_
    rintro x w9 ⟨rfl, hb9⟩
    go_wp2_with fail
    go_ret
    exact ⟨rfl, (HB5.out.alloc HB5.out.size _).trans (hb9.mono (HB5.out.alloc HB5.out.size _).size)⟩
  · have hrt := HRT.out
    rw [decide_eq_false hR] at hrt
    have HRT2 := Lib.hid hrt
    clear HRT hrt
    go_enter Try.func7, Try.ntmps7
    go_wp2_with fail
    rw [HW.out]
    refine (HRT2.out _).mono ?_
    rintro x w2 ⟨rfl, hb2⟩
    have HB2 : Hid (Below w.heap.size w w2) := HL.out.trans (hb2.mono HL.out.size)
    clear hb2 a0 a1 a2 a3 a4 a5
    go_wp2_with fail
    refine (works_any _).mono ?_
    rintro x w3 ⟨rfl, hb3⟩
    have HB3 : Hid (Below w.heap.size w w3) := HB2.out.trans (hb3.mono HB2.out.size)
    clear hb3
    go_wp2_with fail
    go_ret
    exact ⟨rfl, HB3.out⟩
end Go.Proofs.Ytdoidfnfhidgdaa
