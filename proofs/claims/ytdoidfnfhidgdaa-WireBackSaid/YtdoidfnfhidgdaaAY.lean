import Derived.Test.YtdoidfnfhidgdaaAX
import Derived.Test.YtdoidfnfhidgdaaAP
namespace Go.Proofs.Ytdoidfnfhidgdaa
open Go.RowKit

set_option maxRecDepth 100000 in
set_option maxHeartbeats 4000000 in
theorem refAll_any (A : Option Addr) (b : List Nat) (c : Nat) (w : World) (hb : Bys w w.heap.size A b) (hc : b.length ≤ c) (hm : b.length ≤ 1099511627000) :
    Calls Try.prog 31 #[.slice A b.length c] w fun x w' => ∃ v, x = .returned (.tuple #[v, .int .i64 (goodL (scanL b.length 0 b).1), .int .i64 (scanL b.length 0 b).2]) ∧ OwnE w' w.heap.size v ((scanL b.length 0 b).1.map (·.2)) ∧ Below w.heap.size w w' := by
  go_enter Try.func31, Try.ntmps31
  go_wp2_with fail
  go_loopw [5, 6] (fun v i wr => ∃ (at_ fuel : Nat) (pre : List (Nat × Ent)), at_ ≤ b.length ∧ i = .int .i64 at_ ∧ b.length - at_ ≤ fuel ∧ pre.length ≤ at_ ∧
      Hid (scanL b.length 0 b = (pre ++ (scanL fuel at_ (b.drop at_)).1, (scanL fuel at_ (b.drop at_)).2)) ∧ Hid (goodL pre = (at_ : Int)) ∧ OwnE wr w.heap.size v (pre.map (·.2)) ∧ Below w.heap.size w wr)
    (fun _ i _ => b.length - (intOf i).toNat)
  case atStart => exact ⟨0, b.length, [], Nat.zero_le _, rfl, by omega, Nat.le_refl _, Lib.hid (by simp), Lib.hid rfl, OwnE.nil _ _, Below.refl _ _⟩
  case round =>
    obtain ⟨at_, fuel, pre, hat, rfl, hfu, hpl, HS, HG, hown, hbl⟩ := hrel
    by_cases hlt : at_ < b.length
    · have hbne : b ≠ [] := by intro h; rw [h] at hlt; simp at hlt
      obtain ⟨bb, off, rfl, _, _⟩ := hb.2 hbne
      have hyd := (hb.grow hbl).drop at_
      have hdl : (b.drop at_).length = b.length - at_ := List.length_drop
      have hQ := refRead_any (some ⟨bb, off + at_, none⟩) (b.drop at_) (c - at_) wr hyd (by omega) (by omega)
      rw [hdl] at hQ
      obtain ⟨R, hR⟩ : ∃ R, readF (b.drop at_) = R := ⟨_, rfl⟩
      rw [hR] at hQ
      have HQ := Lib.hid hQ
      have HR := Lib.hid hR
      have hdne : b.drop at_ ≠ [] := by intro h; rw [h] at hdl; simp at hdl; omega
      have HNE := Lib.hid hdne
      have HDL := Lib.hid hdl
      obtain ⟨x, nn, f⟩ := R
      have HE : Hid (entV x = .agg #[.int .i64 x.epoch, .int .i64 x.id, .int .i64 x.num, .int .i64 x.seq, .int .i64 x.kind, .int .i64 x.value]) := rfl
      have hca : at_ ≤ c := by omega
      have hcne : ¬ (c = at_) := by omega
      have HB := Lib.hid hbl
      have HOW := Lib.hid hown
      clear hQ hR hyd hdl hdne hbl hown
      go_wp2_with fail
      refine HQ.out.mono ?_
      rintro e w2 ⟨hx, hb2⟩
      simp only [HE.out] at hx
      subst hx
      have HB2 : Hid (Below w.heap.size w w2) := HB.out.trans (hb2.mono HB.out.size)
      have HO2 : Hid (OwnE w2 w.heap.size u5 (pre.map (·.2))) := HOW.out.below hb2 (Nat.le_refl _)
      obtain ⟨W3, hW3⟩ : ∃ W3, w2.alloc (.cells (entC x) 24) = W3 := ⟨_, rfl⟩
      have HW3 : Hid (w2.alloc (.cells #[.int .i64 x.epoch, .int .i64 x.id, .int .i64 x.num, .int .i64 x.seq, .int .i64 x.kind, .int .i64 x.value] 24) = W3) := hW3
      have HB3 : Hid (Below w.heap.size w W3) := by show Below _ _ _; rw [← hW3]; exact HB2.out.alloc HB2.out.size _
      have HO3 : Hid (OwnE W3 w.heap.size u5 (pre.map (·.2))) := by show OwnE _ _ _ _; rw [← hW3]; exact HO2.out.alloc _
      have HX3 : Hid (Blk W3 w2.heap.size 24 (entC x)) := by show Blk _ _ _ _; rw [← hW3]; exact Blk.new _ _ _
      clear hW3 hb2 HQ
      by_cases hf : f = 0
      · subst hf
        have hd : ((0 : Int) != 0) = false := rfl
        obtain ⟨m, hm1, hm6, hml⟩ := readF_ok (b := b.drop at_) (by rw [HR.out])
        rw [HR.out] at hm1
        have hm1' : nn = (m : Int) := hm1
        subst hm1'
        rw [HDL.out] at hml
        obtain ⟨fu, hfu2⟩ : ∃ fu, fuel = fu + 1 := ⟨fuel - 1, by omega⟩
        subst hfu2
        have HS2 : Hid (scanL b.length 0 b = ((pre ++ [(at_ + m, x)]) ++ (scanL fu (at_ + m) (b.drop (at_ + m))).1, (scanL fu (at_ + m) (b.drop (at_ + m))).2)) := by
          show _ = _
          rw [HS.out, scanL_yes HNE.out (by rw [HR.out]) (by rw [HR.out]), HR.out, List.drop_drop]
          simp
        obtain ⟨v', w4, hrun, hown, hgr⟩ := run_append_ents (W3.alloc (.cells (entC x) 24)) w.heap.size _ u5 (pre.map (·.2)) [x] (HO3.out.alloc _) (some ⟨W3.heap.size, 0, none⟩) 1 (ents_new W3 x) (by rw [List.length_map, List.length_singleton]; omega) (by have := HB3.out.size; simp; omega)
        have HR4 := Lib.hid hrun
        have HO4 := Lib.hid hown
        have HB4 : Hid (Below w.heap.size w w4) := (HB3.out.alloc HB3.out.size _).grown hgr (by have := HB3.out.size; simp; omega) fun g hg => (HO3.out.block hg).1
        have HG2 : Hid (goodL (pre ++ [(at_ + m, x)]) = ((at_ + m : Nat) : Int)) := goodL_snoc _ _
        obtain ⟨⟨a0, a1, a2⟩, a3, a4, a5⟩ := ebox HX3.out
        have e3 := HW3.out
        clear HW3 hrun hown hgr HS HR HNE HDL hm1 HB HOW HG
        go_wp2_with (at_builtin; refine Lib.wpList_append_run _ rfl _ _ _ _ rfl _ _ rfl rfl _ _ HR4.out ?_)
        go_roundw
        case rel => exact ⟨at_ + m, fu, pre ++ [(at_ + m, x)], by omega, by go_num, by omega, by rw [List.length_append, List.length_singleton]; omega, HS2, HG2, by rw [List.map_append]; exact HO4.out, HB4.out⟩
        case measure => simp [intOf]; omega
      · have hd : (f != 0) = true := bne_iff_ne.2 hf
        have HFI : Hid (scanL b.length 0 b = (pre, f)) := by
          show _ = _
          rw [HS.out, scanL_no HNE.out (by rw [HDL.out]; omega) (by rw [HR.out]; exact hf), HR.out]
          simp
        go_wp2_with fail
        go_ret3
        exact ⟨u5, by rw [HFI.out, HG.out]; rfl, by rw [HFI.out]; exact HO2.out.alloc _, HB2.out.alloc HB2.out.size _⟩
    · obtain rfl : at_ = b.length := by omega
      have HFI : Hid (scanL b.length 0 b = (pre, 0)) := by
        show _ = _
        rw [HS.out, List.drop_length, scanL_nil]
        simp
      go_wp2_with fail
      go_ret3
      exact ⟨u5, by rw [HFI.out, HG.out]; rfl, by rw [HFI.out]; exact hown, hbl⟩
end Go.Proofs.Ytdoidfnfhidgdaa
