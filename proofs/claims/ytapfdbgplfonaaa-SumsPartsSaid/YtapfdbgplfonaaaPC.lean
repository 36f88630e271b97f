import Derived.Test.YtapfdbgplfonaaaPB
import Derived.Test.YtapfdbgplfonaaaM
namespace Go.Proofs.Ytapfdbgplfonaaa
open Go.RowKit

theorem joined_le : ∀ (ps : List Part), (∀ p ∈ ps, p.bs.length ≤ 500) → (joined ps).length ≤ 500 * ps.length
  | [], _ => by simp [joined]
  | p :: r, h => by
    have h1 := h p (by simp)
    have h2 := joined_le r (fun x hx => h x (List.mem_cons_of_mem _ hx))
    rw [show joined (p :: r) = p.bs ++ joined r by simp [joined], List.length_append, List.length_cons]
    omega

set_option maxRecDepth 100000 in
set_option maxHeartbeats 4000000 in
theorem parts_walk (A0 : Option Addr) (c0 : Nat) (ps : List Part) (w : World) (hl : ∀ k p, ps[k]? = some p → ∃ g off, A0 = some ⟨g, off, none⟩ ∧ g < w.heap.size ∧ w.cell? ⟨g, off + k, none⟩ = some (.slice p.A p.bs.length p.c) ∧ Bys w w.heap.size p.A p.bs)
    (hm : ps.length ≤ 9223372036854775807) (hmb : ∀ p ∈ ps, p.bs.length ≤ 9223372036854775807) :
    Calls Try.prog 10 #[.slice A0 ps.length c0] w fun e w' => e = .returned (.bool true) ∧ Below w.heap.size w w' := by
  obtain ⟨W1, hW1⟩ : ∃ W1, w.alloc (.cells #[.slice A0 ps.length c0] 42) = W1 := ⟨_, rfl⟩
  have hb1 : Below w.heap.size w W1 := by rw [← hW1]; exact (Below.refl _ w).alloc (Nat.le_refl _) _
  have hk1 : Blk W1 w.heap.size 42 #[.slice A0 ps.length c0] := by rw [← hW1]; exact Blk.new _ _ _
  have hlies : Lies W1 W1.heap.size w.heap.size A0 c0 ps := ⟨hk1.cell 0, hk1.lt, fun k p hk => by
    obtain ⟨g, off, hA, hg, hc, hy⟩ := hl k p hk
    exact ⟨g, off, hA, Nat.lt_of_lt_of_le hg hb1.size, (hb1.cell (p := ⟨g, off + k, none⟩) hg).trans hc, hy.grow hb1⟩⟩
  have hc1 : W1.cell? ⟨w.heap.size, 0, none⟩ = some (.slice A0 ps.length c0) := hlies.box
  have HL := Lib.hid hlies
  have HB1 := Lib.hid hb1
  have HW1 := Lib.hid hW1
  clear hW1 hb1 hk1 hlies hl
  by_cases h : 50 < ps.length
  · have hi : (50 : Int) < (ps.length : Int) := by omega
    go_enter Try.func10, Try.ntmps10
    go_wp2_with fail
    refine (works_any _).mono ?_
    rintro x w2 ⟨rfl, hb2⟩
    have HB2 : Hid (Below w.heap.size w w2) := by show Below _ _ _; rw [HW1.out] at hb2; exact HB1.out.trans (hb2.mono HB1.out.size)
    clear hb2
    go_wp2_with fail
    go_ret
    exact ⟨rfl, HB2.out⟩
  have hi : ¬ ((50 : Int) < (ps.length : Int)) := by omega
  go_enter Try.func10, Try.ntmps10
  go_wp2_with fail
  rw [HW1.out]
  go_loopw [3, 4] (fun v i wr => ∃ k : Nat, k ≤ ps.length ∧ i = .int .i64 k ∧ Own wr W1.heap.size v (joi ps k) ∧ Hid (∀ p ∈ ps.take k, p.bs.length ≤ 500) ∧ Below W1.heap.size W1 wr) (fun _ i _ => ps.length - (intOf i).toNat)
  case atStart => exact ⟨0, Nat.zero_le _, rfl, by rw [joi_zero]; exact own_nil _ _, Lib.hid (by simp), Below.refl _ _⟩
  case round =>
    obtain ⟨k, hk, rfl, hown, HP, hb⟩ := hrel
    have HBX : Hid (Below w.heap.size w wr) := HB1.out.trans (hb.mono HB1.out.size)
    have hlr := HL.out.below hb
    have hcb := hlr.box
    by_cases hlt : k < ps.length
    · obtain ⟨p, hpk⟩ : ∃ p, ps[k] = p := ⟨_, rfl⟩
      have hpe : ps[k]? = some p := by rw [List.getElem?_eq_getElem hlt, hpk]
      obtain ⟨g, off, rfl, hg, hc, hy⟩ := hlr.at_ k p hpe
      have hpb := hmb p (List.mem_of_getElem? hpe)
      by_cases h5 : 500 < p.bs.length
      · have h5i : (500 : Int) < (p.bs.length : Int) := by omega
        clear hown hlr
        go_wp2_with fail
        refine (works_any _).mono ?_
        rintro x w2 ⟨rfl, hb2⟩
        have HB2 : Hid (Below w.heap.size w w2) := HBX.out.trans (hb2.mono HBX.out.size)
        clear hb2
        go_wp2_with fail
        go_ret
        exact ⟨rfl, HB2.out⟩
      · have h5i : ¬ ((500 : Int) < (p.bs.length : Int)) := by omega
        have hjl := joined_le _ HP.out
        have HJS := Lib.hid (joi_succ hlt)
        have HPN : Hid (∀ q ∈ ps.take (k + 1), q.bs.length ≤ 500) := by
          intro q hq
          rw [List.take_succ_eq_append_getElem hlt, hpk] at hq
          rcases List.mem_append.1 hq with h | h
          · exact HP.out q h
          · rw [List.mem_singleton.1 h]; omega
        rw [hpk] at HJS
        have hjk : (joi ps k).length = (joined (ps.take k)).length := by unfold joi; rfl
        rw [List.length_take] at hjl
        obtain ⟨v', w2, hrun, hown2, hgr⟩ := run_append_bys wr W1.heap.size W1.heap.size u3 _ p.bs hown p.A p.c hy (by omega) hb.size
        rw [← HJS.out] at hown2
        have hb2 : Below W1.heap.size W1 w2 := hb.grown hgr hb.size fun g hg => (hown.1.lt g hg).1
        have HR := Lib.hid hrun
        have HO2 := Lib.hid hown2
        have HB2 := Lib.hid hb2
        clear hrun hown2 hb2 hown hjl hjk hlr hgr hpk
        go_wp2_with (at_builtin; refine Lib.wpList_append_run _ rfl _ _ _ _ rfl _ _ rfl rfl _ _ HR.out ?_)
        go_roundw
        case rel => exact ⟨k + 1, by omega, by go_num, HO2.out, HPN, HB2.out⟩
        case measure => simp [intOf]; omega
    · obtain rfl : k = ps.length := by omega
      have hp5 := HP.out
      rw [List.take_length] at hp5
      rw [joi_all] at hown
      obtain ⟨Z, hZ⟩ : ∃ Z, (joined ps).length = Z := ⟨_, rfl⟩
      have hjl := joined_le _ hp5
      obtain ⟨A3, c3, rfl, _, hy3⟩ := hown.formN hZ
      have HQ := Lib.hid (Of_parts w.heap.size A0 c0 ps (by omega) hp5 wr ⟨hlr.box, Nat.lt_of_lt_of_le hlr.lt hb.size, fun k p hk => by
        obtain ⟨g, off, hA, hg, hc, hy⟩ := hlr.at_ k p hk
        exact ⟨g, off, hA, Nat.lt_of_lt_of_le hg hb.size, hc, hy.mono hb.size⟩⟩)
      have HY3 := Lib.hid hy3
      have hsl := sum_lt (joined ps)
      have HRS : Hid (∀ W, Below wr.heap.size wr W → Calls Try.prog 13 #[.slice A3 Z c3] W fun e w' => e = .returned (.int .u32 (Crc.sum (joined ps) : Nat)) ∧ W = w') := by
        intro W hW
        have := refSum_any A3 (joined ps) c3 W (HY3.out.grow hW) (by omega)
        rwa [hZ] at this
      obtain ⟨S, hS⟩ : ∃ S, Crc.sum (joined ps) = S := ⟨_, rfl⟩
      rw [hS] at HQ HRS hsl
      clear hy3 hown hS hZ hjl hp5 hlr hb
      go_wp2_with fail
      refine HQ.out.mono ?_
      rintro x w4 ⟨rfl, hb4⟩
      have HB4 := Lib.hid hb4
      have HBY : Hid (Below w.heap.size w w4) := HBX.out.trans (hb4.mono HBX.out.size)
      clear hb4
      go_wp2_with fail
      refine (HRS.out _ HB4.out).mono ?_
      rintro x w5 ⟨rfl, hw5⟩
      subst hw5
      go_wp2_with fail
      refine (Of_nil _).mono ?_
      rintro x w6 ⟨rfl, hb6⟩
      have HB6 : Hid (Below w.heap.size w w6) := HBY.out.trans (hb6.mono HBY.out.size)
      clear hb6
      go_wp2_with fail
      refine (works_any _).mono ?_
      rintro x w7 ⟨rfl, hb7⟩
      have HB7 : Hid (Below w.heap.size w w7) := HB6.out.trans (hb7.mono HB6.out.size)
      clear hb7
      go_wp2_with fail
      go_ret
      exact ⟨rfl, HB7.out⟩
end Go.Proofs.Ytapfdbgplfonaaa
