import Derived.Test.YtdoidfnfhidgdaaAY
import Derived.Test.YtdoidfnfhidgdaaAE
namespace Go.Proofs.Ytdoidfnfhidgdaa
open Go.RowKit

theorem scanL_len : ∀ (f at_ : Nat) (b : List Nat), (scanL f at_ b).1.length ≤ b.length
  | 0, _, _ => Nat.zero_le _
  | f + 1, at_, b => by
    by_cases hb : b = []
    · rw [hb, scanL_nil]; exact Nat.zero_le _
    by_cases h : (readF b).2.2 = 0
    · obtain ⟨n, hn, h6, hl⟩ := readF_ok h
      rw [scanL_yes hb h hn]
      have := scanL_len f (at_ + n) (b.drop n)
      rw [List.length_drop] at this
      simp only [List.length_cons]
      omega
    · rw [scanL, if_neg hb, if_neg h]; exact Nat.zero_le _

set_option maxRecDepth 100000 in
set_option maxHeartbeats 4000000 in
theorem scans_ok (A : Option Addr) (a : List Nat) (c : Nat) (w : World) (ha : Bys w w.heap.size A a) (hc : a.length ≤ c) (hm : a.length ≤ 3000) :
    Calls Try.prog 10 #[.slice A a.length c] w fun e w' => e = .returned (.bool true) ∧ Below w.heap.size w w' := by
  obtain ⟨v1, w1, b2, o2, c2, w2, hr1, hr2, hc2, hbys2, hge, hbw2⟩ := spare_run w A a c ha (by omega)
  have hy := hbys2.take a.length
  rw [List.take_left' rfl] at hy
  have hs77 : w2.cell? ⟨b2, o2 + a.length, none⟩ = some (.int .u8 77) := by
    obtain ⟨b', o', e, _, hcell⟩ := hbys2.2 (by simp)
    cases e
    exact hcell a.length 77 (by simp)
  have hlt2 := block_lt_of_cell hs77
  have HR1 := Lib.hid hr1
  have HR2 := Lib.hid hr2
  have h20 : a.length ≤ c2 := by omega
  have HA := Lib.hid ha
  have HY := Lib.hid hy
  have HBW := Lib.hid hbw2
  have HQ1 := Lib.hid (All_any (some ⟨b2, o2, none⟩) a c2 w2 hy h20 (by omega))
  have HQ2 : Hid (∀ w', Below w.heap.size w w' → _) := fun w' (h : Below w.heap.size w w') => refAll_any A a c w' (ha.grow h) hc (by omega)
  obtain ⟨L, hL⟩ : ∃ l, (scanL a.length 0 a).1.map (·.2) = l := ⟨_, rfl⟩
  obtain ⟨G, hG⟩ : ∃ l, goodL (scanL a.length 0 a).1 = l := ⟨_, rfl⟩
  obtain ⟨Y, hY⟩ : ∃ l, (scanL a.length 0 a).2 = l := ⟨_, rfl⟩
  have hLl : L.length ≤ 3000 := by rw [← hL, List.length_map]; exact Nat.le_trans (scanL_len _ _ _) hm
  obtain ⟨n3, hn3⟩ : ∃ n, L.length = n := ⟨_, rfl⟩
  rw [hL, hG, hY] at HQ1
  simp only [hL, hG, hY] at HQ2
  have HN3 := Lib.hid hn3
  rw [hn3] at hLl
  clear hr1 hr2 ha hy hbw2 hL hG hY hn3
  go_enter Try.func10, Try.ntmps10
  go_wp2_with (first | (at_builtin; refine Lib.wpList_append_run _ rfl _ _ _ _ rfl _ _ rfl rfl _ _ HR1.out ?_) | (at_builtin; refine Lib.wpList_append_run _ rfl _ _ _ _ rfl _ _ rfl rfl _ _ HR2.out ?_))
  refine HQ1.out.mono ?_
  rintro e w3 ⟨v3, rfl, ho3, hb3⟩
  obtain ⟨A3, c3, hv3, _, hen3⟩ := ho3.form
  rw [HN3.out] at hv3
  subst hv3
  have HB3 : Hid (Below w.heap.size w w3) := HBW.out.trans (hb3.mono HBW.out.size)
  have HB23 := Lib.hid hb3
  obtain ⟨W4, hW4⟩ : ∃ W4, w3.alloc (.cells (outC (.slice A3 n3 c3) G Y) 52) = W4 := ⟨_, rfl⟩
  have HW4 : Hid (w3.alloc (.cells #[.slice A3 n3 c3, .int .i64 G, .int .i64 Y] 52) = W4) := hW4
  have hb34 : Below w3.heap.size w3 W4 := by rw [← hW4]; exact (Below.refl _ _).alloc (Nat.le_refl _) _
  have HB34 := Lib.hid hb34
  have HK4 : Hid (Blk W4 w3.heap.size 52 (outC (.slice A3 n3 c3) G Y)) := by show Blk _ _ _ _; rw [← hW4]; exact Blk.new _ _ _
  have HE4 := Lib.hid (hen3.grow hb34)
  have HB4 : Hid (Below w.heap.size w W4) := HB3.out.trans (hb34.mono HB3.out.size)
  clear hb3 HR1 HR2 HQ1 ho3 hen3 hW4 hb34
  go_wp2_with fail
  rw [HW4.out]
  refine (HQ2.out _ HB4.out).mono ?_
  rintro e w5 ⟨v5, rfl, ho5, hb5⟩
  obtain ⟨A5, c5, hv5, _, hen5⟩ := ho5.form
  rw [HN3.out] at hv5
  subst hv5
  have HB5 : Hid (Below w.heap.size w w5) := HB4.out.trans (hb5.mono HB4.out.size)
  have HK5 : Hid (Blk w5 w3.heap.size 52 (outC (.slice A3 n3 c3) G Y)) := HK4.out.below hb5 HK4.out.lt
  have HB25 : Hid (Below w2.heap.size w2 w5) := HB23.out.trans ((HB34.out.trans (hb5.mono HB34.out.size)).mono HB23.out.size)
  have hsm := Same_any A3 A5 L L c3 c5 w5 (HE4.out.grow hb5) hen5 (by have := HN3.out; omega) (by have := HN3.out; omega)
  rw [HN3.out, decide_eq_true rfl] at hsm
  have HSM := Lib.hid hsm
  have q0 : w5.cell? ⟨w3.heap.size, 0, none⟩ = some (.slice A3 n3 c3) := HK5.out.cell 0
  clear HQ2 hb5 ho5 hen5 hsm
  go_wp2_with fail
  refine HSM.out.mono ?_
  rintro e w6 ⟨rfl, hb6⟩
  have HB6 : Hid (Below w.heap.size w w6) := HB5.out.trans (hb6.mono HB5.out.size)
  have HB26 : Hid (Below w2.heap.size w2 w6) := HB25.out.trans (hb6.mono HB25.out.size)
  have HK6 : Hid (Blk w6 w3.heap.size 52 (outC (.slice A3 n3 c3) G Y)) := HK5.out.below hb6 HK5.out.lt
  have q1 : w6.cell? ⟨w3.heap.size, 1, none⟩ = some (.int .i64 G) := HK6.out.cell 1
  have q2 : w6.cell? ⟨w3.heap.size, 2, none⟩ = some (.int .i64 Y) := HK6.out.cell 2
  have hk2 : (convert 25 9 (.slice (some ⟨b2, o2, none⟩) a.length c2)).run Try.prog w6 = .ok (.string (str a)) w6 := conv_any w6 _ _ _ _ (HY.out.grow HB26.out)
  have hk3 : (convert 25 9 (.slice A a.length c)).run Try.prog w6 = .ok (.string (str a)) w6 := conv_any w6 _ _ _ _ (HA.out.grow HB6.out)
  have hk4 : w6.cell? ⟨b2, o2 + a.length, none⟩ = some (.int .u8 77) := (HB26.out.cell (p := ⟨b2, o2 + a.length, none⟩) hlt2).trans hs77
  have hn1 : a.length < a.length + 1 := by omega
  have hn2 : a.length ≤ a.length + 1 := by omega
  have hn3 : (a.length : Int) + 1 ≤ c2 := by omega
  have hn4 : (0 : Int) ≤ a.length := by omega
  have hn5 : (0 : Int) ≤ (a.length : Int) + 1 := by omega
  have hn6 : (a.length : Int) < (a.length : Int) + 1 := by omega
  have hn7 : IntKind.i64.wrap ((a.length : Int) + 1) = (a.length : Int) + 1 := IntWalk.i64_in _ (by omega)
  clear hs77 hbys2 HB23 hb6 q0
  go_wp2_with fail
  refine (num_any _ _).mono ?_
  rintro e w7 ⟨rfl, rfl⟩
  go_wp2_with fail
  refine (works_any _).mono ?_
  rintro e w7 ⟨rfl, hb7⟩
  have hb8 := HB6.out.trans (hb7.mono HB6.out.size)
  clear hb7
  go_wp2_with fail
  go_ret
  exact ⟨rfl, hb8⟩

set_option maxRecDepth 100000 in
theorem scans_walk (A : Option Addr) (a : List Nat) (c : Nat) (w : World) (ha : Bys w w.heap.size A a) (hc : a.length ≤ c) :
    Calls Try.prog 10 #[.slice A a.length c] w fun e w' => e = .returned (.bool true) ∧ Below w.heap.size w w' := by
  by_cases h : 3000 < a.length
  · have hi : (3000 : Int) < (a.length : Int) := by omega
    go_enter Try.func10, Try.ntmps10
    go_wp2_with fail
    refine (works_any w).mono ?_
    rintro e w1 ⟨rfl, hb1⟩
    go_wp2_with fail
    go_ret
    exact ⟨rfl, hb1⟩
  · exact scans_ok A a c w ha hc (by omega)
end Go.Proofs.Ytdoidfnfhidgdaa
