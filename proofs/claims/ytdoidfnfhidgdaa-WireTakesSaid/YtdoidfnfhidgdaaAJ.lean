import Derived.Test.YtdoidfnfhidgdaaAI
namespace Go.Proofs.Ytdoidfnfhidgdaa
open Go.RowKit

set_option maxRecDepth 100000 in
set_option maxHeartbeats 4000000 in
theorem takes_ok (A : Option Addr) (a : List Nat) (c : Nat) (w : World) (ha : Bys w w.heap.size A a) (hm : a.length ≤ 200) :
    Calls Try.prog 9 #[.slice A a.length c] w fun e w' => e = .returned (.bool true) ∧ Below w.heap.size w w' := by
  obtain ⟨v1, w1, b2, o2, c2, w2, hr1, hr2, hc2, hbys2, hge, hbw2⟩ := spare_run w A a c ha (by omega)
  have hy := hbys2.take a.length
  rw [List.take_left' rfl] at hy
  have hs77 : w2.cell? ⟨b2, o2 + a.length, none⟩ = some (.int .u8 77) := by
    obtain ⟨b', o', e, _, hcell⟩ := hbys2.2 (by simp)
    cases e
    exact hcell a.length 77 (by simp)
  have hlt2 := block_lt_of_cell hs77
  have HR1 := Lib.hid hr1
  have HR2 := Lib.hid hr2
  have h20 : a.length ≤ c2 := by omega
  have HA := Lib.hid ha
  have HY := Lib.hid hy
  have HBW := Lib.hid hbw2
  obtain ⟨tN, htN⟩ : ∃ v, takeN a = v := ⟨_, rfl⟩
  obtain ⟨tK, htK⟩ : ∃ v, takeK a = v := ⟨_, rfl⟩
  obtain ⟨tE, htE⟩ : ∃ v, takeE a = v := ⟨_, rfl⟩
  have HQ1 := Lib.hid (Take_any (some ⟨b2, o2, none⟩) a c2 w2 hy h20 (by omega))
  have HQ2 : Hid (∀ w', Below w.heap.size w w' → _) := fun w' (h : Below w.heap.size w w') => refTake_any A a c w' (ha.grow h) (by omega)
  have HQ3 : Hid (∀ w', Below w2.heap.size w2 w' → _) := fun w' (h : Below w2.heap.size w2 w') => takeSigned_any (some ⟨b2, o2, none⟩) a c2 w' (hy.grow h) h20 (by omega)
  have HQ4 : Hid (∀ w', Below w.heap.size w w' → _) := fun w' (h : Below w.heap.size w w') => refTakeSigned_any A a c w' (ha.grow h) (by omega)
  rw [htN, htK, htE] at HQ1
  simp only [htN, htK, htE] at HQ2 HQ3 HQ4
  clear hr1 hr2 ha hy hbw2 htN htK htE
  go_enter Try.func9, Try.ntmps9
  go_wp2_with (first | (at_builtin; refine Lib.wpList_append_run _ rfl _ _ _ _ rfl _ _ rfl rfl _ _ HR1.out ?_) | (at_builtin; refine Lib.wpList_append_run _ rfl _ _ _ _ rfl _ _ rfl rfl _ _ HR2.out ?_))
  refine HQ1.out.mono ?_
  rintro e w3 ⟨rfl, hb3⟩
  have HB3 : Hid (Below w.heap.size w w3) := HBW.out.trans (hb3.mono HBW.out.size)
  have HB23 := Lib.hid hb3
  clear hb3 HR1 HR2 HQ1
  go_wp2_with fail
  refine (HQ2.out _ HB3.out).mono ?_
  rintro e w4 ⟨rfl, rfl⟩
  clear HQ2
  go_wp2_with fail
  refine (HQ3.out _ HB23.out).mono ?_
  rintro e w4 ⟨rfl, hb4⟩
  have HB4 : Hid (Below w.heap.size w w4) := HB3.out.trans (hb4.mono HB3.out.size)
  have HB24 : Hid (Below w2.heap.size w2 w4) := HB23.out.trans (hb4.mono HB23.out.size)
  clear hb4 HQ3
  go_wp2_with fail
  refine (HQ4.out _ HB4.out).mono ?_
  rintro e w5 ⟨rfl, rfl⟩
  clear HQ4
  have hk2 : (convert 25 9 (.slice (some ⟨b2, o2, none⟩) a.length c2)).run Try.prog w4 = .ok (.string (str a)) w4 := conv_any w4 _ _ _ _ (HY.out.grow HB24.out)
  have hk3 : (convert 25 9 (.slice A a.length c)).run Try.prog w4 = .ok (.string (str a)) w4 := conv_any w4 _ _ _ _ (HA.out.grow HB4.out)
  have hk4 : w4.cell? ⟨b2, o2 + a.length, none⟩ = some (.int .u8 77) := (HB24.out.cell (p := ⟨b2, o2 + a.length, none⟩) hlt2).trans hs77
  have hn1 : a.length < a.length + 1 := by omega
  have hn2 : a.length ≤ a.length + 1 := by omega
  have hn3 : (a.length : Int) + 1 ≤ c2 := by omega
  have hn4 : (0 : Int) ≤ a.length := by omega
  have hn5 : (0 : Int) ≤ (a.length : Int) + 1 := by omega
  have hn6 : (a.length : Int) < (a.length : Int) + 1 := by omega
  have hn7 : IntKind.i64.wrap ((a.length : Int) + 1) = (a.length : Int) + 1 := IntWalk.i64_in _ (by omega)
  clear hs77 hbys2 HB23 HB24 HB3
  go_wp2_with fail
  refine (num_any _ _).mono ?_
  rintro e w5 ⟨rfl, rfl⟩
  go_wp2_with fail
  refine (num_any _ _).mono ?_
  rintro e w5 ⟨rfl, rfl⟩
  go_wp2_with fail
  refine (works_any _).mono ?_
  rintro e w5 ⟨rfl, hb5⟩
  have hb6 := HB4.out.trans (hb5.mono HB4.out.size)
  clear hb5
  go_wp2_with fail
  go_ret
  exact ⟨rfl, hb6⟩

set_option maxRecDepth 100000 in
theorem takes_walk (A : Option Addr) (a : List Nat) (c : Nat) (w : World) (ha : Bys w w.heap.size A a) :
    Calls Try.prog 9 #[.slice A a.length c] w fun e w' => e = .returned (.bool true) ∧ Below w.heap.size w w' := by
  by_cases h : 200 < a.length
  · go_enter Try.func9, Try.ntmps9
    go_wp2_with fail
    refine (works_any w).mono ?_
    rintro e w1 ⟨rfl, hb1⟩
    go_wp2_with fail
    go_ret
    exact ⟨rfl, hb1⟩
  · exact takes_ok A a c w ha (by omega)
end Go.Proofs.Ytdoidfnfhidgdaa
