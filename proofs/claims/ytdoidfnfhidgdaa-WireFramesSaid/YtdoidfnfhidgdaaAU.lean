import Derived.Test.YtdoidfnfhidgdaaAR
import Derived.Test.YtdoidfnfhidgdaaAH
import Derived.Test.YtdoidfnfhidgdaaAE
namespace Go.Proofs.Ytdoidfnfhidgdaa
open Go.RowKit

def e77 : Ent := ⟨0, 0, 0, 77, 0, 0⟩

set_option maxRecDepth 100000 in
set_option maxHeartbeats 4000000 in
theorem frames_ok (A : Option Addr) (l : List Ent) (c : Nat) (w : World) (ha : Ents w w.heap.size A l) (hm : l.length ≤ 100) (hall : ∀ e ∈ l, Right e) :
    Calls Try.prog 4 #[.slice A l.length c] w fun e w' => e = .returned (.bool true) ∧ Below w.heap.size w w' := by
  obtain ⟨v1, w1, b2, o2, c2, w2, hr1, hr2, hc2, hen2, hge, hbw2⟩ := spareE_run w A l e77 c ha (by omega)
  have hy := hen2.take l.length
  rw [List.take_left' rfl] at hy
  have hat : EntAt w2 b2 o2 l.length e77 := by
    obtain ⟨b', o', e, _, hcell⟩ := hen2 (by simp)
    cases e
    exact hcell l.length e77 (by simp)
  have hs77 : w2.cell? ⟨b2, o2 + l.length * 6 + 3, none⟩ = some (.int .i64 77) := hat.c3
  have hlt2 := block_lt_of_cell hs77
  have HR1 := Lib.hid hr1
  have HR2 := Lib.hid hr2
  have h20 : l.length ≤ c2 := by omega
  have HA := Lib.hid ha
  have HY := Lib.hid hy
  have HBW := Lib.hid hbw2
  have HRT := Lib.hid (Right_any)
  have HAL := Lib.hid hall
  unfold entV at HRT
  have hq : Calls Try.prog 20 #[.slice (some ⟨b2, o2, none⟩) l.length c2] w2 fun x w' => ∃ v, x = .returned (.tuple #[v, .int .i64 0]) ∧ Own w' w2.heap.size v (l.flatMap frameE) ∧ Below w2.heap.size w2 w' := by
    refine (Frames_any (some ⟨b2, o2, none⟩) l c2 w2 hy (by omega)).mono ?_
    rintro x w' ⟨⟨_, v, hx, ho⟩ | ⟨hn, _⟩, hb⟩
    · exact ⟨v, hx, ho, hb⟩
    · exact absurd hall hn
  have HQ := Lib.hid hq
  have HRF : Hid (∀ w', Below w.heap.size w w' → _) := fun w' (h : Below w.heap.size w w') => refFrames_any' (fun e he w => refFrame_any e he w) A l c w' (ha.grow h) hall (by omega)
  have HSM : Hid (∀ w', Below w2.heap.size w2 w' → _) := fun w' (h : Below w2.heap.size w2 w') => Same_any (some ⟨b2, o2, none⟩) A l l c2 c w' (hy.grow h) (ha.grow (hbw2.trans (h.mono hbw2.size))) (by omega) (by omega)
  simp only [decide_true] at HSM
  obtain ⟨F, hF⟩ : ∃ F, l.flatMap frameE = F := ⟨_, rfl⟩
  rw [hF] at HQ
  simp only [hF] at HRF
  have h100 : ¬ ((100 : Int) < (l.length : Int)) := by omega
  clear hr1 hr2 ha hy hbw2 hat hen2 hq hF hall
  have HX : Hid (e77 = e77 ∧ entC e77 = #[.int .i64 0, .int .i64 0, .int .i64 0, .int .i64 77, .int .i64 0, .int .i64 0]) := ⟨rfl, rfl⟩
  rw [HX.out.2] at HR2
  go_enter Try.func4, Try.ntmps4
  go_wp2_with (first | (at_builtin; refine Lib.wpList_append_run _ rfl _ _ _ _ rfl _ _ rfl rfl _ _ HR1.out ?_) | (at_builtin; refine Lib.wpList_append_run _ rfl _ _ _ _ rfl _ _ rfl rfl _ _ HR2.out ?_))
  refine HQ.out.mono ?_
  rintro e w3 ⟨v3, rfl, ho3, hb3⟩
  obtain ⟨FL, hFL⟩ : ∃ N, F.length = N := ⟨_, rfl⟩
  obtain ⟨A3, c3, rfl, _, hy3⟩ := ho3.formN hFL
  have HB3 : Hid (Below w.heap.size w w3) := HBW.out.trans (hb3.mono HBW.out.size)
  have HB23 := Lib.hid hb3
  have HY3 := Lib.hid hy3
  have HFL := Lib.hid hFL
  clear hb3 HR1 HR2 HQ ho3 hy3 hFL
  go_wp2_with fail
  go_loopw [6] (fun i wr => ∃ k : Nat, k ≤ l.length ∧ i = .int .i64 k ∧ Below w3.heap.size w3 wr) (fun i _ => l.length - (intOf i).toNat)
  case atStart => exact ⟨0, Nat.zero_le _, rfl, Below.refl _ _⟩
  case round =>
    obtain ⟨k, hk, rfl, hbl⟩ := hrel
    have HBX : Hid (Below w.heap.size w wr) := HB3.out.trans (hbl.mono HB3.out.size)
    by_cases hlt : k < l.length
    · obtain ⟨b, off, rfl, hbB, he⟩ := (HA.out.grow HBX.out).at_ hlt
      obtain ⟨c0, c1, c2, c3, c4, c5⟩ := he
      obtain ⟨e, hee⟩ : ∃ e, l[k] = e := ⟨_, rfl⟩
      have hRe : Right e := by rw [← hee]; exact HAL.out _ (List.getElem_mem hlt)
      rw [hee] at c0 c1 c2 c3 c4 c5
      have hrt := HRT.out e wr
      rw [decide_eq_true hRe] at hrt
      have HRT2 := Lib.hid hrt
      have HBL := Lib.hid hbl
      clear hrt hbl hRe hee HRT
      go_wp2_with fail
      refine HRT2.out.mono ?_
      rintro x w5 ⟨rfl, hb5⟩
      have HB5 : Hid (Below w3.heap.size w3 w5) := HBL.out.trans (hb5.mono HBL.out.size)
      clear hb5
      go_wp2_with fail
      go_roundw
      case rel => exact ⟨k + 1, by omega, by go_num, HB5.out⟩
      case measure => simp [intOf]; omega
    · obtain rfl : k = l.length := by omega
      have HBL := Lib.hid hbl
      have HBX2 : Hid (Below w2.heap.size w2 wr) := HB23.out.trans (hbl.mono HB23.out.size)
      have HYR := Lib.hid (HY3.out.grow hbl)
      have hcv : ∀ w', Below wr.heap.size wr w' → (convert 25 9 (.slice A3 FL c3)).run Try.prog w' = .ok (.string (str F)) w' := fun w' h => by
        have := conv_any w' _ A3 F c3 (HYR.out.grow h)
        rwa [HFL.out] at this
      have hlr2 : b2 < wr.heap.size := by have := HBX2.out.size; omega
      have hk4 : ∀ w', Below wr.heap.size wr w' → w'.cell? ⟨b2, o2 + l.length * 6 + 3, none⟩ = some (.int .i64 77) := fun w' h =>
        (h.cell (p := ⟨b2, o2 + l.length * 6 + 3, none⟩) hlr2).trans ((HBX2.out.cell (p := ⟨b2, o2 + l.length * 6 + 3, none⟩) hlt2).trans hs77)
      have hn1 : l.length < l.length + 1 := by omega
      have hn2 : l.length ≤ l.length + 1 := by omega
      have hn3 : (l.length : Int) + 1 ≤ c2 := by omega
      have hn4 : (0 : Int) ≤ l.length := by omega
      have hn5 : (0 : Int) ≤ (l.length : Int) + 1 := by omega
      have hn6 : (l.length : Int) < (l.length : Int) + 1 := by omega
      have hn7 : IntKind.i64.wrap ((l.length : Int) + 1) = (l.length : Int) + 1 := IntWalk.i64_in _ (by omega)
      clear hs77 HB23 HB3 hbl HRT
      go_wp2_with fail
      refine wp_region_noPanic ?_
      refine wp_region_held_drew (S := fun w' => Below wr.heap.size wr w') (by kernel_rfl) (below_drew (Below.refl _ _)) (fun hHeld => ?_)
      refine takeH (i := 0) (v := ?_) rfl (by kernel_rfl) (by kernel_rfl) (by kernel_rfl) (fun _ _ _ h => h) (Or.inl ⟨by rfl, ?_⟩) (by assumption) ?_
      rotate_left
      · first | (intro w hSw; (try dsimp only at hSw); go_simp; done) | (intro w hSw; (try dsimp only at hSw); go_simp; with_reducible rfl)
      try simp only [Act.put, List.setIfInBounds_toArray, List.set_cons_zero, List.set_cons_succ]
      refine takeH (i := 1) (v := ?_) rfl (by kernel_rfl) (by kernel_rfl) (by kernel_rfl) (fun _ _ _ h => h) (Or.inl ⟨by rfl, ?_⟩) (by assumption) ?_
      rotate_left
      · first | (intro w hSw; (try dsimp only at hSw); go_simp; done) | (intro w hSw; (try dsimp only at hSw); go_simp; with_reducible rfl)
      try simp only [Act.put, List.setIfInBounds_toArray, List.set_cons_zero, List.set_cons_succ]
      refine takeH (i := 2) (v := ?_) rfl (by kernel_rfl) (by kernel_rfl) (by kernel_rfl) (fun _ _ _ h => h) (Or.inl ⟨by rfl, ?_⟩) (by assumption) ?_
      rotate_left
      · first | (intro w hSw; (try dsimp only at hSw); go_simp; done) | (intro w hSw; (try dsimp only at hSw); go_simp; with_reducible rfl)
      try simp only [Act.put, List.setIfInBounds_toArray, List.set_cons_zero, List.set_cons_succ]
      obtain ⟨WD, hWD⟩ : ∃ WD, wr.drew = WD := ⟨_, rfl⟩
      rw [hWD] at hHeld ⊢
      clear hWD
      refine wpAnyH_ready (rs := [3]) (by kernel_rfl) (by simp) ?_
      refine consH (i := 3) rfl (fun K hK => ?_) AllReadyH.nil
      go_simp
      refine (HRF.out WD (HBX.out.trans (hHeld.mono HBX.out.size))).mono ?_
      rintro x w4 ⟨v4, rfl, ho4, hb4⟩
      have hH4 : Below wr.heap.size wr w4 := hHeld.trans (hb4.mono hHeld.size)
      obtain ⟨A4, c4, rfl, _, hy4⟩ := ho4.formN HFL.out
      have hcv4 : ∀ w', Below w4.heap.size w4 w' → (convert 25 9 (.slice A4 FL c4)).run Try.prog w' = .ok (.string (str F)) w' := fun w' h => by
        have := conv_any w' _ A4 F c4 (hy4.grow h)
        rwa [HFL.out] at this
      have hcv4' := hcv4 w4 (Below.refl _ _)
      clear ho4 hb4 hy4
      refine hK.out _ _ hH4 (fun hHeld4 => ?_)
      clear hK K
      try simp only [Act.put, List.setIfInBounds_toArray, List.set_cons_zero, List.set_cons_succ]
      refine wpAnyH_ready (rs := [4]) (by kernel_rfl) (by simp) ?_
      refine consH (i := 4) rfl (fun K hK => ?_) AllReadyH.nil
      go_simp
      skip
      refine hK.out _ _ (hH4) (fun hHeld5 => ?_)
      clear hK K
      try simp only [Act.put, List.setIfInBounds_toArray, List.set_cons_zero, List.set_cons_succ]
      refine takeH (i := 5) (v := ?_) rfl (by kernel_rfl) (by kernel_rfl) (by kernel_rfl) (fun _ _ _ h => h) (Or.inl ⟨by rfl, ?_⟩) (by assumption) ?_
      rotate_left
      · first | (intro w hSw; (try dsimp only at hSw); go_simp; done) | (intro w hSw; (try dsimp only at hSw); go_simp; with_reducible rfl)
      try simp only [Act.put, List.setIfInBounds_toArray, List.set_cons_zero, List.set_cons_succ]
      refine takeH (i := 6) (v := ?_) rfl (by kernel_rfl) (by kernel_rfl) (by kernel_rfl) (fun _ _ _ h => h) (Or.inl ⟨by rfl, ?_⟩) (by assumption) ?_
      rotate_left
      · first | (intro w hSw; (try dsimp only at hSw); go_simp; done) | (intro w hSw; (try dsimp only at hSw); go_simp; with_reducible rfl)
      try simp only [Act.put, List.setIfInBounds_toArray, List.set_cons_zero, List.set_cons_succ]
      refine takeH (i := 7) (v := ?_) rfl (by kernel_rfl) (by kernel_rfl) (by kernel_rfl) (fun _ _ _ h => h) (Or.inl ⟨by rfl, ?_⟩) (by assumption) ?_
      rotate_left
      · first | (intro w hSw; (try dsimp only at hSw); go_simp; done) | (intro w hSw; (try dsimp only at hSw); go_simp; with_reducible rfl)
      try simp only [Act.put, List.setIfInBounds_toArray, List.set_cons_zero, List.set_cons_succ]
      refine wpAnyH_ready (rs := [8]) (by kernel_rfl) (by simp) ?_
      refine consH (i := 8) rfl (fun K hK => ?_) AllReadyH.nil
      go_simp
      refine (num_any _ _).mono ?_
      rintro x wn ⟨rfl, hwn⟩
      subst hwn
      refine hK.out _ _ (by assumption) (fun hHeld6 => ?_)
      clear hK K
      try simp only [Act.put, List.setIfInBounds_toArray, List.set_cons_zero, List.set_cons_succ]
      refine takeH (i := 9) (v := ?_) rfl (by kernel_rfl) (by kernel_rfl) (by kernel_rfl) (fun _ _ _ h => h) (Or.inl ⟨by rfl, ?_⟩) (by assumption) ?_
      rotate_left
      · first | (intro w hSw; (try dsimp only at hSw); go_simp; done) | (intro w hSw; (try dsimp only at hSw); go_simp; with_reducible rfl)
      try simp only [Act.put, List.setIfInBounds_toArray, List.set_cons_zero, List.set_cons_succ]
      refine takeH (i := 10) (v := ?_) rfl (by kernel_rfl) (by kernel_rfl) (by kernel_rfl) (fun _ _ _ h => h) (Or.inl ⟨by rfl, ?_⟩) (by assumption) ?_
      rotate_left
      · first | (intro w hSw; (try dsimp only at hSw); go_simp; done) | (intro w hSw; (try dsimp only at hSw); go_simp; with_reducible rfl)
      try simp only [Act.put, List.setIfInBounds_toArray, List.set_cons_zero, List.set_cons_succ]
      refine takeH (i := 11) (v := ?_) rfl (by kernel_rfl) (by kernel_rfl) (by kernel_rfl) (fun _ _ _ h => h) (Or.inl ⟨by rfl, ?_⟩) (by assumption) ?_
      rotate_left
      · first | (intro w hSw; (try dsimp only at hSw); go_simp; done) | (intro w hSw; (try dsimp only at hSw); go_simp; with_reducible rfl)
      try simp only [Act.put, List.setIfInBounds_toArray, List.set_cons_zero, List.set_cons_succ]
      refine takeH (i := 12) (v := ?_) rfl (by kernel_rfl) (by kernel_rfl) (by kernel_rfl) (fun _ _ _ h => h) (Or.inl ⟨by rfl, ?_⟩) (by assumption) ?_
      rotate_left
      · first | (intro w hSw; (try dsimp only at hSw); go_simp; done) | (intro w hSw; (try dsimp only at hSw); go_simp; with_reducible rfl)
      try simp only [Act.put, List.setIfInBounds_toArray, List.set_cons_zero, List.set_cons_succ]
      refine takeH (i := 13) (v := ?_) rfl (by kernel_rfl) (by kernel_rfl) (by kernel_rfl) (fun _ _ _ h => h) (Or.inl ⟨by rfl, ?_⟩) (by assumption) ?_
      rotate_left
      · first | (intro w hSw; (try dsimp only at hSw); go_simp; done) | (intro w hSw; (try dsimp only at hSw); go_simp; with_reducible rfl)
      try simp only [Act.put, List.setIfInBounds_toArray, List.set_cons_zero, List.set_cons_succ]
      refine wpAnyH_ready (rs := [14]) (by kernel_rfl) (by simp) ?_
      refine consH (i := 14) rfl (fun K hK => ?_) AllReadyH.nil
      go_simp
      refine (HSM.out _ (HBX2.out.trans ((show Below wr.heap.size wr _ from hHeld6).mono HBX2.out.size))).mono ?_
      rintro x w5 ⟨rfl, hb5⟩
      have hH5 : Below wr.heap.size wr w5 := hHeld6.trans (hb5.mono hHeld6.size)
      clear hb5
      refine hK.out _ _ (hH5) (fun hHeld7 => ?_)
      clear hK K
      try simp only [Act.put, List.setIfInBounds_toArray, List.set_cons_zero, List.set_cons_succ]
      refine takeH (i := 15) (v := ?_) rfl (by kernel_rfl) (by kernel_rfl) (by kernel_rfl) (fun _ _ _ h => h) (Or.inl ⟨by rfl, ?_⟩) (by assumption) ?_
      rotate_left
      · first | (intro w hSw; (try dsimp only at hSw); go_simp; done) | (intro w hSw; (try dsimp only at hSw); go_simp; with_reducible rfl)
      try simp only [Act.put, List.setIfInBounds_toArray, List.set_cons_zero, List.set_cons_succ]
      refine takeH (i := 16) (v := ?_) rfl (by kernel_rfl) (by kernel_rfl) (by kernel_rfl) (fun _ _ _ h => h) (Or.inl ⟨by rfl, ?_⟩) (by assumption) ?_
      rotate_left
      · first | (intro w hSw; (try dsimp only at hSw); go_simp; done) | (intro w hSw; (try dsimp only at hSw); go_simp; with_reducible rfl)
      try simp only [Act.put, List.setIfInBounds_toArray, List.set_cons_zero, List.set_cons_succ]
      refine takeH (i := 17) (v := ?_) rfl (by kernel_rfl) (by kernel_rfl) (by kernel_rfl) (fun _ _ _ h => h) (Or.inl ⟨by rfl, ?_⟩) (by assumption) ?_
      rotate_left
      · first | (intro w hSw; (try dsimp only at hSw); go_simp; done) | (intro w hSw; (try dsimp only at hSw); go_simp; with_reducible rfl)
      try simp only [Act.put, List.setIfInBounds_toArray, List.set_cons_zero, List.set_cons_succ]
      refine takeH (i := 18) (v := ?_) rfl (by kernel_rfl) (by kernel_rfl) (by kernel_rfl) (fun _ _ _ h => h) (Or.inl ⟨by rfl, ?_⟩) (by assumption) ?_
      rotate_left
      · first | (intro w hSw; (try dsimp only at hSw); go_simp; done) | (intro w hSw; (try dsimp only at hSw); go_simp; with_reducible rfl)
      try simp only [Act.put, List.setIfInBounds_toArray, List.set_cons_zero, List.set_cons_succ]
      refine takeH (i := 19) (v := ?_) rfl (by kernel_rfl) (by kernel_rfl) (by kernel_rfl) (fun _ _ _ h => h) (Or.inl ⟨by rfl, ?_⟩) (by assumption) ?_
      rotate_left
      · first | (intro w hSw; (try dsimp only at hSw); go_simp; done) | (intro w hSw; (try dsimp only at hSw); go_simp; with_reducible rfl)
      try simp only [Act.put, List.setIfInBounds_toArray, List.set_cons_zero, List.set_cons_succ]
      refine takeH (i := 20) (v := ?_) rfl (by kernel_rfl) (by kernel_rfl) (by kernel_rfl) (fun _ _ _ h => h) (Or.inl ⟨by rfl, ?_⟩) (by assumption) ?_
      rotate_left
      · first | (intro w hSw; (try dsimp only at hSw); go_simp; done) | (intro w hSw; (try dsimp only at hSw); go_simp; with_reducible rfl)
      try simp only [Act.put, List.setIfInBounds_toArray, List.set_cons_zero, List.set_cons_succ]
      refine takeH (i := 21) (v := ?_) rfl (by kernel_rfl) (by kernel_rfl) (by kernel_rfl) (fun _ _ _ h => h) (Or.inl ⟨by rfl, ?_⟩) (by assumption) ?_
      rotate_left
      · first | (intro w hSw; (try dsimp only at hSw); go_simp; done) | (intro w hSw; (try dsimp only at hSw); go_simp; with_reducible rfl)
      try simp only [Act.put, List.setIfInBounds_toArray, List.set_cons_zero, List.set_cons_succ]
      refine takeH (i := 22) (v := ?_) rfl (by kernel_rfl) (by kernel_rfl) (by kernel_rfl) (fun _ _ _ h => h) (Or.inl ⟨by rfl, ?_⟩) (by assumption) ?_
      rotate_left
      · first | (intro w hSw; (try dsimp only at hSw); go_simp; done) | (intro w hSw; (try dsimp only at hSw); go_simp; with_reducible rfl)
      try simp only [Act.put, List.setIfInBounds_toArray, List.set_cons_zero, List.set_cons_succ]
      refine takeH (i := 23) (v := ?_) rfl (by kernel_rfl) (by kernel_rfl) (by kernel_rfl) (fun _ _ _ h => h) (Or.inl ⟨by rfl, ?_⟩) (by assumption) ?_
      rotate_left
      · first | (intro w hSw; (try dsimp only at hSw); go_simp; done) | (intro w hSw; (try dsimp only at hSw); go_simp; with_reducible rfl)
      try simp only [Act.put, List.setIfInBounds_toArray, List.set_cons_zero, List.set_cons_succ]
      refine takeH (i := 24) (v := ?_) rfl (by kernel_rfl) (by kernel_rfl) (by kernel_rfl) (fun _ _ _ h => h) (Or.inl ⟨by rfl, ?_⟩) (by assumption) ?_
      rotate_left
      · first | (intro w hSw; (try dsimp only at hSw); go_simp; done) | (intro w hSw; (try dsimp only at hSw); go_simp; with_reducible rfl)
      try simp only [Act.put, List.setIfInBounds_toArray, List.set_cons_zero, List.set_cons_succ]
      refine takeH (i := 25) (v := ?_) rfl (by kernel_rfl) (by kernel_rfl) (by kernel_rfl) (fun _ _ _ h => h) (Or.inl ⟨by rfl, ?_⟩) (by assumption) ?_
      rotate_left
      · first | (intro w hSw; (try dsimp only at hSw); go_simp; done) | (intro w hSw; (try dsimp only at hSw); go_simp; with_reducible rfl)
      try simp only [Act.put, List.setIfInBounds_toArray, List.set_cons_zero, List.set_cons_succ]
      refine takeH (i := 26) (v := ?_) rfl (by kernel_rfl) (by kernel_rfl) (by kernel_rfl) (fun _ _ _ h => h) (Or.inl ⟨by rfl, ?_⟩) (by assumption) ?_
      rotate_left
      · first | (intro w hSw; (try dsimp only at hSw); go_simp; done) | (intro w hSw; (try dsimp only at hSw); go_simp; with_reducible rfl)
      try simp only [Act.put, List.setIfInBounds_toArray, List.set_cons_zero, List.set_cons_succ]
      refine takeH (i := 27) (v := ?_) rfl (by kernel_rfl) (by kernel_rfl) (by kernel_rfl) (fun _ _ _ h => h) (Or.inl ⟨by rfl, ?_⟩) (by assumption) ?_
      rotate_left
      · first | (intro w hSw; (try dsimp only at hSw); go_simp; done) | (intro w hSw; (try dsimp only at hSw); go_simp; with_reducible rfl)
      try simp only [Act.put, List.setIfInBounds_toArray, List.set_cons_zero, List.set_cons_succ]
      refine takeH (i := 28) (v := ?_) rfl (by kernel_rfl) (by kernel_rfl) (by kernel_rfl) (fun _ _ _ h => h) (Or.inl ⟨by rfl, ?_⟩) (by assumption) ?_
      rotate_left
      · first | (intro w hSw; (try dsimp only at hSw); go_simp; done) | (intro w hSw; (try dsimp only at hSw); go_simp; with_reducible rfl)
      try simp only [Act.put, List.setIfInBounds_toArray, List.set_cons_zero, List.set_cons_succ]
      refine takeH (i := 29) (v := ?_) rfl (by kernel_rfl) (by kernel_rfl) (by kernel_rfl) (fun _ _ _ h => h) (Or.inl ⟨by rfl, ?_⟩) (by assumption) ?_
      rotate_left
      · first | (intro w hSw; (try dsimp only at hSw); go_simp; done) | (intro w hSw; (try dsimp only at hSw); go_simp; with_reducible rfl)
      try simp only [Act.put, List.setIfInBounds_toArray, List.set_cons_zero, List.set_cons_succ]
      refine wpAnyH_ready (rs := [30]) (by kernel_rfl) (by simp) ?_
      refine consH (i := 30) rfl (fun K hK => ?_) AllReadyH.nil
      go_simp
      refine (works_any _).mono ?_
      rintro x w6 ⟨rfl, hb6⟩
      have hH6 : Below wr.heap.size wr w6 := hHeld7.trans (hb6.mono hHeld7.size)
      clear hb6
      refine hK.out _ _ (hH6) (fun hHeld8 => ?_)
      clear hK K
      try simp only [Act.put, List.setIfInBounds_toArray, List.set_cons_zero, List.set_cons_succ]
      refine takeH (i := 31) (v := ?_) rfl (by kernel_rfl) (by kernel_rfl) (by kernel_rfl) (fun _ _ _ h => h) (Or.inl ⟨by rfl, ?_⟩) (by assumption) ?_
      rotate_left
      · first | (intro w hSw; (try dsimp only at hSw); go_simp; done) | (intro w hSw; (try dsimp only at hSw); go_simp; with_reducible rfl)
      try simp only [Act.put, List.setIfInBounds_toArray, List.set_cons_zero, List.set_cons_succ]
      refine takeH (i := 32) (v := ?_) rfl (by kernel_rfl) (by kernel_rfl) (by kernel_rfl) (fun _ _ _ h => h) (Or.inl ⟨by rfl, ?_⟩) (by assumption) ?_
      rotate_left
      · first | (intro w hSw; (try dsimp only at hSw); go_simp; done) | (intro w hSw; (try dsimp only at hSw); go_simp; with_reducible rfl)
      try simp only [Act.put, List.setIfInBounds_toArray, List.set_cons_zero, List.set_cons_succ]
      refine wpAnyH_done (by kernel_rfl) ?_ _
      refine NoPanic.normal ?_
      have HBE := Lib.hid (HBX.out.trans ((show Below wr.heap.size wr _ from hHeld8).mono HBX.out.size))
      clear hHeld hHeld4 hHeld5 hHeld6 hHeld7 hHeld8 hcv hk4
      go_wp2_with fail
      go_ret
      exact ⟨rfl, HBE.out⟩

set_option maxRecDepth 100000 in
set_option maxHeartbeats 4000000 in
theorem frames_no (A : Option Addr) (l : List Ent) (c : Nat) (w : World) (ha : Ents w w.heap.size A l) (hm : l.length ≤ 100) (hno : ¬ ∀ e ∈ l, Right e) :
    Calls Try.prog 4 #[.slice A l.length c] w fun e w' => e = .returned (.bool true) ∧ Below w.heap.size w w' := by
  obtain ⟨v1, w1, b2, o2, c2, w2, hr1, hr2, hc2, hen2, hge, hbw2⟩ := spareE_run w A l e77 c ha (by omega)
  have hy := hen2.take l.length
  rw [List.take_left' rfl] at hy
  have HR1 := Lib.hid hr1
  have HR2 := Lib.hid hr2
  have h20 : l.length ≤ c2 := by omega
  have HA := Lib.hid ha
  have HBW := Lib.hid hbw2
  have HRT := Lib.hid (Right_any)
  have HNO := Lib.hid hno
  unfold entV at HRT
  have hq : Calls Try.prog 20 #[.slice (some ⟨b2, o2, none⟩) l.length c2] w2 fun x w' => x = .returned (.tuple #[.slice none 0 0, .int .i64 2]) ∧ Below w2.heap.size w2 w' := by
    refine (Frames_any (some ⟨b2, o2, none⟩) l c2 w2 hy (by omega)).mono ?_
    rintro x w' ⟨⟨hn, _⟩ | ⟨_, hx⟩, hb⟩
    · exact absurd hn hno
    · exact ⟨hx, hb⟩
  have HQ := Lib.hid hq
  have h100 : ¬ ((100 : Int) < (l.length : Int)) := by omega
  clear hr1 hr2 ha hy hbw2 hen2 hq hno
  have HX : Hid (e77 = e77 ∧ entC e77 = #[.int .i64 0, .int .i64 0, .int .i64 0, .int .i64 77, .int .i64 0, .int .i64 0]) := ⟨rfl, rfl⟩
  rw [HX.out.2] at HR2
  go_enter Try.func4, Try.ntmps4
  go_wp2_with (first | (at_builtin; refine Lib.wpList_append_run _ rfl _ _ _ _ rfl _ _ rfl rfl _ _ HR1.out ?_) | (at_builtin; refine Lib.wpList_append_run _ rfl _ _ _ _ rfl _ _ rfl rfl _ _ HR2.out ?_))
  refine HQ.out.mono ?_
  rintro e w3 ⟨rfl, hb3⟩
  have HB3 : Hid (Below w.heap.size w w3) := HBW.out.trans (hb3.mono HBW.out.size)
  clear hb3 HR1 HR2 HQ
  go_wp2_with fail
  go_loopw [6] (fun i wr => ∃ k : Nat, k ≤ l.length ∧ i = .int .i64 k ∧ Hid (∀ e ∈ l.take k, Right e) ∧ Below w3.heap.size w3 wr) (fun i _ => l.length - (intOf i).toNat)
  case atStart => exact ⟨0, Nat.zero_le _, rfl, Lib.hid (by simp), Below.refl _ _⟩
  case round =>
    obtain ⟨k, hk, rfl, HPK, hbl⟩ := hrel
    have HBX : Hid (Below w.heap.size w wr) := HB3.out.trans (hbl.mono HB3.out.size)
    by_cases hlt : k < l.length
    · obtain ⟨b, off, rfl, hbB, he⟩ := (HA.out.grow HBX.out).at_ hlt
      obtain ⟨c0, c1, c2, c3, c4, c5⟩ := he
      obtain ⟨e, hee⟩ : ∃ e, l[k] = e := ⟨_, rfl⟩
      have HNX : Hid (Right e → ∀ x ∈ l.take (k + 1), Right x) := by
        intro hR x hx
        rw [List.take_succ_eq_append_getElem hlt, hee] at hx
        rcases List.mem_append.1 hx with h | h
        · exact HPK.out x h
        · rw [List.mem_singleton.1 h]; exact hR
      rw [hee] at c0 c1 c2 c3 c4 c5
      have hrt := HRT.out e wr
      have HBL := Lib.hid hbl
      by_cases hRe : Right e
      · rw [decide_eq_true hRe] at hrt
        have HRT2 := Lib.hid hrt
        have HRE := Lib.hid hRe
        clear hrt hbl hRe hee HRT
        go_wp2_with fail
        refine HRT2.out.mono ?_
        rintro x w5 ⟨rfl, hb5⟩
        have HB5 : Hid (Below w3.heap.size w3 w5) := HBL.out.trans (hb5.mono HBL.out.size)
        clear hb5
        go_wp2_with fail
        go_roundw
        case rel => exact ⟨k + 1, by omega, by go_num, Lib.hid (HNX.out HRE.out), HB5.out⟩
        case measure => simp [intOf]; omega
      · rw [decide_eq_false hRe] at hrt
        have HRT2 := Lib.hid hrt
        clear hrt hbl hRe hee HRT
        go_wp2_with fail
        refine HRT2.out.mono ?_
        rintro x w5 ⟨rfl, hb5⟩
        have HB5 : Hid (Below w.heap.size w w5) := HBX.out.trans (hb5.mono HBX.out.size)
        clear hb5
        go_wp2_with fail
        refine (num_any _ _).mono ?_
        rintro x wn ⟨rfl, hwn⟩
        subst hwn
        go_wp2_with fail
        refine (works_any _).mono ?_
        rintro x w6 ⟨rfl, hb6⟩
        have HB6 : Hid (Below w.heap.size w w6) := HB5.out.trans (hb6.mono HB5.out.size)
        clear hb6
        go_wp2_with fail
        go_ret
        exact ⟨rfl, HB6.out⟩
    · obtain rfl : k = l.length := by omega
      exact absurd (by have := HPK.out; rwa [List.take_length] at this) HNO.out

theorem frames_walk (A : Option Addr) (l : List Ent) (c : Nat) (w : World) (ha : Ents w w.heap.size A l) :
    Calls Try.prog 4 #[.slice A l.length c] w fun e w' => e = .returned (.bool true) ∧ Below w.heap.size w w' := by
  by_cases h : 100 < l.length
  · have hi : (100 : Int) < (l.length : Int) := by omega
    go_enter Try.func4, Try.ntmps4
    go_wp2_with fail
    refine (works_any w).mono ?_
    rintro e w1 ⟨rfl, hb1⟩
    go_wp2_with fail
    go_ret
    exact ⟨rfl, hb1⟩
  · by_cases hall : ∀ e ∈ l, Right e
    · exact frames_ok A l c w ha (by omega) hall
    · exact frames_no A l c w ha (by omega) hall
end Go.Proofs.Ytdoidfnfhidgdaa
