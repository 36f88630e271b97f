import Derived.Test.YtdoidfnfhidgdaaAM
namespace Go.Proofs.Ytdoidfnfhidgdaa
open Go.RowKit

set_option maxRecDepth 100000 in
set_option maxHeartbeats 8000000 in
theorem entry_11 (y0 : Nat) (r0 : List Nat) (hsv : ∀ m y t, tk 121 0 0 r0 = .ok (m, y :: t) → y ≠ 0) (hsk : y0 = 1) (bb off : Nat) (c n : Nat) (w : World) (hn : n = r0.length + 1) (hb : Bys w w.heap.size (some ⟨bb, off, none⟩) (y0 :: r0)) (hc : n ≤ c) (hm : n ≤ 255) :
    Calls Try.prog 48 #[.slice (some ⟨bb, off, none⟩) n c] w (EntR w (rdB (y0 :: r0))) := by
  have hS := St.start hb ⟨0, 0, 0, 0, y0, 0⟩
  obtain ⟨W, hW⟩ : ∃ W, (w.alloc (.cells (entC zeroE) 24)).alloc (.cells (entC ⟨0, 0, 0, 0, y0, 0⟩) 24) = W := ⟨_, rfl⟩
  rw [hW] at hS
  have HS := Lib.hid hS
  have hW' : (w.alloc (.cells #[.int .i64 0, .int .i64 0, .int .i64 0, .int .i64 0, .int .i64 0, .int .i64 0] 24)).alloc (.cells #[.int .i64 0, .int .i64 0, .int .i64 0, .int .i64 0, .int .i64 (y0 : Int), .int .i64 0] 24) = W := hW
  have HW := Lib.hid hW'
  have hlt : bb < w.heap.size := by
    obtain ⟨b', o', e', h, _⟩ := hb.2 (by simp)
    cases e'
    exact h
  have hy0 : w.cell? ⟨bb, off, none⟩ = some (.int .u8 y0) := by
    obtain ⟨b', o', e', _, hcell⟩ := hb.2 (by simp)
    cases e'
    exact hcell 0 y0 rfl
  have hy0b : y0 < 256 := hb.1 y0 (by simp)
  have hn1 : 1 ≤ n := by omega
  have hn1i : (1 : Int) ≤ (n : Int) := by omega
  have hci : (n : Int) ≤ (c : Int) := by omega
  have h1 : Hid (rdN (y0 :: r0) 1 = .ok (⟨0, 0, 0, 0, y0, 0⟩, r0)) := by rfl
  have HT := Lib.hid (tk_cases r0)
  have HN := Lib.hid hn
  clear hS hW hW' hb
  have HV := Lib.hid hsv
  have HKK := Lib.hid hsk
  clear hsv hsk
  by_cases hck : c = 1
  · obtain rfl : r0 = [] := List.eq_nil_of_length_eq_zero (by omega)
    have h2 : Hid (rdN (y0 :: []) 2 = .error 121) := by show _ = _; rw [rdN_e h1.out rfl]; rfl
    have hQ := refTake_any (some ⟨bb, off, none⟩) [] 0 W ⟨by simp, fun h => absurd rfl h⟩ (by simp)
    have HQ := Lib.hid hQ
    subst hck
    obtain rfl : n = 1 := by omega
    clear hQ hn
    have hEE : takeE [] = 120 := rfl
    have HS1 := HS.out
    rw [hEE] at HQ
    go_enter Try.func48, Try.ntmps48
    go_wp2_with fail
    rw [HW.out]
    refine HQ.out.mono ?_
    rintro x w2 ⟨rfl, rfl⟩
    obtain ⟨ez, hez⟩ := HS1.r0
    have HR0 := Lib.hid hez
    have HR1 := Lib.hid HS1.r1
    have HBF := Lib.hid HS1.b
    go_wp2_with (first | (refine wpList_load_row rfl 24 _ rfl (w.heap.size + 1) rfl 24 (entC (⟨0, 0, 0, 0, y0, 0⟩ : Ent)) (0, 0) _ HR1.out Try.underlying24 rfl ent_size ?_) | (refine wpList_store_row rfl 24 _ _ rfl w.heap.size (entC (⟨0, 0, 0, 0, y0, 0⟩ : Ent)) rfl rfl 24 (entC ez) HR0.out ent_size rfl (by kernel_rfl) ?_))
    try simp only [Exit.inBlock, Exit.then]
    refine bodyPost_ret_by (ret_cell_tmp rfl _ _ w.heap.size (⟨0, 0, 0, 0, y0, 0⟩ : Ent) (setRow_same HR0.out) rfl) rfl ?_
    refine ⟨⟨(⟨0, 0, 0, 0, y0, 0⟩ : Ent), false, rfl, ?_⟩, HBF.out.trans ⟨rfl, rfl, rfl, by simp, fun k hk => setRow_far _ _ _ _ (by omega)⟩⟩
    rw [rdB_up h2.out (by omega)]
  · go_enter Try.func48, Try.ntmps48
    go_wp2_with fail
    rw [HW.out]
    refine (refTake_any (some ⟨bb, off + 1, none⟩) r0 (c - 1) W (HS.out.bys.drop 1) (by have := HN.out; omega)).mono ?_
    rintro x w2 ⟨rfl, rfl⟩
    rcases HT.out with ⟨m1, r1, ht, hN1, hK1, hE1, hm1, p1, hp1, hpl1⟩ | ⟨ht, hN1, hK1, hE1⟩
    · rw [hN1, hK1, hE1]
      have h2 : Hid (rdN (y0 :: r0) 2 = .ok (⟨m1, 0, 0, 0, y0, 0⟩, r1)) := by show _ = _; rw [rdN_e h1.out rfl]; simp [rdE, ht]
      have hkk : takeK r0 = ((p1.length : Nat) : Int) := by rw [hK1, hp1, List.length_append]; omega
      rw [hK1] at hkk
      rw [hkk]
      obtain ⟨k1, hk1⟩ : ∃ k, p1.length = k := ⟨_, rfl⟩
      have hl1 : n = k1 + 1 + r1.length := by rw [HN.out, hp1, List.length_append]; omega
      have HP1 := Lib.hid hp1
      have HK1 := Lib.hid hk1
      rw [hk1] at hpl1 ⊢
      have HVV : Hid (∀ y t, r1 = y :: t → y ≠ 0) := fun y t h => HV.out m1 y t (by rw [ht, h])
      clear ht hN1 hK1 hE1 hkk hp1 hk1 HT hn HV
      rcases r1 with _ | ⟨y2, r2⟩
      · have h3 : Hid (rdN (y0 :: r0) 3 = .error 121) := by show _ = _; rw [rdN_e h2.out rfl]; rfl
        have hnk2 : ((n : Int) ≤ (1 : Int) + (k1 : Int)) := by rw [hl1]; simp; omega
        have HS1 := HS.out
        obtain ⟨ez, hez⟩ := HS1.r0
        have HR0 := Lib.hid hez
        have HR1 := Lib.hid HS1.r1
        have HBF := Lib.hid HS1.b
        go_wp2_with (first | (refine wpList_load_row rfl 24 _ rfl (w.heap.size + 1) rfl 24 (entC (⟨0, 0, 0, 0, y0, 0⟩ : Ent)) (0, 0) _ HR1.out Try.underlying24 rfl ent_size ?_) | (refine wpList_store_row rfl 24 _ _ rfl w.heap.size (entC (⟨0, 0, 0, 0, y0, 0⟩ : Ent)) rfl rfl 24 (entC ez) HR0.out ent_size rfl (by kernel_rfl) ?_))
        try simp only [Exit.inBlock, Exit.then]
        refine bodyPost_ret_by (ret_cell_tmp rfl _ _ w.heap.size (⟨0, 0, 0, 0, y0, 0⟩ : Ent) (setRow_same HR0.out) rfl) rfl ?_
        refine ⟨⟨(⟨0, 0, 0, 0, y0, 0⟩ : Ent), false, rfl, ?_⟩, HBF.out.trans ⟨rfl, rfl, rfl, by simp, fun k hk => setRow_far _ _ _ _ (by omega)⟩⟩
        rw [rdB_up h3.out (by omega)]
      · have HD : Hid ((y0 :: r0).drop (k1 + 2) = r2) := by
          show _ = _
          rw [HP1.out, ← HK1.out, show p1.length + 2 = p1.length + 1 + 1 by omega, List.drop_succ_cons, ← List.drop_drop, List.drop_left]; rfl
        have HY : Hid ((y0 :: r0)[k1 + 1]? = some y2) := by
          show _ = _
          rw [HP1.out, List.getElem?_cons_succ, ← HK1.out, List.getElem?_append_right (Nat.le_refl _)]; simp
        have hy2 : y2 < 256 := HS.out.bys.1 y2 (List.mem_of_getElem? HY.out)
        have hs1 := HS.out.set_ 0 (.int .i64 m1) (e' := ⟨m1, 0, 0, 0, y0, 0⟩) rfl
        have hc1 := hs1.at_ (k1 + 1) y2 HY.out
        have f0 := HS.out.r1.frozen 0
        have g0 : W.cell? ⟨w.heap.size + 1, 0, none⟩ = some (.int .i64 0) := HS.out.r1.cell 0
        have f1 := hs1.r1.frozen 1
        have g1 : (W.setCell ⟨w.heap.size + 1, 0, none⟩ (.int .i64 m1)).cell? ⟨w.heap.size + 1, 1, none⟩ = some (.int .i64 0) := hs1.r1.cell 1
        have hbl : ¬ ((n : Int) ≤ (1 : Int) + (k1 : Int)) := by rw [hl1]; simp; omega
        have hbk : k1 + 1 < n := by rw [hl1]; simp
        have HLL : Hid (n = k1 + 1 + 1 + r2.length) := by show _ = _; rw [hl1, List.length_cons]; omega
        clear hl1
        rcases y2 with _ | z
        · exact absurd (HVV.out _ _ rfl) (by omega)
        · have hs2 := hs1.set_ 1 (.int .i64 (z : Int)) (e' := ⟨m1, (z : Int), 0, 0, y0, 0⟩) rfl
          have f0A : ((W.setCell ⟨w.heap.size + 1, 0, none⟩ (Value.int .i64 m1)).setCell ⟨w.heap.size + 1, 1, none⟩ (Value.int .i64 (z : Int))).frozen? ⟨w.heap.size + 1, 0, none⟩ = false := hs2.r1.frozen 0
          have g0A : ((W.setCell ⟨w.heap.size + 1, 0, none⟩ (Value.int .i64 m1)).setCell ⟨w.heap.size + 1, 1, none⟩ (Value.int .i64 (z : Int))).cell? ⟨w.heap.size + 1, 0, none⟩ = some (.int .i64 m1) := hs2.r1.cell 0
          have f1A : ((W.setCell ⟨w.heap.size + 1, 0, none⟩ (Value.int .i64 m1)).setCell ⟨w.heap.size + 1, 1, none⟩ (Value.int .i64 (z : Int))).frozen? ⟨w.heap.size + 1, 1, none⟩ = false := hs2.r1.frozen 1
          have g1A : ((W.setCell ⟨w.heap.size + 1, 0, none⟩ (Value.int .i64 m1)).setCell ⟨w.heap.size + 1, 1, none⟩ (Value.int .i64 (z : Int))).cell? ⟨w.heap.size + 1, 1, none⟩ = some (.int .i64 (z : Int)) := hs2.r1.cell 1
          have f2A : ((W.setCell ⟨w.heap.size + 1, 0, none⟩ (Value.int .i64 m1)).setCell ⟨w.heap.size + 1, 1, none⟩ (Value.int .i64 (z : Int))).frozen? ⟨w.heap.size + 1, 2, none⟩ = false := hs2.r1.frozen 2
          have g2A : ((W.setCell ⟨w.heap.size + 1, 0, none⟩ (Value.int .i64 m1)).setCell ⟨w.heap.size + 1, 1, none⟩ (Value.int .i64 (z : Int))).cell? ⟨w.heap.size + 1, 2, none⟩ = some (.int .i64 0) := hs2.r1.cell 2
          have f3A : ((W.setCell ⟨w.heap.size + 1, 0, none⟩ (Value.int .i64 m1)).setCell ⟨w.heap.size + 1, 1, none⟩ (Value.int .i64 (z : Int))).frozen? ⟨w.heap.size + 1, 3, none⟩ = false := hs2.r1.frozen 3
          have g3A : ((W.setCell ⟨w.heap.size + 1, 0, none⟩ (Value.int .i64 m1)).setCell ⟨w.heap.size + 1, 1, none⟩ (Value.int .i64 (z : Int))).cell? ⟨w.heap.size + 1, 3, none⟩ = some (.int .i64 0) := hs2.r1.cell 3
          have f4A : ((W.setCell ⟨w.heap.size + 1, 0, none⟩ (Value.int .i64 m1)).setCell ⟨w.heap.size + 1, 1, none⟩ (Value.int .i64 (z : Int))).frozen? ⟨w.heap.size + 1, 4, none⟩ = false := hs2.r1.frozen 4
          have g4A : ((W.setCell ⟨w.heap.size + 1, 0, none⟩ (Value.int .i64 m1)).setCell ⟨w.heap.size + 1, 1, none⟩ (Value.int .i64 (z : Int))).cell? ⟨w.heap.size + 1, 4, none⟩ = some (.int .i64 y0) := hs2.r1.cell 4
          have f5A : ((W.setCell ⟨w.heap.size + 1, 0, none⟩ (Value.int .i64 m1)).setCell ⟨w.heap.size + 1, 1, none⟩ (Value.int .i64 (z : Int))).frozen? ⟨w.heap.size + 1, 5, none⟩ = false := hs2.r1.frozen 5
          have g5A : ((W.setCell ⟨w.heap.size + 1, 0, none⟩ (Value.int .i64 m1)).setCell ⟨w.heap.size + 1, 1, none⟩ (Value.int .i64 (z : Int))).cell? ⟨w.heap.size + 1, 5, none⟩ = some (.int .i64 0) := hs2.r1.cell 5
          have h3 : Hid (rdN (y0 :: r0) 3 = .ok ((⟨m1, (z : Int), 0, 0, y0, 0⟩ : Ent), r2)) := by show _ = _; rw [rdN_e h2.out rfl]; simp [rdE]
          obtain ⟨WA, hWA⟩ : ∃ W', ((W.setCell ⟨w.heap.size + 1, 0, none⟩ (Value.int .i64 m1)).setCell ⟨w.heap.size + 1, 1, none⟩ (Value.int .i64 (z : Int))) = W' := ⟨_, rfl⟩
          have hs3 := hs2
          rw [hWA] at hs3
          have HWWA := Lib.hid hWA
          have HSA := Lib.hid hs3
          clear hs3 hWA hs2
          by_cases hki : y0 = 1
          · subst hki
            have hrl : n - (k1 + 1 + 1) = r2.length := by have := HLL.out; omega
            have hKn : k1 + 1 + 1 ≤ n := by have := HLL.out; omega
            by_cases hcK : c = k1 + 1 + 1
            · obtain rfl : r2 = [] := List.eq_nil_of_length_eq_zero (by have := HLL.out; omega)
              have h4 : Hid (rdN ((1 : Nat) :: r0) 4 = .error 121) := by show _ = _; rw [rdN_e h3.out (by simp [has])]; rfl
              clear HLL HD
              go_wp2_with fail
              rw [HWWA.out, show n - (k1 + 1 + 1) = ([] : List Nat).length from hrl]
              refine (refTake_any (some ⟨bb, off, none⟩) [] 0 _ ⟨by simp, fun h => absurd rfl h⟩ (by simp)).mono ?_
              rintro x w2 ⟨rfl, rfl⟩
              have hEE : takeE [] = 120 := rfl
              rw [hEE]
              have HSX := HSA.out
              obtain ⟨ez, hez⟩ := HSX.r0
              have HR0 := Lib.hid hez
              have HR1 := Lib.hid HSX.r1
              have HBF := Lib.hid HSX.b
              go_wp2_with (first | (refine wpList_load_row rfl 24 _ rfl (w.heap.size + 1) rfl 24 (entC (⟨m1, (z : Int), 0, 0, 1, 0⟩ : Ent)) (0, 0) _ HR1.out Try.underlying24 rfl ent_size ?_) | (refine wpList_store_row rfl 24 _ _ rfl w.heap.size (entC (⟨m1, (z : Int), 0, 0, 1, 0⟩ : Ent)) rfl rfl 24 (entC ez) HR0.out ent_size rfl (by kernel_rfl) ?_))
              try simp only [Exit.inBlock, Exit.then]
              refine bodyPost_ret_by (ret_cell_tmp rfl _ _ w.heap.size (⟨m1, (z : Int), 0, 0, 1, 0⟩ : Ent) (setRow_same HR0.out) rfl) rfl ?_
              refine ⟨⟨(⟨m1, (z : Int), 0, 0, 1, 0⟩ : Ent), false, rfl, ?_⟩, HBF.out.trans ⟨rfl, rfl, rfl, by simp, fun k hk => setRow_far _ _ _ _ (by omega)⟩⟩
              rw [rdB_up h4.out (by omega)]
            · go_wp2_with fail
              rw [HWWA.out, hrl]
              refine (refTake_any (some ⟨bb, off + (k1 + 1 + 1), none⟩) r2 (c - (k1 + 1 + 1)) _ (by have := HSA.out.bys.drop (k1 + 1 + 1); rwa [HD.out] at this) (by have := HLL.out; omega)).mono ?_
              rintro x w2 ⟨rfl, rfl⟩
              rcases tk_cases r2 with ⟨m3, r3, ht, hN, hKK, hE, hm3, p3, hp, hpl⟩ | ⟨ht, hN, hKK, hE⟩
              · have fo3 : WA.frozen? ⟨w.heap.size + 1, 2, none⟩ = false := HSA.out.r1.frozen 2
                have go3 : WA.cell? ⟨w.heap.size + 1, 2, none⟩ = some (.int .i64 0) := HSA.out.r1.cell 2
                have hkk : takeK r2 = ((p3.length : Nat) : Int) := by rw [hKK, hp, List.length_append]; omega
                rw [hkk, hN, hE]
                obtain ⟨k3, hk3⟩ : ∃ k, p3.length = k := ⟨_, rfl⟩
                rw [hk3] at hpl ⊢
                have h4 : Hid (rdN ((1 : Nat) :: r0) 4 = .ok ((⟨m1, (z : Int), m3, 0, 1, 0⟩ : Ent), r3)) := by show _ = _; rw [rdN_e h3.out (by simp [has])]; simp [rdE, ht]
                have HLL2 : Hid (n = k1 + 1 + 1 + k3 + r3.length) := by show _ = _; have := HLL.out; rw [hp, List.length_append, hk3] at this; omega
                have HD2 : Hid (((1 : Nat) :: r0).drop (k1 + 1 + 1 + k3) = r3) := by show _ = _; rw [← List.drop_drop, HD.out, hp, ← hk3, List.drop_left]
                have HSA.outn := HSA.out.set_ 2 (.int .i64 m3) (e' := (⟨m1, (z : Int), m3, 0, 1, 0⟩ : Ent)) rfl
                obtain ⟨W3, hW3⟩ : ∃ W', WA.setCell ⟨w.heap.size + 1, 2, none⟩ (Value.int .i64 m3) = W' := ⟨_, rfl⟩
                rw [hW3] at HSA.outn
                have HWW3 := Lib.hid hW3
                have HSN := Lib.hid HSA.outn
                clear HLL HD hrl hcK hKn ht hN hKK hE hp hkk hk3 hW3 HSA.outn
                have hkb3 : k1 + 1 + 1 + k3 ≤ 255 := by have := HLL2.out; omega
                have HLL := HLL2
                have HD := HD2
                clear HLL2 HD2
                have f0W3 : (WA.setCell ⟨w.heap.size + 1, 2, none⟩ (Value.int .i64 m3)).frozen? ⟨w.heap.size + 1, 0, none⟩ = false := by rw [HWW3.out]; exact HSN.out.r1.frozen 0
                have g0W3 : (WA.setCell ⟨w.heap.size + 1, 2, none⟩ (Value.int .i64 m3)).cell? ⟨w.heap.size + 1, 0, none⟩ = some (.int .i64 m1) := by rw [HWW3.out]; exact HSN.out.r1.cell 0
                have f1W3 : (WA.setCell ⟨w.heap.size + 1, 2, none⟩ (Value.int .i64 m3)).frozen? ⟨w.heap.size + 1, 1, none⟩ = false := by rw [HWW3.out]; exact HSN.out.r1.frozen 1
                have g1W3 : (WA.setCell ⟨w.heap.size + 1, 2, none⟩ (Value.int .i64 m3)).cell? ⟨w.heap.size + 1, 1, none⟩ = some (.int .i64 (z : Int)) := by rw [HWW3.out]; exact HSN.out.r1.cell 1
                have f2W3 : (WA.setCell ⟨w.heap.size + 1, 2, none⟩ (Value.int .i64 m3)).frozen? ⟨w.heap.size + 1, 2, none⟩ = false := by rw [HWW3.out]; exact HSN.out.r1.frozen 2
                have g2W3 : (WA.setCell ⟨w.heap.size + 1, 2, none⟩ (Value.int .i64 m3)).cell? ⟨w.heap.size + 1, 2, none⟩ = some (.int .i64 m3) := by rw [HWW3.out]; exact HSN.out.r1.cell 2
                have f3W3 : (WA.setCell ⟨w.heap.size + 1, 2, none⟩ (Value.int .i64 m3)).frozen? ⟨w.heap.size + 1, 3, none⟩ = false := by rw [HWW3.out]; exact HSN.out.r1.frozen 3
                have g3W3 : (WA.setCell ⟨w.heap.size + 1, 2, none⟩ (Value.int .i64 m3)).cell? ⟨w.heap.size + 1, 3, none⟩ = some (.int .i64 0) := by rw [HWW3.out]; exact HSN.out.r1.cell 3
                have f4W3 : (WA.setCell ⟨w.heap.size + 1, 2, none⟩ (Value.int .i64 m3)).frozen? ⟨w.heap.size + 1, 4, none⟩ = false := by rw [HWW3.out]; exact HSN.out.r1.frozen 4
                have g4W3 : (WA.setCell ⟨w.heap.size + 1, 2, none⟩ (Value.int .i64 m3)).cell? ⟨w.heap.size + 1, 4, none⟩ = some (.int .i64 1) := by rw [HWW3.out]; exact HSN.out.r1.cell 4
                have f5W3 : (WA.setCell ⟨w.heap.size + 1, 2, none⟩ (Value.int .i64 m3)).frozen? ⟨w.heap.size + 1, 5, none⟩ = false := by rw [HWW3.out]; exact HSN.out.r1.frozen 5
                have g5W3 : (WA.setCell ⟨w.heap.size + 1, 2, none⟩ (Value.int .i64 m3)).cell? ⟨w.heap.size + 1, 5, none⟩ = some (.int .i64 0) := by rw [HWW3.out]; exact HSN.out.r1.cell 5
                have hrl : n - (k1 + 1 + 1 + k3) = r3.length := by have := HLL.out; omega
                have hKn : k1 + 1 + 1 + k3 ≤ n := by have := HLL.out; omega
                by_cases hcK : c = k1 + 1 + 1 + k3
                · obtain rfl : r3 = [] := List.eq_nil_of_length_eq_zero (by have := HLL.out; omega)
                  have h5 : Hid (rdN ((1 : Nat) :: r0) 5 = .error 121) := by show _ = _; rw [rdN_e h4.out (by simp [has])]; rfl
                  clear HLL HD
                  go_wp2_with fail
                  rw [HWW3.out, show n - (k1 + 1 + 1 + k3) = ([] : List Nat).length from hrl]
                  refine (refTake_any (some ⟨bb, off, none⟩) [] 0 _ ⟨by simp, fun h => absurd rfl h⟩ (by simp)).mono ?_
                  rintro x w2 ⟨rfl, rfl⟩
                  have hEE : takeE [] = 120 := rfl
                  rw [hEE]
                  have HSX := HSN.out
                  obtain ⟨ez, hez⟩ := HSX.r0
                  have HR0 := Lib.hid hez
                  have HR1 := Lib.hid HSX.r1
                  have HBF := Lib.hid HSX.b
                  go_wp2_with (first | (refine wpList_load_row rfl 24 _ rfl (w.heap.size + 1) rfl 24 (entC (⟨m1, (z : Int), m3, 0, 1, 0⟩ : Ent)) (0, 0) _ HR1.out Try.underlying24 rfl ent_size ?_) | (refine wpList_store_row rfl 24 _ _ rfl w.heap.size (entC (⟨m1, (z : Int), m3, 0, 1, 0⟩ : Ent)) rfl rfl 24 (entC ez) HR0.out ent_size rfl (by kernel_rfl) ?_))
                  try simp only [Exit.inBlock, Exit.then]
                  refine bodyPost_ret_by (ret_cell_tmp rfl _ _ w.heap.size (⟨m1, (z : Int), m3, 0, 1, 0⟩ : Ent) (setRow_same HR0.out) rfl) rfl ?_
                  refine ⟨⟨(⟨m1, (z : Int), m3, 0, 1, 0⟩ : Ent), false, rfl, ?_⟩, HBF.out.trans ⟨rfl, rfl, rfl, by simp, fun k hk => setRow_far _ _ _ _ (by omega)⟩⟩
                  rw [rdB_up h5.out (by omega)]
                · go_wp2_with fail
                  rw [HWW3.out, hrl]
                  refine (refTake_any (some ⟨bb, off + (k1 + 1 + 1 + k3), none⟩) r3 (c - (k1 + 1 + 1 + k3)) _ (by have := HSN.out.bys.drop (k1 + 1 + 1 + k3); rwa [HD.out] at this) (by have := HLL.out; omega)).mono ?_
                  rintro x w2 ⟨rfl, rfl⟩
                  rcases tk_cases r3 with ⟨m4, r4, ht, hN, hKK, hE, hm4, p4, hp, hpl⟩ | ⟨ht, hN, hKK, hE⟩
                  · have fo4 : W3.frozen? ⟨w.heap.size + 1, 3, none⟩ = false := HSN.out.r1.frozen 3
                    have go4 : W3.cell? ⟨w.heap.size + 1, 3, none⟩ = some (.int .i64 0) := HSN.out.r1.cell 3
                    have hkk : takeK r3 = ((p4.length : Nat) : Int) := by rw [hKK, hp, List.length_append]; omega
                    rw [hkk, hN, hE]
                    obtain ⟨k4, hk4⟩ : ∃ k, p4.length = k := ⟨_, rfl⟩
                    rw [hk4] at hpl ⊢
                    have h5 : Hid (rdN ((1 : Nat) :: r0) 5 = .ok ((⟨m1, (z : Int), m3, m4, 1, 0⟩ : Ent), r4)) := by show _ = _; rw [rdN_e h4.out (by simp [has])]; simp [rdE, ht]
                    have HLL2 : Hid (n = k1 + 1 + 1 + k3 + k4 + r4.length) := by show _ = _; have := HLL.out; rw [hp, List.length_append, hk4] at this; omega
                    have HD2 : Hid (((1 : Nat) :: r0).drop (k1 + 1 + 1 + k3 + k4) = r4) := by show _ = _; rw [← List.drop_drop, HD.out, hp, ← hk4, List.drop_left]
                    have HSN.outn := HSN.out.set_ 3 (.int .i64 m4) (e' := (⟨m1, (z : Int), m3, m4, 1, 0⟩ : Ent)) rfl
                    obtain ⟨W4, hW4⟩ : ∃ W', W3.setCell ⟨w.heap.size + 1, 3, none⟩ (Value.int .i64 m4) = W' := ⟨_, rfl⟩
                    rw [hW4] at HSN.outn
                    have HWW4 := Lib.hid hW4
                    have HSN := Lib.hid HSN.outn
                    clear HLL HD hrl hcK hKn ht hN hKK hE hp hkk hk4 hW4 HSN.outn
                    have hkb4 : k1 + 1 + 1 + k3 + k4 ≤ 255 := by have := HLL2.out; omega
                    have HLL := HLL2
                    have HD := HD2
                    clear HLL2 HD2
                    have f0W4 : (W3.setCell ⟨w.heap.size + 1, 3, none⟩ (Value.int .i64 m4)).frozen? ⟨w.heap.size + 1, 0, none⟩ = false := by rw [HWW4.out]; exact HSN.out.r1.frozen 0
                    have g0W4 : (W3.setCell ⟨w.heap.size + 1, 3, none⟩ (Value.int .i64 m4)).cell? ⟨w.heap.size + 1, 0, none⟩ = some (.int .i64 m1) := by rw [HWW4.out]; exact HSN.out.r1.cell 0
                    have f1W4 : (W3.setCell ⟨w.heap.size + 1, 3, none⟩ (Value.int .i64 m4)).frozen? ⟨w.heap.size + 1, 1, none⟩ = false := by rw [HWW4.out]; exact HSN.out.r1.frozen 1
                    have g1W4 : (W3.setCell ⟨w.heap.size + 1, 3, none⟩ (Value.int .i64 m4)).cell? ⟨w.heap.size + 1, 1, none⟩ = some (.int .i64 (z : Int)) := by rw [HWW4.out]; exact HSN.out.r1.cell 1
                    have f2W4 : (W3.setCell ⟨w.heap.size + 1, 3, none⟩ (Value.int .i64 m4)).frozen? ⟨w.heap.size + 1, 2, none⟩ = false := by rw [HWW4.out]; exact HSN.out.r1.frozen 2
                    have g2W4 : (W3.setCell ⟨w.heap.size + 1, 3, none⟩ (Value.int .i64 m4)).cell? ⟨w.heap.size + 1, 2, none⟩ = some (.int .i64 m3) := by rw [HWW4.out]; exact HSN.out.r1.cell 2
                    have f3W4 : (W3.setCell ⟨w.heap.size + 1, 3, none⟩ (Value.int .i64 m4)).frozen? ⟨w.heap.size + 1, 3, none⟩ = false := by rw [HWW4.out]; exact HSN.out.r1.frozen 3
                    have g3W4 : (W3.setCell ⟨w.heap.size + 1, 3, none⟩ (Value.int .i64 m4)).cell? ⟨w.heap.size + 1, 3, none⟩ = some (.int .i64 m4) := by rw [HWW4.out]; exact HSN.out.r1.cell 3
                    have f4W4 : (W3.setCell ⟨w.heap.size + 1, 3, none⟩ (Value.int .i64 m4)).frozen? ⟨w.heap.size + 1, 4, none⟩ = false := by rw [HWW4.out]; exact HSN.out.r1.frozen 4
                    have g4W4 : (W3.setCell ⟨w.heap.size + 1, 3, none⟩ (Value.int .i64 m4)).cell? ⟨w.heap.size + 1, 4, none⟩ = some (.int .i64 1) := by rw [HWW4.out]; exact HSN.out.r1.cell 4
                    have f5W4 : (W3.setCell ⟨w.heap.size + 1, 3, none⟩ (Value.int .i64 m4)).frozen? ⟨w.heap.size + 1, 5, none⟩ = false := by rw [HWW4.out]; exact HSN.out.r1.frozen 5
                    have g5W4 : (W3.setCell ⟨w.heap.size + 1, 3, none⟩ (Value.int .i64 m4)).cell? ⟨w.heap.size + 1, 5, none⟩ = some (.int .i64 0) := by rw [HWW4.out]; exact HSN.out.r1.cell 5
                    have hrl : n - (k1 + 1 + 1 + k3 + k4) = r4.length := by have := HLL.out; omega
                    have hKn : k1 + 1 + 1 + k3 + k4 ≤ n := by have := HLL.out; omega
                    by_cases hcK : c = k1 + 1 + 1 + k3 + k4
                    · obtain rfl : r4 = [] := List.eq_nil_of_length_eq_zero (by have := HLL.out; omega)
                      have h6 : Hid (rdN ((1 : Nat) :: r0) 6 = .error 121) := by show _ = _; rw [rdN_e h5.out (by simp [has])]; rfl
                      clear HLL HD
                      go_wp2_with fail
                      rw [HWW4.out, show n - (k1 + 1 + 1 + k3 + k4) = ([] : List Nat).length from hrl]
                      refine (refTakeSigned_any (some ⟨bb, off, none⟩) [] 0 _ ⟨by simp, fun h => absurd rfl h⟩ (by simp)).mono ?_
                      rintro x w2 ⟨rfl, rfl⟩
                      have hEE : takeE [] = 120 := rfl
                      rw [hEE]
                      have HSX := HSN.out
                      obtain ⟨ez, hez⟩ := HSX.r0
                      have HR0 := Lib.hid hez
                      have HR1 := Lib.hid HSX.r1
                      have HBF := Lib.hid HSX.b
                      go_wp2_with (first | (refine wpList_load_row rfl 24 _ rfl (w.heap.size + 1) rfl 24 (entC (⟨m1, (z : Int), m3, m4, 1, 0⟩ : Ent)) (0, 0) _ HR1.out Try.underlying24 rfl ent_size ?_) | (refine wpList_store_row rfl 24 _ _ rfl w.heap.size (entC (⟨m1, (z : Int), m3, m4, 1, 0⟩ : Ent)) rfl rfl 24 (entC ez) HR0.out ent_size rfl (by kernel_rfl) ?_))
                      try simp only [Exit.inBlock, Exit.then]
                      refine bodyPost_ret_by (ret_cell_tmp rfl _ _ w.heap.size (⟨m1, (z : Int), m3, m4, 1, 0⟩ : Ent) (setRow_same HR0.out) rfl) rfl ?_
                      refine ⟨⟨(⟨m1, (z : Int), m3, m4, 1, 0⟩ : Ent), false, rfl, ?_⟩, HBF.out.trans ⟨rfl, rfl, rfl, by simp, fun k hk => setRow_far _ _ _ _ (by omega)⟩⟩
                      rw [rdB_up h6.out (by omega)]
                    · go_wp2_with fail
                      rw [HWW4.out, hrl]
                      refine (refTakeSigned_any (some ⟨bb, off + (k1 + 1 + 1 + k3 + k4), none⟩) r4 (c - (k1 + 1 + 1 + k3 + k4)) _ (by have := HSN.out.bys.drop (k1 + 1 + 1 + k3 + k4); rwa [HD.out] at this) (by have := HLL.out; omega)).mono ?_
                      rintro x w2 ⟨rfl, rfl⟩
                      rcases tk_cases r4 with ⟨m5, r5, ht, hN, hKK, hE, hm5, p5, hp, hpl⟩ | ⟨ht, hN, hKK, hE⟩
                      · have fo5 : W4.frozen? ⟨w.heap.size + 1, 5, none⟩ = false := HSN.out.r1.frozen 5
                        have go5 : W4.cell? ⟨w.heap.size + 1, 5, none⟩ = some (.int .i64 0) := HSN.out.r1.cell 5
                        have hkk : takeK r4 = ((p5.length : Nat) : Int) := by rw [hKK, hp, List.length_append]; omega
                        rw [hkk, hN, hE]
                        rw [Int.toNat_natCast]
                        obtain ⟨v5, hv5⟩ : ∃ v, unz m5 = v := ⟨_, rfl⟩
                        rw [hv5]
                        obtain ⟨k5, hk5⟩ : ∃ k, p5.length = k := ⟨_, rfl⟩
                        rw [hk5] at hpl ⊢
                        have h6 : Hid (rdN ((1 : Nat) :: r0) 6 = .ok ((⟨m1, (z : Int), m3, m4, 1, v5⟩ : Ent), r5)) := by show _ = _; rw [rdN_e h5.out (by simp [has])]; simp [rdE, ht, hv5]
                        have HLL2 : Hid (n = k1 + 1 + 1 + k3 + k4 + k5 + r5.length) := by show _ = _; have := HLL.out; rw [hp, List.length_append, hk5] at this; omega
                        have HD2 : Hid (((1 : Nat) :: r0).drop (k1 + 1 + 1 + k3 + k4 + k5) = r5) := by show _ = _; rw [← List.drop_drop, HD.out, hp, ← hk5, List.drop_left]
                        have HSN.outn := HSN.out.set_ 5 (.int .i64 v5) (e' := (⟨m1, (z : Int), m3, m4, 1, v5⟩ : Ent)) rfl
                        obtain ⟨W5, hW5⟩ : ∃ W', W4.setCell ⟨w.heap.size + 1, 5, none⟩ (Value.int .i64 v5) = W' := ⟨_, rfl⟩
                        rw [hW5] at HSN.outn
                        have HWW5 := Lib.hid hW5
                        have HSN := Lib.hid HSN.outn
                        clear HLL HD hrl hcK hKn ht hN hKK hE hp hkk hk5 hW5 HSN.outn hv5
                        have hkb5 : k1 + 1 + 1 + k3 + k4 + k5 ≤ 255 := by have := HLL2.out; omega
                        have HLL := HLL2
                        have HD := HD2
                        clear HLL2 HD2
                        have f0W5 : (W4.setCell ⟨w.heap.size + 1, 5, none⟩ (Value.int .i64 v5)).frozen? ⟨w.heap.size + 1, 0, none⟩ = false := by rw [HWW5.out]; exact HSN.out.r1.frozen 0
                        have g0W5 : (W4.setCell ⟨w.heap.size + 1, 5, none⟩ (Value.int .i64 v5)).cell? ⟨w.heap.size + 1, 0, none⟩ = some (.int .i64 m1) := by rw [HWW5.out]; exact HSN.out.r1.cell 0
                        have f1W5 : (W4.setCell ⟨w.heap.size + 1, 5, none⟩ (Value.int .i64 v5)).frozen? ⟨w.heap.size + 1, 1, none⟩ = false := by rw [HWW5.out]; exact HSN.out.r1.frozen 1
                        have g1W5 : (W4.setCell ⟨w.heap.size + 1, 5, none⟩ (Value.int .i64 v5)).cell? ⟨w.heap.size + 1, 1, none⟩ = some (.int .i64 (z : Int)) := by rw [HWW5.out]; exact HSN.out.r1.cell 1
                        have f2W5 : (W4.setCell ⟨w.heap.size + 1, 5, none⟩ (Value.int .i64 v5)).frozen? ⟨w.heap.size + 1, 2, none⟩ = false := by rw [HWW5.out]; exact HSN.out.r1.frozen 2
                        have g2W5 : (W4.setCell ⟨w.heap.size + 1, 5, none⟩ (Value.int .i64 v5)).cell? ⟨w.heap.size + 1, 2, none⟩ = some (.int .i64 m3) := by rw [HWW5.out]; exact HSN.out.r1.cell 2
                        have f3W5 : (W4.setCell ⟨w.heap.size + 1, 5, none⟩ (Value.int .i64 v5)).frozen? ⟨w.heap.size + 1, 3, none⟩ = false := by rw [HWW5.out]; exact HSN.out.r1.frozen 3
                        have g3W5 : (W4.setCell ⟨w.heap.size + 1, 5, none⟩ (Value.int .i64 v5)).cell? ⟨w.heap.size + 1, 3, none⟩ = some (.int .i64 m4) := by rw [HWW5.out]; exact HSN.out.r1.cell 3
                        have f4W5 : (W4.setCell ⟨w.heap.size + 1, 5, none⟩ (Value.int .i64 v5)).frozen? ⟨w.heap.size + 1, 4, none⟩ = false := by rw [HWW5.out]; exact HSN.out.r1.frozen 4
                        have g4W5 : (W4.setCell ⟨w.heap.size + 1, 5, none⟩ (Value.int .i64 v5)).cell? ⟨w.heap.size + 1, 4, none⟩ = some (.int .i64 1) := by rw [HWW5.out]; exact HSN.out.r1.cell 4
                        have f5W5 : (W4.setCell ⟨w.heap.size + 1, 5, none⟩ (Value.int .i64 v5)).frozen? ⟨w.heap.size + 1, 5, none⟩ = false := by rw [HWW5.out]; exact HSN.out.r1.frozen 5
                        have g5W5 : (W4.setCell ⟨w.heap.size + 1, 5, none⟩ (Value.int .i64 v5)).cell? ⟨w.heap.size + 1, 5, none⟩ = some (.int .i64 v5) := by rw [HWW5.out]; exact HSN.out.r1.cell 5
                        have HSF := Lib.hid HSN.out
                        rcases r5 with _ | ⟨yl, rl⟩
                        · have hb1 : (((k1 : Int) + 1 + 1 + (k3 : Int) + (k4 : Int) + (k5 : Int) : Int) == (n : Int)) = true := by have := HLL.out; simp only [List.length_nil] at this; rw [beq_iff_eq]; omega
                          clear HLL
                          have HB6 : Hid (rdB ((1 : Nat) :: r0) = if Right (⟨m1, (z : Int), m3, m4, 1, v5⟩ : Ent) then .ok (⟨m1, (z : Int), m3, m4, 1, v5⟩ : Ent) else .error 121) := by show _ = _; rw [rdB, h6.out]; simp
                          go_wp2_with fail
                          rw [HWW5.out]
                          refine wp_region_noPanic ?_
                          refine wp_region_held_drew (S := fun w' => ((w'.cell? ⟨w.heap.size + 1, 0, none⟩ = some (.int .i64 m1) ∧ w'.cell? ⟨w.heap.size + 1, 1, none⟩ = some (.int .i64 (z : Int)) ∧ w'.cell? ⟨w.heap.size + 1, 2, none⟩ = some (.int .i64 m3)) ∧ w'.cell? ⟨w.heap.size + 1, 3, none⟩ = some (.int .i64 m4) ∧ w'.cell? ⟨w.heap.size + 1, 4, none⟩ = some (.int .i64 1) ∧ w'.cell? ⟨w.heap.size + 1, 5, none⟩ = some (.int .i64 v5)) ∧ St w w' bb off ((1 : Nat) :: r0) (⟨m1, (z : Int), m3, m4, 1, v5⟩ : Ent)) (by kernel_rfl) ⟨HSF.out.drew.six, HSF.out.drew⟩ (fun hHeld => ?_)
                          refine takeH (i := 0) (v := ?_) rfl (by kernel_rfl) (by kernel_rfl) (by kernel_rfl) (fun _ _ _ h => h) (Or.inl ⟨by rfl, ?_⟩) (by assumption) ?_
                          rotate_left
                          · first | (intro w hSw; (try dsimp only at hSw); go_simp; done) | (intro w hSw; (try dsimp only at hSw); go_simp; with_reducible rfl)
                          try simp only [Act.put, List.setIfInBounds_toArray, List.set_cons_zero, List.set_cons_succ]
                          refine takeH (i := 1) (v := ?_) rfl (by kernel_rfl) (by kernel_rfl) (by kernel_rfl) (fun _ _ _ h => h) (Or.inl ⟨by rfl, ?_⟩) (by assumption) ?_
                          rotate_left
                          · first | (intro w hSw; (try dsimp only at hSw); go_simp; done) | (intro w hSw; (try dsimp only at hSw); go_simp; with_reducible rfl)
                          try simp only [Act.put, List.setIfInBounds_toArray, List.set_cons_zero, List.set_cons_succ]
                          refine takeH (i := 2) (v := ?_) rfl (by kernel_rfl) (by kernel_rfl) (by kernel_rfl) (fun _ _ _ h => h) (Or.inl ⟨by rfl, ?_⟩) (by assumption) ?_
                          rotate_left
                          · first | (intro w hSw; (try dsimp only at hSw); go_simp; done) | (intro w hSw; (try dsimp only at hSw); go_simp; with_reducible rfl)
                          try simp only [Act.put, List.setIfInBounds_toArray, List.set_cons_zero, List.set_cons_succ]
                          refine takeH (i := 3) (v := ?_) rfl (by kernel_rfl) (by kernel_rfl) (by kernel_rfl) (fun _ _ _ h => h) (Or.inl ⟨by rfl, ?_⟩) (by assumption) ?_
                          rotate_left
                          · first | (intro w hSw; (try dsimp only at hSw); go_simp; done) | (intro w hSw; (try dsimp only at hSw); go_simp; with_reducible rfl)
                          try simp only [Act.put, List.setIfInBounds_toArray, List.set_cons_zero, List.set_cons_succ]
                          refine takeH (i := 4) (v := ?_) rfl (by kernel_rfl) (by kernel_rfl) (by kernel_rfl) (fun _ _ _ h => h) (Or.inl ⟨by rfl, ?_⟩) (by assumption) ?_
                          rotate_left
                          · first | (intro w hSw; (try dsimp only at hSw); go_simp; done) | (intro w hSw; (try dsimp only at hSw); go_simp; with_reducible rfl)
                          try simp only [Act.put, List.setIfInBounds_toArray, List.set_cons_zero, List.set_cons_succ]
                          refine takeH (i := 5) (v := ?_) rfl (by kernel_rfl) (by kernel_rfl) (by kernel_rfl) (fun _ _ _ h => h) (Or.inl ⟨by rfl, ?_⟩) (by assumption) ?_
                          rotate_left
                          · first | (intro w hSw; (try dsimp only at hSw); go_simp; done) | (intro w hSw; (try dsimp only at hSw); go_simp; with_reducible rfl)
                          try simp only [Act.put, List.setIfInBounds_toArray, List.set_cons_zero, List.set_cons_succ]
                          refine takeH (i := 6) (v := ?_) rfl (by kernel_rfl) (by kernel_rfl) (by kernel_rfl) (fun _ _ _ h => h) (Or.inl ⟨by rfl, ?_⟩) (by assumption) ?_
                          rotate_left
                          · first | (intro w hSw; (try dsimp only at hSw); go_simp; done) | (intro w hSw; (try dsimp only at hSw); go_simp; with_reducible rfl)
                          try simp only [Act.put, List.setIfInBounds_toArray, List.set_cons_zero, List.set_cons_succ]
                          refine wpAnyH_ready (rs := [7]) (by kernel_rfl) (by simp) ?_
                          refine consH (i := 7) rfl (fun K hK => ?_) AllReadyH.nil
                          go_simp
                          refine (Right_any (⟨m1, (z : Int), m3, m4, 1, v5⟩ : Ent) _).mono ?_
                          rintro x w5 ⟨rfl, hb5⟩
                          have hS5 := hHeld.2.grow hb5
                          obtain ⟨ok, hok⟩ : ∃ ok, decide (Right (⟨m1, (z : Int), m3, m4, 1, v5⟩ : Ent)) = ok := ⟨_, rfl⟩
                          rw [hok]
                          have HOK := Lib.hid hok
                          clear hb5 hok
                          go_wp2_with fail
                          refine hK.out _ _ ⟨hS5.six, hS5⟩ (fun hHeld5 => ?_)
                          clear hK K
                          try simp only [Act.put, List.setIfInBounds_toArray, List.set_cons_zero, List.set_cons_succ]
                          refine takeH (i := 8) (v := ?_) rfl (by kernel_rfl) (by kernel_rfl) (by kernel_rfl) (fun _ _ _ h => h) (Or.inl ⟨by rfl, ?_⟩) (by assumption) ?_
                          rotate_left
                          · first | (intro w hSw; (try dsimp only at hSw); go_simp; done) | (intro w hSw; (try dsimp only at hSw); go_simp; with_reducible rfl)
                          try simp only [Act.put, List.setIfInBounds_toArray, List.set_cons_zero, List.set_cons_succ]
                          obtain ⟨ez, hez⟩ := hS5.r0
                          refine wpAnyH_ready (rs := [9]) (by kernel_rfl) (by simp) ?_
                          refine consH (i := 9) rfl (fun K hK => ?_) AllReadyH.nil
                          rw [if_pos (by rfl)]
                          refine wp_store_row 24 _ _ rfl w.heap.size (entC (⟨m1, (z : Int), m3, m4, 1, v5⟩ : Ent)) rfl rfl 24 (entC ez) hez ent_size rfl (by kernel_rfl) ?_
                          refine hK.out _ _ ⟨(hS5.row _).1.six, (hS5.row _).1⟩ (fun hHeld6 => ?_)
                          clear hK K
                          try simp only [Act.put]
                          refine takeH (i := 10) (v := ?_) rfl (by kernel_rfl) (by kernel_rfl) (by kernel_rfl) (fun _ _ _ h => h) (Or.inl ⟨by rfl, ?_⟩) (by assumption) ?_
                          rotate_left
                          · first | (intro w hSw; (try dsimp only at hSw); go_simp; done) | (intro w hSw; (try dsimp only at hSw); go_simp; with_reducible rfl)
                          try simp only [Act.put, List.setIfInBounds_toArray, List.set_cons_zero, List.set_cons_succ]
                          refine wpAnyH_done (by kernel_rfl) ?_ _
                          refine NoPanic.normal ?_
                          have HRR := Lib.hid (hS5.row (⟨m1, (z : Int), m3, m4, 1, v5⟩ : Ent))
                          go_wp2_with fail
                          try simp only [Exit.inBlock, Exit.then]
                          refine bodyPost_ret_by (ret_cell_tmp rfl _ _ w.heap.size (⟨m1, (z : Int), m3, m4, 1, v5⟩ : Ent) HRR.out.2 rfl) rfl ?_
                          refine ⟨⟨(⟨m1, (z : Int), m3, m4, 1, v5⟩ : Ent), ok, rfl, ?_⟩, HRR.out.1.b⟩
                          rw [HB6.out, ← HOK.out]
                          by_cases hR : Right (⟨m1, (z : Int), m3, m4, 1, v5⟩ : Ent)
                          · rw [if_pos hR]; exact ⟨decide_eq_true hR, rfl⟩
                          · rw [if_neg hR]; exact decide_eq_false hR
                        · have hb1 : (((k1 : Int) + 1 + 1 + (k3 : Int) + (k4 : Int) + (k5 : Int) : Int) == (n : Int)) = false := by have := HLL.out; simp only [List.length_cons] at this; exact beq_eq_false_iff_ne.2 (by omega)
                          clear HLL
                          have HB6 : Hid (rdB ((1 : Nat) :: r0) = .error 121) := by show _ = _; rw [rdB, h6.out]; simp
                          go_wp2_with fail
                          rw [HWW5.out]
                          refine wp_region_noPanic ?_
                          refine wp_region_held_drew (S := fun w' => ((w'.cell? ⟨w.heap.size + 1, 0, none⟩ = some (.int .i64 m1) ∧ w'.cell? ⟨w.heap.size + 1, 1, none⟩ = some (.int .i64 (z : Int)) ∧ w'.cell? ⟨w.heap.size + 1, 2, none⟩ = some (.int .i64 m3)) ∧ w'.cell? ⟨w.heap.size + 1, 3, none⟩ = some (.int .i64 m4) ∧ w'.cell? ⟨w.heap.size + 1, 4, none⟩ = some (.int .i64 1) ∧ w'.cell? ⟨w.heap.size + 1, 5, none⟩ = some (.int .i64 v5)) ∧ St w w' bb off ((1 : Nat) :: r0) (⟨m1, (z : Int), m3, m4, 1, v5⟩ : Ent)) (by kernel_rfl) ⟨HSF.out.drew.six, HSF.out.drew⟩ (fun hHeld => ?_)
                          refine takeH (i := 0) (v := ?_) rfl (by kernel_rfl) (by kernel_rfl) (by kernel_rfl) (fun _ _ _ h => h) (Or.inl ⟨by rfl, ?_⟩) (by assumption) ?_
                          rotate_left
                          · first | (intro w hSw; (try dsimp only at hSw); go_simp; done) | (intro w hSw; (try dsimp only at hSw); go_simp; with_reducible rfl)
                          try simp only [Act.put, List.setIfInBounds_toArray, List.set_cons_zero, List.set_cons_succ]
                          refine takeH (i := 1) (v := ?_) rfl (by kernel_rfl) (by kernel_rfl) (by kernel_rfl) (fun _ _ _ h => h) (Or.inl ⟨by rfl, ?_⟩) (by assumption) ?_
                          rotate_left
                          · first | (intro w hSw; (try dsimp only at hSw); go_simp; done) | (intro w hSw; (try dsimp only at hSw); go_simp; with_reducible rfl)
                          try simp only [Act.put, List.setIfInBounds_toArray, List.set_cons_zero, List.set_cons_succ]
                          refine takeH (i := 2) (v := ?_) rfl (by kernel_rfl) (by kernel_rfl) (by kernel_rfl) (fun _ _ _ h => h) (Or.inl ⟨by rfl, ?_⟩) (by assumption) ?_
                          rotate_left
                          · first | (intro w hSw; (try dsimp only at hSw); go_simp; done) | (intro w hSw; (try dsimp only at hSw); go_simp; with_reducible rfl)
                          try simp only [Act.put, List.setIfInBounds_toArray, List.set_cons_zero, List.set_cons_succ]
                          refine takeH (i := 3) (v := ?_) rfl (by kernel_rfl) (by kernel_rfl) (by kernel_rfl) (fun _ _ _ h => h) (Or.inl ⟨by rfl, ?_⟩) (by assumption) ?_
                          rotate_left
                          · first | (intro w hSw; (try dsimp only at hSw); go_simp; done) | (intro w hSw; (try dsimp only at hSw); go_simp; with_reducible rfl)
                          try simp only [Act.put, List.setIfInBounds_toArray, List.set_cons_zero, List.set_cons_succ]
                          refine takeH (i := 4) (v := ?_) rfl (by kernel_rfl) (by kernel_rfl) (by kernel_rfl) (fun _ _ _ h => h) (Or.inl ⟨by rfl, ?_⟩) (by assumption) ?_
                          rotate_left
                          · first | (intro w hSw; (try dsimp only at hSw); go_simp; done) | (intro w hSw; (try dsimp only at hSw); go_simp; with_reducible rfl)
                          try simp only [Act.put, List.setIfInBounds_toArray, List.set_cons_zero, List.set_cons_succ]
                          refine takeH (i := 5) (v := ?_) rfl (by kernel_rfl) (by kernel_rfl) (by kernel_rfl) (fun _ _ _ h => h) (Or.inl ⟨by rfl, ?_⟩) (by assumption) ?_
                          rotate_left
                          · first | (intro w hSw; (try dsimp only at hSw); go_simp; done) | (intro w hSw; (try dsimp only at hSw); go_simp; with_reducible rfl)
                          try simp only [Act.put, List.setIfInBounds_toArray, List.set_cons_zero, List.set_cons_succ]
                          refine takeH (i := 6) (v := undef) rfl (by kernel_rfl) (by kernel_rfl) (by kernel_rfl) (fun _ _ _ h => h) (Or.inr ⟨by rfl, rfl⟩) (by assumption) ?_
                          try simp only [Act.put, List.setIfInBounds_toArray, List.set_cons_zero, List.set_cons_succ]
                          refine takeH (i := 7) (v := undef) rfl (by kernel_rfl) (by kernel_rfl) (by kernel_rfl) (fun _ _ _ h => h) (Or.inr ⟨by rfl, rfl⟩) (by assumption) ?_
                          try simp only [Act.put, List.setIfInBounds_toArray, List.set_cons_zero, List.set_cons_succ]
                          have hS5 := hHeld.2
                          refine takeH (i := 8) (v := ?_) rfl (by kernel_rfl) (by kernel_rfl) (by kernel_rfl) (fun _ _ _ h => h) (Or.inl ⟨by rfl, ?_⟩) (by assumption) ?_
                          rotate_left
                          · first | (intro w hSw; (try dsimp only at hSw); go_simp; done) | (intro w hSw; (try dsimp only at hSw); go_simp; with_reducible rfl)
                          try simp only [Act.put, List.setIfInBounds_toArray, List.set_cons_zero, List.set_cons_succ]
                          obtain ⟨ez, hez⟩ := hS5.r0
                          refine wpAnyH_ready (rs := [9]) (by kernel_rfl) (by simp) ?_
                          refine consH (i := 9) rfl (fun K hK => ?_) AllReadyH.nil
                          rw [if_pos (by rfl)]
                          refine wp_store_row 24 _ _ rfl w.heap.size (entC (⟨m1, (z : Int), m3, m4, 1, v5⟩ : Ent)) rfl rfl 24 (entC ez) hez ent_size rfl (by kernel_rfl) ?_
                          refine hK.out _ _ ⟨(hS5.row _).1.six, (hS5.row _).1⟩ (fun hHeld6 => ?_)
                          clear hK K
                          try simp only [Act.put]
                          refine takeH (i := 10) (v := ?_) rfl (by kernel_rfl) (by kernel_rfl) (by kernel_rfl) (fun _ _ _ h => h) (Or.inl ⟨by rfl, ?_⟩) (by assumption) ?_
                          rotate_left
                          · first | (intro w hSw; (try dsimp only at hSw); go_simp; done) | (intro w hSw; (try dsimp only at hSw); go_simp; with_reducible rfl)
                          try simp only [Act.put, List.setIfInBounds_toArray, List.set_cons_zero, List.set_cons_succ]
                          refine wpAnyH_done (by kernel_rfl) ?_ _
                          refine NoPanic.normal ?_
                          have HRR := Lib.hid (hS5.row (⟨m1, (z : Int), m3, m4, 1, v5⟩ : Ent))
                          go_wp2_with fail
                          try simp only [Exit.inBlock, Exit.then]
                          refine bodyPost_ret_by (ret_cell_tmp rfl _ _ w.heap.size (⟨m1, (z : Int), m3, m4, 1, v5⟩ : Ent) HRR.out.2 rfl) rfl ?_
                          exact ⟨⟨(⟨m1, (z : Int), m3, m4, 1, v5⟩ : Ent), false, rfl, by rw [HB6.out]⟩, HRR.out.1.b⟩
                      · rw [hN, hKK]
                        have h6 : Hid (rdN ((1 : Nat) :: r0) 6 = .error 121) := by show _ = _; rw [rdN_e h5.out (by simp [has])]; simp [rdE, ht]
                        obtain ⟨er, her⟩ : ∃ er, takeE r4 = er := ⟨_, rfl⟩
                        rw [her] at hE ⊢
                        have hEb : (er != 0) = true := by rw [bne_iff_ne]; exact hE
                        have HSX := HSN.out
                        clear HLL HD
                        obtain ⟨ez, hez⟩ := HSX.r0
                        have HR0 := Lib.hid hez
                        have HR1 := Lib.hid HSX.r1
                        have HBF := Lib.hid HSX.b
                        go_wp2_with (first | (refine wpList_load_row rfl 24 _ rfl (w.heap.size + 1) rfl 24 (entC (⟨m1, (z : Int), m3, m4, 1, 0⟩ : Ent)) (0, 0) _ HR1.out Try.underlying24 rfl ent_size ?_) | (refine wpList_store_row rfl 24 _ _ rfl w.heap.size (entC (⟨m1, (z : Int), m3, m4, 1, 0⟩ : Ent)) rfl rfl 24 (entC ez) HR0.out ent_size rfl (by kernel_rfl) ?_))
                        try simp only [Exit.inBlock, Exit.then]
                        refine bodyPost_ret_by (ret_cell_tmp rfl _ _ w.heap.size (⟨m1, (z : Int), m3, m4, 1, 0⟩ : Ent) (setRow_same HR0.out) rfl) rfl ?_
                        refine ⟨⟨(⟨m1, (z : Int), m3, m4, 1, 0⟩ : Ent), false, rfl, ?_⟩, HBF.out.trans ⟨rfl, rfl, rfl, by simp, fun k hk => setRow_far _ _ _ _ (by omega)⟩⟩
                        rw [rdB_up h6.out (by omega)]
                  · rw [hN, hKK]
                    have h5 : Hid (rdN ((1 : Nat) :: r0) 5 = .error 121) := by show _ = _; rw [rdN_e h4.out (by simp [has])]; simp [rdE, ht]
                    obtain ⟨er, her⟩ : ∃ er, takeE r3 = er := ⟨_, rfl⟩
                    rw [her] at hE ⊢
                    have hEb : (er != 0) = true := by rw [bne_iff_ne]; exact hE
                    have HSX := HSN.out
                    clear HLL HD
                    obtain ⟨ez, hez⟩ := HSX.r0
                    have HR0 := Lib.hid hez
                    have HR1 := Lib.hid HSX.r1
                    have HBF := Lib.hid HSX.b
                    go_wp2_with (first | (refine wpList_load_row rfl 24 _ rfl (w.heap.size + 1) rfl 24 (entC (⟨m1, (z : Int), m3, 0, 1, 0⟩ : Ent)) (0, 0) _ HR1.out Try.underlying24 rfl ent_size ?_) | (refine wpList_store_row rfl 24 _ _ rfl w.heap.size (entC (⟨m1, (z : Int), m3, 0, 1, 0⟩ : Ent)) rfl rfl 24 (entC ez) HR0.out ent_size rfl (by kernel_rfl) ?_))
                    try simp only [Exit.inBlock, Exit.then]
                    refine bodyPost_ret_by (ret_cell_tmp rfl _ _ w.heap.size (⟨m1, (z : Int), m3, 0, 1, 0⟩ : Ent) (setRow_same HR0.out) rfl) rfl ?_
                    refine ⟨⟨(⟨m1, (z : Int), m3, 0, 1, 0⟩ : Ent), false, rfl, ?_⟩, HBF.out.trans ⟨rfl, rfl, rfl, by simp, fun k hk => setRow_far _ _ _ _ (by omega)⟩⟩
                    rw [rdB_up h5.out (by omega)]
              · rw [hN, hKK]
                have h4 : Hid (rdN ((1 : Nat) :: r0) 4 = .error 121) := by show _ = _; rw [rdN_e h3.out (by simp [has])]; simp [rdE, ht]
                obtain ⟨er, her⟩ : ∃ er, takeE r2 = er := ⟨_, rfl⟩
                rw [her] at hE ⊢
                have hEb : (er != 0) = true := by rw [bne_iff_ne]; exact hE
                have HSX := HSA.out
                clear HLL HD
                obtain ⟨ez, hez⟩ := HSX.r0
                have HR0 := Lib.hid hez
                have HR1 := Lib.hid HSX.r1
                have HBF := Lib.hid HSX.b
                go_wp2_with (first | (refine wpList_load_row rfl 24 _ rfl (w.heap.size + 1) rfl 24 (entC (⟨m1, (z : Int), 0, 0, 1, 0⟩ : Ent)) (0, 0) _ HR1.out Try.underlying24 rfl ent_size ?_) | (refine wpList_store_row rfl 24 _ _ rfl w.heap.size (entC (⟨m1, (z : Int), 0, 0, 1, 0⟩ : Ent)) rfl rfl 24 (entC ez) HR0.out ent_size rfl (by kernel_rfl) ?_))
                try simp only [Exit.inBlock, Exit.then]
                refine bodyPost_ret_by (ret_cell_tmp rfl _ _ w.heap.size (⟨m1, (z : Int), 0, 0, 1, 0⟩ : Ent) (setRow_same HR0.out) rfl) rfl ?_
                refine ⟨⟨(⟨m1, (z : Int), 0, 0, 1, 0⟩ : Ent), false, rfl, ?_⟩, HBF.out.trans ⟨rfl, rfl, rfl, by simp, fun k hk => setRow_far _ _ _ _ (by omega)⟩⟩
                rw [rdB_up h4.out (by omega)]
          · exact absurd HKK.out hki
    · rw [hN1, hK1]
      have h2 : Hid (rdN (y0 :: r0) 2 = .error 121) := by show _ = _; rw [rdN_e h1.out rfl]; simp [rdE, ht]
      obtain ⟨er, her⟩ : ∃ er, takeE r0 = er := ⟨_, rfl⟩
      rw [her] at hE1 ⊢
      have hEb : (er != 0) = true := by rw [bne_iff_ne]; exact hE1
      have HS1 := HS.out
      obtain ⟨ez, hez⟩ := HS1.r0
      have HR0 := Lib.hid hez
      have HR1 := Lib.hid HS1.r1
      have HBF := Lib.hid HS1.b
      go_wp2_with (first | (refine wpList_load_row rfl 24 _ rfl (w.heap.size + 1) rfl 24 (entC (⟨0, 0, 0, 0, y0, 0⟩ : Ent)) (0, 0) _ HR1.out Try.underlying24 rfl ent_size ?_) | (refine wpList_store_row rfl 24 _ _ rfl w.heap.size (entC (⟨0, 0, 0, 0, y0, 0⟩ : Ent)) rfl rfl 24 (entC ez) HR0.out ent_size rfl (by kernel_rfl) ?_))
      try simp only [Exit.inBlock, Exit.then]
      refine bodyPost_ret_by (ret_cell_tmp rfl _ _ w.heap.size (⟨0, 0, 0, 0, y0, 0⟩ : Ent) (setRow_same HR0.out) rfl) rfl ?_
      refine ⟨⟨(⟨0, 0, 0, 0, y0, 0⟩ : Ent), false, rfl, ?_⟩, HBF.out.trans ⟨rfl, rfl, rfl, by simp, fun k hk => setRow_far _ _ _ _ (by omega)⟩⟩
      rw [rdB_up h2.out (by omega)]
end Go.Proofs.Ytdoidfnfhidgdaa
