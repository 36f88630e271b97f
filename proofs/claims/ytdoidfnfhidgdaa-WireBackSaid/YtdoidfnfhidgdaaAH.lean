import Derived.Test.YtdoidfnfhidgdaaAG
import Derived.Test.YtdoidfnfhidgdaaQ
import Derived.Test.YtdoidfnfhidgdaaAE
namespace Go.Proofs.Ytdoidfnfhidgdaa
open Go.RowKit

set_option maxRecDepth 100000 in
theorem refFrame_any (e : Ent) (hR : Right e) (w : World) :
    Calls Try.prog 19 #[entV e] w fun x w' => ∃ v, x = .returned v ∧ Own w' w.heap.size v (frameE e) ∧ Below w.heap.size w w' := by
  have hlen := bodyN_len e hR 6
  obtain ⟨W1, h1⟩ : ∃ W1, w.alloc (.cells (entC e) 24) = W1 := ⟨_, rfl⟩
  have l1 : Below w.heap.size w W1 := by rw [← h1]; exact (Below.refl _ w).alloc (Nat.le_refl _) _
  have HL := Lib.hid l1
  have HQ := Lib.hid (refBody_any e hR W1)
  have HW : Hid (w.alloc (.cells (entC e) 24) = W1) := h1
  clear h1 l1
  unfold entC at HW
  unfold entV at HQ ⊢
  go_enter Try.func19, Try.ntmps19
  go_wp2_with fail
  rw [HW.out]
  refine HQ.out.mono ?_
  rintro x w2 ⟨v2, rfl, ho2, hb2⟩
  obtain ⟨A2, c2, rfl, _, hby2⟩ := ho2.formN rfl
  have HF := Lib.hid (refFramed_any A2 (bodyE e) c2 w2 hby2 (by unfold bodyE; omega))
  have HB2 : Hid (Below w.heap.size w w2) := HL.out.trans (hb2.mono HL.out.size)
  clear ho2 hb2 hby2
  go_wp2_with fail
  refine HF.out.mono ?_
  rintro x w3 ⟨v3, rfl, ho3, hb3⟩
  have HO3 := Lib.hid ho3
  have HB3 : Hid (Below w.heap.size w w3) := HB2.out.trans (hb3.mono HB2.out.size)
  clear ho3 hb3
  go_wp2_with fail
  go_ret
  exact ⟨v3, rfl, HO3.out.mono HB2.out.size, HB3.out⟩

theorem numB5 {n : Nat} (h : n ≤ 2147483647) : (numB n).length ≤ 5 := numB_len 4 n (by omega)
theorem frameE_len2 (e : Ent) (h : Right e) : (frameE e).length ≤ 40 := by
  obtain ⟨h1, h2, h3, h4, h5, h6, h7, h8⟩ := h
  have e1 := numB5 (n := e.epoch.toNat) (by omega)
  have e2 : (if 0 ≤ e.id then numB e.num.toNat else []).length ≤ 5 := by
    split
    · next hh => have := h8 hh; exact numB5 (by omega)
    · simp
  have e3 : (if e.kind = 1 ∧ 0 ≤ e.id then numB e.seq.toNat else []).length ≤ 5 := by
    split
    · exact numB5 (by omega)
    · simp
  have e4 : (if e.kind = 1 then numB (zig e.value) else []).length ≤ 5 := by
    split
    · exact numB_len 4 _ (by unfold zig; split <;> omega)
    · simp
  have hb : (bodyE e).length ≤ 22 := by
    have : bodyE e = [e.kind.toNat] ++ numB e.epoch.toNat ++ [(e.id + 1).toNat] ++ (if 0 ≤ e.id then numB e.num.toNat else []) ++ (if e.kind = 1 ∧ 0 ≤ e.id then numB e.seq.toNat else []) ++ (if e.kind = 1 then numB (zig e.value) else []) := by
      simp [bodyE, bodyN, pt, List.range_succ]
    rw [this]
    simp only [List.length_append, List.length_cons, List.length_nil]
    omega
  unfold frameE
  simp only [List.length_append, List.length_cons, List.length_nil]
  have : (Crc.le4 (Crc.sum (bodyE e))).length = 4 := by simp [Crc.le4]
  omega

set_option maxRecDepth 100000 in
set_option maxHeartbeats 4000000 in
theorem entries_walk (e : Ent) (w : World) : Calls Try.prog 3 #[entV e] w fun x w' => x = .returned (.bool true) ∧ Below w.heap.size w w' := by
  obtain ⟨W1, h1⟩ : ∃ W1, w.alloc (.cells (entC e) 24) = W1 := ⟨_, rfl⟩
  have l1 : Below w.heap.size w W1 := by rw [← h1]; exact (Below.refl _ w).alloc (Nat.le_refl _) _
  have b1 : Blk W1 w.heap.size 24 (entC e) := by rw [← h1]; exact Blk.new w 24 _
  have HL := Lib.hid l1
  have HB1 := Lib.hid b1
  have HQ := Lib.hid (Frame_any e W1)
  have HRT := Lib.hid (Right_any e)
  have HCK := Lib.hid (Check_any e)
  have HW : Hid (w.alloc (.cells (entC e) 24) = W1) := h1
  clear h1 l1 b1
  unfold entC at HW
  have HE : Hid (entV e = .agg #[.int .i64 e.epoch, .int .i64 e.id, .int .i64 e.num, .int .i64 e.seq, .int .i64 e.kind, .int .i64 e.value]) := rfl
  unfold entV at HQ HRT HCK ⊢
  go_enter Try.func3, Try.ntmps3
  go_wp2_with fail
  rw [HW.out]
  refine HQ.out.mono ?_
  rintro x w2 ⟨hx, hb2⟩
  have HB2 : Hid (Below w.heap.size w w2) := HL.out.trans (hb2.mono HL.out.size)
  have HK2 : Hid (Blk w2 w.heap.size 24 (entC e)) := HB1.out.below hb2 HB1.out.lt
  obtain ⟨⟨a0, a1, a2⟩, a3, a4, a5⟩ := ebox HK2.out
  rcases hx with ⟨hR, v, rfl, ho⟩ | ⟨hR, rfl⟩
  · have hrt := HRT.out
    rw [decide_eq_true hR] at hrt
    have hck := HCK.out
    rw [if_pos hR] at hck
    have hfl := frameE_len2 e hR
    obtain ⟨A, c, rfl, _, hby⟩ := ho.formN rfl
    have HRF := Lib.hid (refFrame_any e hR)
    rw [HE.out] at HRF
    have HRT2 := Lib.hid hrt
    have HCK2 := Lib.hid hck
    have HBY := Lib.hid hby
    clear hrt hck ho hby hR hb2 HQ HRT HCK HB1 HE
    go_wp2_with fail
    refine (HRT2.out _).mono ?_
    rintro x w3 ⟨rfl, hb3⟩
    have HB3 : Hid (Below w.heap.size w w3) := HB2.out.trans (hb3.mono HB2.out.size)
    have HK3 : Hid (Blk w3 w.heap.size 24 (entC e)) := HK2.out.below hb3 HK2.out.lt
    have HBY3 := Lib.hid (HBY.out.grow hb3)
    have hcv : ∀ w', Below w3.heap.size w3 w' → (convert 25 9 (.slice A (frameE e).length c)).run Try.prog w' = .ok (.string (str (frameE e))) w' := fun w' h => conv_any w' _ A (frameE e) c (HBY3.out.grow h)
    have hs0 : ∀ w', Below w3.heap.size w3 w' → w'.cell? ⟨w.heap.size, 0, none⟩ = some (.int .i64 e.epoch) := fun w' h => (HK3.out.below h HK3.out.lt).cell 0
    have hs1 : ∀ w', Below w3.heap.size w3 w' → w'.cell? ⟨w.heap.size, 1, none⟩ = some (.int .i64 e.id) := fun w' h => (HK3.out.below h HK3.out.lt).cell 1
    have hs2 : ∀ w', Below w3.heap.size w3 w' → w'.cell? ⟨w.heap.size, 2, none⟩ = some (.int .i64 e.num) := fun w' h => (HK3.out.below h HK3.out.lt).cell 2
    have hs3 : ∀ w', Below w3.heap.size w3 w' → w'.cell? ⟨w.heap.size, 3, none⟩ = some (.int .i64 e.seq) := fun w' h => (HK3.out.below h HK3.out.lt).cell 3
    have hs4 : ∀ w', Below w3.heap.size w3 w' → w'.cell? ⟨w.heap.size, 4, none⟩ = some (.int .i64 e.kind) := fun w' h => (HK3.out.below h HK3.out.lt).cell 4
    have hs5 : ∀ w', Below w3.heap.size w3 w' → w'.cell? ⟨w.heap.size, 5, none⟩ = some (.int .i64 e.value) := fun w' h => (HK3.out.below h HK3.out.lt).cell 5
    obtain ⟨F, hF⟩ : ∃ F, (frameE e).length = F := ⟨_, rfl⟩
    have HFE := Lib.hid hF
    rw [hF] at hcv hfl ⊢
    clear hb3 hF a0 a1 a2 a3 a4 a5
    have hfli : (F : Int) ≤ 40 := by omega
    go_wp2_with fail
    refine wp_region_noPanic ?_
    refine wp_region_held_drew (S := fun w' => Below w3.heap.size w3 w') (by kernel_rfl) (below_drew (Below.refl _ _)) (fun hHeld => ?_)
    refine takeH (i := 0) (v := ?_) rfl (by kernel_rfl) (by kernel_rfl) (by kernel_rfl) (fun _ _ _ h => h) (Or.inl ⟨by rfl, ?_⟩) (by assumption) ?_
    rotate_left
    · first | (intro w hSw; (try dsimp only at hSw); go_simp; done) | (intro w hSw; (try dsimp only at hSw); go_simp; with_reducible rfl)
    try simp only [Act.put, List.setIfInBounds_toArray, List.set_cons_zero, List.set_cons_succ]
    refine takeH (i := 1) (v := ?_) rfl (by kernel_rfl) (by kernel_rfl) (by kernel_rfl) (fun _ _ _ h => h) (Or.inl ⟨by rfl, ?_⟩) (by assumption) ?_
    rotate_left
    · first | (intro w hSw; (try dsimp only at hSw); go_simp; done) | (intro w hSw; (try dsimp only at hSw); go_simp; with_reducible rfl)
    try simp only [Act.put, List.setIfInBounds_toArray, List.set_cons_zero, List.set_cons_succ]
    refine takeH (i := 2) (v := ?_) rfl (by kernel_rfl) (by kernel_rfl) (by kernel_rfl) (fun _ _ _ h => h) (Or.inl ⟨by rfl, ?_⟩) (by assumption) ?_
    rotate_left
    · first | (intro w hSw; (try dsimp only at hSw); go_simp; done) | (intro w hSw; (try dsimp only at hSw); go_simp; with_reducible rfl)
    try simp only [Act.put, List.setIfInBounds_toArray, List.set_cons_zero, List.set_cons_succ]
    obtain ⟨wd, hwd⟩ : ∃ wd, w3.drew = wd := ⟨_, rfl⟩
    rw [hwd] at hHeld ⊢
    clear hwd
    refine wpAnyH_ready (rs := [3]) (by kernel_rfl) (by simp) ?_
    refine consH (i := 3) rfl (fun K hK => ?_) AllReadyH.nil
    go_simp
    refine (HRF.out _).mono ?_
    rintro x w4 ⟨v4, rfl, ho4, hb4⟩
    obtain ⟨A4, c4, rfl, _, hby4⟩ := ho4.formN HFE.out
    have hcv4 := conv_any w4 _ A4 (frameE e) c4 hby4
    rw [HFE.out] at hcv4
    have hH4 := hHeld.trans (hb4.mono hHeld.size)
    clear ho4 hb4 hby4
    go_wp2_with fail
    refine hK.out _ _ hH4 (fun hHeld4 => ?_)
    clear hK K
    try simp only [Act.put, List.setIfInBounds_toArray, List.set_cons_zero, List.set_cons_succ]
    refine wpAnyH_ready (rs := [4]) (by kernel_rfl) (by simp) ?_
    refine consH (i := 4) rfl (fun K hK => ?_) AllReadyH.nil
    go_simp
    refine hK.out _ _ hH4 (fun hHeld5 => ?_)
    clear hK K
    try simp only [Act.put, List.setIfInBounds_toArray, List.set_cons_zero, List.set_cons_succ]
    clear hHeld4 hHeld5
    refine takeH (i := 5) (v := ?_) rfl (by kernel_rfl) (by kernel_rfl) (by kernel_rfl) (fun _ _ _ h => h) (Or.inl ⟨by rfl, ?_⟩) (by assumption) ?_
    rotate_left
    · first | (intro w hSw; (try dsimp only at hSw); go_simp; done) | (intro w hSw; (try dsimp only at hSw); go_simp; with_reducible rfl)
    try simp only [Act.put, List.setIfInBounds_toArray, List.set_cons_zero, List.set_cons_succ]
    refine takeH (i := 6) (v := ?_) rfl (by kernel_rfl) (by kernel_rfl) (by kernel_rfl) (fun _ _ _ h => h) (Or.inl ⟨by rfl, ?_⟩) (by assumption) ?_
    rotate_left
    · first | (intro w hSw; (try dsimp only at hSw); go_simp; done) | (intro w hSw; (try dsimp only at hSw); go_simp; with_reducible rfl)
    try simp only [Act.put, List.setIfInBounds_toArray, List.set_cons_zero, List.set_cons_succ]
    refine takeH (i := 7) (v := ?_) rfl (by kernel_rfl) (by kernel_rfl) (by kernel_rfl) (fun _ _ _ h => h) (Or.inl ⟨by rfl, ?_⟩) (by assumption) ?_
    rotate_left
    · first | (intro w hSw; (try dsimp only at hSw); go_simp; done) | (intro w hSw; (try dsimp only at hSw); go_simp; with_reducible rfl)
    try simp only [Act.put, List.setIfInBounds_toArray, List.set_cons_zero, List.set_cons_succ]
    refine takeH (i := 8) (v := ?_) rfl (by kernel_rfl) (by kernel_rfl) (by kernel_rfl) (fun _ _ _ h => h) (Or.inl ⟨by rfl, ?_⟩) (by assumption) ?_
    rotate_left
    · first | (intro w hSw; (try dsimp only at hSw); go_simp; done) | (intro w hSw; (try dsimp only at hSw); go_simp; with_reducible rfl)
    try simp only [Act.put, List.setIfInBounds_toArray, List.set_cons_zero, List.set_cons_succ]
    refine takeH (i := 9) (v := ?_) rfl (by kernel_rfl) (by kernel_rfl) (by kernel_rfl) (fun _ _ _ h => h) (Or.inl ⟨by rfl, ?_⟩) (by assumption) ?_
    rotate_left
    · first | (intro w hSw; (try dsimp only at hSw); go_simp; done) | (intro w hSw; (try dsimp only at hSw); go_simp; with_reducible rfl)
    try simp only [Act.put, List.setIfInBounds_toArray, List.set_cons_zero, List.set_cons_succ]
    refine takeH (i := 10) (v := ?_) rfl (by kernel_rfl) (by kernel_rfl) (by kernel_rfl) (fun _ _ _ h => h) (Or.inl ⟨by rfl, ?_⟩) (by assumption) ?_
    rotate_left
    · first | (intro w hSw; (try dsimp only at hSw); go_simp; done) | (intro w hSw; (try dsimp only at hSw); go_simp; with_reducible rfl)
    try simp only [Act.put, List.setIfInBounds_toArray, List.set_cons_zero, List.set_cons_succ]
    refine takeH (i := 11) (v := ?_) rfl (by kernel_rfl) (by kernel_rfl) (by kernel_rfl) (fun _ _ _ h => h) (Or.inl ⟨by rfl, ?_⟩) (by assumption) ?_
    rotate_left
    · first | (intro w hSw; (try dsimp only at hSw); go_simp; done) | (intro w hSw; (try dsimp only at hSw); go_simp; with_reducible rfl)
    try simp only [Act.put, List.setIfInBounds_toArray, List.set_cons_zero, List.set_cons_succ]
    refine takeH (i := 12) (v := ?_) rfl (by kernel_rfl) (by kernel_rfl) (by kernel_rfl) (fun _ _ _ h => h) (Or.inl ⟨by rfl, ?_⟩) (by assumption) ?_
    rotate_left
    · first | (intro w hSw; (try dsimp only at hSw); go_simp; done) | (intro w hSw; (try dsimp only at hSw); go_simp; with_reducible rfl)
    try simp only [Act.put, List.setIfInBounds_toArray, List.set_cons_zero, List.set_cons_succ]
    refine wpAnyH_ready (rs := [13]) (by kernel_rfl) (by simp) ?_
    refine consH (i := 13) rfl (fun K hK => ?_) AllReadyH.nil
    go_simp
    refine (num_any _ _).mono ?_
    rintro x w5 ⟨rfl, rfl⟩
    go_wp2_with fail
    refine hK.out _ _ hH4 (fun hHeld6 => ?_)
    clear hK K
    try simp only [Act.put, List.setIfInBounds_toArray, List.set_cons_zero, List.set_cons_succ]
    clear hHeld6
    refine takeH (i := 14) (v := ?_) rfl (by kernel_rfl) (by kernel_rfl) (by kernel_rfl) (fun _ _ _ h => h) (Or.inl ⟨by rfl, ?_⟩) (by assumption) ?_
    rotate_left
    · first | (intro w hSw; (try dsimp only at hSw); go_simp; done) | (intro w hSw; (try dsimp only at hSw); go_simp; with_reducible rfl)
    try simp only [Act.put, List.setIfInBounds_toArray, List.set_cons_zero, List.set_cons_succ]
    refine takeH (i := 15) (v := ?_) rfl (by kernel_rfl) (by kernel_rfl) (by kernel_rfl) (fun _ _ _ h => h) (Or.inl ⟨by rfl, ?_⟩) (by assumption) ?_
    rotate_left
    · first | (intro w hSw; (try dsimp only at hSw); go_simp; done) | (intro w hSw; (try dsimp only at hSw); go_simp; with_reducible rfl)
    try simp only [Act.put, List.setIfInBounds_toArray, List.set_cons_zero, List.set_cons_succ]
    refine takeH (i := 16) (v := ?_) rfl (by kernel_rfl) (by kernel_rfl) (by kernel_rfl) (fun _ _ _ h => h) (Or.inl ⟨by rfl, ?_⟩) (by assumption) ?_
    rotate_left
    · first | (intro w hSw; (try dsimp only at hSw); go_simp; done) | (intro w hSw; (try dsimp only at hSw); go_simp; with_reducible rfl)
    try simp only [Act.put, List.setIfInBounds_toArray, List.set_cons_zero, List.set_cons_succ]
    refine takeH (i := 17) (v := ?_) rfl (by kernel_rfl) (by kernel_rfl) (by kernel_rfl) (fun _ _ _ h => h) (Or.inl ⟨by rfl, ?_⟩) (by assumption) ?_
    rotate_left
    · first | (intro w hSw; (try dsimp only at hSw); go_simp; done) | (intro w hSw; (try dsimp only at hSw); go_simp; with_reducible rfl)
    try simp only [Act.put, List.setIfInBounds_toArray, List.set_cons_zero, List.set_cons_succ]
    refine wpAnyH_ready (rs := [18]) (by kernel_rfl) (by simp) ?_
    refine consH (i := 18) rfl (fun K hK => ?_) AllReadyH.nil
    go_simp
    refine (HCK2.out _).mono ?_
    rintro x w5 ⟨rfl, hb5⟩
    have hH5 := hH4.trans (hb5.mono hH4.size)
    clear hb5
    go_wp2_with fail
    refine hK.out _ _ hH5 (fun hHeld7 => ?_)
    clear hK K
    try simp only [Act.put, List.setIfInBounds_toArray, List.set_cons_zero, List.set_cons_succ]
    clear hHeld7
    refine wpAnyH_ready (rs := [19]) (by kernel_rfl) (by simp) ?_
    refine consH (i := 19) rfl (fun K hK => ?_) AllReadyH.nil
    go_simp
    refine (num_any _ _).mono ?_
    rintro x w6 ⟨rfl, rfl⟩
    go_wp2_with fail
    refine hK.out _ _ hH5 (fun hHeld8 => ?_)
    clear hK K
    try simp only [Act.put, List.setIfInBounds_toArray, List.set_cons_zero, List.set_cons_succ]
    clear hHeld8
    refine takeH (i := 20) (v := ?_) rfl (by kernel_rfl) (by kernel_rfl) (by kernel_rfl) (fun _ _ _ h => h) (Or.inl ⟨by rfl, ?_⟩) (by assumption) ?_
    rotate_left
    · first | (intro w hSw; (try dsimp only at hSw); go_simp; done) | (intro w hSw; (try dsimp only at hSw); go_simp; with_reducible rfl)
    try simp only [Act.put, List.setIfInBounds_toArray, List.set_cons_zero, List.set_cons_succ]
    refine takeH (i := 21) (v := ?_) rfl (by kernel_rfl) (by kernel_rfl) (by kernel_rfl) (fun _ _ _ h => h) (Or.inl ⟨by rfl, ?_⟩) (by assumption) ?_
    rotate_left
    · first | (intro w hSw; (try dsimp only at hSw); go_simp; done) | (intro w hSw; (try dsimp only at hSw); go_simp; with_reducible rfl)
    try simp only [Act.put, List.setIfInBounds_toArray, List.set_cons_zero, List.set_cons_succ]
    refine takeH (i := 22) (v := ?_) rfl (by kernel_rfl) (by kernel_rfl) (by kernel_rfl) (fun _ _ _ h => h) (Or.inl ⟨by rfl, ?_⟩) (by assumption) ?_
    rotate_left
    · first | (intro w hSw; (try dsimp only at hSw); go_simp; done) | (intro w hSw; (try dsimp only at hSw); go_simp; with_reducible rfl)
    try simp only [Act.put, List.setIfInBounds_toArray, List.set_cons_zero, List.set_cons_succ]
    refine wpAnyH_ready (rs := [23]) (by kernel_rfl) (by simp) ?_
    refine consH (i := 23) rfl (fun K hK => ?_) AllReadyH.nil
    go_simp
    refine (works_any _).mono ?_
    rintro x w6 ⟨rfl, hb6⟩
    have hH6 := hH5.trans (hb6.mono hH5.size)
    clear hb6
    go_wp2_with fail
    refine hK.out _ _ hH6 (fun hHeld9 => ?_)
    clear hK K
    try simp only [Act.put, List.setIfInBounds_toArray, List.set_cons_zero, List.set_cons_succ]
    clear hHeld9
    refine takeH (i := 24) (v := ?_) rfl (by kernel_rfl) (by kernel_rfl) (by kernel_rfl) (fun _ _ _ h => h) (Or.inl ⟨by rfl, ?_⟩) (by assumption) ?_
    rotate_left
    · first | (intro w hSw; (try dsimp only at hSw); go_simp; done) | (intro w hSw; (try dsimp only at hSw); go_simp; with_reducible rfl)
    try simp only [Act.put, List.setIfInBounds_toArray, List.set_cons_zero, List.set_cons_succ]
    refine takeH (i := 25) (v := ?_) rfl (by kernel_rfl) (by kernel_rfl) (by kernel_rfl) (fun _ _ _ h => h) (Or.inl ⟨by rfl, ?_⟩) (by assumption) ?_
    rotate_left
    · first | (intro w hSw; (try dsimp only at hSw); go_simp; done) | (intro w hSw; (try dsimp only at hSw); go_simp; with_reducible rfl)
    try simp only [Act.put, List.setIfInBounds_toArray, List.set_cons_zero, List.set_cons_succ]
    refine wpAnyH_done (by kernel_rfl) ?_ _
    refine NoPanic.normal ?_
    go_wp2_with fail
    go_ret
    exact ⟨rfl, HB3.out.trans (hH6.mono HB3.out.size)⟩
  · have hrt := HRT.out
    rw [decide_eq_false hR] at hrt
    have hck := HCK.out
    rw [if_neg hR] at hck
    have HRT2 := Lib.hid hrt
    have HCK2 := Lib.hid hck
    clear hrt hck hR hb2 HQ HRT HCK HB1 HE
    go_wp2_with fail
    refine (HRT2.out _).mono ?_
    rintro x w3 ⟨rfl, hb3⟩
    have HB3 : Hid (Below w.heap.size w w3) := HB2.out.trans (hb3.mono HB2.out.size)
    have HK3 : Hid (Blk w3 w.heap.size 24 (entC e)) := HK2.out.below hb3 HK2.out.lt
    clear hb3 a0 a1 a2 a3 a4 a5
    obtain ⟨⟨a0, a1, a2⟩, a3, a4, a5⟩ := ebox HK3.out
    go_wp2_with fail
    refine (num_any _ _).mono ?_
    rintro x w4 ⟨rfl, rfl⟩
    go_wp2_with fail
    refine (HCK2.out _).mono ?_
    rintro x w4 ⟨rfl, hb4⟩
    have HB4 : Hid (Below w.heap.size w w4) := HB3.out.trans (hb4.mono HB3.out.size)
    clear hb4
    go_wp2_with fail
    refine (num_any _ _).mono ?_
    rintro x w5 ⟨rfl, rfl⟩
    go_wp2_with fail
    refine (works_any _).mono ?_
    rintro x w5 ⟨rfl, hb5⟩
    have HB5 : Hid (Below w.heap.size w w5) := HB4.out.trans (hb5.mono HB4.out.size)
    clear hb5
    go_wp2_with fail
    go_ret
    exact ⟨rfl, HB5.out⟩
end Go.Proofs.Ytdoidfnfhidgdaa
