import Derived.Test.YtdoidfnfhidgdaaAF
namespace Go.Proofs.Ytdoidfnfhidgdaa
open Go.RowKit

set_option maxRecDepth 100000 in
set_option maxHeartbeats 8000000 in
theorem refBody_any (e : Ent) (hR : Right e) (w : World) :
    Calls Try.prog 39 #[entV e] w fun x w' => ∃ v, x = .returned v ∧ Own w' w.heap.size v (bodyE e) ∧ Below w.heap.size w w' := by
  obtain ⟨ep, id, nu, se, ki, va⟩ := e
  obtain ⟨r1, r2, r3, r4, r5, r6, r7, r8⟩ := hR
  dsimp only at r1 r2 r3 r4 r5 r6 r7 r8
  obtain ⟨kc, rfl⟩ := Int.eq_ofNat_of_zero_le (show 0 ≤ ki by omega)
  obtain ⟨ne, rfl⟩ := Int.eq_ofNat_of_zero_le (show 0 ≤ ep by omega)
  obtain ⟨ns, rfl⟩ := Int.eq_ofNat_of_zero_le (show 0 ≤ se by omega)
  have hk3 : kc ≤ 3 := by omega
  have hnl := numB_len 8 ne (by omega)
  have HNE : Hid (ne < 9223372036854775808) := Lib.hid (by omega)
  obtain ⟨W1, hW1⟩ : ∃ W1, w.alloc (.cells (entC ⟨ne, id, nu, ns, kc, va⟩) 24) = W1 := ⟨_, rfl⟩
  have l1 : Below w.heap.size w W1 := by rw [← hW1]; exact (Below.refl _ w).alloc (Nat.le_refl _) _
  have b1 : Blk W1 w.heap.size 24 (entC ⟨ne, id, nu, ns, kc, va⟩) := by rw [← hW1]; exact Blk.new w 24 _
  have hs4 : ∀ w', Below W1.heap.size W1 w' → w'.cell? ⟨w.heap.size, 4, none⟩ = some (.int .i64 (kc : Int)) := fun w' h => (b1.below h b1.lt).cell 4
  have hs0 : ∀ w', Below W1.heap.size W1 w' → w'.cell? ⟨w.heap.size, 0, none⟩ = some (.int .i64 (ne : Int)) := fun w' h => (b1.below h b1.lt).cell 0
  have HL := Lib.hid l1
  have HB1 := Lib.hid b1
  have HW : Hid (w.alloc (.cells #[.int .i64 (ne : Int), .int .i64 id, .int .i64 nu, .int .i64 (ns : Int), .int .i64 (kc : Int), .int .i64 va] 24) = W1) := hW1
  have HRR := Lib.hid (show (1 ≤ (ne : Int) ∧ (ne : Int) ≤ 2147483647) ∧ (-1 ≤ id ∧ id ≤ 3) ∧ ((kc : Int) = 1 ∨ (kc : Int) = 2 ∨ (kc : Int) = 3) ∧ (0 ≤ (ns : Int) ∧ (ns : Int) ≤ 2147483647) ∧ (-2147483648 ≤ va ∧ va ≤ 2147483647) ∧ ((kc : Int) ≠ 1 → 0 ≤ id ∧ (ns : Int) = 0 ∧ va = 0) ∧ (id < 0 → nu = 0 ∧ (ns : Int) = 0) ∧ (0 ≤ id → 1 ≤ nu ∧ nu ≤ 2147483647) from ⟨r1, r2, r3, r4, r5, r6, r7, r8⟩)
  clear l1 b1 hW1 r1 r2 r3 r4 r5 r6 r7 r8
  have hwr : IntKind.u8.wrap (kc : Int) = (kc : Int) := by rw [IntKind.wrap_u8]; omega
  unfold entV
  go_enter Try.func39, Try.ntmps39
  go_wp2_with fail
  rw [HW.out]
  refine wp_region_noPanic ?_
  refine wp_region_held_drew (S := fun w' => Below W1.heap.size W1 w') (by kernel_rfl) (below_drew (Below.refl _ _)) (fun hHeld => ?_)
  refine takeH (i := 0) (v := ?_) rfl (by kernel_rfl) (by kernel_rfl) (by kernel_rfl) (fun _ _ _ h => h) (Or.inl ⟨by rfl, ?_⟩) (by assumption) ?_
  rotate_left
  · first | (intro w hSw; (try dsimp only at hSw); go_simp; done) | (intro w hSw; (try dsimp only at hSw); go_simp; with_reducible rfl)
  try simp only [Act.put, List.setIfInBounds_toArray, List.set_cons_zero, List.set_cons_succ]
  refine takeH (i := 1) (v := ?_) rfl (by kernel_rfl) (by kernel_rfl) (by kernel_rfl) (fun _ _ _ h => h) (Or.inl ⟨by rfl, ?_⟩) (by assumption) ?_
  rotate_left
  · first | (intro w hSw; (try dsimp only at hSw); go_simp; done) | (intro w hSw; (try dsimp only at hSw); go_simp; with_reducible rfl)
  try simp only [Act.put, List.setIfInBounds_toArray, List.set_cons_zero, List.set_cons_succ]
  refine takeH (i := 2) (v := ?_) rfl (by kernel_rfl) (by kernel_rfl) (by kernel_rfl) (fun _ _ _ h => h) (Or.inl ⟨by rfl, ?_⟩) (by assumption) ?_
  rotate_left
  · first | (intro w hSw; (try dsimp only at hSw); go_simp; done) | (intro w hSw; (try dsimp only at hSw); go_simp; with_reducible rfl)
  try simp only [Act.put, List.setIfInBounds_toArray, List.set_cons_zero, List.set_cons_succ]
  refine takeH (i := 4) (v := ?_) rfl (by kernel_rfl) (by kernel_rfl) (by kernel_rfl) (fun _ _ _ h => h) (Or.inl ⟨by rfl, ?_⟩) (by assumption) ?_
  rotate_left
  · first | (intro w hSw; (try dsimp only at hSw); go_simp; done) | (intro w hSw; (try dsimp only at hSw); go_simp; with_reducible rfl)
  try simp only [Act.put, List.setIfInBounds_toArray, List.set_cons_zero, List.set_cons_succ]
  refine takeH (i := 5) (v := ?_) rfl (by kernel_rfl) (by kernel_rfl) (by kernel_rfl) (fun _ _ _ h => h) (Or.inl ⟨by rfl, ?_⟩) (by assumption) ?_
  rotate_left
  · first | (intro w hSw; (try dsimp only at hSw); go_simp; done) | (intro w hSw; (try dsimp only at hSw); go_simp; with_reducible rfl)
  try simp only [Act.put, List.setIfInBounds_toArray, List.set_cons_zero, List.set_cons_succ]
  obtain ⟨wd, hwd⟩ : ∃ wd, W1.drew = wd := ⟨_, rfl⟩
  rw [hwd] at hHeld ⊢
  clear hwd
  refine wpAnyH_ready (rs := [3, 6]) (by kernel_rfl) (by simp) ?_
  refine consH (i := 3) rfl (fun K hK => ?_) (consH (i := 6) rfl (fun K hK => ?_) AllReadyH.nil)
  · go_simp
    have ha := own_new wd W1.heap.size kc (by omega) hHeld.size
    have hHa : Below W1.heap.size W1 (wd.alloc (.cells #[.int .u8 (kc : Int)] 5)) := hHeld.alloc hHeld.size _
    refine hK.out _ _ hHa (fun hHeld3 => ?_)
    clear hK K
    try simp only [Act.put, List.setIfInBounds_toArray, List.set_cons_zero, List.set_cons_succ]
    obtain ⟨wa, hwa⟩ : ∃ wa, wd.alloc (.cells #[.int .u8 (kc : Int)] 5) = wa := ⟨_, rfl⟩
    rw [hwa] at ha hHa ⊢
    clear hHeld3 hwa
    refine wpAnyH_ready (rs := [6]) (by kernel_rfl) (by simp) ?_
    refine consH (i := 6) rfl (fun K hK => ?_) AllReadyH.nil
    go_simp
    refine (refNumber_any ne wa HNE.out).mono ?_
    rintro x w4 ⟨v4, rfl, ho4, hb4⟩
    obtain ⟨A4, c4, rfl, _, hby4⟩ := ho4.formN rfl
    have ha4 := ha.below hb4 (Nat.le_refl _)
    have hH4 := hHa.trans (hb4.mono hHa.size)
    go_wp2_with fail
    refine hK.out _ _ hH4 (fun hHeld4 => ?_)
    clear hK K
    try simp only [Act.put, List.setIfInBounds_toArray, List.set_cons_zero, List.set_cons_succ]
    obtain ⟨v5, w5, hr5, ho5, hg5⟩ := run_append_bys w4 W1.heap.size _ _ [kc] (numB ne) ha4 A4 c4 hby4 (by simp; omega) hH4.size
    have HRO := Lib.hid hr5
    clear hr5
    refine wpAnyH_ready (rs := [7]) (by kernel_rfl) (by simp) ?_
    refine consH (i := 7) rfl (fun K hK => ?_) AllReadyH.nil
    rw [if_pos (by rfl)]
    refine Lib.wp_append_run _ _ _ _ _ rfl _ _ rfl rfl _ _ HRO.out ?_
    refine hK.out _ _ (hH4.grown hg5 hH4.size fun g hg => (ha4.1.lt g hg).1) (fun hHeld5 => ?_)
    clear hK K
    try simp only [Act.put, List.setIfInBounds_toArray, List.set_cons_zero, List.set_cons_succ]
    refine takeH (i := 8) (v := ?_) rfl (by kernel_rfl) (by kernel_rfl) (by kernel_rfl) (fun _ _ _ h => h) (Or.inl ⟨by rfl, ?_⟩) (by assumption) ?_
    rotate_left
    · first | (intro w hSw; (try dsimp only at hSw); go_simp; done) | (intro w hSw; (try dsimp only at hSw); go_simp; with_reducible rfl)
    try simp only [Act.put, List.setIfInBounds_toArray, List.set_cons_zero, List.set_cons_succ]
    refine wpAnyH_done (by kernel_rfl) ?_ _
    refine NoPanic.normal ?_
    obtain ⟨⟨a0, a1, a2⟩, a3, a4, a5⟩ := ebox (HB1.out.below hHeld5 HB1.out.lt)
    obtain ⟨r1, r2, r3, r4, r5, r6, r7, r8⟩ := HRR.out
    obtain ⟨ci, hci⟩ := Int.eq_ofNat_of_zero_le (show 0 ≤ id + 1 by omega)
    obtain ⟨r2a, r2b⟩ := r2
    have HCI := Lib.hid hci
    have HS5 := Lib.hid hHeld5.size
    clear hci
    by_cases hid : 0 ≤ id
    · obtain ⟨nn, rfl⟩ := Int.eq_ofNat_of_zero_le (show 0 ≤ nu by have := r8 hid; omega)
      have hnn := r8 hid
      have hl1 := numB_len 8 nn (by omega)
      have hl2 := numB_len 8 ns (by omega)
      have HNN : Hid (nn < 9223372036854775808) := Lib.hid (by omega)
      have HNS : Hid (ns < 9223372036854775808) := Lib.hid (by omega)
      have HID := Lib.hid hid
      by_cases hk : kc = 1
      · subst hk
        have hzl := numB_len 8 (zig va) (by unfold zig; split <;> omega)
        have HVA : Hid (-4611686018427387904 ≤ va ∧ va < 4611686018427387904) := Lib.hid (by omega)
        clear r1 r3 r4 r5 r6 r7 r8 hnn
        go_wp2_with (at_builtin; refine wpList_append_byte rfl _ _ rfl W1.heap.size v5 _ rfl w5 ho5 _ ci (by have := HCI.out; omega) (by have := HCI.out; omega) rfl HS5.out (by simp; omega) ?_; intro v6 w6 ho6 hb6; have hH6 := hHeld5.trans hb6; clear a0 a1 a2 a3 a4 a5; obtain ⟨⟨a0, a1, a2⟩, a3, a4, a5⟩ := ebox (HB1.out.below hH6 HB1.out.lt))
        refine (refNumber_any nn _ HNN.out).mono ?_
        rintro x wa1 ⟨va1, rfl, hoa1, hba1⟩
        obtain ⟨Aa1, ca1, rfl, _, hbya1⟩ := hoa1.formN rfl
        have hp1 := ho6.below hba1 (Nat.le_refl _)
        have hH1 := hH6.trans (hba1.mono hH6.size)
        have hlen1 : (([1] ++ numB ne ++ [ci])).length + (numB nn).length ≤ 1099511627776 := by simp only [List.length_append, List.length_cons, List.length_nil]; omega
        obtain ⟨vb1, wb1, hr1, ho1, hg1⟩ := run_append_bys wa1 W1.heap.size _ _ _ _ hp1 Aa1 ca1 hbya1 hlen1 hH1.size
        have HR1 := Lib.hid hr1
        have hHb1 := hH1.grown hg1 hH1.size fun g hg => (hp1.1.lt g hg).1
        clear a0 a1 a2 a3 a4 a5
        obtain ⟨⟨a0, a1, a2⟩, a3, a4, a5⟩ := ebox (HB1.out.below hHb1 HB1.out.lt)
        clear hr1 hlen1
        go_wp2_with (at_builtin; refine Lib.wpList_append_run _ rfl _ _ _ _ rfl _ _ rfl rfl _ _ HR1.out ?_; clear HR1)
        refine (refNumber_any ns _ HNS.out).mono ?_
        rintro x wa2 ⟨va2, rfl, hoa2, hba2⟩
        obtain ⟨Aa2, ca2, rfl, _, hbya2⟩ := hoa2.formN rfl
        have hp2 := ho1.below hba2 (Nat.le_refl _)
        have hH2 := hHb1.trans (hba2.mono hHb1.size)
        have hlen2 : (([1] ++ numB ne ++ [ci]) ++ numB nn).length + (numB ns).length ≤ 1099511627776 := by simp only [List.length_append, List.length_cons, List.length_nil]; omega
        obtain ⟨vb2, wb2, hr2, ho2, hg2⟩ := run_append_bys wa2 W1.heap.size _ _ _ _ hp2 Aa2 ca2 hbya2 hlen2 hH2.size
        have HR2 := Lib.hid hr2
        have hHb2 := hH2.grown hg2 hH2.size fun g hg => (hp2.1.lt g hg).1
        clear a0 a1 a2 a3 a4 a5
        obtain ⟨⟨a0, a1, a2⟩, a3, a4, a5⟩ := ebox (HB1.out.below hHb2 HB1.out.lt)
        clear hr2 hlen2
        go_wp2_with (at_builtin; refine Lib.wpList_append_run _ rfl _ _ _ _ rfl _ _ rfl rfl _ _ HR2.out ?_; clear HR2)
        refine (refSigned_any va _ HVA.out.1 HVA.out.2).mono ?_
        rintro x wa3 ⟨va3, rfl, hoa3, hba3⟩
        obtain ⟨Aa3, ca3, rfl, _, hbya3⟩ := hoa3.formN rfl
        have hp3 := ho2.below hba3 (Nat.le_refl _)
        have hH3 := hHb2.trans (hba3.mono hHb2.size)
        have hlen3 : (([1] ++ numB ne ++ [ci]) ++ numB nn ++ numB ns).length + (numB (zig va)).length ≤ 1099511627776 := by simp only [List.length_append, List.length_cons, List.length_nil]; omega
        obtain ⟨vb3, wb3, hr3, ho3, hg3⟩ := run_append_bys wa3 W1.heap.size _ _ _ _ hp3 Aa3 ca3 hbya3 hlen3 hH3.size
        have HR3 := Lib.hid hr3
        have hHb3 := hH3.grown hg3 hH3.size fun g hg => (hp3.1.lt g hg).1
        clear a0 a1 a2 a3 a4 a5
        obtain ⟨⟨a0, a1, a2⟩, a3, a4, a5⟩ := ebox (HB1.out.below hHb3 HB1.out.lt)
        clear hr3 hlen3
        go_wp2_with (at_builtin; refine Lib.wpList_append_run _ rfl _ _ _ _ rfl _ _ rfl rfl _ _ HR3.out ?_; clear HR3)
        go_ret
        refine ⟨_, rfl, ?_, HL.out.trans ((hHb3).mono HL.out.size)⟩
        have hfin := (ho3).mono HL.out.size
        have hcn : (id + 1).toNat = ci := by have := HCI.out; omega
        simpa [bodyE, bodyN, pt, List.range_succ, hcn, List.append_assoc, HID.out] using hfin
      · have hk' : ((kc : Int) == 1) = false := beq_eq_false_iff_ne.2 (by omega)
        have hk'' : ¬ (kc : Int) = 1 := by omega
        have HKK := Lib.hid hk
        clear r1 r3 r4 r5 r6 r7 r8 hnn hk
        go_wp2_with (at_builtin; refine wpList_append_byte rfl _ _ rfl W1.heap.size v5 _ rfl w5 ho5 _ ci (by have := HCI.out; omega) (by have := HCI.out; omega) rfl HS5.out (by simp; omega) ?_; intro v6 w6 ho6 hb6; have hH6 := hHeld5.trans hb6; clear a0 a1 a2 a3 a4 a5; obtain ⟨⟨a0, a1, a2⟩, a3, a4, a5⟩ := ebox (HB1.out.below hH6 HB1.out.lt))
        refine (refNumber_any nn _ HNN.out).mono ?_
        rintro x wa1 ⟨va1, rfl, hoa1, hba1⟩
        obtain ⟨Aa1, ca1, rfl, _, hbya1⟩ := hoa1.formN rfl
        have hp1 := ho6.below hba1 (Nat.le_refl _)
        have hH1 := hH6.trans (hba1.mono hH6.size)
        have hlen1 : (([kc] ++ numB ne ++ [ci])).length + (numB nn).length ≤ 1099511627776 := by simp only [List.length_append, List.length_cons, List.length_nil]; omega
        obtain ⟨vb1, wb1, hr1, ho1, hg1⟩ := run_append_bys wa1 W1.heap.size _ _ _ _ hp1 Aa1 ca1 hbya1 hlen1 hH1.size
        have HR1 := Lib.hid hr1
        have hHb1 := hH1.grown hg1 hH1.size fun g hg => (hp1.1.lt g hg).1
        clear a0 a1 a2 a3 a4 a5
        obtain ⟨⟨a0, a1, a2⟩, a3, a4, a5⟩ := ebox (HB1.out.below hHb1 HB1.out.lt)
        clear hr1 hlen1
        go_wp2_with (at_builtin; refine Lib.wpList_append_run _ rfl _ _ _ _ rfl _ _ rfl rfl _ _ HR1.out ?_; clear HR1)
        go_ret
        refine ⟨_, rfl, ?_, HL.out.trans ((hHb1).mono HL.out.size)⟩
        have hfin := (ho1).mono HL.out.size
        have hcn : (id + 1).toNat = ci := by have := HCI.out; omega
        have hyid : 0 ≤ id := by have := HID.out; omega
        have hnk : ¬ (kc : Int) = 1 := by have := HKK.out; omega
        simpa [bodyE, bodyN, pt, List.range_succ, hcn, List.append_assoc, hyid, hnk] using hfin
    · have hk : kc = 1 := by
        rcases r3 with h | h | h
        · omega
        · have := (r6 (by omega)).1; omega
        · have := (r6 (by omega)).1; omega
      subst hk
      have hzl := numB_len 8 (zig va) (by unfold zig; split <;> omega)
      have HVA : Hid (-4611686018427387904 ≤ va ∧ va < 4611686018427387904) := Lib.hid (by omega)
      have HID := Lib.hid hid
      clear r1 r3 r4 r5 r6 r7 r8
      go_wp2_with (at_builtin; refine wpList_append_byte rfl _ _ rfl W1.heap.size v5 _ rfl w5 ho5 _ ci (by have := HCI.out; omega) (by have := HCI.out; omega) rfl HS5.out (by simp; omega) ?_; intro v6 w6 ho6 hb6; have hH6 := hHeld5.trans hb6; clear a0 a1 a2 a3 a4 a5; obtain ⟨⟨a0, a1, a2⟩, a3, a4, a5⟩ := ebox (HB1.out.below hH6 HB1.out.lt))
      refine (refSigned_any va _ HVA.out.1 HVA.out.2).mono ?_
      rintro x wa3 ⟨va3, rfl, hoa3, hba3⟩
      obtain ⟨Aa3, ca3, rfl, _, hbya3⟩ := hoa3.formN rfl
      have hp3 := ho6.below hba3 (Nat.le_refl _)
      have hH3 := hH6.trans (hba3.mono hH6.size)
      have hlen3 : (([1] ++ numB ne ++ [ci])).length + (numB (zig va)).length ≤ 1099511627776 := by simp only [List.length_append, List.length_cons, List.length_nil]; omega
      obtain ⟨vb3, wb3, hr3, ho3, hg3⟩ := run_append_bys wa3 W1.heap.size _ _ _ _ hp3 Aa3 ca3 hbya3 hlen3 hH3.size
      have HR3 := Lib.hid hr3
      have hHb3 := hH3.grown hg3 hH3.size fun g hg => (hp3.1.lt g hg).1
      clear a0 a1 a2 a3 a4 a5
      obtain ⟨⟨a0, a1, a2⟩, a3, a4, a5⟩ := ebox (HB1.out.below hHb3 HB1.out.lt)
      clear hr3 hlen3
      go_wp2_with (at_builtin; refine Lib.wpList_append_run _ rfl _ _ _ _ rfl _ _ rfl rfl _ _ HR3.out ?_; clear HR3)
      go_ret
      refine ⟨_, rfl, ?_, HL.out.trans ((hHb3).mono HL.out.size)⟩
      have hfin := (ho3).mono HL.out.size
      have hcn : (id + 1).toNat = ci := by have := HCI.out; omega
      have hnid : ¬ 0 ≤ id := by have := HID.out; omega
      simpa [bodyE, bodyN, pt, List.range_succ, hcn, List.append_assoc, hnid] using hfin
  · go_simp
    refine (refNumber_any ne wd HNE.out).mono ?_
    rintro x w4 ⟨v4, rfl, ho4, hb4⟩
    obtain ⟨A4, c4, rfl, _, hby4⟩ := ho4.formN rfl
    have hH4 := hHeld.trans (hb4.mono hHeld.size)
    go_wp2_with fail
    refine hK.out _ _ hH4 (fun hHeld4 => ?_)
    clear hK K
    try simp only [Act.put, List.setIfInBounds_toArray, List.set_cons_zero, List.set_cons_succ]
    clear hHeld4
    refine wpAnyH_ready (rs := [3]) (by kernel_rfl) (by simp) ?_
    refine consH (i := 3) rfl (fun K hK => ?_) AllReadyH.nil
    go_simp
    have ha := own_new w4 W1.heap.size kc (by omega) hH4.size
    have hHa : Below W1.heap.size W1 (w4.alloc (.cells #[.int .u8 (kc : Int)] 5)) := hH4.alloc hH4.size _
    have hby4' := hby4.grow ((Below.refl _ w4).alloc (Nat.le_refl _) (.cells #[.int .u8 (kc : Int)] 5))
    refine hK.out _ _ hHa (fun hHeld3 => ?_)
    clear hK K
    try simp only [Act.put, List.setIfInBounds_toArray, List.set_cons_zero, List.set_cons_succ]
    obtain ⟨wa, hwa⟩ : ∃ wa, w4.alloc (.cells #[.int .u8 (kc : Int)] 5) = wa := ⟨_, rfl⟩
    rw [hwa] at ha hHa hby4' ⊢
    clear hHeld3 hwa
    obtain ⟨v5, w5, hr5, ho5, hg5⟩ := run_append_bys wa W1.heap.size _ _ [kc] (numB ne) ha A4 c4 hby4' (by simp; omega) hHa.size
    have HRO := Lib.hid hr5
    clear hr5
    refine wpAnyH_ready (rs := [7]) (by kernel_rfl) (by simp) ?_
    refine consH (i := 7) rfl (fun K hK => ?_) AllReadyH.nil
    rw [if_pos (by rfl)]
    refine Lib.wp_append_run _ _ _ _ _ rfl _ _ rfl rfl _ _ HRO.out ?_
    refine hK.out _ _ (hHa.grown hg5 hHa.size fun g hg => (ha.1.lt g hg).1) (fun hHeld5 => ?_)
    clear hK K
    try simp only [Act.put, List.setIfInBounds_toArray, List.set_cons_zero, List.set_cons_succ]
    refine takeH (i := 8) (v := ?_) rfl (by kernel_rfl) (by kernel_rfl) (by kernel_rfl) (fun _ _ _ h => h) (Or.inl ⟨by rfl, ?_⟩) (by assumption) ?_
    rotate_left
    · first | (intro w hSw; (try dsimp only at hSw); go_simp; done) | (intro w hSw; (try dsimp only at hSw); go_simp; with_reducible rfl)
    try simp only [Act.put, List.setIfInBounds_toArray, List.set_cons_zero, List.set_cons_succ]
    refine wpAnyH_done (by kernel_rfl) ?_ _
    refine NoPanic.normal ?_
    obtain ⟨⟨a0, a1, a2⟩, a3, a4, a5⟩ := ebox (HB1.out.below hHeld5 HB1.out.lt)
    obtain ⟨r1, r2, r3, r4, r5, r6, r7, r8⟩ := HRR.out
    obtain ⟨ci, hci⟩ := Int.eq_ofNat_of_zero_le (show 0 ≤ id + 1 by omega)
    obtain ⟨r2a, r2b⟩ := r2
    have HCI := Lib.hid hci
    have HS5 := Lib.hid hHeld5.size
    clear hci
    by_cases hid : 0 ≤ id
    · obtain ⟨nn, rfl⟩ := Int.eq_ofNat_of_zero_le (show 0 ≤ nu by have := r8 hid; omega)
      have hnn := r8 hid
      have hl1 := numB_len 8 nn (by omega)
      have hl2 := numB_len 8 ns (by omega)
      have HNN : Hid (nn < 9223372036854775808) := Lib.hid (by omega)
      have HNS : Hid (ns < 9223372036854775808) := Lib.hid (by omega)
      have HID := Lib.hid hid
      by_cases hk : kc = 1
      · subst hk
        have hzl := numB_len 8 (zig va) (by unfold zig; split <;> omega)
        have HVA : Hid (-4611686018427387904 ≤ va ∧ va < 4611686018427387904) := Lib.hid (by omega)
        clear r1 r3 r4 r5 r6 r7 r8 hnn
        go_wp2_with (at_builtin; refine wpList_append_byte rfl _ _ rfl W1.heap.size v5 _ rfl w5 ho5 _ ci (by have := HCI.out; omega) (by have := HCI.out; omega) rfl HS5.out (by simp; omega) ?_; intro v6 w6 ho6 hb6; have hH6 := hHeld5.trans hb6; clear a0 a1 a2 a3 a4 a5; obtain ⟨⟨a0, a1, a2⟩, a3, a4, a5⟩ := ebox (HB1.out.below hH6 HB1.out.lt))
        refine (refNumber_any nn _ HNN.out).mono ?_
        rintro x wa1 ⟨va1, rfl, hoa1, hba1⟩
        obtain ⟨Aa1, ca1, rfl, _, hbya1⟩ := hoa1.formN rfl
        have hp1 := ho6.below hba1 (Nat.le_refl _)
        have hH1 := hH6.trans (hba1.mono hH6.size)
        have hlen1 : (([1] ++ numB ne ++ [ci])).length + (numB nn).length ≤ 1099511627776 := by simp only [List.length_append, List.length_cons, List.length_nil]; omega
        obtain ⟨vb1, wb1, hr1, ho1, hg1⟩ := run_append_bys wa1 W1.heap.size _ _ _ _ hp1 Aa1 ca1 hbya1 hlen1 hH1.size
        have HR1 := Lib.hid hr1
        have hHb1 := hH1.grown hg1 hH1.size fun g hg => (hp1.1.lt g hg).1
        clear a0 a1 a2 a3 a4 a5
        obtain ⟨⟨a0, a1, a2⟩, a3, a4, a5⟩ := ebox (HB1.out.below hHb1 HB1.out.lt)
        clear hr1 hlen1
        go_wp2_with (at_builtin; refine Lib.wpList_append_run _ rfl _ _ _ _ rfl _ _ rfl rfl _ _ HR1.out ?_; clear HR1)
        refine (refNumber_any ns _ HNS.out).mono ?_
        rintro x wa2 ⟨va2, rfl, hoa2, hba2⟩
        obtain ⟨Aa2, ca2, rfl, _, hbya2⟩ := hoa2.formN rfl
        have hp2 := ho1.below hba2 (Nat.le_refl _)
        have hH2 := hHb1.trans (hba2.mono hHb1.size)
        have hlen2 : (([1] ++ numB ne ++ [ci]) ++ numB nn).length + (numB ns).length ≤ 1099511627776 := by simp only [List.length_append, List.length_cons, List.length_nil]; omega
        obtain ⟨vb2, wb2, hr2, ho2, hg2⟩ := run_append_bys wa2 W1.heap.size _ _ _ _ hp2 Aa2 ca2 hbya2 hlen2 hH2.size
        have HR2 := Lib.hid hr2
        have hHb2 := hH2.grown hg2 hH2.size fun g hg => (hp2.1.lt g hg).1
        clear a0 a1 a2 a3 a4 a5
        obtain ⟨⟨a0, a1, a2⟩, a3, a4, a5⟩ := ebox (HB1.out.below hHb2 HB1.out.lt)
        clear hr2 hlen2
        go_wp2_with (at_builtin; refine Lib.wpList_append_run _ rfl _ _ _ _ rfl _ _ rfl rfl _ _ HR2.out ?_; clear HR2)
        refine (refSigned_any va _ HVA.out.1 HVA.out.2).mono ?_
        rintro x wa3 ⟨va3, rfl, hoa3, hba3⟩
        obtain ⟨Aa3, ca3, rfl, _, hbya3⟩ := hoa3.formN rfl
        have hp3 := ho2.below hba3 (Nat.le_refl _)
        have hH3 := hHb2.trans (hba3.mono hHb2.size)
        have hlen3 : (([1] ++ numB ne ++ [ci]) ++ numB nn ++ numB ns).length + (numB (zig va)).length ≤ 1099511627776 := by simp only [List.length_append, List.length_cons, List.length_nil]; omega
        obtain ⟨vb3, wb3, hr3, ho3, hg3⟩ := run_append_bys wa3 W1.heap.size _ _ _ _ hp3 Aa3 ca3 hbya3 hlen3 hH3.size
        have HR3 := Lib.hid hr3
        have hHb3 := hH3.grown hg3 hH3.size fun g hg => (hp3.1.lt g hg).1
        clear a0 a1 a2 a3 a4 a5
        obtain ⟨⟨a0, a1, a2⟩, a3, a4, a5⟩ := ebox (HB1.out.below hHb3 HB1.out.lt)
        clear hr3 hlen3
        go_wp2_with (at_builtin; refine Lib.wpList_append_run _ rfl _ _ _ _ rfl _ _ rfl rfl _ _ HR3.out ?_; clear HR3)
        go_ret
        refine ⟨_, rfl, ?_, HL.out.trans ((hHb3).mono HL.out.size)⟩
        have hfin := (ho3).mono HL.out.size
        have hcn : (id + 1).toNat = ci := by have := HCI.out; omega
        simpa [bodyE, bodyN, pt, List.range_succ, hcn, List.append_assoc, HID.out] using hfin
      · have hk' : ((kc : Int) == 1) = false := beq_eq_false_iff_ne.2 (by omega)
        have hk'' : ¬ (kc : Int) = 1 := by omega
        have HKK := Lib.hid hk
        clear r1 r3 r4 r5 r6 r7 r8 hnn hk
        go_wp2_with (at_builtin; refine wpList_append_byte rfl _ _ rfl W1.heap.size v5 _ rfl w5 ho5 _ ci (by have := HCI.out; omega) (by have := HCI.out; omega) rfl HS5.out (by simp; omega) ?_; intro v6 w6 ho6 hb6; have hH6 := hHeld5.trans hb6; clear a0 a1 a2 a3 a4 a5; obtain ⟨⟨a0, a1, a2⟩, a3, a4, a5⟩ := ebox (HB1.out.below hH6 HB1.out.lt))
        refine (refNumber_any nn _ HNN.out).mono ?_
        rintro x wa1 ⟨va1, rfl, hoa1, hba1⟩
        obtain ⟨Aa1, ca1, rfl, _, hbya1⟩ := hoa1.formN rfl
        have hp1 := ho6.below hba1 (Nat.le_refl _)
        have hH1 := hH6.trans (hba1.mono hH6.size)
        have hlen1 : (([kc] ++ numB ne ++ [ci])).length + (numB nn).length ≤ 1099511627776 := by simp only [List.length_append, List.length_cons, List.length_nil]; omega
        obtain ⟨vb1, wb1, hr1, ho1, hg1⟩ := run_append_bys wa1 W1.heap.size _ _ _ _ hp1 Aa1 ca1 hbya1 hlen1 hH1.size
        have HR1 := Lib.hid hr1
        have hHb1 := hH1.grown hg1 hH1.size fun g hg => (hp1.1.lt g hg).1
        clear a0 a1 a2 a3 a4 a5
        obtain ⟨⟨a0, a1, a2⟩, a3, a4, a5⟩ := ebox (HB1.out.below hHb1 HB1.out.lt)
        clear hr1 hlen1
        go_wp2_with (at_builtin; refine Lib.wpList_append_run _ rfl _ _ _ _ rfl _ _ rfl rfl _ _ HR1.out ?_; clear HR1)
        go_ret
        refine ⟨_, rfl, ?_, HL.out.trans ((hHb1).mono HL.out.size)⟩
        have hfin := (ho1).mono HL.out.size
        have hcn : (id + 1).toNat = ci := by have := HCI.out; omega
        have hyid : 0 ≤ id := by have := HID.out; omega
        have hnk : ¬ (kc : Int) = 1 := by have := HKK.out; omega
        simpa [bodyE, bodyN, pt, List.range_succ, hcn, List.append_assoc, hyid, hnk] using hfin
    · have hk : kc = 1 := by
        rcases r3 with h | h | h
        · omega
        · have := (r6 (by omega)).1; omega
        · have := (r6 (by omega)).1; omega
      subst hk
      have hzl := numB_len 8 (zig va) (by unfold zig; split <;> omega)
      have HVA : Hid (-4611686018427387904 ≤ va ∧ va < 4611686018427387904) := Lib.hid (by omega)
      have HID := Lib.hid hid
      clear r1 r3 r4 r5 r6 r7 r8
      go_wp2_with (at_builtin; refine wpList_append_byte rfl _ _ rfl W1.heap.size v5 _ rfl w5 ho5 _ ci (by have := HCI.out; omega) (by have := HCI.out; omega) rfl HS5.out (by simp; omega) ?_; intro v6 w6 ho6 hb6; have hH6 := hHeld5.trans hb6; clear a0 a1 a2 a3 a4 a5; obtain ⟨⟨a0, a1, a2⟩, a3, a4, a5⟩ := ebox (HB1.out.below hH6 HB1.out.lt))
      refine (refSigned_any va _ HVA.out.1 HVA.out.2).mono ?_
      rintro x wa3 ⟨va3, rfl, hoa3, hba3⟩
      obtain ⟨Aa3, ca3, rfl, _, hbya3⟩ := hoa3.formN rfl
      have hp3 := ho6.below hba3 (Nat.le_refl _)
      have hH3 := hH6.trans (hba3.mono hH6.size)
      have hlen3 : (([1] ++ numB ne ++ [ci])).length + (numB (zig va)).length ≤ 1099511627776 := by simp only [List.length_append, List.length_cons, List.length_nil]; omega
      obtain ⟨vb3, wb3, hr3, ho3, hg3⟩ := run_append_bys wa3 W1.heap.size _ _ _ _ hp3 Aa3 ca3 hbya3 hlen3 hH3.size
      have HR3 := Lib.hid hr3
      have hHb3 := hH3.grown hg3 hH3.size fun g hg => (hp3.1.lt g hg).1
      clear a0 a1 a2 a3 a4 a5
      obtain ⟨⟨a0, a1, a2⟩, a3, a4, a5⟩ := ebox (HB1.out.below hHb3 HB1.out.lt)
      clear hr3 hlen3
      go_wp2_with (at_builtin; refine Lib.wpList_append_run _ rfl _ _ _ _ rfl _ _ rfl rfl _ _ HR3.out ?_; clear HR3)
      go_ret
      refine ⟨_, rfl, ?_, HL.out.trans ((hHb3).mono HL.out.size)⟩
      have hfin := (ho3).mono HL.out.size
      have hcn : (id + 1).toNat = ci := by have := HCI.out; omega
      have hnid : ¬ 0 ≤ id := by have := HID.out; omega
      simpa [bodyE, bodyN, pt, List.range_succ, hcn, List.append_assoc, hnid] using hfin
end Go.Proofs.Ytdoidfnfhidgdaa
