import Derived.Test.YtdoidfnfhidgdaaBB
import Derived.Test.YtdoidfnfhidgdaaAE
import Derived.StillTailTactics
namespace Go.Proofs.Ytdoidfnfhidgdaa
open Go.RowKit

theorem Row8.lt {w : World} {g n : Nat} (h : Row8 w g n) : g < w.heap.size := by
  obtain ⟨cs, h1, _⟩ := h
  exact h1.lt
theorem Own.bysS {w : World} {base g n c : Nat} {xs : List Nat} (h : Own w base (.slice (some ⟨g, 0, none⟩) n c) xs) : Bys w w.heap.size (some ⟨g, 0, none⟩) xs := by
  obtain ⟨A, c2, e, _, hb⟩ := h.form
  injection e with e1
  rw [e1]
  exact hb

set_option maxRecDepth 100000 in
set_option maxHeartbeats 4000000 in
theorem back_no (A A1 : Option Addr) (l : List Ent) (bs : List Nat) (c c1 : Nat) (x0 x1 x2 : Int) (w : World) (ha : Ents w w.heap.size A l) (h60 : l.length ≤ 60) (h200 : bs.length ≤ 200) (hno : ¬ ∀ e ∈ l, Right e) :
    Calls Try.prog 12 #[.slice A l.length c, .slice A1 bs.length c1, .agg #[.int .i64 x0, .int .i64 x1, .int .i64 x2]] w fun e w' => e = .returned (.bool true) ∧ Below w.heap.size w w' := by
  obtain ⟨w0, hw0⟩ : ∃ w0, w.alloc (.cells #[.int .i64 x0, .int .i64 x1, .int .i64 x2] 57) = w0 := ⟨_, rfl⟩
  have hbw0 : Below w.heap.size w w0 := by rw [← hw0]; exact (Below.refl _ w).alloc (Nat.le_refl _) _
  have HW0 := Lib.hid hw0
  have hq : Calls Try.prog 20 #[.slice A l.length c] w0 fun x w' => x = .returned (.tuple #[.slice none 0 0, .int .i64 2]) ∧ Below w0.heap.size w0 w' := by
    refine (Frames_any A l c w0 (ha.grow hbw0) (by omega)).mono ?_
    rintro x w' ⟨⟨hn, _⟩ | ⟨_, hx⟩, hb⟩
    · exact absurd hn hno
    · exact ⟨hx, hb⟩
  have HQ := Lib.hid hq
  have HB0 := Lib.hid hbw0
  have hi1 : ¬ ((60 : Int) < (l.length : Int)) := by omega
  have hi2 : ¬ ((200 : Int) < (bs.length : Int)) := by omega
  clear hq hno ha hw0 hbw0
  go_enter Try.func12, Try.ntmps12
  go_wp2_with fail
  rw [HW0.out]
  refine HQ.out.mono ?_
  rintro e w3 ⟨rfl, hb3⟩
  go_wp2_with fail
  refine (num_any _ _).mono ?_
  rintro x wn ⟨rfl, hwn⟩
  subst hwn
  go_wp2_with fail
  refine (works_any _).mono ?_
  rintro e w4 ⟨rfl, hb4⟩
  go_wp2_with fail
  go_ret
  exact ⟨rfl, HB0.out.trans ((hb3.trans (hb4.mono hb3.size)).mono HB0.out.size)⟩

set_option maxRecDepth 100000 in
set_option maxHeartbeats 4000000 in
theorem back_yes (A A1 : Option Addr) (l : List Ent) (bs : List Nat) (c c1 : Nat) (x0 x1 x2 : Int) (w : World) (ha : Ents w w.heap.size A l) (hb : Bys w w.heap.size A1 bs) (h60 : l.length ≤ 60) (h200 : bs.length ≤ 200) (hall : ∀ e ∈ l, Right e)
    (hx0 : -9223372036854775808 ≤ x0 ∧ x0 ≤ 9223372036854775807) (hx1 : -9223372036854775808 ≤ x1 ∧ x1 ≤ 9223372036854775807) (hx2 : -9223372036854775808 ≤ x2 ∧ x2 ≤ 9223372036854775807) :
    Calls Try.prog 12 #[.slice A l.length c, .slice A1 bs.length c1, .agg #[.int .i64 x0, .int .i64 x1, .int .i64 x2]] w fun e w' => e = .returned (.bool true) ∧ Below w.heap.size w w' := by
  obtain ⟨w0, hw0⟩ : ∃ w0, w.alloc (.cells #[.int .i64 x0, .int .i64 x1, .int .i64 x2] 57) = w0 := ⟨_, rfl⟩
  have hbw0 : Below w.heap.size w w0 := by rw [← hw0]; exact (Below.refl _ w).alloc (Nat.le_refl _) _
  have hbox0 : Blk w0 w.heap.size 57 #[.int .i64 x0, .int .i64 x1, .int .i64 x2] := by rw [← hw0]; exact Blk.new w 57 _
  have HW0 := Lib.hid hw0
  have hq : Calls Try.prog 20 #[.slice A l.length c] w0 fun x w' => ∃ v, x = .returned (.tuple #[v, .int .i64 0]) ∧ Own w' w0.heap.size v (l.flatMap frameE) ∧ Below w0.heap.size w0 w' := by
    refine (Frames_any A l c w0 (ha.grow hbw0) (by omega)).mono ?_
    rintro x w' ⟨⟨_, v, hx, ho⟩ | ⟨hn, _⟩, hb⟩
    · exact ⟨v, hx, ho, hb⟩
    · exact absurd hall hn
  have HQ := Lib.hid hq
  have HB0 := Lib.hid hbw0
  have HX0 := Lib.hid hbox0
  have HA := Lib.hid ha
  have HY := Lib.hid hb
  have HALL := Lib.hid hall
  have hi1 : ¬ ((60 : Int) < (l.length : Int)) := by omega
  have hi2 : ¬ ((200 : Int) < (bs.length : Int)) := by omega
  have hfl := frames_len l hall
  obtain ⟨sa1, sa2, sa3⟩ := scan_all l hall
  obtain ⟨FL, hFL⟩ : ∃ N, (l.flatMap frameE).length = N := ⟨_, rfl⟩
  obtain ⟨tt, sb1, sb2⟩ := scan_behind l hall bs FL hFL
  obtain ⟨F, hF⟩ : ∃ F, l.flatMap frameE = F := ⟨_, rfl⟩
  rw [hF] at HQ sa1 sa2 sa3 hFL sb1 sb2
  rw [hF, hFL] at hfl
  obtain ⟨Z, hZ⟩ : ∃ N, (F ++ bs).length = N := ⟨_, rfl⟩
  have HZL : Hid (Z = FL + bs.length) := by show _ = _; rw [← hZ, List.length_append, hFL]
  have HSA1 := Lib.hid sa1
  have HSA2 := Lib.hid sa2
  have HSA3 := Lib.hid sa3
  have HSB1 := Lib.hid sb1
  obtain ⟨G2, hG2⟩ : ∃ G, goodL (scanL (F ++ bs).length 0 (F ++ bs)).1 = G := ⟨_, rfl⟩
  obtain ⟨Y2, hY2⟩ : ∃ G, (scanL (F ++ bs).length 0 (F ++ bs)).2 = G := ⟨_, rfl⟩
  rw [hG2] at sb2
  have HFL := Lib.hid hFL
  have HZ := Lib.hid hZ
  have HG2 := Lib.hid hG2
  have HY2 := Lib.hid hY2
  have hg2 : ¬ (G2 < (FL : Int)) := by omega
  have hFL4 : FL ≤ 3540 := by omega
  clear hq ha hb hall hw0 hbw0 hbox0 sa1 sa2 sa3 sb1 sb2 hFL hF hZ hG2 hY2 hfl
  go_enter Try.func12, Try.ntmps12
  go_wp2_with fail
  rw [HW0.out]
  refine HQ.out.mono ?_
  rintro e w2 ⟨v2, rfl, ho2, hb2⟩
  obtain ⟨A2, c2, rfl, hc2, hy2⟩ := ho2.formN HFL.out
  have HB2 : Hid (Below w.heap.size w w2) := HB0.out.trans (hb2.mono HB0.out.size)
  have HX2 : Hid (Blk w2 w.heap.size 57 #[.int .i64 x0, .int .i64 x1, .int .i64 x2]) := HX0.out.below hb2 HX0.out.lt
  have hQ1 := All_any A2 F c2 w2 hy2 (by rw [HFL.out]; exact hc2) (by rw [HFL.out]; omega)
  rw [HSA1.out, HSA2.out, HSA3.out, HFL.out] at hQ1
  have HQ1 := Lib.hid hQ1
  have HY2' := Lib.hid hy2
  clear ho2 hb2 hQ1 hy2 HQ HB0 HX0
  go_wp2_with fail
  refine (num_any _ _).mono ?_
  rintro x wn ⟨rfl, hwn⟩
  subst hwn
  go_wp2_with fail
  refine HQ1.out.mono ?_
  rintro e w3 ⟨v3, rfl, ho3, hb3⟩
  obtain ⟨A3, c3, rfl, _, hen3⟩ := ho3.form
  obtain ⟨W4, hW4⟩ : ∃ W4, w3.alloc (.cells (outC (.slice A3 l.length c3) FL 0) 52) = W4 := ⟨_, rfl⟩
  have e4 : w3.alloc (.cells #[.slice A3 l.length c3, .int .i64 FL, .int .i64 0] 52) = W4 := hW4
  have hb34 : Below w3.heap.size w3 W4 := by rw [← hW4]; exact (Below.refl _ _).alloc (Nat.le_refl _) _
  have hb24 : Below w2.heap.size w2 W4 := hb3.trans (hb34.mono hb3.size)
  have HB4 : Hid (Below w.heap.size w W4) := HB2.out.trans (hb24.mono HB2.out.size)
  have HX4 : Hid (Blk W4 w.heap.size 57 #[.int .i64 x0, .int .i64 x1, .int .i64 x2]) := HX2.out.below hb24 HX2.out.lt
  have HK4 : Hid (Blk W4 w3.heap.size 52 (outC (.slice A3 l.length c3) FL 0)) := by show Blk _ _ _ _; rw [← hW4]; exact Blk.new _ _ _
  have HE4 := Lib.hid (hen3.grow hb34)
  obtain ⟨r1, y1, r2, w5, hr1, hr2, hor, hbr⟩ := copy2_run W4 A2 A1 F bs c2 c1 (HY2'.out.grow hb24) (HY.out.grow HB4.out) (by rw [HFL.out]; omega)
  rw [HFL.out, ← e4, World.size_alloc] at hr1
  obtain ⟨Ar, cr, rfl, hcr, hyr⟩ := hor.formN HZ.out
  have hzl := HZL.out
  have hQ2 := All_any Ar (F ++ bs) cr w5 hyr (by rw [HZ.out]; exact hcr) (by rw [HZ.out]; omega)
  rw [HSB1.out, HG2.out, HY2.out, HZ.out] at hQ2
  have HQ2 := Lib.hid hQ2
  have HR1 := Lib.hid hr1
  have HR2 := Lib.hid hr2
  have HB5 : Hid (Below w.heap.size w w5) := HB4.out.trans (hbr.mono HB4.out.size)
  have HX5 : Hid (Blk w5 w.heap.size 57 #[.int .i64 x0, .int .i64 x1, .int .i64 x2]) := HX4.out.below hbr HX4.out.lt
  have HK5 : Hid (Blk w5 w3.heap.size 52 (outC (.slice A3 l.length c3) FL 0)) := HK4.out.below hbr HK4.out.lt
  have HE5 := Lib.hid (HE4.out.grow hbr)
  have HCR := Lib.hid hcr
  clear e4 hb3 ho3 hen3 hW4 hb34 hb24 hr1 hr2 hor hbr hyr hQ2 hcr hzl HQ1
  go_wp2_with (first | (at_builtin; refine Lib.wpList_append_run _ rfl _ _ _ _ rfl _ _ rfl rfl _ _ HR1.out ?_) | (at_builtin; refine Lib.wpList_append_run _ rfl _ _ _ _ rfl _ _ rfl rfl _ _ HR2.out ?_))
  refine HQ2.out.mono ?_
  rintro e w6 ⟨v6, rfl, ho6, hb6⟩
  obtain ⟨A6, c6, hv6, hc6, hen6⟩ := ho6.form
  obtain ⟨n6, hn6⟩ : ∃ n, (l ++ tt).length = n := ⟨_, rfl⟩
  rw [hn6] at hv6 hc6
  subst hv6
  have hn6l : l.length ≤ n6 := by rw [← hn6, List.length_append]; omega
  obtain ⟨W7, hW7⟩ : ∃ W7, w6.alloc (.cells (outC (.slice A6 n6 c6) G2 Y2) 52) = W7 := ⟨_, rfl⟩
  have HW7 : Hid (w6.alloc (.cells #[.slice A6 n6 c6, .int .i64 G2, .int .i64 Y2] 52) = W7) := hW7
  have hb67 : Below w6.heap.size w6 W7 := by rw [← hW7]; exact (Below.refl _ _).alloc (Nat.le_refl _) _
  have hb57 : Below w5.heap.size w5 W7 := hb6.trans (hb67.mono hb6.size)
  have HB7 : Hid (Below w.heap.size w W7) := HB5.out.trans (hb57.mono HB5.out.size)
  have HX7 : Hid (Blk W7 w.heap.size 57 #[.int .i64 x0, .int .i64 x1, .int .i64 x2]) := HX5.out.below hb57 HX5.out.lt
  have HK7 : Hid (Blk W7 w3.heap.size 52 (outC (.slice A3 l.length c3) FL 0)) := HK5.out.below hb57 HK5.out.lt
  have HJ7 : Hid (Blk W7 w6.heap.size 52 (outC (.slice A6 n6 c6) G2 Y2)) := by show Blk _ _ _ _; rw [← hW7]; exact Blk.new _ _ _
  have HE7 := Lib.hid (HE5.out.grow hb57)
  have hen7 : Ents W7 W7.heap.size A6 l := by
    have := (hen6.grow hb67).take l.length
    rwa [List.take_left' rfl] at this
  have HF7 := Lib.hid hen7
  have hS1 := Same_any A3 A l l c3 c W7 HE7.out (HA.out.grow HB7.out) (by omega) (by omega)
  rw [decide_eq_true rfl] at hS1
  have HS1 := Lib.hid hS1
  have hlc6 : l.length ≤ c6 := by omega
  clear hb6 ho6 hen6 hn6 hW7 hb67 hb57 hen7 hS1 HR1 HR2 HQ2
  have q0 : (w6.alloc (.cells #[.slice A6 n6 c6, .int .i64 G2, .int .i64 Y2] 52)).cell? ⟨w3.heap.size, 0, none⟩ = some (.slice A3 l.length c3) := by rw [HW7.out]; exact HK7.out.cell 0
  go_wp2_with fail
  rw [HW7.out]
  refine HS1.out.mono ?_
  rintro e w8 ⟨rfl, hb8⟩
  have HB8 : Hid (Below w.heap.size w w8) := HB7.out.trans (hb8.mono HB7.out.size)
  have HX8 : Hid (Blk w8 w.heap.size 57 #[.int .i64 x0, .int .i64 x1, .int .i64 x2]) := HX7.out.below hb8 HX7.out.lt
  have HK8 : Hid (Blk w8 w3.heap.size 52 (outC (.slice A3 l.length c3) FL 0)) := HK7.out.below hb8 HK7.out.lt
  have HJ8 : Hid (Blk w8 w6.heap.size 52 (outC (.slice A6 n6 c6) G2 Y2)) := HJ7.out.below hb8 HJ7.out.lt
  have hS2 := Same_any A6 A l l c6 c w8 (HF7.out.grow hb8) (HA.out.grow HB8.out) (by omega) (by omega)
  rw [decide_eq_true rfl] at hS2
  have HS2 := Lib.hid hS2
  have q1 : w8.cell? ⟨w3.heap.size, 1, none⟩ = some (.int .i64 FL) := HK8.out.cell 1
  have q2 : w8.cell? ⟨w3.heap.size, 2, none⟩ = some (.int .i64 0) := HK8.out.cell 2
  have p0 : w8.cell? ⟨w6.heap.size, 0, none⟩ = some (.slice A6 n6 c6) := HJ8.out.cell 0
  have hnl : ¬ ((n6 : Int) < (l.length : Int)) := by omega
  have hlc : (l.length : Int) ≤ (c6 : Int) := by omega
  clear hb8 hS2 q0 HS1
  go_wp2_with fail
  refine (num_any _ _).mono ?_
  rintro x wn ⟨rfl, hwn⟩
  subst hwn
  go_wp2_with fail
  refine HS2.out.mono ?_
  rintro e w9 ⟨rfl, hb9⟩
  have HB9 : Hid (Below w.heap.size w w9) := HB8.out.trans (hb9.mono HB8.out.size)
  have HX9 : Hid (Blk w9 w.heap.size 57 #[.int .i64 x0, .int .i64 x1, .int .i64 x2]) := HX8.out.below hb9 HX8.out.lt
  have p1 : w9.cell? ⟨w6.heap.size, 1, none⟩ = some (.int .i64 G2) := (HJ8.out.below hb9 HJ8.out.lt).cell 1
  clear hb9 q1 q2 p0 HS2 HJ7 HK7 HK5 HK4 HE7 HF7 HE5 HE4
  by_cases hl0 : l.length = 0
  · have hz : ((l.length : Int) == 0) = true := by rw [hl0]; rfl
    clear hl0
    go_wp2_with fail
    refine (works_any _).mono ?_
    rintro e w10 ⟨rfl, hb10⟩
    go_wp2_with fail
    go_ret
    exact ⟨rfl, HB9.out.trans (hb10.mono HB9.out.size)⟩
  have hz : ((l.length : Int) == 0) = false := beq_eq_false_iff_ne.2 (by omega)
  have hlp : 0 < l.length := by omega
  obtain ⟨b, off, rfl, _, he⟩ := (HA.out.grow HB9.out).at_ hlp
  obtain ⟨e, hee⟩ : ∃ e, l[0] = e := ⟨_, rfl⟩
  rw [hee] at he
  have hR : Right e := HALL.out e (by rw [← hee]; exact List.getElem_mem hlp)
  have a0 : w9.cell? ⟨b, off, none⟩ = some (.int .i64 e.epoch) := by simpa using he.c0
  have a1 : w9.cell? ⟨b, off + 1, none⟩ = some (.int .i64 e.id) := by simpa using he.c1
  have a2 : w9.cell? ⟨b, off + 2, none⟩ = some (.int .i64 e.num) := by simpa using he.c2
  have a3 : w9.cell? ⟨b, off + 3, none⟩ = some (.int .i64 e.seq) := by simpa using he.c3
  have a4 : w9.cell? ⟨b, off + 4, none⟩ = some (.int .i64 e.kind) := by simpa using he.c4
  have a5 : w9.cell? ⟨b, off + 5, none⟩ = some (.int .i64 e.value) := by simpa using he.c5
  have HR := Lib.hid hR
  have hcl := frameE_len e hR
  have hcp := (bodyE_len e hR).1
  have hcp2 : 0 < (frameE e).length := by unfold frameE; simp [Crc.le4]
  clear hcp
  obtain ⟨C, hC⟩ : ∃ C, frameE e = C := ⟨_, rfl⟩
  obtain ⟨CL, hCL⟩ : ∃ n, C.length = n := ⟨_, rfl⟩
  have hqf : Calls Try.prog 14 #[.agg #[.int .i64 e.epoch, .int .i64 e.id, .int .i64 e.num, .int .i64 e.seq, .int .i64 e.kind, .int .i64 e.value]] w9 fun x w' => ∃ v, x = .returned (.tuple #[v, .int .i64 0]) ∧ Own w' w9.heap.size v C ∧ Below w9.heap.size w9 w' := by
    refine (Frame_any e w9).mono ?_
    rintro x w' ⟨⟨_, v, hx, ho⟩ | ⟨hn, _⟩, hb⟩
    · exact ⟨v, hx, by rw [← hC]; exact ho, hb⟩
    · exact absurd hR hn
  have HTU : Hid ((∀ c ∈ C, c < 256) → ∀ ps : List Nat, ps.length ≤ 3 → (∀ p ∈ ps, p < 8 * CL ∧ p / 8 ≠ 4) → ∀ t, t = ps.foldl Crc.flip C → (∀ c ∈ t, c < 256) → t ≠ C → readF t = (zeroE, 0, 110)) := by
    intro hb ps h3 hp t ht htb hne
    exact turned_read e hR ps h3 (by rw [hC]; exact hb) (by rw [hC, hCL]; exact hp) t (by rw [hC]; exact ht) htb (by rw [hC]; exact hne)
  have HQF := Lib.hid hqf
  rw [hC, hCL] at hcl hcp2
  have HCL := Lib.hid hCL
  clear hqf hee he hR hl0 hCL hC
  go_wp2_with fail
  refine HQF.out.mono ?_
  rintro x w10 ⟨v10, rfl, ho10, hb10⟩
  obtain ⟨A10, c10, rfl, _, hy10⟩ := ho10.formN HCL.out
  have HB10 : Hid (Below w.heap.size w w10) := HB9.out.trans (hb10.mono HB9.out.size)
  have HX10 : Hid (Blk w10 w.heap.size 57 #[.int .i64 x0, .int .i64 x1, .int .i64 x2]) := HX9.out.below hb10 HX9.out.lt
  obtain ⟨v11, w11, hr11, ho11, hb11⟩ := copy_run w10 A10 C c10 hy10 (by rw [HCL.out]; omega)
  rw [HCL.out] at hr11
  have HR11 := Lib.hid hr11
  have hX11 := HX10.out.below hb11 HX10.out.lt
  have hB11 : Below w.heap.size w w11 := HB10.out.trans (hb11.mono HB10.out.size)
  have hy11 := hy10.grow hb11
  have hCb := hy10.1
  have htu := HTU.out hCb
  have HTU2 := Lib.hid htu
  clear ho10 hb10 hr11 HQF a0 a1 a2 a3 a4 a5 HTU htu
  have hw10 := HX10.out.lt
  have hCne : C ≠ [] := by
    intro h
    have h1 := HCL.out
    rw [h] at h1
    simp at h1
    omega
  obtain ⟨bq, oq, rfl, hltq, _⟩ := hy10.2 hCne
  rcases ho11.formG with ⟨h, h0⟩ | ⟨g, ct, rfl, hct, hgb, hgl, hrow11⟩
  · exact absurd h0 hCne
  have hbyt11 := ho11.bysS
  rw [HCL.out] at hct hrow11 HR11
  have hne1 : g ≠ w.heap.size := by omega
  have hne2 : bq ≠ g := by omega
  have hgw : w.heap.size ≤ g := by omega
  rw [HCL.out] at ho11
  clear ho11 hy10 hb11 hCne hltq
  go_wp2_with (at_builtin; refine Lib.wpList_append_run _ rfl _ _ _ _ rfl _ _ rfl rfl _ _ HR11.out ?_)
  clear HR11
  go_loopw [14] (fun i wr => ∃ (k : Nat) (ps T : List Nat), k ≤ 3 ∧ i = .int .i64 k ∧ ps.length ≤ k ∧ (∀ p ∈ ps, p < 8 * CL ∧ p / 8 ≠ 4) ∧ T = ps.foldl Crc.flip C ∧ T.length = CL ∧ Below w.heap.size w wr ∧ Bys wr wr.heap.size (some ⟨g, 0, none⟩) T ∧ Row8 wr g CL ∧ Blk wr w.heap.size 57 #[.int .i64 x0, .int .i64 x1, .int .i64 x2] ∧ Bys wr wr.heap.size (some ⟨bq, oq, none⟩) C)
    (fun i _ => 3 - (intOf i).toNat)
  case atStart => exact ⟨0, [], C, Nat.zero_le _, rfl, Nat.le_refl _, by simp, rfl, HCL.out, hB11, hbyt11, hrow11, hX11, hy11⟩
  case round =>
    obtain ⟨k, ps, T, hk, rfl, hpl, hps, hT, hTl, hbr, hbyt, hrow, hbox, hbyss⟩ := hrel
    by_cases hlt : k < 3
    · obtain ⟨x, hx, hxr1, hxr2⟩ : ∃ x : Int, wr.cell? ⟨w.heap.size, k, none⟩ = some (.int .i64 x) ∧ -9223372036854775808 ≤ x ∧ x ≤ 9223372036854775807 := by
        rw [hbox.cell]
        rcases k with _ | _ | _ | k
        · exact ⟨x0, rfl, hx0⟩
        · exact ⟨x1, rfl, hx1⟩
        · exact ⟨x2, rfl, hx2⟩
        · omega
      clear hx0 hx1 hx2
      by_cases hneg : x < 0
      · go_wp2_with fail
        go_roundw
        case rel => exact ⟨k + 1, ps, T, by omega, by go_num, by omega, hps, hT, hTl, hbr, hbyt, hrow, hbox, hbyss⟩
        case measure => simp [intOf]; omega
      · by_cases hbig : 8 * (CL : Int) ≤ x
        · go_wp2_with fail
          go_roundw
          case rel => exact ⟨k + 1, ps, T, by omega, by go_num, by omega, hps, hT, hTl, hbr, hbyt, hrow, hbox, hbyss⟩
          case measure => simp [intOf]; omega
        · obtain ⟨p, rfl⟩ : ∃ p : Nat, x = p := ⟨x.toNat, by omega⟩
          obtain ⟨q, hq⟩ : ∃ q, p / 8 = q := ⟨_, rfl⟩
          obtain ⟨r, hr⟩ : ∃ r, p % 8 = r := ⟨_, rfl⟩
          have hq1 : IntKind.i64.wrap ((p : Int) / 8) = (q : Int) := by rw [IntWalk.i64_in _ (by omega)]; omega
          have hr1 : IntKind.i64.wrap ((p : Int) % 8) = (r : Int) := by rw [IntWalk.i64_in _ (by omega)]; omega
          by_cases hq4 : q = 4
          · have hd4 : ((q : Int) != 4) = false := by rw [hq4]; rfl
            clear hr1 hq hr hq4
            go_wp2_with fail
            go_roundw
            case rel => exact ⟨k + 1, ps, T, by omega, by go_num, by omega, hps, hT, hTl, hbr, hbyt, hrow, hbox, hbyss⟩
            case measure => simp [intOf]; omega
          have hd4 : ((q : Int) != 4) = true := bne_iff_ne.2 (by omega)
          have hmin : min (p % 8) 8 = p % 8 := by omega
          have HM := Lib.hid hmin
          clear hmin
          have hk8 : q < CL := by omega
          have hk8i : (q : Int) < (CL : Int) := by omega
          have hr8' : r < 8 := by omega
          have hp8 : p < 8 * CL ∧ p / 8 ≠ 4 := by omega
          obtain ⟨y, hy, hyb⟩ := hrow.at_ hk8
          have hfy := hrow.frozen q
          have HQ := Lib.hid hq
          have HR := Lib.hid hr
          have HQ1 := Lib.hid hq1
          have HR1 := Lib.hid hr1
          clear hq hr hr1 hq4
          go_wp2_with fail
          have hr1 := HR1.out
          go_still_tail 20, (by kernel_rfl)
          change wpList _ _ _ _ _ wr.drew
          have hrowd : Row8 wr.drew g CL := hrow
          have hyd : wr.drew.cell? ⟨g, q, none⟩ = some (.int .u8 y) := hy
          have hfyd : wr.drew.frozen? ⟨g, q, none⟩ = false := hfy
          obtain ⟨wd, hwd⟩ : ∃ wd, wr.drew = wd := ⟨_, rfl⟩
          rw [hwd] at hyd hfyd ⊢
          clear hq1 hr1
          go_wp2_with fail
          rw [HM.out]
          go_roundw
          case rel =>
            rw [xor8 y p hyb]
            have hbyd : Bys wd wd.heap.size (some ⟨g, 0, none⟩) T := by rw [← hwd]; exact hbyt
            have hbsd : Bys wd wd.heap.size (some ⟨bq, oq, none⟩) C := by rw [← hwd]; exact hbyss
            have hrd : Row8 wd g CL := by rw [← hwd]; exact hrow
            have hbd : Blk wd w.heap.size 57 #[.int .i64 x0, .int .i64 x1, .int .i64 x2] := by rw [← hwd]; exact hbox
            have hlt2 : y ^^^ 2 ^ (p % 8) < 256 := Nat.xor_lt_two_pow (n := 8) hyb (Nat.pow_lt_pow_right (by omega) (by omega))
            have hqe := HQ.out
            subst hqe
            refine ⟨k + 1, ps ++ [p], Crc.flip T p, by omega, by go_num, by simp; omega, ?_, by rw [List.foldl_append, ← hT]; rfl, by rw [Crc.flip_length]; exact hTl, ?_, ?_, hrd.set_ _ _ hlt2, ?_, ?_⟩
            · intro p' hp'
              rcases List.mem_append.1 hp' with h | h
              · exact hps p' h
              · rw [List.mem_singleton.1 h]; exact hp8
            · refine Below.setCell (p := ⟨g, p / 8, none⟩) ?_ hgw _
              rw [← hwd]
              exact below_drew hbr
            · exact (hbyd.flip hTl hk8 hyd).mono (by simp [World.setCell])
            · exact (Below.heap_setCell wd ⟨g, p / 8, none⟩ _ w.heap.size (Ne.symm hne1)).trans hbd
            · exact (hbsd.setCell_other (a := ⟨g, p / 8, none⟩) (fun b o e => by injection e with e; injection e with e; subst e; exact hne2) _).mono (by simp [World.setCell])
          case measure => simp [intOf]; omega
    · obtain rfl : k = 3 := by omega
      clear hx0 hx1 hx2 hbox hrow
      have htu := HTU2.out ps hpl hps T hT hbyt.1
      have HTU3 := Lib.hid htu
      have hcv1 := conv_any wr wr.heap.size _ T ct hbyt
      have hcv2 := conv_any wr wr.heap.size _ C c10 hbyss
      rw [hTl] at hcv1
      rw [HCL.out] at hcv2
      have hse := str_eq hbyt.1 hCb
      have HRD := Lib.hid (Read_any (some ⟨g, 0, none⟩) T ct wr hbyt (by rw [hTl]; exact hct) (by rw [hTl]; omega))
      rw [hTl] at HRD
      have HBR := Lib.hid hbr
      clear htu hT hTl hbyt hbyss hbr HTU2
      by_cases hTC : T = C
      · rw [decide_eq_true hTC] at hse
        clear hTC
        go_wp2_with fail
        refine (num_any _ _).mono ?_
        rintro x wn ⟨rfl, hwn⟩
        subst hwn
        go_wp2_with fail
        refine (works_any _).mono ?_
        rintro e w13 ⟨rfl, hb13⟩
        go_wp2_with fail
        go_ret
        exact ⟨rfl, HBR.out.trans (hb13.mono HBR.out.size)⟩
      · rw [decide_eq_false hTC] at hse
        have hrf := HTU3.out hTC
        rw [hrf] at HRD
        clear hTC hrf HTU3
        go_wp2_with fail
        refine HRD.out.mono ?_
        rintro x w12 ⟨hx12, hb12⟩
        have hx12' : x = .returned (.tuple #[.agg #[.int .i64 0, .int .i64 0, .int .i64 0, .int .i64 0, .int .i64 0, .int .i64 0], .int .i64 0, .int .i64 110]) := hx12
        subst hx12'
        have HB12 : Hid (Below w.heap.size w w12) := HBR.out.trans (hb12.mono HBR.out.size)
        clear hb12 HRD hx12
        go_wp2_with fail
        refine (num_any _ _).mono ?_
        rintro x wn ⟨rfl, hwn⟩
        subst hwn
        go_wp2_with fail
        refine (num_any _ _).mono ?_
        rintro x wn ⟨rfl, hwn⟩
        subst hwn
        go_wp2_with fail
        refine (works_any _).mono ?_
        rintro e w13 ⟨rfl, hb13⟩
        go_wp2_with fail
        go_ret
        exact ⟨rfl, (HB12.out.alloc HB12.out.size _).trans (hb13.mono (HB12.out.alloc HB12.out.size _).size)⟩

set_option maxRecDepth 100000 in
set_option maxHeartbeats 1000000 in
theorem back_walk (A A1 : Option Addr) (l : List Ent) (bs : List Nat) (c c1 : Nat) (x0 x1 x2 : Int) (w : World) (ha : Ents w w.heap.size A l) (hb : Bys w w.heap.size A1 bs)
    (hx0 : -9223372036854775808 ≤ x0 ∧ x0 ≤ 9223372036854775807) (hx1 : -9223372036854775808 ≤ x1 ∧ x1 ≤ 9223372036854775807) (hx2 : -9223372036854775808 ≤ x2 ∧ x2 ≤ 9223372036854775807) :
    Calls Try.prog 12 #[.slice A l.length c, .slice A1 bs.length c1, .agg #[.int .i64 x0, .int .i64 x1, .int .i64 x2]] w fun e w' => e = .returned (.bool true) ∧ Below w.heap.size w w' := by
  have hba : Below w.heap.size w (w.alloc (.cells #[.int .i64 x0, .int .i64 x1, .int .i64 x2] 57)) := (Below.refl _ w).alloc (Nat.le_refl _) _
  have HBA := Lib.hid hba
  clear hba
  by_cases h60 : 60 < l.length
  · have hi : (60 : Int) < (l.length : Int) := by omega
    clear ha hb hx0 hx1 hx2
    go_enter Try.func12, Try.ntmps12
    go_wp2_with fail
    refine (works_any _).mono ?_
    rintro e w1 ⟨rfl, hb1⟩
    go_wp2_with fail
    go_ret
    exact ⟨rfl, HBA.out.trans (hb1.mono HBA.out.size)⟩
  by_cases h200 : 200 < bs.length
  · have hi : ¬ ((60 : Int) < (l.length : Int)) := by omega
    have hi2 : (200 : Int) < (bs.length : Int) := by omega
    clear ha hb hx0 hx1 hx2
    go_enter Try.func12, Try.ntmps12
    go_wp2_with fail
    refine (works_any _).mono ?_
    rintro e w1 ⟨rfl, hb1⟩
    go_wp2_with fail
    go_ret
    exact ⟨rfl, HBA.out.trans (hb1.mono HBA.out.size)⟩
  by_cases hall : ∀ e ∈ l, Right e
  · exact back_yes A A1 l bs c c1 x0 x1 x2 w ha hb (by omega) (by omega) hall hx0 hx1 hx2
  · exact back_no A A1 l bs c c1 x0 x1 x2 w ha (by omega) (by omega) hall
end Go.Proofs.Ytdoidfnfhidgdaa
