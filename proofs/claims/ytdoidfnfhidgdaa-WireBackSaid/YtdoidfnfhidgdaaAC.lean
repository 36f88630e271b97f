import Derived.Test.YtdoidfnfhidgdaaAB
namespace Go.Proofs.Ytdoidfnfhidgdaa
open Go.RowKit

/-- has an entry, as far as it is read, a part j? -/
def has (e : Ent) : Nat → Bool
  | 3 => decide (0 ≤ e.id)
  | 4 => (e.kind == 1) && decide (0 ≤ e.id)
  | 5 => e.kind == 1
  | _ => true
def rdS (p : Ent × List Nat) (j : Nat) : Except Int (Ent × List Nat) := if has p.1 j = true then rdE p.1 p.2 j else .ok p
/-- the first j parts of a body -/
def rdN (bs : List Nat) : Nat → Except Int (Ent × List Nat)
  | 0 => .ok (zeroE, bs)
  | j + 1 => match rdN bs j with | .ok p => rdS p j | .error x => .error x
/-- the entry of a body -/
def rdB (bs : List Nat) : Except Int Ent := match rdN bs 6 with | .ok p => if p.2 = [] ∧ Right p.1 then .ok p.1 else .error 121 | .error x => .error x
/-- the entry with which bytes begin -/
def readF (b : List Nat) : Ent × Int × Int :=
  if b.length < 5 then (zeroE, 0, 120)
  else if b.getD 4 0 = 0 ∨ 35 < b.getD 4 0 then (zeroE, 0, 121)
  else if b.length < 5 + b.getD 4 0 then (zeroE, 0, 120)
  else if sealedB ((b.drop 5).take (b.getD 4 0)) (b.take 4) = false then (zeroE, 0, 110)
  else match rdB ((b.drop 5).take (b.getD 4 0)) with | .ok e => (e, 5 + ((b.getD 4 0 : Nat) : Int), 0) | .error x => (zeroE, 0, x)

/-- Read's named results -/
def rdW (w : World) : World := ((w.alloc (.cells (entC zeroE) 24)).alloc (.cells #[.int .i64 0] 3)).alloc (.cells #[.int .i64 0] 26)
theorem rdW_facts (w : World) : Blk (rdW w) w.heap.size 24 (entC zeroE) ∧ Blk (rdW w) (w.heap.size + 1) 3 #[.int .i64 0] ∧ Blk (rdW w) (w.heap.size + 1 + 1) 26 #[.int .i64 0] ∧ (rdW w).heap.size = w.heap.size + 1 + 1 + 1 ∧ Below w.heap.size w (rdW w) := by
  have a1 := Blk.new w 24 (entC zeroE)
  obtain ⟨W1, h1⟩ : ∃ W1, w.alloc (.cells (entC zeroE) 24) = W1 := ⟨_, rfl⟩
  have z1 : W1.heap.size = w.heap.size + 1 := by rw [← h1]; simp
  have l1 : Below w.heap.size w W1 := by rw [← h1]; exact (Below.refl _ w).alloc (Nat.le_refl _) _
  rw [h1] at a1
  have a2 := Blk.new W1 3 #[.int .i64 0]
  rw [z1] at a2
  obtain ⟨W2, h2⟩ : ∃ W2, W1.alloc (.cells #[.int .i64 0] 3) = W2 := ⟨_, rfl⟩
  have z2 : W2.heap.size = w.heap.size + 1 + 1 := by rw [← h2]; simp [z1]
  have l2 : Below w.heap.size w W2 := by rw [← h2]; exact l1.alloc (by omega) _
  have b1 := a1.alloc (.cells #[.int .i64 0] 3)
  rw [h2] at a2 b1
  have a3 := Blk.new W2 26 #[.int .i64 0]
  rw [z2] at a3
  have hW : rdW w = W2.alloc (.cells #[.int .i64 0] 26) := by unfold rdW; rw [h1, h2]
  rw [hW]
  exact ⟨b1.alloc _, a2.alloc _, a3, by simp [z2], l2.alloc (by omega) _⟩

theorem At.grow {w w' : World} {X P1 P2 L : Nat} {e : Ent} {bs : List Nat} (h : At w X P1 P2 L e bs) (hb : Below w.heap.size w w') : At w' X P1 P2 L e bs := by
  obtain ⟨A, c, hB, hc, hby, hn⟩ := h.left
  exact ⟨h.x.below hb h.x.lt, (hb.cell (p := ⟨P1, 0, none⟩) (cell_lt h.p1)).trans h.p1, (hb.cell (p := ⟨P2, 0, none⟩) (cell_lt h.p2)).trans h.p2, h.n1, h.n2, h.n3, h.n4, h.n5, ⟨A, c, hB.below hb hB.lt, hc, hby.grow hb, hn⟩, h.len⟩
theorem rdN_up {bs : List Nat} {j : Nat} {x : Int} (h : rdN bs j = .error x) : ∀ k, rdN bs (j + k) = .error x
  | 0 => h
  | k + 1 => by rw [Nat.add_succ, rdN, rdN_up h k]
theorem rdB_up {bs : List Nat} {j : Nat} {x : Int} (h : rdN bs j = .error x) (hj : j ≤ 6) : rdB bs = .error x := by
  have := rdN_up h (6 - j)
  rw [show j + (6 - j) = 6 by omega] at this
  rw [rdB, this]
theorem rdN_next {bs : List Nat} {j : Nat} {p : Ent × List Nat} (h : rdN bs j = .ok p) : rdN bs (j + 1) = rdS p j := by rw [rdN, h]

set_option maxRecDepth 100000 in
set_option maxHeartbeats 8000000 in
theorem Read_any (A : Option Addr) (b : List Nat) (c : Nat) (w : World) (hb : Bys w w.heap.size A b) (hc : b.length ≤ c) (hm : b.length ≤ 1099511627000) :
    Calls Try.prog 23 #[.slice A b.length c] w (ReadR w (readF b)) := by
  obtain ⟨k1, k2, k3, hz, hl⟩ := rdW_facts w
  obtain ⟨R, hR⟩ : ∃ R, readF b = R := ⟨_, rfl⟩
  rw [hR]
  have HR := Lib.hid hR
  have HK1 := Lib.hid k1
  have HK2 := Lib.hid k2
  have HK3 := Lib.hid k3
  have HZ := Lib.hid hz
  have HL := Lib.hid hl
  have HB := Lib.hid hb
  clear hR k1 k2 k3 hz hl hb
  have hmf := mk_func
  by_cases h1 : b.length < 5
  · have e1 : (zeroE, (0 : Int), (120 : Int)) = R := by rw [← HR.out, readF, if_pos h1]
    subst e1
    have h1i : decide ((5 : Int) ≤ (b.length : Int)) = false := by rw [decide_eq_false_iff_not]; omega
    go_enter_defers Try.func23, Try.ntmps23
    go_wp2_with fail
    refine (must_no _ _).mono ?_
    rintro x w3 ⟨rfl, rfl⟩
    go_wp2_with fail
    exact read_up w _ _ 120 zeroE _ _ w.heap.size (Nat.le_refl _) HK1.out HK2.out HK3.out HL.out rfl rfl rfl
  · have h1i : decide ((5 : Int) ≤ (b.length : Int)) = true := by rw [decide_eq_true_eq]; omega
    obtain ⟨bb, off, rfl, hbb, hcell⟩ := HB.out.2 (by intro e; subst e; simp at h1)
    obtain ⟨y, hy⟩ : ∃ y, b.getD 4 0 = y := ⟨_, rfl⟩
    have hy4 : b[4]? = some y := by rw [← hy, List.getD_eq_getElem?_getD, List.getElem?_eq_getElem (by omega)]; rfl
    have hyc := hcell 4 y hy4
    have hyb : y < 256 := HB.out.1 y (List.mem_of_getElem? hy4)
    have hyc0 : (rdW w).cell? ⟨bb, off + 4, none⟩ = some (.int .u8 (y : Int)) := (HL.out.cell (p := ⟨bb, off + 4, none⟩) hbb).trans hyc
    have HYC := Lib.hid hyc0
    have hb0 : bb ≠ w.heap.size := by omega
    have hb1 : bb < w.heap.size + 1 := by omega
    have hb2 : bb < w.heap.size + 1 + 1 := by omega
    have h5 : 5 ≤ b.length := by omega
    have h5i : (5 : Int) ≤ (b.length : Int) := by omega
    have hci : (b.length : Int) ≤ (c : Int) := by omega
    clear hcell hyc0
    have HRR : Hid (R = if y = 0 ∨ 35 < y then (zeroE, (0 : Int), (121 : Int)) else if b.length < 5 + y then (zeroE, 0, 120) else if sealedB ((b.drop 5).take y) (b.take 4) = false then (zeroE, 0, 110) else match rdB ((b.drop 5).take y) with | .ok e => (e, 5 + ((y : Nat) : Int), 0) | .error x => (zeroE, 0, x)) := by
      show _ = _
      rw [← HR.out, readF, if_neg h1, hy]
    clear HR hy hy4
    by_cases h2 : y = 0
    · have e1 : (zeroE, (0 : Int), (121 : Int)) = R := by rw [HRR.out, if_pos (.inl h2)]
      subst e1
      clear HRR
      have d1 : decide ((1 : Int) ≤ (y : Int)) = false := by rw [decide_eq_false_iff_not]; omega
      clear h2
      go_enter_defers Try.func23, Try.ntmps23
      go_wp2_with fail
      refine (must_yes _ _).mono ?_
      rintro x w3 ⟨rfl, rfl⟩
      go_wp2_with fail
      refine (must_no _ _).mono ?_
      rintro x w3 ⟨rfl, rfl⟩
      go_wp2_with fail
      exact read_up w _ _ 121 zeroE _ _ w.heap.size (Nat.le_refl _) HK1.out HK2.out HK3.out HL.out rfl rfl rfl

    by_cases h2b : 35 < y
    · have e1 : (zeroE, (0 : Int), (121 : Int)) = R := by rw [HRR.out, if_pos (.inr h2b)]
      subst e1
      clear HRR
      have d1 : decide ((1 : Int) ≤ (y : Int)) = true := by rw [decide_eq_true_eq]; omega
      have d2 : decide ((y : Int) ≤ 35) = false := by rw [decide_eq_false_iff_not]; omega
      clear h2 h2b
      go_enter_defers Try.func23, Try.ntmps23
      go_wp2_with fail
      refine (must_yes _ _).mono ?_
      rintro x w3 ⟨rfl, rfl⟩
      go_wp2_with fail
      refine (must_no _ _).mono ?_
      rintro x w3 ⟨rfl, rfl⟩
      go_wp2_with fail
      exact read_up w _ _ 121 zeroE _ _ w.heap.size (Nat.le_refl _) HK1.out HK2.out HK3.out HL.out rfl rfl rfl

    have d1 : decide ((1 : Int) ≤ (y : Int)) = true := by rw [decide_eq_true_eq]; omega
    have d2 : decide ((y : Int) ≤ 35) = true := by rw [decide_eq_true_eq]; omega

    by_cases h3 : b.length < 5 + y
    · have e1 : (zeroE, (0 : Int), (120 : Int)) = R := by rw [HRR.out, if_neg (by omega), if_pos h3]
      subst e1
      clear HRR
      have d3 : decide (5 + (y : Int) ≤ (b.length : Int)) = false := by rw [decide_eq_false_iff_not]; omega
      clear h2 h2b h3
      go_enter_defers Try.func23, Try.ntmps23
      go_wp2_with fail
      refine (must_yes _ _).mono ?_
      rintro x w3 ⟨rfl, rfl⟩
      go_wp2_with fail
      refine (must_yes _ _).mono ?_
      rintro x w3 ⟨rfl, rfl⟩
      go_wp2_with fail
      refine (must_no _ _).mono ?_
      rintro x w3 ⟨rfl, rfl⟩
      go_wp2_with fail
      exact read_up w _ _ 120 zeroE _ _ w.heap.size (Nat.le_refl _) HK1.out HK2.out HK3.out HL.out rfl rfl rfl

    have d3 : decide (5 + (y : Int) ≤ (b.length : Int)) = true := by rw [decide_eq_true_eq]; omega
    obtain ⟨body, hbody⟩ : ∃ t, (b.drop 5).take y = t := ⟨_, rfl⟩
    obtain ⟨q, hq⟩ : ∃ t, b.take 4 = t := ⟨_, rfl⟩
    have hbl : body.length = y := by rw [← hbody]; simp; omega
    have hql : q.length = 4 := by rw [← hq]; simp; omega
    have hby : Bys w w.heap.size (some ⟨bb, off + 5, none⟩) body := by rw [← hbody]; exact (HB.out.drop 5).take y
    have hqy : Bys w w.heap.size (some ⟨bb, off, none⟩) q := by rw [← hq]; exact HB.out.take 4
    have HR2 : Hid (R = if sealedB body q = false then (zeroE, 0, 110) else match rdB body with | .ok e => (e, 5 + ((y : Nat) : Int), 0) | .error x => (zeroE, 0, x)) := by
      show _ = _
      rw [HRR.out, if_neg (by omega), if_neg h3, hbody, hq]
    have HBL := Lib.hid hbl
    have HQL := Lib.hid hql
    have HBY := Lib.hid hby
    have HQY := Lib.hid hqy
    have hy1 : 1 ≤ y := by omega
    have hy35 : y ≤ 35 := by omega
    have hys : (5 : Int) ≤ 5 + (y : Int) := by omega
    have hyc2 : 5 + (y : Int) ≤ (c : Int) := by omega
    have hyc3 : 5 + y ≤ c := by omega
    have hyb3 : 5 + (y : Int) ≤ (b.length : Int) := by omega
    have h4c : (4 : Int) ≤ (c : Int) := by omega
    have h4n : 4 ≤ c := by omega
    clear HRR hbody hq hbl hql hby hqy h2 h2b h3 HB
    go_enter_defers Try.func23, Try.ntmps23
    go_wp2_with fail
    refine (must_yes _ _).mono ?_
    rintro x w3 ⟨rfl, rfl⟩
    go_wp2_with fail
    refine (must_yes _ _).mono ?_
    rintro x w3 ⟨rfl, rfl⟩
    go_wp2_with fail
    refine (must_yes _ _).mono ?_
    rintro x w3 ⟨rfl, rfl⟩
    go_wp2_with fail
    obtain ⟨W1, hW1⟩ : ∃ W1, (rdW w).alloc (.cells #[(.slice (some ⟨bb, off + 5, none⟩) y (c - 5))] 25) = W1 := ⟨_, rfl⟩
    have K1 : Blk W1 w.heap.size 24 (entC zeroE) := by rw [← hW1]; exact HK1.out.alloc _
    have K2 : Blk W1 (w.heap.size + 1) 3 #[.int .i64 0] := by rw [← hW1]; exact HK2.out.alloc _
    have K3 : Blk W1 (w.heap.size + 1 + 1) 26 #[.int .i64 0] := by rw [← hW1]; exact HK3.out.alloc _
    have K4 : Blk W1 (w.heap.size + 1 + 1 + 1) 25 #[(.slice (some ⟨bb, off + 5, none⟩) y (c - 5))] := by have := Blk.new (rdW w) 25 #[(.slice (some ⟨bb, off + 5, none⟩) y (c - 5))]; rw [HZ.out, hW1] at this; exact this
    have LW : Below w.heap.size w W1 := by rw [← hW1]; exact HL.out.alloc (by rw [HZ.out]; omega) _
    simp only [rdW, entC, zeroE] at hW1
    rw [hW1]
    have HK1' := Lib.hid K1
    have HK2' := Lib.hid K2
    have HK3' := Lib.hid K3
    have HK4' := Lib.hid K4
    have HLW := Lib.hid LW
    have hL0 : W1.drew.cell? ⟨w.heap.size + 1 + 1 + 1, 0, none⟩ = some (.slice (some ⟨bb, off + 5, none⟩) y (c - 5)) := K4.cell 0
    clear K1 K2 K3 K4 LW HK1 HK2 HK3 HL HZ hW1
    refine wp_region_noPanic ?_
    refine wp_region_held_drew (S := fun w' => w'.cell? ⟨w.heap.size + 1 + 1 + 1, 0, none⟩ = some (.slice (some ⟨bb, off + 5, none⟩) y (c - 5)) ∧ Below W1.heap.size W1 w') (by kernel_rfl) ⟨hL0, below_drew (Below.refl _ _)⟩ (fun hHeld => ?_)
    refine takeH (i := 0) (v := ?_) rfl (by kernel_rfl) (by kernel_rfl) (by kernel_rfl) (fun _ _ _ h => h) (Or.inl ⟨by rfl, ?_⟩) (by assumption) ?_
    rotate_left
    · first | (intro w hSw; (try dsimp only at hSw); go_simp; done) | (intro w hSw; (try dsimp only at hSw); go_simp; with_reducible rfl)
    try simp only [Act.put, List.setIfInBounds_toArray, List.set_cons_zero, List.set_cons_succ]
    refine takeH (i := 1) (v := ?_) rfl (by kernel_rfl) (by kernel_rfl) (by kernel_rfl) (fun _ _ _ h => h) (Or.inl ⟨by rfl, ?_⟩) (by assumption) ?_
    rotate_left
    · first | (intro w hSw; (try dsimp only at hSw); go_simp; done) | (intro w hSw; (try dsimp only at hSw); go_simp; with_reducible rfl)
    try simp only [Act.put, List.setIfInBounds_toArray, List.set_cons_zero, List.set_cons_succ]
    refine takeH (i := 2) (v := ?_) rfl (by kernel_rfl) (by kernel_rfl) (by kernel_rfl) (fun _ _ _ h => h) (Or.inl ⟨by rfl, ?_⟩) (by assumption) ?_
    rotate_left
    · first | (intro w hSw; (try dsimp only at hSw); go_simp; done) | (intro w hSw; (try dsimp only at hSw); go_simp; with_reducible rfl)
    try simp only [Act.put, List.setIfInBounds_toArray, List.set_cons_zero, List.set_cons_succ]
    obtain ⟨wd, hwd⟩ : ∃ wd, W1.drew = wd := ⟨_, rfl⟩
    rw [hwd] at hHeld hL0 ⊢
    have hcc := Concat2 wd (some ⟨bb, off + 5, none⟩) (some ⟨bb, off, none⟩) body q (c - 5) c (HBY.out.grow (HLW.out.trans (hHeld.2.mono HLW.out.size))) (HQY.out.grow (HLW.out.trans (hHeld.2.mono HLW.out.size))) (by rw [HBL.out, HQL.out]; omega)
    rw [HBL.out, HQL.out] at hcc
    have HCC := Lib.hid hcc
    have hza : Below wd.heap.size wd (wd.alloc (.cells #[(.slice (some ⟨bb, off + 5, none⟩) y (c - 5)), .slice (some ⟨bb, off, none⟩) 4 c] 25)) := (Below.refl _ wd).alloc (Nat.le_refl _) _
    have HZA := Lib.hid hza
    have hLl : w.heap.size + 1 + 1 + 1 < wd.heap.size := Nat.lt_of_lt_of_le HK4'.out.lt hHeld.2.size
    clear hcc hza
    refine wpAnyH_ready (rs := [3]) (by kernel_rfl) (by simp) ?_
    refine consH (i := 3) rfl (fun K hK => ?_) AllReadyH.nil
    go_simp
    refine hK.out _ _ ⟨(HZA.out.cell (p := ⟨w.heap.size + 1 + 1 + 1, 0, none⟩) hLl).trans hHeld.1, hHeld.2.trans (HZA.out.mono hHeld.2.size)⟩ (fun hHeld2 => ?_)
    clear hK K
    try simp only [Act.put, List.setIfInBounds_toArray, List.set_cons_zero, List.set_cons_succ]
    refine wpAnyH_ready (rs := [4]) (by kernel_rfl) (by simp) ?_
    refine consH (i := 4) rfl (fun K hK => ?_) AllReadyH.nil
    go_simp
    refine HCC.out.mono ?_
    rintro x w4 ⟨v4, rfl, hown4, hb4⟩
    have HB4 := Lib.hid hb4
    obtain ⟨A4, c4, rfl, hc4, hby4⟩ := hown4.formN (n := y + 4) (by rw [List.length_append, HBL.out, HQL.out])
    have HO := Lib.hid (Open_any A4 body q c4 (y + 4) w4 hby4 (by rw [HBL.out]) HQL.out (by omega) hc4)
    go_wp2_with fail
    refine hK.out _ _ ⟨(HB4.out.cell (p := ⟨w.heap.size + 1 + 1 + 1, 0, none⟩) hLl).trans hHeld.1, hHeld.2.trans (HB4.out.mono hHeld.2.size)⟩ (fun hHeld4 => ?_)
    clear hK K
    try simp only [Act.put, List.setIfInBounds_toArray, List.set_cons_zero, List.set_cons_succ]
    clear hHeld2
    cases hs : sealedB body q with
    | false =>
      rw [hs] at HO HR2
      have e1 : (zeroE, (0 : Int), (110 : Int)) = R := by rw [HR2.out, if_pos rfl]
      subst e1
      refine wpAnyH_ready (rs := [5]) (by kernel_rfl) (by simp) ?_
      refine consH (i := 5) rfl (fun K hK => ?_) AllReadyH.nil
      go_simp
      refine HO.out.mono ?_
      rintro x w5 hx
      obtain ⟨rfl, hb5⟩ : x = .returned (.tuple #[.slice none 0 0, .int .i64 110]) ∧ Below w4.heap.size w4 w5 := hx
      go_wp2_with fail
      refine hK.out _ _ ⟨(hb5.cell (p := ⟨w.heap.size + 1 + 1 + 1, 0, none⟩) (Nat.lt_of_lt_of_le hLl HB4.out.size)).trans hHeld4.1, hHeld4.2.trans (hb5.mono hHeld4.2.size)⟩ (fun hHeld5 => ?_)
      clear hK K
      try simp only [Act.put, List.setIfInBounds_toArray, List.set_cons_zero, List.set_cons_succ]
      refine takeH (i := 6) (v := ?_) rfl (by kernel_rfl) (by kernel_rfl) (by kernel_rfl) (fun _ _ _ h => h) (Or.inl ⟨by rfl, ?_⟩) (by assumption) ?_
      rotate_left
      · first | (intro w hSw; (try dsimp only at hSw); go_simp; done) | (intro w hSw; (try dsimp only at hSw); go_simp; with_reducible rfl)
      try simp only [Act.put, List.setIfInBounds_toArray, List.set_cons_zero, List.set_cons_succ]
      refine takeH (i := 7) (v := ?_) rfl (by kernel_rfl) (by kernel_rfl) (by kernel_rfl) (fun _ _ _ h => h) (Or.inl ⟨by rfl, ?_⟩) (by assumption) ?_
      rotate_left
      · first | (intro w hSw; (try dsimp only at hSw); go_simp; done) | (intro w hSw; (try dsimp only at hSw); go_simp; with_reducible rfl)
      try simp only [Act.put, List.setIfInBounds_toArray, List.set_cons_zero, List.set_cons_succ]
      refine takeH (i := 8) (v := ?_) rfl (by kernel_rfl) (by kernel_rfl) (by kernel_rfl) (fun _ _ _ h => h) (Or.inl ⟨by rfl, ?_⟩) (by assumption) ?_
      rotate_left
      · first | (intro w hSw; (try dsimp only at hSw); go_simp; done) | (intro w hSw; (try dsimp only at hSw); go_simp; with_reducible rfl)
      try simp only [Act.put, List.setIfInBounds_toArray, List.set_cons_zero, List.set_cons_succ]
      refine takeH (i := 9) (v := ?_) rfl (by kernel_rfl) (by kernel_rfl) (by kernel_rfl) (fun _ _ _ h => h) (Or.inl ⟨by rfl, ?_⟩) (by assumption) ?_
      rotate_left
      · first | (intro w hSw; (try dsimp only at hSw); go_simp; done) | (intro w hSw; (try dsimp only at hSw); go_simp; with_reducible rfl)
      try simp only [Act.put, List.setIfInBounds_toArray, List.set_cons_zero, List.set_cons_succ]
      refine takeH (i := 10) (v := ?_) rfl (by kernel_rfl) (by kernel_rfl) (by kernel_rfl) (fun _ _ _ h => h) (Or.inl ⟨by rfl, ?_⟩) (by assumption) ?_
      rotate_left
      · first | (intro w hSw; (try dsimp only at hSw); go_simp; done) | (intro w hSw; (try dsimp only at hSw); go_simp; with_reducible rfl)
      try simp only [Act.put, List.setIfInBounds_toArray, List.set_cons_zero, List.set_cons_succ]
      refine wpAnyH_done (by kernel_rfl) ?_ _
      refine NoPanic.normal ?_
      go_wp2_with fail
      refine (must_no _ _).mono ?_
      rintro x w3 ⟨rfl, rfl⟩
      go_wp2_with fail
      have hB5 := hHeld5.2
      exact read_up w w5 _ 110 zeroE _ _ w.heap.size (Nat.le_refl _) (HK1'.out.below hB5 HK1'.out.lt) (HK2'.out.below hB5 HK2'.out.lt) (HK3'.out.below hB5 HK3'.out.lt) (HLW.out.trans (hB5.mono HLW.out.size)) rfl rfl rfl
    | true =>
      rw [hs] at HO HR2
      refine wpAnyH_ready (rs := [5]) (by kernel_rfl) (by simp) ?_
      refine consH (i := 5) rfl (fun K hK => ?_) AllReadyH.nil
      go_simp
      refine HO.out.mono ?_
      rintro x w5 hx
      obtain ⟨⟨v5, rfl, _⟩, hb5⟩ : (∃ v, x = .returned (.tuple #[v, .int .i64 0]) ∧ Own w5 w4.heap.size v body) ∧ Below w4.heap.size w4 w5 := hx
      go_wp2_with fail
      refine hK.out _ _ ⟨(hb5.cell (p := ⟨w.heap.size + 1 + 1 + 1, 0, none⟩) (Nat.lt_of_lt_of_le hLl HB4.out.size)).trans hHeld4.1, hHeld4.2.trans (hb5.mono hHeld4.2.size)⟩ (fun hHeld5 => ?_)
      clear hK K
      try simp only [Act.put, List.setIfInBounds_toArray, List.set_cons_zero, List.set_cons_succ]
      refine takeH (i := 6) (v := ?_) rfl (by kernel_rfl) (by kernel_rfl) (by kernel_rfl) (fun _ _ _ h => h) (Or.inl ⟨by rfl, ?_⟩) (by assumption) ?_
      rotate_left
      · first | (intro w hSw; (try dsimp only at hSw); go_simp; done) | (intro w hSw; (try dsimp only at hSw); go_simp; with_reducible rfl)
      try simp only [Act.put, List.setIfInBounds_toArray, List.set_cons_zero, List.set_cons_succ]
      refine takeH (i := 7) (v := ?_) rfl (by kernel_rfl) (by kernel_rfl) (by kernel_rfl) (fun _ _ _ h => h) (Or.inl ⟨by rfl, ?_⟩) (by assumption) ?_
      rotate_left
      · first | (intro w hSw; (try dsimp only at hSw); go_simp; done) | (intro w hSw; (try dsimp only at hSw); go_simp; with_reducible rfl)
      try simp only [Act.put, List.setIfInBounds_toArray, List.set_cons_zero, List.set_cons_succ]
      refine takeH (i := 8) (v := ?_) rfl (by kernel_rfl) (by kernel_rfl) (by kernel_rfl) (fun _ _ _ h => h) (Or.inl ⟨by rfl, ?_⟩) (by assumption) ?_
      rotate_left
      · first | (intro w hSw; (try dsimp only at hSw); go_simp; done) | (intro w hSw; (try dsimp only at hSw); go_simp; with_reducible rfl)
      try simp only [Act.put, List.setIfInBounds_toArray, List.set_cons_zero, List.set_cons_succ]
      refine takeH (i := 9) (v := ?_) rfl (by kernel_rfl) (by kernel_rfl) (by kernel_rfl) (fun _ _ _ h => h) (Or.inl ⟨by rfl, ?_⟩) (by assumption) ?_
      rotate_left
      · first | (intro w hSw; (try dsimp only at hSw); go_simp; done) | (intro w hSw; (try dsimp only at hSw); go_simp; with_reducible rfl)
      try simp only [Act.put, List.setIfInBounds_toArray, List.set_cons_zero, List.set_cons_succ]
      refine takeH (i := 10) (v := ?_) rfl (by kernel_rfl) (by kernel_rfl) (by kernel_rfl) (fun _ _ _ h => h) (Or.inl ⟨by rfl, ?_⟩) (by assumption) ?_
      rotate_left
      · first | (intro w hSw; (try dsimp only at hSw); go_simp; done) | (intro w hSw; (try dsimp only at hSw); go_simp; with_reducible rfl)
      try simp only [Act.put, List.setIfInBounds_toArray, List.set_cons_zero, List.set_cons_succ]
      refine wpAnyH_done (by kernel_rfl) ?_ _
      refine NoPanic.normal ?_
      go_wp2_with fail
      refine (must_yes _ _).mono ?_
      rintro x w3 ⟨rfl, rfl⟩
      go_wp2_with fail
      have hB5 := hHeld5.2
      have hk1 := HK1'.out.below hB5 HK1'.out.lt
      have hk2 := HK2'.out.below hB5 HK2'.out.lt
      have hk3 := HK3'.out.below hB5 HK3'.out.lt
      have hk4 := HK4'.out.below hB5 HK4'.out.lt
      have hlw := HLW.out.trans (hB5.mono HLW.out.size)
      have hbb5 := HBY.out.grow hlw
      have hR3 : R = match rdB body with | .ok e => (e, 5 + ((y : Nat) : Int), 0) | .error x => (zeroE, 0, x) := by rw [HR2.out, if_neg (by simp)]
      have HR3 := Lib.hid hR3
      clear hHeld hHeld4 hHeld5 hR3 HR2 HK1' HK2' HK3' HK4' HLW HO HB4 HCC HZA hby4 hown4 hb4 hb5 hB5 hL0 hwd hLl
      refine (taker_any _ _ _).mono ?_
      rintro x w6 ⟨rfl, hw6⟩
      have hAt6 : At w6 w.heap.size w5.heap.size (w5.heap.size + 1) (w.heap.size + 1 + 1 + 1) zeroE body := by
        have q1 := Blk.new w5 80 #[.pointer (some ⟨w.heap.size + 1 + 1 + 1, 0, none⟩)]
        have q2 := Blk.new (w5.alloc (.cells #[.pointer (some ⟨w.heap.size + 1 + 1 + 1, 0, none⟩)] 80)) 26 #[.int .i64 121]
        rw [World.size_alloc, ← hw6] at q2
        have q1' := q1.alloc (.cells #[.int .i64 121] 26)
        rw [← hw6] at q1'
        have hb56 : Below w5.heap.size w5 w6 := by rw [hw6]; exact ((Below.refl _ _).alloc (Nat.le_refl _) _).alloc (by simp) _
        have hlt := hk4.lt
        exact ⟨hk1.below hb56 hk1.lt, q1'.cell 0, q2.cell 0, by omega, by omega, by omega, by omega, by omega, ⟨_, _, by rw [HBL.out]; exact hk4.below hb56 hk4.lt, by rw [HBL.out]; omega, hbb5.grow hb56, fun _ b' o' e' => by injection e' with e'; injection e' with e'; omega⟩, by rw [HBL.out]; omega⟩
      have hb56 : Below w5.heap.size w5 w6 := by rw [hw6]; exact ((Below.refl _ _).alloc (Nat.le_refl _) _).alloc (by simp) _
      have hN6 := hk2.below hb56 hk2.lt
      have hE6 := hk3.below hb56 hk3.lt
      have hlw6 := hlw.trans (hb56.mono hlw.size)
      obtain ⟨P1, hP1⟩ : ∃ P1, w5.heap.size = P1 := ⟨_, rfl⟩
      rw [hP1] at hAt6 ⊢
      clear hk1 hk2 hk3 hk4 hlw hbb5 hw6 hb56 hP1
      go_wp2_with fail
      refine (parts_any w6).mono ?_
      rintro x w7 ⟨s, d, rfl, hsB, hdB, hs1, hd1, hs2, hd2, hb7⟩
      have HN7 := Lib.hid (hN6.below hb7 hN6.lt)
      have HE7 := Lib.hid (hE6.below hb7 hE6.lt)
      have HL7 := Lib.hid (hlw6.trans (hb7.mono hlw6.size))
      have HA7 := Lib.hid (hAt6.grow hb7)
      have hsX : s ≠ w.heap.size ∧ s ≠ (w.heap.size + 1 + 1 + 1) ∧ d ≠ w.heap.size ∧ d ≠ (w.heap.size + 1 + 1 + 1) := by have := hAt6.x.lt; have := hE6.lt; obtain ⟨_, _, hB, _⟩ := hAt6.left; have := hB.lt; omega
      clear hN6 hE6 hlw6 hAt6 hb7 hs1 hd1 hyc hyb HYC hb0 hb1 hb2 h5 h5i h1 h1i hci d1 d2 d3 hys hyc2 hyc3 hyb3 h4c h4n hbb HBY HQY HQL
      unfold partsC
      unfold nextV
      go_wp2_with fail
      go_loopw [52] (fun i wr => ∃ (j : Nat) (e : Ent) (bs : List Nat), j ≤ 6 ∧ i = .int .i64 j ∧ Hid (rdN body j = .ok (e, bs)) ∧ Hid (At wr w.heap.size P1 (P1 + 1) (w.heap.size + 1 + 1 + 1) e bs) ∧ Hid (Two w.heap.size (w.heap.size + 1 + 1 + 1) w7 wr))
        (fun i _ => 6 - (intOf i).toNat)
      case atStart => exact ⟨0, zeroE, body, Nat.zero_le _, rfl, Lib.hid rfl, HA7, Lib.hid (Two.refl _ _ _)⟩
      case round =>
        obtain ⟨j, e, bs, hj, rfl, HRD, HAT, HTW⟩ := hrel
        obtain ⟨⟨a0, a1, a2⟩, a3, a4, a5⟩ := ebox HAT.out.x
        have hzj : w.heap.size < wr.heap.size := HAT.out.x.lt
        have hnj : w.heap.size ≠ wr.heap.size := by omega
        have HNX := Lib.hid (rdN_next HRD.out)
        obtain rfl | rfl | rfl | rfl | rfl | rfl | rfl : j = 0 ∨ j = 1 ∨ j = 2 ∨ j = 3 ∨ j = 4 ∨ j = 5 ∨ j = 6 := by omega
        · have hidx := fun (w : World) => idx0 s d w
          unfold partsC at hidx
          go_wp2_with fail
          clear hidx
          refine (always_any e _).mono ?_
          rintro x w8 ⟨rfl, hb8⟩
          obtain ⟨p0, p1, p2, hb8'⟩ := pbox _ _ _ _ w8 hb8
          have hA8 := HAT.out.grow hb8'
          have HT8 : Hid (Two w.heap.size (w.heap.size + 1 + 1 + 1) w7 w8) := HTW.out.trans (Two.of_below hb8')
          have HS : Hid (rdN body (0 + 1) = rdE e bs 0) := by show _ = _; rw [HNX.out, rdS, if_pos (by simp [has])]
          have HQ := Lib.hid (rd61 w8 w.heap.size P1 (P1 + 1) (w.heap.size + 1 + 1 + 1) e bs hA8)
          clear hb8 hb8' hA8 hzj hnj
          go_wp2_with fail
          refine HQ.out.mono ?_
          rintro x w9 ⟨hx, ht9⟩
          have HT9 : Hid (Two w.heap.size (w.heap.size + 1 + 1 + 1) w7 w9) := HT8.out.trans ht9
          cases hE : rdE e bs 0 with
          | error er =>
            rw [hE] at hx
            obtain ⟨hx2, e0, hx9⟩ : x = upP er ∧ ∃ e0, Blk w9 w.heap.size 24 (entC e0) := hx
            subst hx2
            have e1 : (zeroE, (0 : Int), er) = R := by rw [HR3.out, rdB_up (HS.out.trans hE) (by omega)]
            subst e1
            have HX9 := Lib.hid hx9
            clear hE hx9
            go_wp2_with fail
            exact read_up w w9 _ er e0 _ _ w.heap.size (Nat.le_refl _) HX9.out (HT9.out.blk HN7.out (by omega) (by omega)) (HT9.out.blk HE7.out (by omega) (by omega)) (HT9.out.below HL7.out HL7.out.size (Nat.le_refl _) (by omega)) rfl rfl rfl
          | ok p =>
            obtain ⟨e2, bs2⟩ := p
            rw [hE] at hx
            obtain ⟨hx2, hA9⟩ : x = .returned (.tuple #[]) ∧ At w9 w.heap.size P1 (P1 + 1) (w.heap.size + 1 + 1 + 1) e2 bs2 := hx
            subst hx2
            have HA9 := Lib.hid hA9
            have HS2 := Lib.hid (HS.out.trans hE)
            clear hE hA9
            go_wp2_with fail
            go_roundw
            case rel => exact ⟨0 + 1, e2, bs2, by omega, by go_num, HS2, HA9, HT9⟩
            case measure => simp [intOf]
        · have hidx := fun (w : World) => idx1 s d w
          unfold partsC at hidx
          go_wp2_with fail
          clear hidx
          refine (always_any e _).mono ?_
          rintro x w8 ⟨rfl, hb8⟩
          obtain ⟨p0, p1, p2, hb8'⟩ := pbox _ _ _ _ w8 hb8
          have hA8 := HAT.out.grow hb8'
          have HT8 : Hid (Two w.heap.size (w.heap.size + 1 + 1 + 1) w7 w8) := HTW.out.trans (Two.of_below hb8')
          have HS : Hid (rdN body (1 + 1) = rdE e bs 1) := by show _ = _; rw [HNX.out, rdS, if_pos (by simp [has])]
          have HQ := Lib.hid (rd63 w8 w.heap.size P1 (P1 + 1) (w.heap.size + 1 + 1 + 1) e bs hA8)
          clear hb8 hb8' hA8 hzj hnj
          go_wp2_with fail
          refine HQ.out.mono ?_
          rintro x w9 ⟨hx, ht9⟩
          have HT9 : Hid (Two w.heap.size (w.heap.size + 1 + 1 + 1) w7 w9) := HT8.out.trans ht9
          cases hE : rdE e bs 1 with
          | error er =>
            rw [hE] at hx
            obtain ⟨hx2, e0, hx9⟩ : x = upP er ∧ ∃ e0, Blk w9 w.heap.size 24 (entC e0) := hx
            subst hx2
            have e1 : (zeroE, (0 : Int), er) = R := by rw [HR3.out, rdB_up (HS.out.trans hE) (by omega)]
            subst e1
            have HX9 := Lib.hid hx9
            clear hE hx9
            go_wp2_with fail
            exact read_up w w9 _ er e0 _ _ w.heap.size (Nat.le_refl _) HX9.out (HT9.out.blk HN7.out (by omega) (by omega)) (HT9.out.blk HE7.out (by omega) (by omega)) (HT9.out.below HL7.out HL7.out.size (Nat.le_refl _) (by omega)) rfl rfl rfl
          | ok p =>
            obtain ⟨e2, bs2⟩ := p
            rw [hE] at hx
            obtain ⟨hx2, hA9⟩ : x = .returned (.tuple #[]) ∧ At w9 w.heap.size P1 (P1 + 1) (w.heap.size + 1 + 1 + 1) e2 bs2 := hx
            subst hx2
            have HA9 := Lib.hid hA9
            have HS2 := Lib.hid (HS.out.trans hE)
            clear hE hA9
            go_wp2_with fail
            go_roundw
            case rel => exact ⟨1 + 1, e2, bs2, by omega, by go_num, HS2, HA9, HT9⟩
            case measure => simp [intOf]
        · have hidx := fun (w : World) => idx2 s d w
          unfold partsC at hidx
          go_wp2_with fail
          clear hidx
          refine (always_any e _).mono ?_
          rintro x w8 ⟨rfl, hb8⟩
          obtain ⟨p0, p1, p2, hb8'⟩ := pbox _ _ _ _ w8 hb8
          have hA8 := HAT.out.grow hb8'
          have HT8 : Hid (Two w.heap.size (w.heap.size + 1 + 1 + 1) w7 w8) := HTW.out.trans (Two.of_below hb8')
          have HS : Hid (rdN body (2 + 1) = rdE e bs 2) := by show _ = _; rw [HNX.out, rdS, if_pos (by simp [has])]
          have HQ := Lib.hid (rd65 w8 w.heap.size P1 (P1 + 1) (w.heap.size + 1 + 1 + 1) e bs hA8)
          clear hb8 hb8' hA8 hzj hnj
          go_wp2_with fail
          refine HQ.out.mono ?_
          rintro x w9 ⟨hx, ht9⟩
          have HT9 : Hid (Two w.heap.size (w.heap.size + 1 + 1 + 1) w7 w9) := HT8.out.trans ht9
          cases hE : rdE e bs 2 with
          | error er =>
            rw [hE] at hx
            obtain ⟨hx2, e0, hx9⟩ : x = upP er ∧ ∃ e0, Blk w9 w.heap.size 24 (entC e0) := hx
            subst hx2
            have e1 : (zeroE, (0 : Int), er) = R := by rw [HR3.out, rdB_up (HS.out.trans hE) (by omega)]
            subst e1
            have HX9 := Lib.hid hx9
            clear hE hx9
            go_wp2_with fail
            exact read_up w w9 _ er e0 _ _ w.heap.size (Nat.le_refl _) HX9.out (HT9.out.blk HN7.out (by omega) (by omega)) (HT9.out.blk HE7.out (by omega) (by omega)) (HT9.out.below HL7.out HL7.out.size (Nat.le_refl _) (by omega)) rfl rfl rfl
          | ok p =>
            obtain ⟨e2, bs2⟩ := p
            rw [hE] at hx
            obtain ⟨hx2, hA9⟩ : x = .returned (.tuple #[]) ∧ At w9 w.heap.size P1 (P1 + 1) (w.heap.size + 1 + 1 + 1) e2 bs2 := hx
            subst hx2
            have HA9 := Lib.hid hA9
            have HS2 := Lib.hid (HS.out.trans hE)
            clear hE hA9
            go_wp2_with fail
            go_roundw
            case rel => exact ⟨2 + 1, e2, bs2, by omega, by go_num, HS2, HA9, HT9⟩
            case measure => simp [intOf]
        · by_cases hc : 0 ≤ e.id
          · have hq := somebody_any e
            rw [decide_eq_true hc] at hq
            have HQ0 := Lib.hid hq
            have HC := Lib.hid hc
            clear hq hc
            have hidx := fun (w : World) => idx3 s d w
            unfold partsC at hidx
            go_wp2_with fail
            clear hidx
            refine (HQ0.out _).mono ?_
            rintro x w8 ⟨rfl, hb8⟩
            obtain ⟨p0, p1, p2, hb8'⟩ := pbox _ _ _ _ w8 hb8
            have hA8 := HAT.out.grow hb8'
            have HT8 : Hid (Two w.heap.size (w.heap.size + 1 + 1 + 1) w7 w8) := HTW.out.trans (Two.of_below hb8')
            have HS : Hid (rdN body (3 + 1) = rdE e bs 3) := by show _ = _; rw [HNX.out, rdS, if_pos (by simp [has]; exact HC.out)]
            have HQ := Lib.hid (rd67 w8 w.heap.size P1 (P1 + 1) (w.heap.size + 1 + 1 + 1) e bs hA8)
            clear hb8 hb8' hA8 hzj hnj
            go_wp2_with fail
            refine HQ.out.mono ?_
            rintro x w9 ⟨hx, ht9⟩
            have HT9 : Hid (Two w.heap.size (w.heap.size + 1 + 1 + 1) w7 w9) := HT8.out.trans ht9
            cases hE : rdE e bs 3 with
            | error er =>
              rw [hE] at hx
              obtain ⟨hx2, e0, hx9⟩ : x = upP er ∧ ∃ e0, Blk w9 w.heap.size 24 (entC e0) := hx
              subst hx2
              have e1 : (zeroE, (0 : Int), er) = R := by rw [HR3.out, rdB_up (HS.out.trans hE) (by omega)]
              subst e1
              have HX9 := Lib.hid hx9
              clear hE hx9
              go_wp2_with fail
              exact read_up w w9 _ er e0 _ _ w.heap.size (Nat.le_refl _) HX9.out (HT9.out.blk HN7.out (by omega) (by omega)) (HT9.out.blk HE7.out (by omega) (by omega)) (HT9.out.below HL7.out HL7.out.size (Nat.le_refl _) (by omega)) rfl rfl rfl
            | ok p =>
              obtain ⟨e2, bs2⟩ := p
              rw [hE] at hx
              obtain ⟨hx2, hA9⟩ : x = .returned (.tuple #[]) ∧ At w9 w.heap.size P1 (P1 + 1) (w.heap.size + 1 + 1 + 1) e2 bs2 := hx
              subst hx2
              have HA9 := Lib.hid hA9
              have HS2 := Lib.hid (HS.out.trans hE)
              clear hE hA9
              go_wp2_with fail
              go_roundw
              case rel => exact ⟨3 + 1, e2, bs2, by omega, by go_num, HS2, HA9, HT9⟩
              case measure => simp [intOf]
          · have hq := somebody_any e
            rw [decide_eq_false hc] at hq
            have HQ0 := Lib.hid hq
            have HC := Lib.hid hc
            clear hq hc
            have hidx := fun (w : World) => idx3 s d w
            unfold partsC at hidx
            go_wp2_with fail
            clear hidx
            refine (HQ0.out _).mono ?_
            rintro x w8 ⟨rfl, hb8⟩
            obtain ⟨p0, p1, p2, hb8'⟩ := pbox _ _ _ _ w8 hb8
            have hA8 := HAT.out.grow hb8'
            have HT8 : Hid (Two w.heap.size (w.heap.size + 1 + 1 + 1) w7 w8) := HTW.out.trans (Two.of_below hb8')
            have HS : Hid (rdN body (3 + 1) = .ok (e, bs)) := by show _ = _; rw [HNX.out, rdS, if_neg (by simp [has]; have := HC.out; omega)]
            have HA8 := Lib.hid hA8
            clear hb8 hb8' hA8 hzj hnj
            go_wp2_with fail
            go_roundw
            case rel => exact ⟨3 + 1, e, bs, by omega, by go_num, HS, HA8, HT8⟩
            case measure => simp [intOf]
        · cases hc : ((e.kind == 1) && decide (0 ≤ e.id)) with
          | true =>
            have hqb : ∀ W, Below wr.heap.size wr W → Calls Try.prog 68 #[entV e, .pointer (some ⟨d, 0, none⟩), .pointer (some ⟨s, 0, none⟩)] W fun x w' => x = .returned (.bool ((e.kind == 1) && decide (0 ≤ e.id))) ∧ Below W.heap.size W w' := fun W h => both_any e _ _ W (cell_of_row _ _ _ _ _ _ ((h.block _ (by have := HTW.out.size; omega)).trans ((HTW.out.block d hd2 hsX.2.2.1 hsX.2.2.2).trans hdB))) (cell_of_row _ _ _ _ _ _ ((h.block _ (by have := HTW.out.size; omega)).trans ((HTW.out.block s hs2 hsX.1 hsX.2.1).trans hsB))) (by show d < _; have := h.size; have := HTW.out.size; omega) (by show s < _; have := h.size; have := HTW.out.size; omega)
            rw [hc] at hqb
            have HQ0 := Lib.hid hqb
            have HC := Lib.hid hc
            clear hqb hc
            have hidx := fun (w : World) => idx4 s d w
            unfold partsC at hidx
            go_wp2_with fail
            clear hidx
            refine (HQ0.out _ ((Below.refl _ _).alloc (Nat.le_refl _) _)).mono ?_
            rintro x w8 ⟨rfl, hb8⟩
            obtain ⟨p0, p1, p2, hb8'⟩ := pbox _ _ _ _ w8 hb8
            have hA8 := HAT.out.grow hb8'
            have HT8 : Hid (Two w.heap.size (w.heap.size + 1 + 1 + 1) w7 w8) := HTW.out.trans (Two.of_below hb8')
            have HS : Hid (rdN body (4 + 1) = rdE e bs 4) := by show _ = _; rw [HNX.out, rdS, if_pos (show has (e, bs).1 4 = true from HC.out)]
            have HQ := Lib.hid (rd70 w8 w.heap.size P1 (P1 + 1) (w.heap.size + 1 + 1 + 1) e bs hA8)
            clear hb8 hb8' hA8 hzj hnj
            go_wp2_with fail
            refine HQ.out.mono ?_
            rintro x w9 ⟨hx, ht9⟩
            have HT9 : Hid (Two w.heap.size (w.heap.size + 1 + 1 + 1) w7 w9) := HT8.out.trans ht9
            cases hE : rdE e bs 4 with
            | error er =>
              rw [hE] at hx
              obtain ⟨hx2, e0, hx9⟩ : x = upP er ∧ ∃ e0, Blk w9 w.heap.size 24 (entC e0) := hx
              subst hx2
              have e1 : (zeroE, (0 : Int), er) = R := by rw [HR3.out, rdB_up (HS.out.trans hE) (by omega)]
              subst e1
              have HX9 := Lib.hid hx9
              clear hE hx9
              go_wp2_with fail
              exact read_up w w9 _ er e0 _ _ w.heap.size (Nat.le_refl _) HX9.out (HT9.out.blk HN7.out (by omega) (by omega)) (HT9.out.blk HE7.out (by omega) (by omega)) (HT9.out.below HL7.out HL7.out.size (Nat.le_refl _) (by omega)) rfl rfl rfl
            | ok p =>
              obtain ⟨e2, bs2⟩ := p
              rw [hE] at hx
              obtain ⟨hx2, hA9⟩ : x = .returned (.tuple #[]) ∧ At w9 w.heap.size P1 (P1 + 1) (w.heap.size + 1 + 1 + 1) e2 bs2 := hx
              subst hx2
              have HA9 := Lib.hid hA9
              have HS2 := Lib.hid (HS.out.trans hE)
              clear hE hA9
              go_wp2_with fail
              go_roundw
              case rel => exact ⟨4 + 1, e2, bs2, by omega, by go_num, HS2, HA9, HT9⟩
              case measure => simp [intOf]
          | false =>
            have hqb : ∀ W, Below wr.heap.size wr W → Calls Try.prog 68 #[entV e, .pointer (some ⟨d, 0, none⟩), .pointer (some ⟨s, 0, none⟩)] W fun x w' => x = .returned (.bool ((e.kind == 1) && decide (0 ≤ e.id))) ∧ Below W.heap.size W w' := fun W h => both_any e _ _ W (cell_of_row _ _ _ _ _ _ ((h.block _ (by have := HTW.out.size; omega)).trans ((HTW.out.block d hd2 hsX.2.2.1 hsX.2.2.2).trans hdB))) (cell_of_row _ _ _ _ _ _ ((h.block _ (by have := HTW.out.size; omega)).trans ((HTW.out.block s hs2 hsX.1 hsX.2.1).trans hsB))) (by show d < _; have := h.size; have := HTW.out.size; omega) (by show s < _; have := h.size; have := HTW.out.size; omega)
            rw [hc] at hqb
            have HQ0 := Lib.hid hqb
            have HC := Lib.hid hc
            clear hqb hc
            have hidx := fun (w : World) => idx4 s d w
            unfold partsC at hidx
            go_wp2_with fail
            clear hidx
            refine (HQ0.out _ ((Below.refl _ _).alloc (Nat.le_refl _) _)).mono ?_
            rintro x w8 ⟨rfl, hb8⟩
            obtain ⟨p0, p1, p2, hb8'⟩ := pbox _ _ _ _ w8 hb8
            have hA8 := HAT.out.grow hb8'
            have HT8 : Hid (Two w.heap.size (w.heap.size + 1 + 1 + 1) w7 w8) := HTW.out.trans (Two.of_below hb8')
            have HS : Hid (rdN body (4 + 1) = .ok (e, bs)) := by show _ = _; rw [HNX.out, rdS, if_neg (by show ¬ (_ = true); rw [show has (e, bs).1 4 = ((e.kind == 1) && decide (0 ≤ e.id)) from rfl, HC.out]; decide)]
            have HA8 := Lib.hid hA8
            clear hb8 hb8' hA8 hzj hnj
            go_wp2_with fail
            go_roundw
            case rel => exact ⟨4 + 1, e, bs, by omega, by go_num, HS, HA8, HT8⟩
            case measure => simp [intOf]
        · cases hc : (e.kind == 1) with
          | true =>
            have hq := data_any e
            rw [hc] at hq
            have HQ0 := Lib.hid hq
            have HC := Lib.hid hc
            clear hq hc
            have hidx := fun (w : World) => idx5 s d w
            unfold partsC at hidx
            go_wp2_with fail
            clear hidx
            refine (HQ0.out _).mono ?_
            rintro x w8 ⟨rfl, hb8⟩
            obtain ⟨p0, p1, p2, hb8'⟩ := pbox _ _ _ _ w8 hb8
            have hA8 := HAT.out.grow hb8'
            have HT8 : Hid (Two w.heap.size (w.heap.size + 1 + 1 + 1) w7 w8) := HTW.out.trans (Two.of_below hb8')
            have HS : Hid (rdN body (5 + 1) = rdE e bs 5) := by show _ = _; rw [HNX.out, rdS, if_pos (show has (e, bs).1 5 = true from HC.out)]
            have HQ := Lib.hid (rd72 w8 w.heap.size P1 (P1 + 1) (w.heap.size + 1 + 1 + 1) e bs hA8)
            clear hb8 hb8' hA8 hzj hnj
            go_wp2_with fail
            refine HQ.out.mono ?_
            rintro x w9 ⟨hx, ht9⟩
            have HT9 : Hid (Two w.heap.size (w.heap.size + 1 + 1 + 1) w7 w9) := HT8.out.trans ht9
            cases hE : rdE e bs 5 with
            | error er =>
              rw [hE] at hx
              obtain ⟨hx2, e0, hx9⟩ : x = upP er ∧ ∃ e0, Blk w9 w.heap.size 24 (entC e0) := hx
              subst hx2
              have e1 : (zeroE, (0 : Int), er) = R := by rw [HR3.out, rdB_up (HS.out.trans hE) (by omega)]
              subst e1
              have HX9 := Lib.hid hx9
              clear hE hx9
              go_wp2_with fail
              exact read_up w w9 _ er e0 _ _ w.heap.size (Nat.le_refl _) HX9.out (HT9.out.blk HN7.out (by omega) (by omega)) (HT9.out.blk HE7.out (by omega) (by omega)) (HT9.out.below HL7.out HL7.out.size (Nat.le_refl _) (by omega)) rfl rfl rfl
            | ok p =>
              obtain ⟨e2, bs2⟩ := p
              rw [hE] at hx
              obtain ⟨hx2, hA9⟩ : x = .returned (.tuple #[]) ∧ At w9 w.heap.size P1 (P1 + 1) (w.heap.size + 1 + 1 + 1) e2 bs2 := hx
              subst hx2
              have HA9 := Lib.hid hA9
              have HS2 := Lib.hid (HS.out.trans hE)
              clear hE hA9
              go_wp2_with fail
              go_roundw
              case rel => exact ⟨5 + 1, e2, bs2, by omega, by go_num, HS2, HA9, HT9⟩
              case measure => simp [intOf]
          | false =>
            have hq := data_any e
            rw [hc] at hq
            have HQ0 := Lib.hid hq
            have HC := Lib.hid hc
            clear hq hc
            have hidx := fun (w : World) => idx5 s d w
            unfold partsC at hidx
            go_wp2_with fail
            clear hidx
            refine (HQ0.out _).mono ?_
            rintro x w8 ⟨rfl, hb8⟩
            obtain ⟨p0, p1, p2, hb8'⟩ := pbox _ _ _ _ w8 hb8
            have hA8 := HAT.out.grow hb8'
            have HT8 : Hid (Two w.heap.size (w.heap.size + 1 + 1 + 1) w7 w8) := HTW.out.trans (Two.of_below hb8')
            have HS : Hid (rdN body (5 + 1) = .ok (e, bs)) := by show _ = _; rw [HNX.out, rdS, if_neg (by rw [show has (e, bs).1 5 = (e.kind == 1) from rfl, HC.out]; decide)]
            have HA8 := Lib.hid hA8
            clear hb8 hb8' hA8 hzj hnj
            go_wp2_with fail
            go_roundw
            case rel => exact ⟨5 + 1, e, bs, by omega, by go_num, HS, HA8, HT8⟩
            case measure => simp [intOf]
        · obtain ⟨A', c', hB', hc', hby', hn'⟩ := HAT.out.left
          have l0 := hB'.cell 0
          have HRB : Hid (rdB body = if bs = [] ∧ Right e then .ok e else .error 121) := by show _ = _; rw [rdB, HRD.out]
          have HN9 := Lib.hid (HTW.out.blk HN7.out (by omega) (by omega))
          have HE9 := Lib.hid (HTW.out.blk HE7.out (by omega) (by omega))
          have HL9 := Lib.hid (HTW.out.below HL7.out HL7.out.size (Nat.le_refl _) (by omega))
          have HX9 := Lib.hid HAT.out.x
          clear HN7 HE7 HL7 HTW HAT HNX HRD hsB hdB hs2 hd2 hsX HA7 hby' hn' hB'
          by_cases hbs : bs = []
          · subst hbs
            rw [List.length_nil] at l0
            have hck := fun W => Check_any e W
            by_cases hR : Right e
            · have e1 : (e, 5 + ((y : Nat) : Int), (0 : Int)) = R := by rw [HR3.out, HRB.out, if_pos ⟨rfl, hR⟩]
              subst e1
              rw [if_pos hR] at hck
              have HCK := Lib.hid hck
              clear hck hR HR3 HRB
              go_wp2_with fail
              refine (HCK.out _).mono ?_
              rintro x w8 ⟨rfl, hb8⟩
              have HN8 := Lib.hid (HN9.out.below hb8 HN9.out.lt)
              have HE8 := Lib.hid (HE9.out.below hb8 HE9.out.lt)
              have HX8 := Lib.hid (HX9.out.below hb8 HX9.out.lt)
              have HL8 := Lib.hid (HL9.out.trans (hb8.mono HL9.out.size))
              clear a0 a1 a2 a3 a4 a5
              obtain ⟨⟨a0, a1, a2⟩, a3, a4, a5⟩ := ebox HX8.out
              have HNR : Hid (Blk (w8.setRow w.heap.size (entC e)) (w.heap.size + 1) 3 #[.int .i64 0]) := (setRow_far w8 _ _ _ (by omega)).trans HN8.out
              have HER : Hid (Blk (w8.setRow w.heap.size (entC e)) (w.heap.size + 1 + 1) 26 #[.int .i64 0]) := (setRow_far w8 _ _ _ (by omega)).trans HE8.out
              have HXR : Hid (Blk (w8.setRow w.heap.size (entC e)) w.heap.size 24 (entC e)) := setRow_same HX8.out
              have HLR : Hid (Below w.heap.size w (w8.setRow w.heap.size (entC e))) := below_setRow HL8.out (Nat.le_refl _) _
              have x1 := HNR.out.cell 0
              have x2 := HNR.out.frozen 0
              have x3 : ((w8.setRow w.heap.size (entC e)).setCell ⟨w.heap.size + 1, 0, none⟩ (.int .i64 (5 + (y : Int)))).cell? ⟨w.heap.size + 1 + 1, 0, none⟩ = some (.int .i64 0) := (HER.out.other (a := ⟨w.heap.size + 1, 0, none⟩) (by show w.heap.size + 1 + 1 ≠ w.heap.size + 1; omega) _).cell 0
              have x4 : ((w8.setRow w.heap.size (entC e)).setCell ⟨w.heap.size + 1, 0, none⟩ (.int .i64 (5 + (y : Int)))).frozen? ⟨w.heap.size + 1 + 1, 0, none⟩ = false := (HER.out.other (a := ⟨w.heap.size + 1, 0, none⟩) (by show w.heap.size + 1 + 1 ≠ w.heap.size + 1; omega) _).frozen 0
              clear hb8 HN9 HE9 HX9 HL9 l0
              go_wp2_with fail
              refine (must_yes _ _).mono ?_
              rintro x w3 ⟨rfl, rfl⟩
              go_wp2_with (refine wpList_store_row rfl 24 _ _ rfl w.heap.size (entC e) rfl rfl 24 (entC e) HX8.out ent_size rfl (by kernel_rfl) ?_)
              have y1 := (HXR.out.other (a := ⟨w.heap.size + 1, 0, none⟩) (by show w.heap.size ≠ w.heap.size + 1; omega) (.int .i64 (5 + (y : Int)))).other (a := ⟨w.heap.size + 1 + 1, 0, none⟩) (by show w.heap.size ≠ w.heap.size + 1 + 1; omega) (.int .i64 0)
              have y2 := (HNR.out.set_ 0 (.int .i64 (5 + (y : Int)))).other (a := ⟨w.heap.size + 1 + 1, 0, none⟩) (by show w.heap.size + 1 ≠ w.heap.size + 1 + 1; omega) (.int .i64 0)
              have y3 := (HER.out.other (a := ⟨w.heap.size + 1, 0, none⟩) (by show w.heap.size + 1 + 1 ≠ w.heap.size + 1; omega) (.int .i64 (5 + (y : Int)))).set_ 0 (.int .i64 0)
              have y4 := (HLR.out.setCell (p := ⟨w.heap.size + 1, 0, none⟩) (by show w.heap.size ≤ w.heap.size + 1; omega) (.int .i64 (5 + (y : Int)))).setCell (p := ⟨w.heap.size + 1 + 1, 0, none⟩) (by show w.heap.size ≤ w.heap.size + 1 + 1; omega) (.int .i64 0)
              obtain ⟨Z, hZ⟩ : ∃ Z, ((w8.setRow w.heap.size (entC e)).setCell ⟨w.heap.size + 1, 0, none⟩ (.int .i64 (5 + (y : Int)))).setCell ⟨w.heap.size + 1 + 1, 0, none⟩ (.int .i64 0) = Z := ⟨_, rfl⟩
              rw [hZ] at y1 y2 y3 y4 ⊢
              refine leaves_cons (f := 42) (args := #[.pointer (some ⟨w.heap.size + 1 + 1, 0, none⟩), .func (.func 43) #[] #[.pointer (some ⟨w.heap.size, 0, none⟩), .pointer (some ⟨w.heap.size + 1, 0, none⟩)]]) (by simp) (by simp [go_sem]) ?_
              refine (caught_idle _ _ _ _).mono ?_
              rintro x u' w' ⟨rfl, rfl, rfl⟩
              exact ⟨_, read_results _ _ e (5 + (y : Int)) 0 w.heap.size y1 y2 y3 rfl rfl rfl, rfl, y4⟩
            · have e1 : (zeroE, (0 : Int), (121 : Int)) = R := by rw [HR3.out, HRB.out, if_neg (fun h => hR h.2)]
              subst e1
              rw [if_neg hR] at hck
              have HCK := Lib.hid hck
              clear hck hR HR3 HRB
              go_wp2_with fail
              refine (HCK.out _).mono ?_
              rintro x w8 ⟨rfl, hb8⟩
              have HB8 := Lib.hid hb8
              clear hb8
              go_wp2_with fail
              refine (must_no _ _).mono ?_
              rintro x w3 ⟨rfl, rfl⟩
              go_wp2_with fail
              exact read_up w w8 _ 121 e _ _ w.heap.size (Nat.le_refl _) (HX9.out.below HB8.out HX9.out.lt) (HN9.out.below HB8.out HN9.out.lt) (HE9.out.below HB8.out HE9.out.lt) (HL9.out.trans (HB8.out.mono HL9.out.size)) rfl rfl rfl
          · have e1 : (zeroE, (0 : Int), (121 : Int)) = R := by rw [HR3.out, HRB.out, if_neg (fun h => hbs h.1)]
            subst e1
            have hl0 : ((bs.length : Int) == 0) = false := beq_eq_false_iff_ne.2 (fun h => hbs (List.eq_nil_of_length_eq_zero (by omega)))
            clear hbs HR3 HRB
            go_wp2_with fail
            refine (must_no _ _).mono ?_
            rintro x w3 ⟨rfl, rfl⟩
            go_wp2_with fail
            exact read_up w _ _ 121 e _ _ w.heap.size (Nat.le_refl _) HX9.out HN9.out HE9.out HL9.out rfl rfl rfl

end Go.Proofs.Ytdoidfnfhidgdaa
