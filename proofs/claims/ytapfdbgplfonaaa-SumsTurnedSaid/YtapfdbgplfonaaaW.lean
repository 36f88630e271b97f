import Derived.Test.YtapfdbgplfonaaaX
namespace Go.Proofs.Ytapfdbgplfonaaa
open Go.RowKit

/-- an empty row of bytes in block g -/
def Empty8 (w : World) (g : Nat) : Prop := w.heap[g]? = some (.cells #[] 5 (0, 0))
theorem Empty8.new (w : World) : Empty8 (w.alloc (.cells #[] 5)) w.heap.size := heap_alloc_new w _
theorem Empty8.alloc {w : World} {g : Nat} (h : Empty8 w g) (o : Obj) : Empty8 (w.alloc o) g := (Below.heap_alloc w o g (Array.getElem?_eq_some_iff.1 h).1).trans h
theorem Empty8.own {w : World} {g base : Nat} (h : Empty8 w g) (hb : base ≤ g) : Own w base (.slice (some ⟨g, 0, none⟩) 0 0) [] := by
  refine ⟨⟨rfl, .inr ⟨g, 0, #[], rfl, hb, h, Nat.le_refl _, ?_⟩⟩, by simp⟩
  exact ⟨by unfold maxLen; omega, rfl, rfl⟩

theorem Bys.news {w : World} {B : Nat} {ad : Addr} {bs : List Nat} (hb : Bys w B (some ad) bs) : ∀ j u, (bs.map B8)[j]? = some u → w.cell? (ad.add j) = some u := by
  intro j u hu
  rw [List.getElem?_map] at hu
  cases hj : bs[j]? with
  | none => rw [hj] at hu; cases hu
  | some x =>
    rw [hj] at hu
    obtain rfl : B8 x = u := by simpa using hu
    have hj2 : j < bs.length := (List.getElem?_eq_some_iff.1 hj).1
    obtain ⟨b, off, hA, _, hc⟩ := hb.2 (by intro e; subst e; simp at hj2)
    injection hA with hA
    subst hA
    have := hc j x hj
    unfold Addr.add
    split
    · rename_i h0; subst h0; simpa [B8] using this
    · simpa [B8] using this

/-- 'append([]byte{}, x...)', x of at least one byte: in block g or in a new one -/
theorem appE (W : World) (base g n c : Nat) (hE : Empty8 W g) (hb : base ≤ g) (A : Option Addr) (xs : List Nat) (hx : Bys W W.heap.size A xs) (hn : xs.length = n) (h0 : 0 < n) (hm : n ≤ 1099511627776) :
    ∃ g' c' w', (Builtin.append_ #[22, 22] 22 #[.slice (some ⟨g, 0, none⟩) 0 0, .slice A n c]).run Try.prog W = .ok (.slice (some ⟨g', 0, none⟩) n c') w' ∧
      Own w' base (.slice (some ⟨g', 0, none⟩) n c') xs ∧ W.grownBy w' (some g) ∧ (g' = g ∨ g' = W.heap.size) := by
  subst hn
  obtain ⟨i0, hi, hz0, hz1, hz2⟩ := info_parts byte_info
  obtain ⟨b, off, rfl, _, _⟩ := hx.2 (by intro e; subst e; simp at h0)
  have hlt := (Array.getElem?_eq_some_iff.1 hE).1
  obtain ⟨g', c', w', hr, h2, h3, h4, _⟩ := run_append_lies (P := Try.prog) W 22 22 base 5 i0 _ 1 1 Try.underlying22 hi hz0 hz1 hz2 rfl (by decide) _ 0 [] (hE.own hb).1 ⟨b, off, none⟩ xs.length c (xs.map B8) (by simp) hx.news (B8_all xs) h0
    (by unfold maxLen; omega) (by omega) (by omega) _ rfl
  rw [Nat.zero_add] at hr h2
  exact ⟨g', c', w', hr, ⟨by simpa using h2, hx.1⟩, h3, h4.imp (fun e => by simpa [Value.ownBlock] using e.symm) id⟩

theorem Row8.lt {w : World} {g n : Nat} (h : Row8 w g n) : g < w.heap.size := by
  obtain ⟨cs, h1, _⟩ := h
  exact h1.lt
theorem Own.bysS {w : World} {base g n c : Nat} {xs : List Nat} (h : Own w base (.slice (some ⟨g, 0, none⟩) n c) xs) : Bys w w.heap.size (some ⟨g, 0, none⟩) xs := by
  obtain ⟨A, c2, e, _, hb⟩ := h.form
  injection e with e1
  rw [e1]
  exact hb

theorem appH {w W : World} (hH : Below w.heap.size w W) (g n c : Nat) (hE : Empty8 W g) (hb : w.heap.size ≤ g) (A : Option Addr) (xs : List Nat) (hx : Bys w w.heap.size A xs) (hn : xs.length = n) (h0 : 0 < n) (hm : n ≤ 1099511627776) :
    ∃ g' c' w', (Builtin.append_ #[22, 22] 22 #[.slice (some ⟨g, 0, none⟩) 0 0, .slice A n c]).run Try.prog W = .ok (.slice (some ⟨g', 0, none⟩) n c') w' ∧
      Own w' w.heap.size (.slice (some ⟨g', 0, none⟩) n c') xs ∧ W.grownBy w' (some g) ∧ (g' = g ∨ g' = W.heap.size) :=
  appE W w.heap.size g n c hE hb A xs (hx.grow hH) hn h0 hm
theorem Empty8.second (w : World) : Empty8 ((w.alloc (.cells #[] 5)).alloc (.cells #[] 5)) (w.heap.size + 1) := by
  have h := Empty8.new (w.alloc (.cells #[] 5))
  rwa [World.size_alloc] at h
theorem Empty8.grown {w w' : World} {g r : Nat} (hg : w.grownBy w' (some r)) (h : Empty8 w g) (hne : g ≠ r) : Empty8 w' g :=
  (hg.block g (Array.getElem?_eq_some_iff.1 h).1 (by simpa using hne)).trans h
theorem Own.grownBy {w w' : World} {base g n c r : Nat} {xs : List Nat} (h : Own w base (.slice (some ⟨g, 0, none⟩) n c) xs) (hg : w.grownBy w' (some r)) (hne : g ≠ r) : Own w' base (.slice (some ⟨g, 0, none⟩) n c) xs :=
  ⟨h.1.kept hg (.inr (by simpa [Value.ownBlock] using hne)), h.2⟩

set_option maxRecDepth 100000 in
set_option maxHeartbeats 4000000 in
theorem bits_ok (A1 A2 : Option Addr) (a b : List Nat) (c1 c2 n bit : Nat) (w : World) (ha : Bys w w.heap.size A1 a) (hb : Bys w w.heap.size A2 b) (hca : a.length ≤ c1) (hcb : b.length ≤ c2)
    (hn : n = min a.length b.length) (h300 : n ≤ 300) (hbit : bit < 8 * n) :
    Calls Try.prog 7 #[.slice A1 a.length c1, .slice A2 b.length c2, .int .i64 bit] w fun e w' => e = .returned (.bool true) ∧ Below w.heap.size w w' := by
  have hna : n ≤ a.length := by omega
  have hnb : n ≤ b.length := by omega
  have hta := ha.take n
  have htb := hb.take n
  have hxl : (a.take n).length = n := by simp; omega
  have hyl : (b.take n).length = n := by simp; omega
  have HS : Hid (∀ (W : World) (A : Option Addr) (c : Nat) (xs : List Nat), xs.length = n → Bys W W.heap.size A xs → Calls Try.prog 12 #[.slice A n c] W fun e w' => e = .returned (.int .u32 (Crc.sum xs : Nat)) ∧ Below W.heap.size W w') := by
    intro W A c xs h h2
    subst h
    exact Sum_any A xs c W h2 (by omega)
  have hn1a : 0 < n := by omega
  go_enter Try.func7, Try.ntmps7
  go_wp2_with fail
  rw [show (min (a.length : Int) (b.length : Int)) = (n : Int) by omega]
  have HN0 := Lib.hid hn
  clear hn
  have hn1 : (n : Int) ≤ (c1 : Int) := by omega
  have hn2 : (n : Int) ≤ (c2 : Int) := by omega
  have hn0 : (0 : Int) ≤ (n : Int) := by omega
  have hnc1 : n ≤ c1 := by omega
  have hnc2 : n ≤ c2 := by omega
  refine wp_region_noPanic ?_
  refine wp_region_held_drew (S := fun w' => Below w.heap.size w w') (by kernel_rfl) (below_drew (Below.refl _ _)) (fun hHeld => ?_)
  refine takeH (i := 1) (v := ?_) rfl (by kernel_rfl) (by kernel_rfl) (by kernel_rfl) (fun _ _ _ h => h) (Or.inl ⟨by rfl, ?_⟩) (by assumption) ?_
  rotate_left
  · first | (intro w hSw; (try dsimp only at hSw); go_simp; done) | (intro w hSw; (try dsimp only at hSw); go_simp; with_reducible rfl)
  try simp only [Act.put, List.setIfInBounds_toArray, List.set_cons_zero, List.set_cons_succ]
  refine takeH (i := 2) (v := ?_) rfl (by kernel_rfl) (by kernel_rfl) (by kernel_rfl) (fun _ _ _ h => h) (Or.inl ⟨by rfl, ?_⟩) (by assumption) ?_
  rotate_left
  · first | (intro w hSw; (try dsimp only at hSw); go_simp; done) | (intro w hSw; (try dsimp only at hSw); go_simp; with_reducible rfl)
  try simp only [Act.put, List.setIfInBounds_toArray, List.set_cons_zero, List.set_cons_succ]
  refine takeH (i := 6) (v := ?_) rfl (by kernel_rfl) (by kernel_rfl) (by kernel_rfl) (fun _ _ _ h => h) (Or.inl ⟨by rfl, ?_⟩) (by assumption) ?_
  rotate_left
  · first | (intro w hSw; (try dsimp only at hSw); go_simp; done) | (intro w hSw; (try dsimp only at hSw); go_simp; with_reducible rfl)
  try simp only [Act.put, List.setIfInBounds_toArray, List.set_cons_zero, List.set_cons_succ]
  refine takeH (i := 7) (v := ?_) rfl (by kernel_rfl) (by kernel_rfl) (by kernel_rfl) (fun _ _ _ h => h) (Or.inl ⟨by rfl, ?_⟩) (by assumption) ?_
  rotate_left
  · first | (intro w hSw; (try dsimp only at hSw); go_simp; done) | (intro w hSw; (try dsimp only at hSw); go_simp; with_reducible rfl)
  try simp only [Act.put, List.setIfInBounds_toArray, List.set_cons_zero, List.set_cons_succ]
  refine takeH (i := 3) (v := ?_) rfl (by kernel_rfl) (by kernel_rfl) (by kernel_rfl) (fun _ _ _ h => h) (Or.inl ⟨by rfl, ?_⟩) (by assumption) ?_
  rotate_left
  · first | (intro w hSw; (try dsimp only at hSw); go_simp; done) | (intro w hSw; (try dsimp only at hSw); go_simp; with_reducible rfl)
  try simp only [Act.put, List.setIfInBounds_toArray, List.set_cons_zero, List.set_cons_succ]
  refine takeH (i := 8) (v := ?_) rfl (by kernel_rfl) (by kernel_rfl) (by kernel_rfl) (fun _ _ _ h => h) (Or.inl ⟨by rfl, ?_⟩) (by assumption) ?_
  rotate_left
  · first | (intro w hSw; (try dsimp only at hSw); go_simp; done) | (intro w hSw; (try dsimp only at hSw); go_simp; with_reducible rfl)
  try simp only [Act.put, List.setIfInBounds_toArray, List.set_cons_zero, List.set_cons_succ]
  refine wpAnyH_ready (rs := [0, 5]) (by kernel_rfl) (by simp) ?_
  refine consH (i := 0) rfl (fun K hK => ?_) (consH (i := 5) rfl (fun K hK => ?_) AllReadyH.nil)
  · skip
    go_simp
    refine hK.out _ _ (by first | exact hHeld.alloc hHeld.size _ | exact below_drew ((Below.refl _ w).alloc (Nat.le_refl _) _)) (fun hHeld => ?_)
    clear hK K
    try simp only [Act.put, List.setIfInBounds_toArray, List.set_cons_zero, List.set_cons_succ]
    refine wpAnyH_ready (rs := [4, 5]) (by kernel_rfl) (by simp) ?_
    refine consH (i := 4) rfl (fun K hK => ?_) (consH (i := 5) rfl (fun K hK => ?_) AllReadyH.nil)
    · skip
      obtain ⟨g4, d4, w4, hr4, ho4, hg4, hx4⟩ := appH hHeld w.heap.size n c1 (Empty8.new w) (by omega) A1 (a.take n) hta (by simp; omega) (by omega) (by omega)
      have HR4 := Lib.hid hr4
      clear hr4
      rw [if_pos (by rfl)]
      refine Lib.wp_append_run _ _ _ _ _ rfl _ _ rfl rfl _ _ HR4.out ?_
      have hsz4 := hHeld.size
      refine hK.out _ _ (hHeld.grown hg4 hHeld.size (fun k e => by injection e; omega)) (fun hHeld => ?_)
      clear hK K HR4
      have hs4 := hHeld.size
      try simp only [Act.put, List.setIfInBounds_toArray, List.set_cons_zero, List.set_cons_succ]
      refine wpAnyH_ready (rs := [5]) (by kernel_rfl) (by simp) ?_
      refine consH (i := 5) rfl (fun K hK => ?_) AllReadyH.nil
      go_simp
      refine hK.out _ _ (by first | exact hHeld.alloc hHeld.size _ | exact below_drew ((Below.refl _ w).alloc (Nat.le_refl _) _)) (fun hHeld => ?_)
      clear hK K
      try simp only [Act.put, List.setIfInBounds_toArray, List.set_cons_zero, List.set_cons_succ]
      refine wpAnyH_ready (rs := [9]) (by kernel_rfl) (by simp) ?_
      refine consH (i := 9) rfl (fun K hK => ?_) AllReadyH.nil
      obtain ⟨g9, d9, w9, hr9, ho9, hg9, hx9⟩ := appH hHeld w4.heap.size n c2 (Empty8.new w4) (by omega) A2 (b.take n) htb (by simp; omega) (by omega) (by omega)
      have HR9 := Lib.hid hr9
      clear hr9
      rw [if_pos (by rfl)]
      refine Lib.wp_append_run _ _ _ _ _ rfl _ _ rfl rfl _ _ HR9.out ?_
      have hsz9 := hHeld.size
      refine hK.out _ _ (hHeld.grown hg9 hHeld.size (fun k e => by injection e; omega)) (fun hHeld => ?_)
      clear hK K HR9
      try simp only [Act.put, List.setIfInBounds_toArray, List.set_cons_zero, List.set_cons_succ]
      refine takeH (i := 10) (v := ?_) rfl (by kernel_rfl) (by kernel_rfl) (by kernel_rfl) (fun _ _ _ h => h) (Or.inl ⟨by rfl, ?_⟩) (by assumption) ?_
      rotate_left
      · first | (intro w hSw; (try dsimp only at hSw); go_simp; done) | (intro w hSw; (try dsimp only at hSw); go_simp; with_reducible rfl)
      try simp only [Act.put, List.setIfInBounds_toArray, List.set_cons_zero, List.set_cons_succ]
      refine takeH (i := 11) (v := ?_) rfl (by kernel_rfl) (by kernel_rfl) (by kernel_rfl) (fun _ _ _ h => h) (Or.inl ⟨by rfl, ?_⟩) (by assumption) ?_
      rotate_left
      · first | (intro w hSw; (try dsimp only at hSw); go_simp; done) | (intro w hSw; (try dsimp only at hSw); go_simp; with_reducible rfl)
      try simp only [Act.put, List.setIfInBounds_toArray, List.set_cons_zero, List.set_cons_succ]
      refine wpAnyH_done (by kernel_rfl) ?_ _
      refine NoPanic.normal ?_
      have hl4 := (ho4.1.lt g4 rfl).2
      have ho4' : Own w9 w.heap.size (.slice (some ⟨g4, 0, none⟩) n d4) (a.take n) := Own.grownBy (w := w4.alloc (.cells #[] 5)) ⟨ho4.1.alloc _, ho4.2⟩ hg9 (by omega)
      have hne : g4 ≠ g9 := by
        rw [World.size_alloc] at hx9
        omega
      clear hg4 hg9 hx4 hx9 ho4 hl4
      rcases ho4'.formG with ⟨h, _⟩ | ⟨gx, cx, ex, _, hbx, _, hrx⟩
      · cases h
      injection ex with e1 e2 e3
      injection e1 with e1
      injection e1 with e1
      subst e1 e3
      rcases ho9.formG with ⟨h, _⟩ | ⟨gy, cy, ey, _, hby, _, hry⟩
      · cases h
      injection ey with e4 e5 e6
      injection e4 with e4
      injection e4 with e4
      subst e4 e6
      rw [← e2] at hrx
      rw [← e5] at hry
      have hxs := ho4'.bysS
      have hys := ho9.bysS
      clear ho4' ho9 e2 e5
      go_wp2_with fail
      refine (HS.out w9 _ d4 _ hxl hxs).mono ?_
      rintro e v1 ⟨rfl, hbv1⟩
      have hbw1 : Below w.heap.size w v1 := ext hHeld hbv1
      have hxs1 := hxs.grow hbv1
      have hys1 := hys.grow hbv1
      have hrx1 := hrx.below hbv1 hrx.lt
      have hry1 := hry.below hbv1 hry.lt
      clear hxs hys hrx hry
      go_wp2_with fail
      refine (HS.out v1 _ d9 _ hyl hys1).mono ?_
      rintro e v2 ⟨rfl, hbv2⟩
      have hbw2 : Below w.heap.size w v2 := ext hbw1 hbv2
      have hxs2 := hxs1.grow hbv2
      have hys2 := hys1.grow hbv2
      have hrx2 := hrx1.below hbv2 hrx1.lt
      have hry2 := hry1.below hbv2 hry1.lt
      clear hxs1 hys1 hrx1 hry1
      have hk8 : bit / 8 < n := by omega
      obtain ⟨x0, hx0, hx0b⟩ := hrx2.at_ hk8
      obtain ⟨y0, hy0, hy0b⟩ := hry2.at_ hk8
      have hfx := hrx2.frozen (bit / 8)
      have hfy := hry2.frozen (bit / 8)
      go_wp2_with fail
      rw [xor8 x0 bit hx0b, xor8 y0 bit hy0b]
      have hxsV := hxs2.flip hxl hk8 hx0
      have hysV := hys2.flip hyl hk8 hy0
      obtain ⟨V, hV⟩ : ∃ V, (v2.setCell ⟨g4, bit / 8, none⟩ (.int .u8 (x0 ^^^ 2 ^ (bit % 8) : Nat))).setCell ⟨g9, bit / 8, none⟩ (.int .u8 (y0 ^^^ 2 ^ (bit % 8) : Nat)) = V := ⟨_, rfl⟩
      have hxV : Bys V V.heap.size (some ⟨g4, 0, none⟩) (Crc.flip (a.take n) bit) := by
        rw [← hV]
        exact (hxsV.setCell_other (a := ⟨g9, bit / 8, none⟩) (fun b o e => by injection e with e; injection e with e; subst e; exact hne) _).mono (by simp [World.setCell])
      have hyV : Bys V V.heap.size (some ⟨g9, 0, none⟩) (Crc.flip (b.take n) bit) := by
        rw [← hV]
        exact ((hys2.setCell_other (a := ⟨g4, bit / 8, none⟩) (fun b o e => by injection e with e; injection e with e; subst e; exact Ne.symm hne) _).flip hyl hk8 (by rw [World.cell?_setCell_other] <;> first | exact hy0 | (intro e; injection e with e; exact hne e))).mono (by simp [World.setCell])
      have hbV : Below w.heap.size w V := by
        rw [← hV]
        exact (hbw2.setCell (p := ⟨g4, bit / 8, none⟩) hbx _).setCell (p := ⟨g9, bit / 8, none⟩) hby _
      rw [hV]
      clear hV hxsV hysV hx0 hy0 hfx hfy hrx2 hry2 hxs2 hys2
      obtain ⟨fx, hfxe⟩ : ∃ fx, Crc.flip (a.take n) bit = fx := ⟨_, rfl⟩
      obtain ⟨fy, hfye⟩ : ∃ fy, Crc.flip (b.take n) bit = fy := ⟨_, rfl⟩
      have hfxl : fx.length = n := by rw [← hfxe, Crc.flip_length, hxl]
      have hfyl : fy.length = n := by rw [← hfye, Crc.flip_length, hyl]
      have hq1 := sum_flip (a.take n) bit hta.1 (by rw [hxl]; exact hbit)
      have hq2 := sum_flip (b.take n) bit htb.1 (by rw [hyl]; exact hbit)
      have hq3 := sum_flip_ne (a.take n) bit hta.1 (by rw [hxl]; exact hbit)
      rw [hxl, hfxe] at hq1
      rw [hyl, hfye] at hq2
      rw [hfxe] at hxV hq3
      rw [hfye] at hyV
      have hsl1 := sum_lt (a.take n)
      have hsl2 := sum_lt (b.take n)
      have hsl3 := sum_lt fx
      have hsl4 := sum_lt fy
      have HSX := HS.out
      generalize Crc.sum (a.take n) = s1 at *
      generalize Crc.sum (b.take n) = s2 at *
      obtain ⟨D, hD⟩ : ∃ D, Crc.one (8 * n - bit) = D := ⟨_, rfl⟩
      rw [hD] at hq1 hq2
      have hSx := fun W h => HSX W (some ⟨g4, 0, none⟩) d4 fx hfxl h
      have hSy := fun W h => HSX W (some ⟨g9, 0, none⟩) d9 fy hfyl h
      have hRx := fun W h => refSum_any (some ⟨g4, 0, none⟩) fx d4 W h (by omega)
      rw [hfxl] at hRx
      generalize Crc.sum fx = s3 at *
      generalize Crc.sum fy = s4 at *
      have hz1 : bits BinOp.xor IntKind.u32 (s1 : Int) (s3 : Int) = (D : Int) := by rw [u32_xor_nat s1 s3 hsl1 hsl3, hq1]
      have hz2 : bits BinOp.xor IntKind.u32 (s2 : Int) (s4 : Int) = (D : Int) := by rw [u32_xor_nat s2 s4 hsl2 hsl4, hq2]
      have hz3 : ((s1 : Int) != (s3 : Int)) = true := by rw [bne_iff_ne]; omega
      have HSX2 := Lib.hid hSx
      have HSY2 := Lib.hid hSy
      have HRX2 := Lib.hid hRx
      clear hSx hSy hRx HSX hq1 hq2 hq3 hD hfxe hfye hta htb ha hb hxl hyl hHeld
      refine (HSX2.out V hxV).mono ?_
      rintro e v3 ⟨rfl, hb3⟩
      have hxV3 := hxV.grow hb3
      have hyV3 := hyV.grow hb3
      have hbw3 := ext hbV hb3
      clear hxV hyV
      go_wp2_with fail
      refine (HSY2.out v3 hyV3).mono ?_
      rintro e v4 ⟨rfl, hb4⟩
      have hxV4 := hxV3.grow hb4
      have hbw4 := ext hbw3 hb4
      go_wp2_with fail
      refine (HRX2.out v4 hxV4).mono ?_
      rintro e v5 ⟨rfl, rfl⟩
      go_wp2_with fail
      refine (works_any _).mono ?_
      rintro e v6 ⟨rfl, hb6⟩
      go_wp2_with fail
      go_ret
      exact ⟨rfl, ext hbw4 hb6⟩
    · skip
      go_simp
      refine hK.out _ _ (by first | exact hHeld.alloc hHeld.size _ | exact below_drew ((Below.refl _ w).alloc (Nat.le_refl _) _)) (fun hHeld => ?_)
      clear hK K
      try simp only [Act.put, List.setIfInBounds_toArray, List.set_cons_zero, List.set_cons_succ]
      refine wpAnyH_ready (rs := [4]) (by kernel_rfl) (by simp) ?_
      refine consH (i := 4) rfl (fun K hK => ?_) AllReadyH.nil
      obtain ⟨g4, d4, w4, hr4, ho4, hg4, hx4⟩ := appH hHeld w.heap.size n c1 ((Empty8.new w).alloc (.cells #[] 5)) (by omega) A1 (a.take n) hta (by simp; omega) (by omega) (by omega)
      have HR4 := Lib.hid hr4
      clear hr4
      rw [if_pos (by rfl)]
      refine Lib.wp_append_run _ _ _ _ _ rfl _ _ rfl rfl _ _ HR4.out ?_
      have hsz4 := hHeld.size
      refine hK.out _ _ (hHeld.grown hg4 hHeld.size (fun k e => by injection e; omega)) (fun hHeld => ?_)
      clear hK K HR4
      try simp only [Act.put, List.setIfInBounds_toArray, List.set_cons_zero, List.set_cons_succ]
      refine wpAnyH_ready (rs := [9]) (by kernel_rfl) (by simp) ?_
      refine consH (i := 9) rfl (fun K hK => ?_) AllReadyH.nil
      obtain ⟨g9, d9, w9, hr9, ho9, hg9, hx9⟩ := appH hHeld (w.heap.size + 1) n c2 (Empty8.grown hg4 (Empty8.second w) (by omega)) (by omega) A2 (b.take n) htb (by simp; omega) (by omega) (by omega)
      have HR9 := Lib.hid hr9
      clear hr9
      rw [if_pos (by rfl)]
      refine Lib.wp_append_run _ _ _ _ _ rfl _ _ rfl rfl _ _ HR9.out ?_
      have hsz9 := hHeld.size
      refine hK.out _ _ (hHeld.grown hg9 hHeld.size (fun k e => by injection e; omega)) (fun hHeld => ?_)
      clear hK K HR9
      try simp only [Act.put, List.setIfInBounds_toArray, List.set_cons_zero, List.set_cons_succ]
      refine takeH (i := 10) (v := ?_) rfl (by kernel_rfl) (by kernel_rfl) (by kernel_rfl) (fun _ _ _ h => h) (Or.inl ⟨by rfl, ?_⟩) (by assumption) ?_
      rotate_left
      · first | (intro w hSw; (try dsimp only at hSw); go_simp; done) | (intro w hSw; (try dsimp only at hSw); go_simp; with_reducible rfl)
      try simp only [Act.put, List.setIfInBounds_toArray, List.set_cons_zero, List.set_cons_succ]
      refine takeH (i := 11) (v := ?_) rfl (by kernel_rfl) (by kernel_rfl) (by kernel_rfl) (fun _ _ _ h => h) (Or.inl ⟨by rfl, ?_⟩) (by assumption) ?_
      rotate_left
      · first | (intro w hSw; (try dsimp only at hSw); go_simp; done) | (intro w hSw; (try dsimp only at hSw); go_simp; with_reducible rfl)
      try simp only [Act.put, List.setIfInBounds_toArray, List.set_cons_zero, List.set_cons_succ]
      refine wpAnyH_done (by kernel_rfl) ?_ _
      refine NoPanic.normal ?_
      have hl4 := (ho4.1.lt g4 rfl).2
      have hx4' : g4 = w.heap.size ∨ g4 = w.heap.size + 2 := by simpa using hx4
      have ho4' : Own w9 w.heap.size (.slice (some ⟨g4, 0, none⟩) n d4) (a.take n) := ho4.grownBy hg9 (by omega)
      have hne : g4 ≠ g9 := by omega
      clear hg4 hg9 hx4 hx9 ho4 hl4
      rcases ho4'.formG with ⟨h, _⟩ | ⟨gx, cx, ex, _, hbx, _, hrx⟩
      · cases h
      injection ex with e1 e2 e3
      injection e1 with e1
      injection e1 with e1
      subst e1 e3
      rcases ho9.formG with ⟨h, _⟩ | ⟨gy, cy, ey, _, hby, _, hry⟩
      · cases h
      injection ey with e4 e5 e6
      injection e4 with e4
      injection e4 with e4
      subst e4 e6
      rw [← e2] at hrx
      rw [← e5] at hry
      have hxs := ho4'.bysS
      have hys := ho9.bysS
      clear ho4' ho9 e2 e5
      go_wp2_with fail
      refine (HS.out w9 _ d4 _ hxl hxs).mono ?_
      rintro e v1 ⟨rfl, hbv1⟩
      have hbw1 : Below w.heap.size w v1 := ext hHeld hbv1
      have hxs1 := hxs.grow hbv1
      have hys1 := hys.grow hbv1
      have hrx1 := hrx.below hbv1 hrx.lt
      have hry1 := hry.below hbv1 hry.lt
      clear hxs hys hrx hry
      go_wp2_with fail
      refine (HS.out v1 _ d9 _ hyl hys1).mono ?_
      rintro e v2 ⟨rfl, hbv2⟩
      have hbw2 : Below w.heap.size w v2 := ext hbw1 hbv2
      have hxs2 := hxs1.grow hbv2
      have hys2 := hys1.grow hbv2
      have hrx2 := hrx1.below hbv2 hrx1.lt
      have hry2 := hry1.below hbv2 hry1.lt
      clear hxs1 hys1 hrx1 hry1
      have hk8 : bit / 8 < n := by omega
      obtain ⟨x0, hx0, hx0b⟩ := hrx2.at_ hk8
      obtain ⟨y0, hy0, hy0b⟩ := hry2.at_ hk8
      have hfx := hrx2.frozen (bit / 8)
      have hfy := hry2.frozen (bit / 8)
      go_wp2_with fail
      rw [xor8 x0 bit hx0b, xor8 y0 bit hy0b]
      have hxsV := hxs2.flip hxl hk8 hx0
      have hysV := hys2.flip hyl hk8 hy0
      obtain ⟨V, hV⟩ : ∃ V, (v2.setCell ⟨g4, bit / 8, none⟩ (.int .u8 (x0 ^^^ 2 ^ (bit % 8) : Nat))).setCell ⟨g9, bit / 8, none⟩ (.int .u8 (y0 ^^^ 2 ^ (bit % 8) : Nat)) = V := ⟨_, rfl⟩
      have hxV : Bys V V.heap.size (some ⟨g4, 0, none⟩) (Crc.flip (a.take n) bit) := by
        rw [← hV]
        exact (hxsV.setCell_other (a := ⟨g9, bit / 8, none⟩) (fun b o e => by injection e with e; injection e with e; subst e; exact hne) _).mono (by simp [World.setCell])
      have hyV : Bys V V.heap.size (some ⟨g9, 0, none⟩) (Crc.flip (b.take n) bit) := by
        rw [← hV]
        exact ((hys2.setCell_other (a := ⟨g4, bit / 8, none⟩) (fun b o e => by injection e with e; injection e with e; subst e; exact Ne.symm hne) _).flip hyl hk8 (by rw [World.cell?_setCell_other] <;> first | exact hy0 | (intro e; injection e with e; exact hne e))).mono (by simp [World.setCell])
      have hbV : Below w.heap.size w V := by
        rw [← hV]
        exact (hbw2.setCell (p := ⟨g4, bit / 8, none⟩) hbx _).setCell (p := ⟨g9, bit / 8, none⟩) hby _
      rw [hV]
      clear hV hxsV hysV hx0 hy0 hfx hfy hrx2 hry2 hxs2 hys2
      obtain ⟨fx, hfxe⟩ : ∃ fx, Crc.flip (a.take n) bit = fx := ⟨_, rfl⟩
      obtain ⟨fy, hfye⟩ : ∃ fy, Crc.flip (b.take n) bit = fy := ⟨_, rfl⟩
      have hfxl : fx.length = n := by rw [← hfxe, Crc.flip_length, hxl]
      have hfyl : fy.length = n := by rw [← hfye, Crc.flip_length, hyl]
      have hq1 := sum_flip (a.take n) bit hta.1 (by rw [hxl]; exact hbit)
      have hq2 := sum_flip (b.take n) bit htb.1 (by rw [hyl]; exact hbit)
      have hq3 := sum_flip_ne (a.take n) bit hta.1 (by rw [hxl]; exact hbit)
      rw [hxl, hfxe] at hq1
      rw [hyl, hfye] at hq2
      rw [hfxe] at hxV hq3
      rw [hfye] at hyV
      have hsl1 := sum_lt (a.take n)
      have hsl2 := sum_lt (b.take n)
      have hsl3 := sum_lt fx
      have hsl4 := sum_lt fy
      have HSX := HS.out
      generalize Crc.sum (a.take n) = s1 at *
      generalize Crc.sum (b.take n) = s2 at *
      obtain ⟨D, hD⟩ : ∃ D, Crc.one (8 * n - bit) = D := ⟨_, rfl⟩
      rw [hD] at hq1 hq2
      have hSx := fun W h => HSX W (some ⟨g4, 0, none⟩) d4 fx hfxl h
      have hSy := fun W h => HSX W (some ⟨g9, 0, none⟩) d9 fy hfyl h
      have hRx := fun W h => refSum_any (some ⟨g4, 0, none⟩) fx d4 W h (by omega)
      rw [hfxl] at hRx
      generalize Crc.sum fx = s3 at *
      generalize Crc.sum fy = s4 at *
      have hz1 : bits BinOp.xor IntKind.u32 (s1 : Int) (s3 : Int) = (D : Int) := by rw [u32_xor_nat s1 s3 hsl1 hsl3, hq1]
      have hz2 : bits BinOp.xor IntKind.u32 (s2 : Int) (s4 : Int) = (D : Int) := by rw [u32_xor_nat s2 s4 hsl2 hsl4, hq2]
      have hz3 : ((s1 : Int) != (s3 : Int)) = true := by rw [bne_iff_ne]; omega
      have HSX2 := Lib.hid hSx
      have HSY2 := Lib.hid hSy
      have HRX2 := Lib.hid hRx
      clear hSx hSy hRx HSX hq1 hq2 hq3 hD hfxe hfye hta htb ha hb hxl hyl hHeld
      refine (HSX2.out V hxV).mono ?_
      rintro e v3 ⟨rfl, hb3⟩
      have hxV3 := hxV.grow hb3
      have hyV3 := hyV.grow hb3
      have hbw3 := ext hbV hb3
      clear hxV hyV
      go_wp2_with fail
      refine (HSY2.out v3 hyV3).mono ?_
      rintro e v4 ⟨rfl, hb4⟩
      have hxV4 := hxV3.grow hb4
      have hbw4 := ext hbw3 hb4
      go_wp2_with fail
      refine (HRX2.out v4 hxV4).mono ?_
      rintro e v5 ⟨rfl, rfl⟩
      go_wp2_with fail
      refine (works_any _).mono ?_
      rintro e v6 ⟨rfl, hb6⟩
      go_wp2_with fail
      go_ret
      exact ⟨rfl, ext hbw4 hb6⟩
  · skip
    go_simp
    refine hK.out _ _ (by first | exact hHeld.alloc hHeld.size _ | exact below_drew ((Below.refl _ w).alloc (Nat.le_refl _) _)) (fun hHeld => ?_)
    clear hK K
    try simp only [Act.put, List.setIfInBounds_toArray, List.set_cons_zero, List.set_cons_succ]
    refine wpAnyH_ready (rs := [0]) (by kernel_rfl) (by simp) ?_
    refine consH (i := 0) rfl (fun K hK => ?_) AllReadyH.nil
    go_simp
    refine hK.out _ _ (by first | exact hHeld.alloc hHeld.size _ | exact below_drew ((Below.refl _ w).alloc (Nat.le_refl _) _)) (fun hHeld => ?_)
    clear hK K
    try simp only [Act.put, List.setIfInBounds_toArray, List.set_cons_zero, List.set_cons_succ]
    refine wpAnyH_ready (rs := [4]) (by kernel_rfl) (by simp) ?_
    refine consH (i := 4) rfl (fun K hK => ?_) AllReadyH.nil
    obtain ⟨g4, d4, w4, hr4, ho4, hg4, hx4⟩ := appH hHeld (w.heap.size + 1) n c1 (Empty8.second w) (by omega) A1 (a.take n) hta (by simp; omega) (by omega) (by omega)
    have HR4 := Lib.hid hr4
    clear hr4
    rw [if_pos (by rfl)]
    refine Lib.wp_append_run _ _ _ _ _ rfl _ _ rfl rfl _ _ HR4.out ?_
    have hsz4 := hHeld.size
    refine hK.out _ _ (hHeld.grown hg4 hHeld.size (fun k e => by injection e; omega)) (fun hHeld => ?_)
    clear hK K HR4
    try simp only [Act.put, List.setIfInBounds_toArray, List.set_cons_zero, List.set_cons_succ]
    refine wpAnyH_ready (rs := [9]) (by kernel_rfl) (by simp) ?_
    refine consH (i := 9) rfl (fun K hK => ?_) AllReadyH.nil
    obtain ⟨g9, d9, w9, hr9, ho9, hg9, hx9⟩ := appH hHeld w.heap.size n c2 (Empty8.grown hg4 ((Empty8.new w).alloc (.cells #[] 5)) (by omega)) (by omega) A2 (b.take n) htb (by simp; omega) (by omega) (by omega)
    have HR9 := Lib.hid hr9
    clear hr9
    rw [if_pos (by rfl)]
    refine Lib.wp_append_run _ _ _ _ _ rfl _ _ rfl rfl _ _ HR9.out ?_
    have hsz9 := hHeld.size
    refine hK.out _ _ (hHeld.grown hg9 hHeld.size (fun k e => by injection e; omega)) (fun hHeld => ?_)
    clear hK K HR9
    try simp only [Act.put, List.setIfInBounds_toArray, List.set_cons_zero, List.set_cons_succ]
    refine takeH (i := 10) (v := ?_) rfl (by kernel_rfl) (by kernel_rfl) (by kernel_rfl) (fun _ _ _ h => h) (Or.inl ⟨by rfl, ?_⟩) (by assumption) ?_
    rotate_left
    · first | (intro w hSw; (try dsimp only at hSw); go_simp; done) | (intro w hSw; (try dsimp only at hSw); go_simp; with_reducible rfl)
    try simp only [Act.put, List.setIfInBounds_toArray, List.set_cons_zero, List.set_cons_succ]
    refine takeH (i := 11) (v := ?_) rfl (by kernel_rfl) (by kernel_rfl) (by kernel_rfl) (fun _ _ _ h => h) (Or.inl ⟨by rfl, ?_⟩) (by assumption) ?_
    rotate_left
    · first | (intro w hSw; (try dsimp only at hSw); go_simp; done) | (intro w hSw; (try dsimp only at hSw); go_simp; with_reducible rfl)
    try simp only [Act.put, List.setIfInBounds_toArray, List.set_cons_zero, List.set_cons_succ]
    refine wpAnyH_done (by kernel_rfl) ?_ _
    refine NoPanic.normal ?_
    have hl4 := (ho4.1.lt g4 rfl).2
    have hx4' : g4 = w.heap.size + 1 ∨ g4 = w.heap.size + 2 := by simpa using hx4
    have ho4' : Own w9 w.heap.size (.slice (some ⟨g4, 0, none⟩) n d4) (a.take n) := ho4.grownBy hg9 (by omega)
    have hne : g4 ≠ g9 := by omega
    clear hg4 hg9 hx4 hx9 ho4 hl4
    rcases ho4'.formG with ⟨h, _⟩ | ⟨gx, cx, ex, _, hbx, _, hrx⟩
    · cases h
    injection ex with e1 e2 e3
    injection e1 with e1
    injection e1 with e1
    subst e1 e3
    rcases ho9.formG with ⟨h, _⟩ | ⟨gy, cy, ey, _, hby, _, hry⟩
    · cases h
    injection ey with e4 e5 e6
    injection e4 with e4
    injection e4 with e4
    subst e4 e6
    rw [← e2] at hrx
    rw [← e5] at hry
    have hxs := ho4'.bysS
    have hys := ho9.bysS
    clear ho4' ho9 e2 e5
    go_wp2_with fail
    refine (HS.out w9 _ d4 _ hxl hxs).mono ?_
    rintro e v1 ⟨rfl, hbv1⟩
    have hbw1 : Below w.heap.size w v1 := ext hHeld hbv1
    have hxs1 := hxs.grow hbv1
    have hys1 := hys.grow hbv1
    have hrx1 := hrx.below hbv1 hrx.lt
    have hry1 := hry.below hbv1 hry.lt
    clear hxs hys hrx hry
    go_wp2_with fail
    refine (HS.out v1 _ d9 _ hyl hys1).mono ?_
    rintro e v2 ⟨rfl, hbv2⟩
    have hbw2 : Below w.heap.size w v2 := ext hbw1 hbv2
    have hxs2 := hxs1.grow hbv2
    have hys2 := hys1.grow hbv2
    have hrx2 := hrx1.below hbv2 hrx1.lt
    have hry2 := hry1.below hbv2 hry1.lt
    clear hxs1 hys1 hrx1 hry1
    have hk8 : bit / 8 < n := by omega
    obtain ⟨x0, hx0, hx0b⟩ := hrx2.at_ hk8
    obtain ⟨y0, hy0, hy0b⟩ := hry2.at_ hk8
    have hfx := hrx2.frozen (bit / 8)
    have hfy := hry2.frozen (bit / 8)
    go_wp2_with fail
    rw [xor8 x0 bit hx0b, xor8 y0 bit hy0b]
    have hxsV := hxs2.flip hxl hk8 hx0
    have hysV := hys2.flip hyl hk8 hy0
    obtain ⟨V, hV⟩ : ∃ V, (v2.setCell ⟨g4, bit / 8, none⟩ (.int .u8 (x0 ^^^ 2 ^ (bit % 8) : Nat))).setCell ⟨g9, bit / 8, none⟩ (.int .u8 (y0 ^^^ 2 ^ (bit % 8) : Nat)) = V := ⟨_, rfl⟩
    have hxV : Bys V V.heap.size (some ⟨g4, 0, none⟩) (Crc.flip (a.take n) bit) := by
      rw [← hV]
      exact (hxsV.setCell_other (a := ⟨g9, bit / 8, none⟩) (fun b o e => by injection e with e; injection e with e; subst e; exact hne) _).mono (by simp [World.setCell])
    have hyV : Bys V V.heap.size (some ⟨g9, 0, none⟩) (Crc.flip (b.take n) bit) := by
      rw [← hV]
      exact ((hys2.setCell_other (a := ⟨g4, bit / 8, none⟩) (fun b o e => by injection e with e; injection e with e; subst e; exact Ne.symm hne) _).flip hyl hk8 (by rw [World.cell?_setCell_other] <;> first | exact hy0 | (intro e; injection e with e; exact hne e))).mono (by simp [World.setCell])
    have hbV : Below w.heap.size w V := by
      rw [← hV]
      exact (hbw2.setCell (p := ⟨g4, bit / 8, none⟩) hbx _).setCell (p := ⟨g9, bit / 8, none⟩) hby _
    rw [hV]
    clear hV hxsV hysV hx0 hy0 hfx hfy hrx2 hry2 hxs2 hys2
    obtain ⟨fx, hfxe⟩ : ∃ fx, Crc.flip (a.take n) bit = fx := ⟨_, rfl⟩
    obtain ⟨fy, hfye⟩ : ∃ fy, Crc.flip (b.take n) bit = fy := ⟨_, rfl⟩
    have hfxl : fx.length = n := by rw [← hfxe, Crc.flip_length, hxl]
    have hfyl : fy.length = n := by rw [← hfye, Crc.flip_length, hyl]
    have hq1 := sum_flip (a.take n) bit hta.1 (by rw [hxl]; exact hbit)
    have hq2 := sum_flip (b.take n) bit htb.1 (by rw [hyl]; exact hbit)
    have hq3 := sum_flip_ne (a.take n) bit hta.1 (by rw [hxl]; exact hbit)
    rw [hxl, hfxe] at hq1
    rw [hyl, hfye] at hq2
    rw [hfxe] at hxV hq3
    rw [hfye] at hyV
    have hsl1 := sum_lt (a.take n)
    have hsl2 := sum_lt (b.take n)
    have hsl3 := sum_lt fx
    have hsl4 := sum_lt fy
    have HSX := HS.out
    generalize Crc.sum (a.take n) = s1 at *
    generalize Crc.sum (b.take n) = s2 at *
    obtain ⟨D, hD⟩ : ∃ D, Crc.one (8 * n - bit) = D := ⟨_, rfl⟩
    rw [hD] at hq1 hq2
    have hSx := fun W h => HSX W (some ⟨g4, 0, none⟩) d4 fx hfxl h
    have hSy := fun W h => HSX W (some ⟨g9, 0, none⟩) d9 fy hfyl h
    have hRx := fun W h => refSum_any (some ⟨g4, 0, none⟩) fx d4 W h (by omega)
    rw [hfxl] at hRx
    generalize Crc.sum fx = s3 at *
    generalize Crc.sum fy = s4 at *
    have hz1 : bits BinOp.xor IntKind.u32 (s1 : Int) (s3 : Int) = (D : Int) := by rw [u32_xor_nat s1 s3 hsl1 hsl3, hq1]
    have hz2 : bits BinOp.xor IntKind.u32 (s2 : Int) (s4 : Int) = (D : Int) := by rw [u32_xor_nat s2 s4 hsl2 hsl4, hq2]
    have hz3 : ((s1 : Int) != (s3 : Int)) = true := by rw [bne_iff_ne]; omega
    have HSX2 := Lib.hid hSx
    have HSY2 := Lib.hid hSy
    have HRX2 := Lib.hid hRx
    clear hSx hSy hRx HSX hq1 hq2 hq3 hD hfxe hfye hta htb ha hb hxl hyl hHeld
    refine (HSX2.out V hxV).mono ?_
    rintro e v3 ⟨rfl, hb3⟩
    have hxV3 := hxV.grow hb3
    have hyV3 := hyV.grow hb3
    have hbw3 := ext hbV hb3
    clear hxV hyV
    go_wp2_with fail
    refine (HSY2.out v3 hyV3).mono ?_
    rintro e v4 ⟨rfl, hb4⟩
    have hxV4 := hxV3.grow hb4
    have hbw4 := ext hbw3 hb4
    go_wp2_with fail
    refine (HRX2.out v4 hxV4).mono ?_
    rintro e v5 ⟨rfl, rfl⟩
    go_wp2_with fail
    refine (works_any _).mono ?_
    rintro e v6 ⟨rfl, hb6⟩
    go_wp2_with fail
    go_ret
    exact ⟨rfl, ext hbw4 hb6⟩
end Go.Proofs.Ytapfdbgplfonaaa
