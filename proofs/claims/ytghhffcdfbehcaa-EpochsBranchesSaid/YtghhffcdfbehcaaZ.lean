import Derived.Test.YtghhffcdfbehcaaY
import Derived.Lib.AppendZeros
import Derived.Test.YtghhffcdfbehcaaT
namespace Go.Proofs.Ytghhffcdfbehcaa
open Go.RowKit

/-- triples of bytes below block B -/
def Trips (w : World) (B : Nat) (A : Option Addr) (ts : List (Nat × Nat × Nat)) : Prop :=
  ∀ (k : Nat) (t : Nat × Nat × Nat), ts[k]? = some t → ∃ b off, A = some ⟨b, off, none⟩ ∧ b < B ∧ t.1 < 256 ∧ t.2.1 < 256 ∧ t.2.2 < 256 ∧
    w.cell? ⟨b, off + k * 3, none⟩ = some (.int .u8 t.1) ∧ w.cell? ⟨b, off + k * 3 + 1, none⟩ = some (.int .u8 t.2.1) ∧ w.cell? ⟨b, off + k * 3 + 2, none⟩ = some (.int .u8 t.2.2)

set_option maxRecDepth 100000 in
set_option maxHeartbeats 1000000 in
theorem branches_ok (A : Option Addr) (ts : List (Nat × Nat × Nat)) (c : Nat) (x0 x1 x2 x3 : Nat) (w : World) (hts : Trips w w.heap.size A ts) (h0 : 0 < ts.length) (h8 : ts.length ≤ 8) (hx0 : x0 < 256) (hx1 : x1 < 256) (hx2 : x2 < 256) (hx3 : x3 < 256) :
    Calls Try.prog 7 #[.slice A ts.length c, .agg #[.int .u8 x0, .int .u8 x1, .int .u8 x2, .int .u8 x3]] w fun e w' => e = .returned (.bool true) ∧ Below w.heap.size w w' := by
  obtain ⟨W0, hW0⟩ : ∃ W0, w.alloc (.cells #[.int .u8 x0, .int .u8 x1, .int .u8 x2, .int .u8 x3] 49) = W0 := ⟨_, rfl⟩
  have hb0 : Below w.heap.size w W0 := by rw [← hW0]; exact (Below.refl _ w).alloc (Nat.le_refl _) _
  have hk0 : Blk W0 w.heap.size 49 #[.int .u8 x0, .int .u8 x1, .int .u8 x2, .int .u8 x3] := by rw [← hW0]; exact Blk.new _ _ _
  have HW0 := Lib.hid hW0
  have HB0 := Lib.hid hb0
  have HK0 := Lib.hid hk0
  have HTS := Lib.hid hts
  have hz : ((ts.length : Int) == 0) = false := beq_eq_false_iff_ne.2 (by omega)
  have hi8 : ¬ ((8 : Int) < (ts.length : Int)) := by omega
  clear hW0 hb0 hk0 hts
  go_enter Try.func7, Try.ntmps7
  go_wp2_with fail
  rw [HW0.out]
  go_loopw [5, 6] (fun v i wr => ∃ (k : Nat) (hs : List Log), k ≤ ts.length ∧ i = .int .i64 k ∧ hs.length = k ∧ OwnL wr W0.heap.size v hs ∧ Hid (Hist (hs.map Log.l)) ∧ Below W0.heap.size W0 wr)
    (fun _ i _ => ts.length - (intOf i).toNat)
  case atStart => exact ⟨0, [], Nat.zero_le _, rfl, rfl, OwnL.nil _ _, Lib.hid Hist.nil, Below.refl _ _⟩
  case round =>
    obtain ⟨k, hs, hk, rfl, hhl, hown, HH, hbl⟩ := hrel
    obtain ⟨wq, hwq⟩ : ∃ X, X = wr := ⟨_, rfl⟩
    subst hwq
    have HHL := Lib.hid hhl
    have HBX : Hid (Below w.heap.size w wq) := HB0.out.trans (hbl.mono HB0.out.size)
    by_cases hlt : k < ts.length
    · obtain ⟨⟨p0, p1, p2⟩, htk⟩ : ∃ t, ts[k]? = some t := ⟨_, List.getElem?_eq_getElem hlt⟩
      obtain ⟨b, off, rfl, hbw, hp0, hp1, hp2, hc0, hc1, hc2⟩ := HTS.out k _ htk
      simp only at hp0 hp1 hp2 hc0 hc1 hc2
      replace hc0 : wq.cell? ⟨b, off + k * 3, none⟩ = some (.int .u8 p0) := (HBX.out.cell (p := ⟨b, off + k * 3, none⟩) hbw).trans hc0
      replace hc1 : wq.cell? ⟨b, off + k * 3 + 1, none⟩ = some (.int .u8 p1) := (HBX.out.cell (p := ⟨b, off + k * 3 + 1, none⟩) hbw).trans hc1
      replace hc2 : wq.cell? ⟨b, off + k * 3 + 2, none⟩ = some (.int .u8 p2) := (HBX.out.cell (p := ⟨b, off + k * 3 + 2, none⟩) hbw).trans hc2
      have hbr : b < wq.heap.size := Nat.lt_of_lt_of_le hbw HBX.out.size
      have HOW := Lib.hid hown
      have HBL0 := Lib.hid hbl
      clear hown hbl hhl htk
      by_cases hk0 : k = 0
      · have hki : ¬ ((0 : Int) < (k : Int)) := by omega
        have HKZ := Lib.hid hk0
        clear hk0
        go_wp2_with fail
        obtain ⟨base, hbase⟩ : ∃ l : List Ent, l = [] := ⟨_, rfl⟩
        have HBL : Hid (base.length ≤ 100) := by show _ ≤ _; rw [hbase]; simp
        have HBS : Hid (base = [] ∨ ∃ (j : Nat) (l : List Ent) (x : Nat), (hs.map Log.l)[j]? = some l ∧ base = l.take x) := .inl hbase
        have hown7 : OwnE wq wq.heap.size (.slice none 0 0) base := by rw [hbase]; exact OwnE.nil _ _
        have hb7 := Below.refl wq.heap.size wq
        clear hbase
        skip
        have HW7 := Lib.hid hown7
        have HB7 := Lib.hid hb7
        have hp6 : p2 % 6 < 6 := Nat.mod_lt _ (by omega)
        have hm6 : IntKind.u8.wrap ((p2 : Int) % 6) = ((p2 % 6 : Nat) : Int) := by rw [IntWalk.u8_in _ (by omega)]; omega
        obtain ⟨N, hN⟩ : ∃ N, p2 % 6 = N := ⟨_, rfl⟩
        rw [hN] at hp6 hm6
        have hm7 : (p2 : Int) % 6 = (N : Int) := by rw [← hN]; omega
        have HN := Lib.hid hN
        clear hown7 hb7 hN
        go_loopw [7, 9] (fun v7 i wr => ∃ n : Nat, n ≤ N ∧ i = .int .i64 n ∧ OwnE wr wq.heap.size v7 (base ++ news k n) ∧ Below wq.heap.size wq wr) (fun _ i _ => N - (intOf i).toNat)
        case atStart => exact ⟨0, Nat.zero_le _, rfl, by simpa [news] using HW7.out, HB7.out⟩
        case round =>
          obtain ⟨n, hn, rfl, hown8, hb8⟩ := hrel
          have hcc2 : wr.cell? ⟨b, off + k * 3 + 2, none⟩ = some (.int .u8 p2) := (hb8.cell (p := ⟨b, off + k * 3 + 2, none⟩) hbr).trans hc2
          by_cases hni : n < N
          · have hnl : (base ++ news k n).length ≤ 1000 := by rw [List.length_append, news_len]; have := HBL.out; omega
            obtain ⟨v9, w9, hr9, ho9, hg9⟩ := run_append_ents (wr.alloc (.cells (entC (newE k n)) 54)) wq.heap.size _ u7 (base ++ news k n) [newE k n] (hown8.alloc _) (some ⟨wr.heap.size, 0, none⟩) 1 (ents_new wr (newE k n)) (by rw [List.length_singleton]; omega) (by have := hb8.size; simp; omega)
            have hb9 : Below wq.heap.size wq w9 := (hb8.alloc hb8.size _).grown hg9 (by have := hb8.size; simp; omega) fun g hg => (World.ownsRow.lt hown8 g hg).1
            rw [List.append_assoc, ← news_succ] at ho9
            have HR9 := Lib.hid hr9
            have HO9 := Lib.hid ho9
            have HB9 := Lib.hid hb9
            have hnN : (n : Int) < (N : Int) := by omega
            dsimp only [newE, entC] at HR9
            clear hr9 ho9 hb9 hg9 hown8 hnl
            go_wp2_with (at_builtin; refine Lib.wpList_append_run _ rfl _ _ _ _ rfl _ _ rfl rfl _ _ HR9.out ?_)
            go_roundw
            case rel => exact ⟨n + 1, by omega, by go_num, HO9.out, HB9.out⟩
            case measure => simp [intOf]; omega
          · obtain rfl : n = N := by omega
            obtain ⟨A8, c8, hv8, hc8, hen8⟩ := hown8.form
            obtain ⟨l8, hl8⟩ : ∃ l, base ++ news k n = l := ⟨_, rfl⟩
            rw [hl8] at hown8 hv8 hc8 hen8
            obtain ⟨n8, hn8⟩ : ∃ m, l8.length = m := ⟨_, rfl⟩
            have hty : Typ wr A8 := by rw [hv8] at hown8; exact hown8.typ
            have how := HOW.out.below hb8 (Nat.le_refl _)
            have hbw8 : Below W0.heap.size W0 wr := HBL0.out.trans (hb8.mono HBL0.out.size)
            obtain ⟨v9, w9, hr9, ho9, hb9, _⟩ := run_append_log wr W0.heap.size _ hs (Log.mk A8 l8 c8) how ⟨hen8, hty, hc8⟩ (by have := HHL.out; omega) hbw8.size
            have HI : Hid (Hist ((hs ++ [(Log.mk A8 l8 c8)]).map Log.l)) := by
              show Hist _
              rw [List.map_append, ← hl8]
              have hlen : (hs.map Log.l).length = k := by rw [List.length_map]; exact HHL.out
              have := HH.out.snoc base HBS.out n (by omega) (by rw [hlen]; omega)
              rwa [hlen] at this
            have HR9 := Lib.hid hr9
            unfold Log.v at HR9
            simp only [hn8] at HR9
            rw [hn8] at hv8
            have HO9 := Lib.hid ho9
            have HB9 := Lib.hid (hbw8.trans (hb9.mono (Nat.le_refl _)))
            have HK1 : Hid ((hs ++ [(Log.mk A8 l8 c8)]).length = k + 1) := by show _ = _; rw [List.length_append, HHL.out]; rfl
            have hnn : ¬ ((n : Int) < (n : Int)) := by omega
            subst hv8
            clear hr9 ho9 hb9 hown8 how hen8 hc8 hl8 hn8 hb8 hty hbw8
            go_wp2_with (at_builtin; refine Lib.wpList_append_run _ rfl _ _ _ _ rfl _ _ rfl rfl _ _ HR9.out ?_)
            go_roundw
            case rel => exact ⟨k + 1, _, by omega, by go_num, HK1.out, HO9.out, HI, HB9.out⟩
            case measure => simp [intOf]; omega
      · have hkp : 0 < k := by omega
        have hki : (0 : Int) < (k : Int) := by omega
        obtain ⟨r, hr⟩ : ∃ r, p0 % k = r := ⟨_, rfl⟩
        have hrk : r < k := by rw [← hr]; exact Nat.mod_lt _ hkp
        have hrem0 : (p0 : Int) % (k : Int) = (r : Int) := by rw [← Int.natCast_emod, hr]
        obtain ⟨x, hxr⟩ : ∃ x, hs[r]? = some x := ⟨_, List.getElem?_eq_getElem (by have := HHL.out; omega)⟩
        obtain ⟨A5, c5, hv5, hc5, hf5⟩ := HOW.out.form
        rw [HHL.out] at hv5 hc5
        obtain ⟨g5, rfl, hg5, hcell5⟩ := hf5 r x hxr
        obtain ⟨xe, xt, xc⟩ := HOW.out.2 x (List.mem_of_getElem? hxr)
        have hxl := HH.out.len r x.l (by rw [List.getElem?_map, hxr]; rfl)
        obtain ⟨m, hm⟩ : ∃ m, x.l.length = m := ⟨_, rfl⟩
        obtain ⟨s, hs1⟩ : ∃ s, p1 % (m + 1) = s := ⟨_, rfl⟩
        have hsm : s ≤ m := by have := Nat.mod_lt p1 (show 0 < m + 1 by omega); omega
        have hrem1 : (p1 : Int) % ((m : Int) + 1) = (s : Int) := by rw [show ((m : Int) + 1) = ((m + 1 : Nat) : Int) from rfl, ← Int.natCast_emod, hs1]
        obtain ⟨v7, w7, hr7, ho7, hg7⟩ := run_append_ents wq wq.heap.size wq.heap.size (.slice none 0 0) [] (x.l.take s) (OwnE.nil _ _) x.A x.c (xe.take s) (by have h1 := List.length_take_le s x.l; simp only [List.length_nil]; omega) (Nat.le_refl _)
        have hb7 : Below wq.heap.size wq w7 := (Below.refl _ wq).grown hg7 (Nat.le_refl _) (fun g hg => by simp [Value.ownBlock] at hg)
        have hts : (x.l.take s).length = s := by rw [List.length_take]; omega
        rw [hts] at hr7
        have HR7 := Lib.hid hr7
        unfold Log.v at hcell5
        rw [hm] at hcell5 hxl xc
        obtain ⟨base, hbase⟩ : ∃ l : List Ent, l = x.l.take s := ⟨_, rfl⟩
        have HBL : Hid (base.length ≤ 100) := by show _ ≤ _; rw [hbase, hts]; omega
        have HBS : Hid (base = [] ∨ ∃ (j : Nat) (l : List Ent) (y : Nat), (hs.map Log.l)[j]? = some l ∧ base = l.take y) := .inr ⟨r, x.l, s, by rw [List.getElem?_map, hxr]; rfl, hbase⟩
        rw [List.nil_append, ← hbase] at ho7
        have hown7 := ho7
        have hsc : (s : Int) ≤ (x.c : Int) := by omega
        have hrki : (r : Int) < (k : Int) := by omega
        subst hv5
        clear hr hs1 hr7 ho7 hg7 hts hf5 hxr xe xt hbase hm
        go_wp2_with (at_builtin; refine Lib.wpList_append_run _ rfl _ _ _ _ rfl _ _ rfl rfl _ _ HR7.out ?_)
        have HW7 := Lib.hid hown7
        have HB7 := Lib.hid hb7
        have hp6 : p2 % 6 < 6 := Nat.mod_lt _ (by omega)
        have hm6 : IntKind.u8.wrap ((p2 : Int) % 6) = ((p2 % 6 : Nat) : Int) := by rw [IntWalk.u8_in _ (by omega)]; omega
        obtain ⟨N, hN⟩ : ∃ N, p2 % 6 = N := ⟨_, rfl⟩
        rw [hN] at hp6 hm6
        have hm7 : (p2 : Int) % 6 = (N : Int) := by rw [← hN]; omega
        have HN := Lib.hid hN
        clear hown7 hb7 hN
        go_loopw [7, 9] (fun v7 i wr => ∃ n : Nat, n ≤ N ∧ i = .int .i64 n ∧ OwnE wr wq.heap.size v7 (base ++ news k n) ∧ Below wq.heap.size wq wr) (fun _ i _ => N - (intOf i).toNat)
        case atStart => exact ⟨0, Nat.zero_le _, rfl, by simpa [news] using HW7.out, HB7.out⟩
        case round =>
          obtain ⟨n, hn, rfl, hown8, hb8⟩ := hrel
          have hcc2 : wr.cell? ⟨b, off + k * 3 + 2, none⟩ = some (.int .u8 p2) := (hb8.cell (p := ⟨b, off + k * 3 + 2, none⟩) hbr).trans hc2
          by_cases hni : n < N
          · have hnl : (base ++ news k n).length ≤ 1000 := by rw [List.length_append, news_len]; have := HBL.out; omega
            obtain ⟨v9, w9, hr9, ho9, hg9⟩ := run_append_ents (wr.alloc (.cells (entC (newE k n)) 54)) wq.heap.size _ u7 (base ++ news k n) [newE k n] (hown8.alloc _) (some ⟨wr.heap.size, 0, none⟩) 1 (ents_new wr (newE k n)) (by rw [List.length_singleton]; omega) (by have := hb8.size; simp; omega)
            have hb9 : Below wq.heap.size wq w9 := (hb8.alloc hb8.size _).grown hg9 (by have := hb8.size; simp; omega) fun g hg => (World.ownsRow.lt hown8 g hg).1
            rw [List.append_assoc, ← news_succ] at ho9
            have HR9 := Lib.hid hr9
            have HO9 := Lib.hid ho9
            have HB9 := Lib.hid hb9
            have hnN : (n : Int) < (N : Int) := by omega
            dsimp only [newE, entC] at HR9
            clear hr9 ho9 hb9 hg9 hown8 hnl
            go_wp2_with (at_builtin; refine Lib.wpList_append_run _ rfl _ _ _ _ rfl _ _ rfl rfl _ _ HR9.out ?_)
            go_roundw
            case rel => exact ⟨n + 1, by omega, by go_num, HO9.out, HB9.out⟩
            case measure => simp [intOf]; omega
          · obtain rfl : n = N := by omega
            obtain ⟨A8, c8, hv8, hc8, hen8⟩ := hown8.form
            obtain ⟨l8, hl8⟩ : ∃ l, base ++ news k n = l := ⟨_, rfl⟩
            rw [hl8] at hown8 hv8 hc8 hen8
            obtain ⟨n8, hn8⟩ : ∃ m, l8.length = m := ⟨_, rfl⟩
            have hty : Typ wr A8 := by rw [hv8] at hown8; exact hown8.typ
            have how := HOW.out.below hb8 (Nat.le_refl _)
            have hbw8 : Below W0.heap.size W0 wr := HBL0.out.trans (hb8.mono HBL0.out.size)
            obtain ⟨v9, w9, hr9, ho9, hb9, _⟩ := run_append_log wr W0.heap.size _ hs (Log.mk A8 l8 c8) how ⟨hen8, hty, hc8⟩ (by have := HHL.out; omega) hbw8.size
            have HI : Hid (Hist ((hs ++ [(Log.mk A8 l8 c8)]).map Log.l)) := by
              show Hist _
              rw [List.map_append, ← hl8]
              have hlen : (hs.map Log.l).length = k := by rw [List.length_map]; exact HHL.out
              have := HH.out.snoc base HBS.out n (by omega) (by rw [hlen]; omega)
              rwa [hlen] at this
            have HR9 := Lib.hid hr9
            unfold Log.v at HR9
            simp only [hn8] at HR9
            rw [hn8] at hv8
            have HO9 := Lib.hid ho9
            have HB9 := Lib.hid (hbw8.trans (hb9.mono (Nat.le_refl _)))
            have HK1 : Hid ((hs ++ [(Log.mk A8 l8 c8)]).length = k + 1) := by show _ = _; rw [List.length_append, HHL.out]; rfl
            have hnn : ¬ ((n : Int) < (n : Int)) := by omega
            subst hv8
            clear hr9 ho9 hb9 hown8 how hen8 hc8 hl8 hn8 hb8 hty hbw8
            go_wp2_with (at_builtin; refine Lib.wpList_append_run _ rfl _ _ _ _ rfl _ _ rfl rfl _ _ HR9.out ?_)
            go_roundw
            case rel => exact ⟨k + 1, _, by omega, by go_num, HK1.out, HO9.out, HI, HB9.out⟩
            case measure => simp [intOf]; omega
    · obtain rfl : k = ts.length := by omega
      obtain ⟨i0, hi0⟩ : ∃ r, x0 % ts.length = r := ⟨_, rfl⟩
      obtain ⟨i1, hi1⟩ : ∃ r, x1 % ts.length = r := ⟨_, rfl⟩
      have hi0l : i0 < ts.length := by rw [← hi0]; exact Nat.mod_lt _ h0
      have hi1l : i1 < ts.length := by rw [← hi1]; exact Nat.mod_lt _ h0
      have hr0 : (x0 : Int) % (ts.length : Int) = (i0 : Int) := by rw [← Int.natCast_emod, hi0]
      have hr1 : (x1 : Int) % (ts.length : Int) = (i1 : Int) := by rw [← Int.natCast_emod, hi1]
      obtain ⟨y, hy⟩ : ∃ x, hs[i0]? = some x := ⟨_, List.getElem?_eq_getElem (by omega)⟩
      obtain ⟨z, hz1⟩ : ∃ x, hs[i1]? = some x := ⟨_, List.getElem?_eq_getElem (by omega)⟩
      obtain ⟨A5, c5, hv5, hc5, hf5⟩ := hown.form
      rw [hhl] at hv5 hc5
      obtain ⟨g5, rfl, hg5, hcy⟩ := hf5 i0 y hy
      obtain ⟨g6, e6, _, hcz⟩ := hf5 i1 z hz1
      cases e6
      obtain ⟨ye, yt, yc⟩ := hown.2 y (List.mem_of_getElem? hy)
      obtain ⟨ze, zt, zc⟩ := hown.2 z (List.mem_of_getElem? hz1)
      have hyl := HH.out.len i0 y.l (by rw [List.getElem?_map, hy]; rfl)
      have hzl := HH.out.len i1 z.l (by rw [List.getElem?_map, hz1]; rfl)
      obtain ⟨ma, hma⟩ : ∃ m, y.l.length = m := ⟨_, rfl⟩
      obtain ⟨mb, hmb⟩ : ∃ m, z.l.length = m := ⟨_, rfl⟩
      obtain ⟨sa, hsa⟩ : ∃ s, x2 % (ma + 1) = s := ⟨_, rfl⟩
      obtain ⟨sb, hsb⟩ : ∃ s, x3 % (mb + 1) = s := ⟨_, rfl⟩
      have hsal : sa ≤ ma := by have := Nat.mod_lt x2 (show 0 < ma + 1 by omega); omega
      have hsbl : sb ≤ mb := by have := Nat.mod_lt x3 (show 0 < mb + 1 by omega); omega
      have hr2 : (x2 : Int) % ((ma : Int) + 1) = (sa : Int) := by rw [show ((ma : Int) + 1) = ((ma + 1 : Nat) : Int) from rfl, ← Int.natCast_emod, hsa]
      have hr3 : (x3 : Int) % ((mb : Int) + 1) = (sb : Int) := by rw [show ((mb : Int) + 1) = ((mb + 1 : Nat) : Int) from rfl, ← Int.natCast_emod, hsb]
      unfold Log.v at hcy hcz
      rw [hma] at hcy hyl yc
      rw [hmb] at hcz hzl zc
      have hyL : (hs.map Log.l)[i0]? = some y.l := by rw [List.getElem?_map, hy]; rfl
      have hzL : (hs.map Log.l)[i1]? = some z.l := by rw [List.getElem?_map, hz1]; rfl
      have hHl : (hs.map Log.l).length ≤ 8 := by rw [List.length_map]; omega
      have hal := HH.out.alike hyL hzL sa sb
      have m1 := hist_may HH.out hyL sa hHl
      have m2 := hist_may HH.out hzL sb hHl
      have hK := HK0.out.below hbl HK0.out.lt
      have q0 : wq.cell? ⟨w.heap.size, 0, none⟩ = some (.int .u8 x0) := hK.cell 0
      have q1 : wq.cell? ⟨w.heap.size, 1, none⟩ = some (.int .u8 x1) := hK.cell 1
      have q2 : wq.cell? ⟨w.heap.size, 2, none⟩ = some (.int .u8 x2) := hK.cell 2
      have q3 : wq.cell? ⟨w.heap.size, 3, none⟩ = some (.int .u8 x3) := hK.cell 3
      obtain ⟨a, ha⟩ : ∃ l, y.l.take sa = l := ⟨_, rfl⟩
      obtain ⟨bL, hbL⟩ : ∃ l, z.l.take sb = l := ⟨_, rfl⟩
      have hae := ye.take sa
      have hbe := ze.take sb
      have hal1 : a.length = sa := by rw [← ha, List.length_take]; omega
      have hbl1 : bL.length = sb := by rw [← hbL, List.length_take]; omega
      rw [ha, hbL] at hal
      rw [ha] at m1 hae
      rw [hbL] at m2 hbe
      obtain ⟨hmt1, hmt2⟩ := meetN_same (may_from m1) (may_from m2) hal
      have HAE := Lib.hid hae
      have HBE := Lib.hid hbe
      have HAL := Lib.hid hal1
      have HBLL := Lib.hid hbl1
      have HM1 := Lib.hid m1
      have HM2 := Lib.hid m2
      have HMT1 := Lib.hid hmt1
      have HMT2 := Lib.hid hmt2
      have HSAC : Hid (sa ≤ y.c ∧ sb ≤ z.c) := ⟨by omega, by omega⟩
      have hsac : (sa : Int) ≤ (y.c : Int) := by omega
      have hsbc : (sb : Int) ≤ (z.c : Int) := by omega
      have hi0i : (i0 : Int) < (ts.length : Int) := by omega
      have hi1i : (i1 : Int) < (ts.length : Int) := by omega
      have hma40 : ma ≤ 40 := by omega
      have hmb40 : mb ≤ 40 := by omega
      subst hv5
      clear hown hbl hhl hf5 hy hz1 hi0 hi1 hsa hsb hma hmb yt zt ye ze hyl hzl hyL hzL hHl hal m1 m2 hK ha hbL hae hbe hal1 hbl1 hmt1 hmt2 hg5 hc5 HTS HH
      go_wp2_with fail
      go_quiet (fail)
      go_wp2_with fail
      go_quiet (fail)
      go_wp2_with fail
      generalize hw1 : World.drewN wq _ = w1
      have hb1 : Below wq.heap.size wq w1 := by rw [← hw1]; exact below_drewN (Below.refl _ _) _
      have he1 := HAE.out.grow hb1
      have he2 := HBE.out.grow hb1
      have HB1 : Hid (Below w.heap.size w w1) := HBX.out.trans (hb1.mono HBX.out.size)
      clear hw1 hb1 q0 q1 q2 q3 hcy hcz HAE HBE HBX
      obtain ⟨n, hn⟩ : ∃ n, (meetN a bL).1 = n := ⟨_, rfl⟩
      obtain ⟨o, ho⟩ : ∃ o, (meetN a bL).2 = o := ⟨_, rfl⟩
      have hal := HAL.out
      have hbl := HBLL.out
      have hq1 := Meet_yes y.A z.A a bL y.c z.c w1 he1 he2 (by omega) (by omega) (by rw [hal]; exact HSAC.out.1) (by rw [hbl]; exact HSAC.out.2) HM1.out HM2.out
      rw [hn, ho, hal, hbl] at hq1
      have hmt1 := HMT1.out
      have hmt2 := HMT2.out
      rw [hn] at hmt1
      rw [ho] at hmt2
      replace HMT1 := Lib.hid hmt1
      obtain ⟨f, hf⟩ : ∃ f, (stFrom 0 0 bL).length = f := ⟨_, rfl⟩
      rw [hf] at hmt2
      have HF := Lib.hid hf
      have hof : (o : Int) ≤ (f : Int) := by omega
      clear hmt1 hmt2 HMT2 hn ho hal hbl hf
      refine hq1.mono ?_
      rintro e w2 ⟨rfl, hb2⟩
      clear hq1
      replace he1 := he1.grow hb2
      replace he2 := he2.grow hb2
      have HB2 : Hid (Below w.heap.size w w2) := HB1.out.trans (hb2.mono HB1.out.size)
      clear hb2 HB1
      have hq2 := Starts_yes z.A bL z.c w2 he2 (by have := HBLL.out; omega) HM2.out
      rw [HBLL.out] at hq2
      have HQ2 := Lib.hid hq2
      clear hq2
      go_wp2_with fail
      refine HQ2.out.mono ?_
      rintro e w3 ⟨v, rfl, hown, hb3⟩
      clear HQ2
      obtain ⟨A', c', rfl, hc', _⟩ := Sts.of_own hown
      rw [HF.out] at hc' hown ⊢
      replace he1 := he1.grow hb3
      replace he2 := he2.grow hb3
      have HB3 : Hid (Below w.heap.size w w3) := HB2.out.trans (hb3.mono HB2.out.size)
      clear hb3 HB2 hown
      have HE1 := Lib.hid he1
      have HE2 := Lib.hid he2
      clear he1 he2
      go_wp2_with fail
      go_loopw [17] (fun i wr => ∃ k : Nat, k ≤ sameN a bL ∧ i = .int .i64 k ∧ Below w3.heap.size w3 wr) (fun i _ => sa - (intOf i).toNat)
      case atStart => exact ⟨0, Nat.zero_le _, rfl, Below.refl _ _⟩
      case round =>
        obtain ⟨k, hks, rfl, hbr⟩ := hrel
        have HKS := Lib.hid hks
        clear hks
        by_cases hka : k < sa
        · by_cases hkb : k < sb
          · have l1 : k < a.length := by rw [HAL.out]; exact hka
            have l2 : k < bL.length := by rw [HBLL.out]; exact hkb
            have hst := sameN_step a bL k l1 l2 HKS.out
            obtain ⟨b1, o1, hA1, _, p0, p1, p2, p3, p4, p5⟩ := (HE1.out.below hbr (Nat.le_refl _)).at_ l1
            obtain ⟨b2, o2, hA2, _, q0, q1, q2, q3, q4, q5⟩ := (HE2.out.below hbr (Nat.le_refl _)).at_ l2
            rw [hA1, hA2]
            have hd : a[k] = bL[k] ∨ (a[k] ≠ bL[k] ∧ (((a[k].epoch == bL[k].epoch) = false) ∨ ((a[k].epoch == bL[k].epoch) = true ∧ ((a[k].id == bL[k].id) = false ∨ ((a[k].id == bL[k].id) = true ∧ ((a[k].num == bL[k].num) = false ∨ ((a[k].num == bL[k].num) = true ∧ ((a[k].seq == bL[k].seq) = false ∨ ((a[k].seq == bL[k].seq) = true ∧ ((a[k].kind == bL[k].kind) = false ∨ ((a[k].kind == bL[k].kind) = true ∧ (a[k].value == bL[k].value) = false))))))))))) := by
              by_cases he : a[k] = bL[k]
              · exact .inl he
              · refine .inr ⟨he, ?_⟩
                simp only [beq_eq_false_iff_ne, beq_iff_eq]
                have := fun h => he ((Ent.eq_iff _ _).2 h)
                by_cases t1 : a[k].epoch = bL[k].epoch <;> by_cases t2 : a[k].id = bL[k].id <;> by_cases t3 : a[k].num = bL[k].num <;> by_cases t4 : a[k].seq = bL[k].seq <;> by_cases t5 : a[k].kind = bL[k].kind <;> simp_all
            rcases hd with he | ⟨hne, hd⟩
            · have HNX := Lib.hid (hst.1 he)
              rw [← he] at q0 q1 q2 q3 q4 q5
              clear he hst hA1 hA2
              go_wp2_with fail
              go_quiet (fail)
              go_wp2_with fail
              go_roundw
              case rel => exact ⟨k + 1, HNX.out, by go_num, below_drewN hbr _⟩
              case measure => simp [intOf]; omega
            · obtain rfl : n = k := by rw [HMT1.out]; exact hst.2 hne
              clear hst hne hA1 hA2
              rcases hd with d1 | ⟨d1, d2 | ⟨d2, d3 | ⟨d3, d4 | ⟨d4, d5 | ⟨d5, d6⟩⟩⟩⟩⟩
              all_goals
                go_wp2_with fail
                go_quiet (fail)
                go_wp2_with fail
                refine (known_any _).mono ?_
                rintro e w4 ⟨rfl, hb4⟩
                go_wp2_with fail
                go_ret
                exact ⟨rfl, HB3.out.trans (((below_drewN hbr _).trans (hb4.mono hbr.size)).mono HB3.out.size)⟩
          · obtain rfl : n = k := by
              have h1 := sameN_le a bL
              have h2 := HKS.out
              rw [HMT1.out]
              rw [HBLL.out] at h1
              omega
            go_wp2_with fail
            go_quiet (fail)
            go_wp2_with fail
            refine (known_any _).mono ?_
            rintro e w4 ⟨rfl, hb4⟩
            go_wp2_with fail
            go_ret
            exact ⟨rfl, HB3.out.trans (((below_drewN hbr _).trans (hb4.mono hbr.size)).mono HB3.out.size)⟩
        · obtain rfl : n = k := by
            have h1 := sameN_le a bL
            have h2 := HKS.out
            rw [HMT1.out]
            rw [HAL.out] at h1
            omega
          go_wp2_with fail
          go_quiet (fail)
          go_wp2_with fail
          refine (known_any _).mono ?_
          rintro e w4 ⟨rfl, hb4⟩
          go_wp2_with fail
          go_ret
          exact ⟨rfl, HB3.out.trans (((below_drewN hbr _).trans (hb4.mono hbr.size)).mono HB3.out.size)⟩
end Go.Proofs.Ytghhffcdfbehcaa
