import Derived.Test.YtdoidfnfhidgdaaT
namespace Go.Proofs.Ytdoidfnfhidgdaa
open Go.RowKit

theorem pbox (W : World) (a b c : Value) (w4 : World) (hb : Below (W.alloc (.cells #[a, b, c] 68)).heap.size (W.alloc (.cells #[a, b, c] 68)) w4) :
    w4.cell? ⟨W.heap.size, 0, none⟩ = some a ∧ w4.cell? ⟨W.heap.size, 1, none⟩ = some b ∧ w4.cell? ⟨W.heap.size, 2, none⟩ = some c ∧ Below W.heap.size W w4 := by
  have h0 : w4.heap[W.heap.size]? = some (.cells #[a, b, c] 68) := (hb.block _ (by simp)).trans (heap_alloc_new W _)
  exact ⟨cell_of_row _ _ _ _ _ _ h0, cell_of_row _ _ _ _ _ _ h0, cell_of_row _ _ _ _ _ _ h0, ((Below.refl _ W).alloc (Nat.le_refl _) _).trans (hb.mono (by simp))⟩
theorem ebox {w : World} {g : Nat} {e : Ent} (h : Blk w g 24 (entC e)) :
    (w.cell? ⟨g, 0, none⟩ = some (.int .i64 e.epoch) ∧ w.cell? ⟨g, 1, none⟩ = some (.int .i64 e.id) ∧ w.cell? ⟨g, 2, none⟩ = some (.int .i64 e.num)) ∧ w.cell? ⟨g, 3, none⟩ = some (.int .i64 e.seq) ∧ w.cell? ⟨g, 4, none⟩ = some (.int .i64 e.kind) ∧ w.cell? ⟨g, 5, none⟩ = some (.int .i64 e.value) :=
  ⟨⟨cell_of_row _ _ _ _ _ _ h, cell_of_row _ _ _ _ _ _ h, cell_of_row _ _ _ _ _ _ h⟩, cell_of_row _ _ _ _ _ _ h, cell_of_row _ _ _ _ _ _ h, cell_of_row _ _ _ _ _ _ h⟩

theorem Own.nil (w : World) (base : Nat) : Own w base (.slice none 0 0) [] := ⟨World.ownsRow_nil _ _ _ _, by simp⟩
theorem idx0 (s d : Nat) (w : World) : (Instr.index 69 (.agg (partsC s d)) (.int .i64 0)).run Try.prog w = .ok (.agg #[.func (.func 57) #[] #[], .func (.func 60) #[] #[], .func (.func 61) #[] #[]]) w := by kernel_rfl
theorem idx1 (s d : Nat) (w : World) : (Instr.index 69 (.agg (partsC s d)) (.int .i64 1)).run Try.prog w = .ok (.agg #[.func (.func 57) #[] #[], .func (.func 62) #[] #[], .func (.func 63) #[] #[]]) w := by kernel_rfl
theorem idx2 (s d : Nat) (w : World) : (Instr.index 69 (.agg (partsC s d)) (.int .i64 2)).run Try.prog w = .ok (.agg #[.func (.func 57) #[] #[], .func (.func 64) #[] #[], .func (.func 65) #[] #[]]) w := by kernel_rfl
theorem idx3 (s d : Nat) (w : World) : (Instr.index 69 (.agg (partsC s d)) (.int .i64 3)).run Try.prog w = .ok (.agg #[.func (.func 58) #[] #[], .func (.func 66) #[] #[], .func (.func 67) #[] #[]]) w := by kernel_rfl
theorem idx4 (s d : Nat) (w : World) : (Instr.index 69 (.agg (partsC s d)) (.int .i64 4)).run Try.prog w = .ok (.agg #[.func (.func 68) #[] #[.pointer (some ⟨d, 0, none⟩), .pointer (some ⟨s, 0, none⟩)], .func (.func 69) #[] #[], .func (.func 70) #[] #[]]) w := by kernel_rfl
theorem idx5 (s d : Nat) (w : World) : (Instr.index 69 (.agg (partsC s d)) (.int .i64 5)).run Try.prog w = .ok (.agg #[.func (.func 59) #[] #[], .func (.func 71) #[] #[], .func (.func 72) #[] #[]]) w := by kernel_rfl

theorem Bys.far {w w' : World} {g B : Nat} {xs : List Nat} {row : Option Nat} (h : Bys w B (some ⟨g, 0, none⟩) xs) (hg : w.grownBy w' row) (hlt : g < w.heap.size) (hne : some g ≠ row) : Bys w' w'.heap.size (some ⟨g, 0, none⟩) xs := by
  refine ⟨h.1, fun h0 => ?_⟩
  obtain ⟨b, off, e, _, hc⟩ := h.2 h0
  cases e
  exact ⟨g, 0, rfl, Nat.lt_of_lt_of_le hlt hg.size, fun k c hk => (hg.cell_far ⟨g, 0 + k, none⟩ hlt hne).trans (hc k c hk)⟩

theorem app5 (w : World) (base : Nat) (v : Value) (xs : List Nat) (sm N : Nat) (hs : sm < 4294967296) (hN : N < 256) (hown : Own w base v xs) (hbase : base ≤ w.heap.size) (hm : xs.length ≤ 1099511627000) :
    ∃ v' w', (Builtin.append_ #[25, 25] 25 #[v, .slice (some ⟨w.heap.size, 0, none⟩) 5 5]).run Try.prog (w.alloc (.cells #[.int .u8 ((sm : Int) % 256), .int .u8 ((sm : Int) / 256 % 256), .int .u8 ((sm : Int) / 65536 % 256), .int .u8 ((sm : Int) / 16777216), .int .u8 (N : Int)] 5)) = .ok v' w' ∧
      Own w' base v' (xs ++ (Crc.le4 sm ++ [N])) ∧ Below base w w' ∧ w.grownBy w' v.ownBlock := by
  have e1 : #[Value.int .u8 ((sm : Int) % 256), .int .u8 ((sm : Int) / 256 % 256), .int .u8 ((sm : Int) / 65536 % 256), .int .u8 ((sm : Int) / 16777216), .int .u8 (N : Int)] = ((Crc.le4 sm ++ [N]).map B8).toArray := by
    simp [Crc.le4, B8]
    omega
  have hlt : ∀ c ∈ Crc.le4 sm ++ [N], c < 256 := by
    intro c hc
    simp [Crc.le4] at hc
    omega
  rw [e1]
  have hby := bys_new w (Crc.le4 sm ++ [N]) (0, 0) hlt
  obtain ⟨v', w', hr, ho, hg⟩ := run_append_bys _ base _ v xs (Crc.le4 sm ++ [N]) (hown.alloc (.cells ((Crc.le4 sm ++ [N]).map B8).toArray 5)) (some ⟨w.heap.size, 0, none⟩) 5 hby (by simp [Crc.le4]; omega) (by simp; omega)
  exact ⟨v', w', hr, ho, ((Below.refl base w).alloc hbase _).grown hg (by simp; omega) fun g hg => (hown.1.lt g hg).1, (World.grownBy_alloc w _ _).trans hg⟩

/-- an entry's frame -/
def frameE (e : Ent) : List Nat := Crc.le4 (Crc.sum (bodyE e)) ++ [(bodyE e).length] ++ bodyE e

theorem frameE_len (e : Ent) (h : Right e) : (frameE e).length ≤ 59 := by
  have := bodyN_len e h 6
  unfold frameE bodyE
  simp [Crc.le4]
  omega
theorem frames_len : ∀ (l : List Ent), (∀ e ∈ l, Right e) → (l.flatMap frameE).length ≤ 59 * l.length
  | [], _ => by simp
  | e :: r, h => by
    have h1 := frameE_len e (h e (by simp))
    have h2 := frames_len r (fun x hx => h x (List.mem_cons_of_mem _ hx))
    rw [List.flatMap_cons, List.length_append, List.length_cons]
    omega

set_option maxRecDepth 100000 in
set_option maxHeartbeats 8000000 in
theorem Frames_any (A : Option Addr) (l : List Ent) (c : Nat) (w : World) (hl : Ents w w.heap.size A l) (hm : l.length ≤ 1000000) :
    Calls Try.prog 20 #[.slice A l.length c] w fun x w' => (((∀ e ∈ l, Right e) ∧ ∃ v, x = .returned (.tuple #[v, .int .i64 0]) ∧ Own w' w.heap.size v (l.flatMap frameE)) ∨ (¬ (∀ e ∈ l, Right e) ∧ x = .returned (.tuple #[.slice none 0 0, .int .i64 2]))) ∧ Below w.heap.size w w' := by
  go_enter Try.func20, Try.ntmps20
  go_wp2_with fail
  go_loopw [4, 14] (fun v i wr => ∃ (k : Nat), k ≤ l.length ∧ i = .int .i64 k ∧ Own wr w.heap.size v ((l.take k).flatMap frameE) ∧ Hid (∀ e ∈ l.take k, Right e) ∧ Below w.heap.size w wr)
    (fun _ i _ => l.length - (intOf i).toNat)
  case atStart => exact ⟨0, Nat.zero_le _, rfl, by simpa using Own.nil _ _, Lib.hid (by simp), Below.refl _ _⟩
  case round =>
    obtain ⟨k, hk, rfl, hown, HRT, hb⟩ := hrel
    by_cases hlt : k < l.length
    · obtain ⟨b, off, rfl, hbB, he⟩ := (hl.below hb (Nat.le_refl _)).at_ hlt
      obtain ⟨c0, c1, c2, c3, c4, c5⟩ := he
      have HLK : Hid ((l.take (k + 1)).flatMap frameE = (l.take k).flatMap frameE ++ frameE l[k]) := by show _ = _; rw [List.take_succ_eq_append_getElem hlt, List.flatMap_append]; simp
      obtain ⟨e, hee⟩ : ∃ e, l[k] = e := ⟨_, rfl⟩
      rw [hee] at c0 c1 c2 c3 c4 c5 HLK
      have hchk := Check_any e (wr.alloc (.cells (entC e) 24))
      have HMEM : Hid (e ∈ l) := by show e ∈ l; rw [← hee]; exact List.getElem_mem hlt
      have HRK : Hid (Right e → ∀ x ∈ l.take (k + 1), Right x) := by
        intro hR x hx
        rw [List.take_succ_eq_append_getElem hlt, hee] at hx
        rcases List.mem_append.1 hx with h | h
        · exact HRT.out x h
        · rw [List.mem_singleton.1 h]; exact hR
      by_cases hnR : ¬ Right e
      · have hR := hnR
        rw [if_neg hR] at hchk
        have HCK := Lib.hid hchk
        have HNR : Hid (¬ ∀ x ∈ l, Right x) := fun h => hR (h e HMEM.out)
        have hbw1 : Below w.heap.size w (wr.alloc (.cells (entC e) 24)) := hb.alloc hb.size _
        clear hchk hR hnR hee hown hb
        go_wp2_with fail
        refine HCK.out.mono ?_
        rintro x w2 ⟨rfl, hb2⟩
        have HBW : Hid (Below w.heap.size w w2) := hbw1.trans (hb2.mono hbw1.size)
        clear hb2 HCK hbw1
        go_wp2_with fail
        go_ret2
        exact ⟨.inr ⟨HNR.out, rfl⟩, HBW.out⟩
      have hR : Right e := Decidable.not_not.1 hnR
      clear hnR
      rw [if_pos hR] at hchk
      have HCK := Lib.hid hchk
      have HR := Lib.hid hR
      have hb6 := Blk.new wr 24 (entC e)
      have hbw1 : Below w.heap.size w (wr.alloc (.cells (entC e) 24)) := hb.alloc hb.size _
      have hown1 := hown.alloc (.cells (entC e) 24)
      have HSZ := Lib.hid hb.size
      clear hee hchk hR hown hb
      go_wp2_with fail
      refine HCK.out.mono ?_
      rintro x w2 ⟨rfl, hb2⟩
      have hbox2 := hb6.below hb2 (by simp)
      have hown2 := hown1.below hb2 (Nat.le_refl _)
      have hbw2 := hbw1.trans (hb2.mono hbw1.size)
      have hz2 : wr.heap.size < w2.heap.size := by have := hb2.size; simp at this; omega
      obtain ⟨g6, hg6⟩ : ∃ g, wr.heap.size = g := ⟨_, rfl⟩
      rw [hg6] at hbox2 hz2 ⊢
      have HFL : Hid (((l.take k).flatMap frameE).length ≤ 59 * k) := by have := frames_len (l.take k) HRT.out; rw [List.length_take] at this; show _ ≤ _; omega
      have HOG := Lib.hid (show w.heap.size ≤ g6 by rw [← hg6]; exact HSZ.out)
      clear hb2 hb6 hown1 HCK hbw1 hg6 HSZ
      go_wp2_with fail
      refine (parts_any w2).mono ?_
      rintro x w3 ⟨s, d, rfl, hsB, hdB, hs1, hd1, hs2, hd2, hb3⟩
      have hbox3 := hbox2.below hb3 hbox2.lt
      have hown3 := hown2.below hb3 (Nat.le_refl _)
      have hbw3 := hbw2.trans (hb3.mono hbw2.size)
      have hz3 : g6 < w3.heap.size := by have := hb3.size; omega
      clear hb3 hown2 hbw2 hbox2 hz2
      have HOW := Lib.hid hown3
      have HBW := Lib.hid hbw3
      clear hown3 hbw3 hs1 hd1 c0 c1 c2 c3 c4 c5 hl
      unfold partsC
      go_wp2_with fail
      go_loopw [8, 24] (fun v i wr => ∃ (j : Nat), j ≤ 6 ∧ i = .int .i64 j ∧ Own wr w3.heap.size v (bodyN e j) ∧ Below w3.heap.size w3 wr)
        (fun _ i _ => 6 - (intOf i).toNat)
      case atStart => exact ⟨0, Nat.zero_le _, rfl, by simpa [bodyN] using Own.nil _ _, Below.refl _ _⟩
      case round =>
        obtain ⟨j, hj, rfl, hownj, hbj⟩ := hrel
        have HZ := Lib.hid hbj.size
        have HJ := Lib.hid hbj
        have hzj : g6 < wr.heap.size := by have := HZ.out; omega
        have hnj : g6 ≠ wr.heap.size := by omega
        have HX := Lib.hid (bodyN_len e HR.out j)
        obtain ⟨⟨a0, a1, a2⟩, a3, a4, a5⟩ := ebox (hbox3.below hbj hz3)
        obtain rfl | rfl | rfl | rfl | rfl | rfl | rfl : j = 0 ∨ j = 1 ∨ j = 2 ∨ j = 3 ∨ j = 4 ∨ j = 5 ∨ j = 6 := by omega
        · have hidx := fun (w : World) => idx0 s d w
          unfold partsC at hidx
          go_wp2_with fail
          clear hidx
          refine (always_any e _).mono ?_
          rintro x w4 ⟨rfl, hb4⟩
          obtain ⟨p0, p1, p2, hb4'⟩ := pbox _ _ _ _ w4 hb4
          have hb34 := HJ.out.trans (hb4'.mono HJ.out.size)
          obtain ⟨⟨a0, a1, a2⟩, a3, a4, a5⟩ := ebox (hbox3.below hb34 hz3)
          have hown4 := hownj.below hb4' (Nat.le_refl _)
          have HB34 := Lib.hid hb34
          clear hb4 hb4' hb34 hbj
          go_wp2_with fail
          refine (wr60 e HR.out w3.heap.size u8 (bodyN e 0) w4 hown4 HB34.out.size (by have := HX.out; omega)).mono ?_
          rintro x w5 ⟨v5, rfl, hown5, hb5⟩
          go_wp2_with fail
          go_roundw
          case rel => exact ⟨0 + 1, by omega, by go_num, by rw [bodyN_succ]; exact hown5, HB34.out.trans hb5⟩
          case measure => simp [intOf]
        · have hidx := fun (w : World) => idx1 s d w
          unfold partsC at hidx
          go_wp2_with fail
          clear hidx
          refine (always_any e _).mono ?_
          rintro x w4 ⟨rfl, hb4⟩
          obtain ⟨p0, p1, p2, hb4'⟩ := pbox _ _ _ _ w4 hb4
          have hb34 := HJ.out.trans (hb4'.mono HJ.out.size)
          obtain ⟨⟨a0, a1, a2⟩, a3, a4, a5⟩ := ebox (hbox3.below hb34 hz3)
          have hown4 := hownj.below hb4' (Nat.le_refl _)
          have HB34 := Lib.hid hb34
          clear hb4 hb4' hb34 hbj
          go_wp2_with fail
          refine (wr62 e HR.out w3.heap.size u8 (bodyN e 1) w4 hown4 HB34.out.size (by have := HX.out; omega)).mono ?_
          rintro x w5 ⟨v5, rfl, hown5, hb5⟩
          go_wp2_with fail
          go_roundw
          case rel => exact ⟨1 + 1, by omega, by go_num, by rw [bodyN_succ]; exact hown5, HB34.out.trans hb5⟩
          case measure => simp [intOf]
        · have hidx := fun (w : World) => idx2 s d w
          unfold partsC at hidx
          go_wp2_with fail
          clear hidx
          refine (always_any e _).mono ?_
          rintro x w4 ⟨rfl, hb4⟩
          obtain ⟨p0, p1, p2, hb4'⟩ := pbox _ _ _ _ w4 hb4
          have hb34 := HJ.out.trans (hb4'.mono HJ.out.size)
          obtain ⟨⟨a0, a1, a2⟩, a3, a4, a5⟩ := ebox (hbox3.below hb34 hz3)
          have hown4 := hownj.below hb4' (Nat.le_refl _)
          have HB34 := Lib.hid hb34
          clear hb4 hb4' hb34 hbj
          go_wp2_with fail
          refine (wr64 e HR.out w3.heap.size u8 (bodyN e 2) w4 hown4 HB34.out.size (by have := HX.out; omega)).mono ?_
          rintro x w5 ⟨v5, rfl, hown5, hb5⟩
          go_wp2_with fail
          go_roundw
          case rel => exact ⟨2 + 1, by omega, by go_num, by rw [bodyN_succ]; exact hown5, HB34.out.trans hb5⟩
          case measure => simp [intOf]
        · by_cases hc : 0 ≤ e.id
          · have HC := Lib.hid hc
            have hq := somebody_any e
            rw [decide_eq_true hc] at hq
            have HQ := Lib.hid hq
            clear hq
            clear hc
            have hidx := fun (w : World) => idx3 s d w
            unfold partsC at hidx
            go_wp2_with fail
            clear hidx
            refine (HQ.out _).mono ?_
            rintro x w4 ⟨rfl, hb4⟩
            obtain ⟨p0, p1, p2, hb4'⟩ := pbox _ _ _ _ w4 hb4
            have hb34 := HJ.out.trans (hb4'.mono HJ.out.size)
            obtain ⟨⟨a0, a1, a2⟩, a3, a4, a5⟩ := ebox (hbox3.below hb34 hz3)
            have hown4 := hownj.below hb4' (Nat.le_refl _)
            have HB34 := Lib.hid hb34
            clear hb4 hb4' hb34 hbj
            go_wp2_with fail
            refine (wr66 e HR.out HC.out w3.heap.size u8 (bodyN e 3) w4 hown4 HB34.out.size (by have := HX.out; omega)).mono ?_
            rintro x w5 ⟨v5, rfl, hown5, hb5⟩
            go_wp2_with fail
            go_roundw
            case rel => exact ⟨3 + 1, by omega, by go_num, by rw [bodyN_succ]; exact hown5, HB34.out.trans hb5⟩
            case measure => simp [intOf]
          · have HC := Lib.hid hc
            have hq := somebody_any e
            rw [decide_eq_false hc] at hq
            have HQ := Lib.hid hq
            clear hq
            clear hc
            have hidx := fun (w : World) => idx3 s d w
            unfold partsC at hidx
            go_wp2_with fail
            clear hidx
            refine (HQ.out _).mono ?_
            rintro x w4 ⟨rfl, hb4⟩
            obtain ⟨p0, p1, p2, hb4'⟩ := pbox _ _ _ _ w4 hb4
            have hb34 := HJ.out.trans (hb4'.mono HJ.out.size)
            have hown4 := hownj.below hb4' (Nat.le_refl _)
            have HB34 := Lib.hid hb34
            clear hb4 hb4' hb34 hbj
            go_wp2_with fail
            go_roundw
            case rel => exact ⟨3 + 1, by omega, by go_num, by rw [bodyN_succ, show pt e 3 = [] from if_neg (by first | exact HC.out | (have := HC.out; omega))]; rw [List.append_nil]; exact hown4, HB34.out⟩
            case measure => simp [intOf]
        · by_cases hc : e.kind = 1 ∧ 0 ≤ e.id
          · have HC := Lib.hid hc
            have he : ((e.kind == 1) && decide (0 ≤ e.id)) = true := by simpa using hc
            clear hc
            have hqb : ∀ W, Below w3.heap.size w3 W → Calls Try.prog 68 #[entV e, .pointer (some ⟨d, 0, none⟩), .pointer (some ⟨s, 0, none⟩)] W fun x w' => x = .returned (.bool ((e.kind == 1) && decide (0 ≤ e.id))) ∧ Below W.heap.size W w' := fun W h => both_any e _ _ W (cell_of_row _ _ _ _ _ _ ((h.block _ hd2).trans hdB)) (cell_of_row _ _ _ _ _ _ ((h.block _ hs2).trans hsB)) (by show d < _; have := h.size; omega) (by show s < _; have := h.size; omega)
            rw [he] at hqb
            have HQB := Lib.hid hqb
            clear hqb he
            have hidx := fun (w : World) => idx4 s d w
            unfold partsC at hidx
            go_wp2_with fail
            clear hidx
            refine (HQB.out _ (HJ.out.alloc HZ.out _)).mono ?_
            rintro x w4 ⟨rfl, hb4⟩
            obtain ⟨p0, p1, p2, hb4'⟩ := pbox _ _ _ _ w4 hb4
            have hb34 := HJ.out.trans (hb4'.mono HJ.out.size)
            obtain ⟨⟨a0, a1, a2⟩, a3, a4, a5⟩ := ebox (hbox3.below hb34 hz3)
            have hown4 := hownj.below hb4' (Nat.le_refl _)
            have HB34 := Lib.hid hb34
            clear hb4 hb4' hb34 hbj
            go_wp2_with fail
            refine (wr69 e HR.out HC.out w3.heap.size u8 (bodyN e 4) w4 hown4 HB34.out.size (by have := HX.out; omega)).mono ?_
            rintro x w5 ⟨v5, rfl, hown5, hb5⟩
            go_wp2_with fail
            go_roundw
            case rel => exact ⟨4 + 1, by omega, by go_num, by rw [bodyN_succ]; exact hown5, HB34.out.trans hb5⟩
            case measure => simp [intOf]
          · have HC := Lib.hid hc
            have he : ((e.kind == 1) && decide (0 ≤ e.id)) = false := by rw [Bool.eq_false_iff]; intro h; exact hc (by simpa using h)
            clear hc
            have hqb : ∀ W, Below w3.heap.size w3 W → Calls Try.prog 68 #[entV e, .pointer (some ⟨d, 0, none⟩), .pointer (some ⟨s, 0, none⟩)] W fun x w' => x = .returned (.bool ((e.kind == 1) && decide (0 ≤ e.id))) ∧ Below W.heap.size W w' := fun W h => both_any e _ _ W (cell_of_row _ _ _ _ _ _ ((h.block _ hd2).trans hdB)) (cell_of_row _ _ _ _ _ _ ((h.block _ hs2).trans hsB)) (by show d < _; have := h.size; omega) (by show s < _; have := h.size; omega)
            rw [he] at hqb
            have HQB := Lib.hid hqb
            clear hqb he
            have hidx := fun (w : World) => idx4 s d w
            unfold partsC at hidx
            go_wp2_with fail
            clear hidx
            refine (HQB.out _ (HJ.out.alloc HZ.out _)).mono ?_
            rintro x w4 ⟨rfl, hb4⟩
            obtain ⟨p0, p1, p2, hb4'⟩ := pbox _ _ _ _ w4 hb4
            have hb34 := HJ.out.trans (hb4'.mono HJ.out.size)
            have hown4 := hownj.below hb4' (Nat.le_refl _)
            have HB34 := Lib.hid hb34
            clear hb4 hb4' hb34 hbj
            go_wp2_with fail
            go_roundw
            case rel => exact ⟨4 + 1, by omega, by go_num, by rw [bodyN_succ, show pt e 4 = [] from if_neg (by first | exact HC.out | (have := HC.out; omega))]; rw [List.append_nil]; exact hown4, HB34.out⟩
            case measure => simp [intOf]
        · by_cases hc : e.kind = 1
          · have HC := Lib.hid hc
            have hq := data_any e
            rw [show (e.kind == 1) = true by simpa using hc] at hq
            have HQ := Lib.hid hq
            clear hq
            clear hc
            have hidx := fun (w : World) => idx5 s d w
            unfold partsC at hidx
            go_wp2_with fail
            clear hidx
            refine (HQ.out _).mono ?_
            rintro x w4 ⟨rfl, hb4⟩
            obtain ⟨p0, p1, p2, hb4'⟩ := pbox _ _ _ _ w4 hb4
            have hb34 := HJ.out.trans (hb4'.mono HJ.out.size)
            obtain ⟨⟨a0, a1, a2⟩, a3, a4, a5⟩ := ebox (hbox3.below hb34 hz3)
            have hown4 := hownj.below hb4' (Nat.le_refl _)
            have HB34 := Lib.hid hb34
            clear hb4 hb4' hb34 hbj
            go_wp2_with fail
            refine (wr71 e HR.out HC.out w3.heap.size u8 (bodyN e 5) w4 hown4 HB34.out.size (by have := HX.out; omega)).mono ?_
            rintro x w5 ⟨v5, rfl, hown5, hb5⟩
            go_wp2_with fail
            go_roundw
            case rel => exact ⟨5 + 1, by omega, by go_num, by rw [bodyN_succ]; exact hown5, HB34.out.trans hb5⟩
            case measure => simp [intOf]
          · have HC := Lib.hid hc
            have hq := data_any e
            rw [show (e.kind == 1) = false by simpa using hc] at hq
            have HQ := Lib.hid hq
            clear hq
            clear hc
            have hidx := fun (w : World) => idx5 s d w
            unfold partsC at hidx
            go_wp2_with fail
            clear hidx
            refine (HQ.out _).mono ?_
            rintro x w4 ⟨rfl, hb4⟩
            obtain ⟨p0, p1, p2, hb4'⟩ := pbox _ _ _ _ w4 hb4
            have hb34 := HJ.out.trans (hb4'.mono HJ.out.size)
            have hown4 := hownj.below hb4' (Nat.le_refl _)
            have HB34 := Lib.hid hb34
            clear hb4 hb4' hb34 hbj
            go_wp2_with fail
            go_roundw
            case rel => exact ⟨5 + 1, by omega, by go_num, by rw [bodyN_succ, show pt e 5 = [] from if_neg (by first | exact HC.out | (have := HC.out; omega))]; rw [List.append_nil]; exact hown4, HB34.out⟩
            case measure => simp [intOf]
        · have hbl : (bodyE e).length ≤ 54 := bodyN_len e HR.out 6
          obtain ⟨N, hN⟩ : ∃ N, (bodyE e).length = N := ⟨_, rfl⟩
          have hown8 : Own wr w3.heap.size u8 (bodyE e) := hownj
          have hne0 : bodyE e ≠ [] := by simp [bodyE, bodyN, pt, List.range_succ]
          obtain ⟨g8, c8, rfl, hc8, hgB, hby8⟩ : ∃ g8 c8, u8 = .slice (some ⟨g8, 0, none⟩) N c8 ∧ N ≤ c8 ∧ w3.heap.size ≤ g8 ∧ Bys wr wr.heap.size (some ⟨g8, 0, none⟩) (bodyE e) := by
            obtain ⟨A8, c8, e8, hc8, hby8⟩ := hown8.formN hN
            rcases hown8.1.2 with ⟨h0, h1⟩ | ⟨g, cap, cur, h1, h2, _⟩
            · exact absurd (List.eq_nil_of_length_eq_zero h1) hne0
            · rw [e8] at h1
              injection h1 with h3 h4 h5
              subst h3
              exact ⟨g, c8, e8, hc8, h2, hby8⟩
          have HG8 : Hid (g8 < wr.heap.size) := by obtain ⟨b', o', e', h', _⟩ := hby8.2 hne0; cases e'; exact h'
          have HNE : Hid (some g8 ≠ u4.ownBlock) := by intro h; have := (HOW.out.1.lt g8 h.symm).2; omega
          have hsum := Sum_any (some ⟨g8, 0, none⟩) (bodyE e) c8 wr hby8 (by omega)
          have hsl := sum_lt (bodyE e)
          rw [hN] at hsum hbl
          obtain ⟨sm, hsm⟩ : ∃ sm, Crc.sum (bodyE e) = sm := ⟨_, rfl⟩
          rw [hsm] at hsum hsl
          have HSUM := Lib.hid hsum
          have HN := Lib.hid hN
          have HSM := Lib.hid hsm
          have HBY8 := Lib.hid hby8
          clear hsum hN hsm hby8 hownj hown8 hne0 hgB hbj a0 a1 a2 a3 a4 a5 HX
          go_wp2_with fail
          refine HSUM.out.mono ?_
          rintro x w6 ⟨rfl, hb6⟩
          have HB36 : Hid (Below w3.heap.size w3 w6) := HJ.out.trans (hb6.mono HJ.out.size)
          have HO6 : Hid (Own w6 w.heap.size u4 ((l.take k).flatMap frameE)) := HOW.out.below HB36.out (Nat.le_refl _)
          have HBY6 := Lib.hid (HBY8.out.grow hb6)
          have HBW6 : Hid (Below w.heap.size w w6) := HBW.out.trans (HB36.out.mono HBW.out.size)
          have HZ6 := Lib.hid hb6.size
          clear hb6 HSUM HBY8 HJ
          obtain ⟨v7, w7, hr7, ho7, hb7, hg7⟩ := app5 w6 w.heap.size u4 _ sm N hsl (by omega) HO6.out HBW6.out.size (by have := HFL.out; omega)
          have HR7 := Lib.hid hr7
          clear hr7
          have hby7 : Bys w7 w7.heap.size (some ⟨g8, 0, none⟩) (bodyE e) := HBY6.out.far hg7 (by have := HZ6.out; have := HG8.out; omega) HNE.out
          have hlen5 : ((l.take k).flatMap frameE ++ (Crc.le4 sm ++ [N])).length + (bodyE e).length ≤ 1099511627776 := by
            have e5 : (Crc.le4 sm ++ [N]).length = 5 := by simp [Crc.le4]
            have := HFL.out
            rw [HN.out, List.length_append, e5]
            omega
          obtain ⟨v8, w8, hr8, ho8, hg8⟩ := run_append_bys w7 w.heap.size _ v7 _ (bodyE e) ho7 (some ⟨g8, 0, none⟩) c8 hby7 hlen5 (Nat.le_trans HBW6.out.size hb7.size)
          rw [HN.out] at hr8
          have HR8 := Lib.hid hr8
          clear hr8
          have HB8 : Hid (Below w.heap.size w w8) := (HBW6.out.trans hb7).grown hg8 (HBW6.out.trans hb7).size fun g hg => (ho7.1.lt g hg).1
          have HO8 : Hid (Own w8 w.heap.size v8 ((l.take (k + 1)).flatMap frameE)) := by
            show Own _ _ _ _
            rw [HLK.out, frameE, HSM.out, HN.out, ← List.append_assoc]
            exact ho8
          clear ho7 ho8 hb7 hg7 hg8 hby7
          go_wp2_with (first | (at_builtin; refine Lib.wpList_append_run _ rfl _ _ _ _ rfl _ _ rfl rfl _ _ HR7.out ?_; clear HR7) | (at_builtin; refine Lib.wpList_append_run _ rfl _ _ _ _ rfl _ _ rfl rfl _ _ HR8.out ?_; clear HR8))
          go_roundw
          case rel => exact ⟨k + 1, by omega, by go_num, HO8.out, Lib.hid (HRK.out HR.out), HB8.out⟩
          case measure => simp [intOf]; omega
    · obtain rfl : k = l.length := by omega
      go_wp2_with fail
      go_ret2
      rw [List.take_length] at hown
      exact ⟨.inl ⟨by have := HRT.out; rwa [List.take_length] at this, _, rfl, hown⟩, hb⟩
end Go.Proofs.Ytdoidfnfhidgdaa
