import Derived.Test.YtghhffcdfbehcaaT
import Derived.Deep.RegionHeld3
namespace Go.Proofs.Ytghhffcdfbehcaa
open Go.RowKit

theorem ext {w w1 w2 : World} (h : Below w.heap.size w w1) (h2 : Below w1.heap.size w1 w2) : Below w.heap.size w w2 := h.trans (h2.mono h.size)
theorem below_drew {B : Nat} {a w : World} (h : Below B a w) : Below B a w.drew := ⟨h.os, h.tape, h.output, h.size, h.block⟩

theorem takeH {P : Program} {md : Region.Mode} {Q : Exit → Act → World → Prop} {S : World → Prop} {l : List Oper} {i : Nat} {oi : Oper} {v : Value} {fuel : Nat} {listed : Array Bool} {a : Act} {w : World} (hi : l[i]? = some oi)
    (hs : Region.noSelect l.toArray = true) (hf : Region.free md l.toArray listed i = true) (hr : (Region.ready md l.toArray listed).contains i = true)
    (hQ : ∀ c a w, Q (.panic c) (a.put oi.dst v) w → Q (.panic c) a w) (hy : YieldsIf P l.toArray S oi v a) (hS : S w)
    (h : wpAnyH P md l.toArray Q S fuel (listed.setIfInBounds i true) (a.put oi.dst v) w) : wpAnyH P md l.toArray Q S (fuel + 1) listed a w :=
  wpAnyH_take (by rw [List.getElem?_toArray]; exact hi) hs hf hr hQ hy hS h
theorem consH {P : Program} {md : Region.Mode} {Q : Exit → Act → World → Prop} {S : World → Prop} {l : List Oper} {fuel : Nat} {listed : Array Bool} {a : Act} {w : World} {i : Nat} {o : Oper} {rs : List Nat} (ho : l[i]? = some o)
    (h : ∀ K' : Act → World → Prop, Shut (∀ a w, S w → (S w → wpAnyH P md l.toArray Q S fuel (listed.setIfInBounds i true) a w) → K' a w) → if Region.wanted o (yielded l.toArray a.tmps) = true then Oper.wp P o a w K' Q else K' (a.put o.dst undef) w)
    (hs : AllReadyH P md l.toArray Q S fuel listed a w rs) : AllReadyH P md l.toArray Q S fuel listed a w (i :: rs) :=
  AllReadyH.cons (by rw [List.getElem?_toArray]; exact ho) h hs

set_option maxRecDepth 100000 in
set_option maxHeartbeats 2000000 in
/-- ref.End of a log that may not be: some two numbers -/
theorem refEnd_some (A : Option Addr) (l : List Ent) (c : Nat) (x : Int) (w : World) (hl : Ents w w.heap.size A l) (hm : l.length ≤ 9223372036854775807) :
    Calls Try.prog 23 #[.slice A l.length c, .int .i64 x] w fun e w' => ∃ y M : Int, e = .returned (.tuple #[.int .i64 y, .int .i64 M]) ∧ w = w' := by
  go_enter Try.func23, Try.ntmps23
  go_wp2_with fail
  go_loop [6, 7, 8] (fun e at_ i => ∃ (k : Nat) (M : Int) (y : Int), k ≤ l.length ∧ i = .int .i64 k ∧ at_ = .int .i64 M ∧ e = .int .i64 y) (fun _ _ i => l.length - (intOf i).toNat)
  case atStart => exact ⟨0, 0, 0, Nat.zero_le _, rfl, rfl, rfl⟩
  case round =>
    obtain ⟨k, M, y, hk, rfl, rfl, rfl⟩ := hrel
    by_cases hlt : k < l.length
    · obtain ⟨b, off, rfl, hbB, he⟩ := hl.at_ hlt
      have h0 := he.c0
      by_cases d1 : l[k].epoch ≤ x
      · clear he
        go_wp2_with fail
        go_round
        case rel => exact ⟨k + 1, _, _, by omega, by go_num, rfl, rfl⟩
        case measure => simp [intOf]; omega
      · have d2 : x < l[k].epoch := by omega
        clear he
        go_wp2_with fail
        go_round
        case rel => exact ⟨k + 1, M, y, by omega, by go_num, rfl, rfl⟩
        case measure => simp [intOf]; omega
    · obtain rfl : k = l.length := by omega
      go_wp2_with fail
      go_ret2
      exact ⟨⟨_, _, rfl⟩, rfl⟩

set_option maxRecDepth 100000 in
set_option maxHeartbeats 4000000 in
theorem asks_no (A1 A2 A3 : Option Addr) (zs es ns : List Int) (c1 c2 c3 : Nat) (w : World) (h1 : Ints w w.heap.size A1 zs) (h2 : Ints w w.heap.size A2 es) (h3 : Ints w w.heap.size A3 ns)
    (l1 : zs.length ≤ 60) (l2 : es.length ≤ 20) (l3 : ns.length ≤ 20) (hns : ∀ z ∈ ns, z ≤ 9223372036854775807) (hno : may (logE zs) = false) :
    Calls Try.prog 8 #[.slice A1 zs.length c1, .slice A2 es.length c2, .slice A3 ns.length c3] w fun e w' => e = .returned (.bool true) ∧ Below w.heap.size w w' := by
  obtain ⟨X, hX⟩ : ∃ X, logE zs = X := ⟨_, rfl⟩
  have hXl : X.length = zs.length := by rw [← hX]; exact logE_length zs
  have HL1 := Lib.hid (log_any A1 zs c1 w h1 (by omega))
  have HX := Lib.hid hX
  have HXL := Lib.hid hXl
  rw [hX] at hno
  have HNO := Lib.hid hno
  clear hX hXl hno
  go_enter Try.func8, Try.ntmps8
  go_wp2_with fail
  refine HL1.out.mono ?_
  rintro e w1 ⟨A4, c4, rfl, hc4, he1, hb1⟩
  rw [HX.out] at he1
  clear HL1
  have hq1 := refMay_any A4 X c4 w1 he1 (by rw [HXL.out]; omega)
  rw [HXL.out, HNO.out] at hq1
  have HQ1 := Lib.hid hq1
  clear hq1
  go_wp2_with fail
  refine HQ1.out.mono ?_
  rintro e w2 ⟨rfl, hb2⟩
  have hbw2 : Below w.heap.size w w2 := hb1.trans (hb2.mono hb1.size)
  have he2 := he1.grow hb2
  clear hb1 hb2 he1 HQ1
  have hq2 := Starts_any A4 X c4 w2 he2 (by rw [HXL.out]; omega)
  have e1 : stNo X = 2 := by simp [stNo, HNO.out]
  have e2 : stAns X = [] := by simp [stAns, HNO.out]
  rw [HXL.out, e1, e2] at hq2
  have HQ2 := Lib.hid hq2
  clear hq2 e2
  go_wp2_with fail
  refine HQ2.out.mono ?_
  rintro e w3 ⟨A5, c5, rfl, _, _, hb3⟩
  have hbw3 : Below w.heap.size w w3 := hbw2.trans (hb3.mono hbw2.size)
  have he3 := he2.grow hb3
  clear hbw2 hb3 he2 HQ2
  have hq3 := Last_any A4 X c4 w3 he3 (by rw [HXL.out]; omega)
  have e2 : lasAns X = 0 := by simp [lasAns, HNO.out]
  rw [HXL.out, e1, e2] at hq3
  have HQ3 := Lib.hid hq3
  clear hq3 e1 e2
  simp only [List.length_nil]
  go_wp2_with fail
  refine HQ3.out.mono ?_
  rintro e w4 ⟨rfl, hb4⟩
  have hbw4 : Below w.heap.size w w4 := hbw3.trans (hb4.mono hbw3.size)
  have he4 := he3.grow hb4
  clear hbw3 hb4 he3 HQ3
  have hq4 := May_any A4 X c4 w4 he4 (by rw [HXL.out]; omega)
  rw [HXL.out, HNO.out] at hq4
  have HQ4 := Lib.hid hq4
  clear hq4
  go_wp2_with (go_at_call 14; refine HQ4.out.mono ?_; rintro e w5 ⟨rfl, hb5⟩)
  have hbw5 : Below w.heap.size w w5 := hbw4.trans (hb5.mono hbw4.size)
  have he5 := he4.grow hb5
  have h25 := h2.grow hbw5
  have h35 := h3.grow hbw5
  clear hbw4 hb5 he4 HQ4 h1 h2 h3
  go_loopw [13] (fun i wr => ∃ (k : Nat), k ≤ es.length ∧ i = .int .i64 k ∧ Below w5.heap.size w5 wr)
    (fun i _ => es.length - (intOf i).toNat)
  case atStart => exact ⟨0, Nat.zero_le _, rfl, Below.refl _ _⟩
  case round =>
    obtain ⟨k, hk, rfl, hbr⟩ := hrel
    by_cases hlt : k < es.length
    · obtain ⟨b, off, rfl, hbB, hcell⟩ := (h25.grow hbr).at_ hlt
      obtain ⟨x, hx⟩ : ∃ x, es[k] = x := ⟨_, rfl⟩
      rw [hx] at hcell
      clear hx
      have her := he5.grow hbr
      have hq5 := End_any A4 X c4 x wr her (by rw [HXL.out]; omega) (by rw [HXL.out]; omega)
      have eo : endOk X x = false := by simp [endOk, HNO.out]
      have e1 : endX X x = 0 := by simp [endX, eo]
      have e2 : endN X x = 0 := by simp [endN, eo]
      have e3 : endE X x = 2 := by simp [endE, eo]
      rw [HXL.out, e1, e2, e3] at hq5
      have HQ5 := Lib.hid hq5
      clear hq5 e1 e2 e3 eo
      go_wp2_with fail
      refine HQ5.out.mono ?_
      rintro e w6 ⟨rfl, hb6⟩
      have hbr6 : Below w5.heap.size w5 w6 := hbr.trans (hb6.mono hbr.size)
      have her6 := her.grow hb6
      have hcell6 : w6.cell? ⟨b, off + k, none⟩ = some (.int .i64 x) := by
        have hlb : b < wr.heap.size := by have := hbr.size; omega
        exact (hb6.cell (p := ⟨b, off + k, none⟩) hlb).trans hcell
      have HQ6 := Lib.hid (refEnd_some A4 X c4 x w6 her6 (by rw [HXL.out]; omega))
      rw [HXL.out] at HQ6
      clear HQ5 hcell
      go_wp2_with fail
      refine HQ6.out.mono ?_
      rintro e w7 ⟨y, M, rfl, rfl⟩
      clear HQ6
      go_wp2_with fail
      have hlb6 : b < w6.heap.size := by have := hbr6.size; have := hb6.size; omega
      have h36 := h35.grow hbr6
      have hkx : k < es.length := hlt
      go_loopw [19] (fun j wq => ∃ (m : Nat), m ≤ ns.length ∧ j = .int .i64 m ∧ Below w6.heap.size w6 wq)
        (fun j _ => ns.length - (intOf j).toNat)
      case atStart => exact ⟨0, Nat.zero_le _, rfl, Below.refl _ _⟩
      case round =>
        obtain ⟨m, hm, rfl, hbq⟩ := hrel
        by_cases hlm : m < ns.length
        · obtain ⟨b3, off3, rfl, hbB3, hcell3⟩ := (h36.grow hbq).at_ hlm
          obtain ⟨z, hz⟩ : ∃ z, ns[m] = z := ⟨_, rfl⟩
          have hz2 := hns z (by rw [← hz]; exact List.getElem_mem hlm)
          rw [hz] at hcell3
          clear hz
          have hs1 : ∀ w', Below wr.heap.size wr w' → w'.cell? ⟨b3, off3 + m, none⟩ = some (.int .i64 z) := fun w' h => (h.cell (p := ⟨b3, off3 + m, none⟩) hbB3).trans hcell3
          have hs2 : ∀ w', Below wr.heap.size wr w' → w'.cell? ⟨b, off + k, none⟩ = some (.int .i64 x) := fun w' h => (h.cell (p := ⟨b, off + k, none⟩) (by have := hbq.size; show b < _; omega)).trans ((hbq.cell (p := ⟨b, off + k, none⟩) hlb6).trans hcell6)
          have hfq : ∀ w', Below wr.heap.size wr w' → Calls Try.prog 13 #[.slice A4 zs.length c4, .int .i64 z, .int .i64 x] w' fun e w'' => e = .returned (.tuple #[.bool false, .int .i64 2]) ∧ Below w'.heap.size w' w'' := by
            intro w' h
            have hq := Fits_any A4 X c4 z x w' ((her6.grow hbq).grow h) (by rw [HXL.out]; omega) (by rw [HXL.out]; omega)
            have eo : fitsOk X z x = false := by simp [fitsOk, HNO.out]
            have e1 : fitsV X z x = false := by simp [fitsV, eo]
            have e2 : fitsE X z x = 2 := by simp [fitsE, eo]
            rw [HXL.out, e1, e2] at hq
            exact hq
          have hcq : ∀ w', Below wr.heap.size wr w' → Calls Try.prog 11 #[.slice A4 zs.length c4, .int .i64 x, .int .i64 z] w' fun e w'' => e = .returned (.tuple #[.int .i64 0, .int .i64 2]) ∧ Below w'.heap.size w' w'' := by
            intro w' h
            have hq := Cut_any A4 X c4 x z w' ((her6.grow hbq).grow h) (by rw [HXL.out]; omega) hz2
            have eo : cutOk X x z = false := by simp [cutOk, HNO.out]
            have e1 : cutN X x z = 0 := by simp [cutN, eo]
            have e2 : cutE X x z = 2 := by simp [cutE, eo]
            rw [HXL.out, e1, e2] at hq
            exact hq
          have HFQ := Lib.hid hfq
          have HCQ := Lib.hid hcq
          have HBQ := Lib.hid hbq
          clear hfq hcq hbq
          go_wp2_with fail
          refine wp_region_held_drew (S := fun w' => Below wr.heap.size wr w') (by kernel_rfl) (below_drew (Below.refl _ _)) (fun hHeld => ?_)
          refine takeH (i := 0) (v := ?_) rfl (by kernel_rfl) (by kernel_rfl) (by kernel_rfl) (fun _ _ _ h => h) (Or.inl ⟨by rfl, ?_⟩) (by assumption) ?_
          rotate_left
          · first | (intro w hSw; (try dsimp only at hSw); go_simp; done) | (intro w hSw; (try dsimp only at hSw); go_simp; with_reducible rfl)
          try simp only [Act.put, List.setIfInBounds_toArray, List.set_cons_zero, List.set_cons_succ]
          refine takeH (i := 1) (v := ?_) rfl (by kernel_rfl) (by kernel_rfl) (by kernel_rfl) (fun _ _ _ h => h) (Or.inl ⟨by rfl, ?_⟩) (by assumption) ?_
          rotate_left
          · first | (intro w hSw; (try dsimp only at hSw); go_simp; done) | (intro w hSw; (try dsimp only at hSw); go_simp; with_reducible rfl)
          try simp only [Act.put, List.setIfInBounds_toArray, List.set_cons_zero, List.set_cons_succ]
          refine takeH (i := 2) (v := ?_) rfl (by kernel_rfl) (by kernel_rfl) (by kernel_rfl) (fun _ _ _ h => h) (Or.inl ⟨by rfl, ?_⟩) (by assumption) ?_
          rotate_left
          · first | (intro w hSw; (try dsimp only at hSw); go_simp; done) | (intro w hSw; (try dsimp only at hSw); go_simp; with_reducible rfl)
          try simp only [Act.put, List.setIfInBounds_toArray, List.set_cons_zero, List.set_cons_succ]
          refine takeH (i := 3) (v := ?_) rfl (by kernel_rfl) (by kernel_rfl) (by kernel_rfl) (fun _ _ _ h => h) (Or.inl ⟨by rfl, ?_⟩) (by assumption) ?_
          rotate_left
          · first | (intro w hSw; (try dsimp only at hSw); go_simp; done) | (intro w hSw; (try dsimp only at hSw); go_simp; with_reducible rfl)
          try simp only [Act.put, List.setIfInBounds_toArray, List.set_cons_zero, List.set_cons_succ]
          refine takeH (i := 4) (v := ?_) rfl (by kernel_rfl) (by kernel_rfl) (by kernel_rfl) (fun _ _ _ h => h) (Or.inl ⟨by rfl, ?_⟩) (by assumption) ?_
          rotate_left
          · first | (intro w hSw; (try dsimp only at hSw); go_simp; done) | (intro w hSw; (try dsimp only at hSw); go_simp; with_reducible rfl)
          try simp only [Act.put, List.setIfInBounds_toArray, List.set_cons_zero, List.set_cons_succ]
          refine takeH (i := 5) (v := ?_) rfl (by kernel_rfl) (by kernel_rfl) (by kernel_rfl) (fun _ _ _ h => h) (Or.inl ⟨by rfl, ?_⟩) (by assumption) ?_
          rotate_left
          · first | (intro w hSw; (try dsimp only at hSw); go_simp; done) | (intro w hSw; (try dsimp only at hSw); go_simp; with_reducible rfl)
          try simp only [Act.put, List.setIfInBounds_toArray, List.set_cons_zero, List.set_cons_succ]
          refine takeH (i := 6) (v := ?_) rfl (by kernel_rfl) (by kernel_rfl) (by kernel_rfl) (fun _ _ _ h => h) (Or.inl ⟨by rfl, ?_⟩) (by assumption) ?_
          rotate_left
          · first | (intro w hSw; (try dsimp only at hSw); go_simp; done) | (intro w hSw; (try dsimp only at hSw); go_simp; with_reducible rfl)
          try simp only [Act.put, List.setIfInBounds_toArray, List.set_cons_zero, List.set_cons_succ]
          refine takeH (i := 7) (v := ?_) rfl (by kernel_rfl) (by kernel_rfl) (by kernel_rfl) (fun _ _ _ h => h) (Or.inl ⟨by rfl, ?_⟩) (by assumption) ?_
          rotate_left
          · first | (intro w hSw; (try dsimp only at hSw); go_simp; done) | (intro w hSw; (try dsimp only at hSw); go_simp; with_reducible rfl)
          try simp only [Act.put, List.setIfInBounds_toArray, List.set_cons_zero, List.set_cons_succ]
          refine takeH (i := 8) (v := ?_) rfl (by kernel_rfl) (by kernel_rfl) (by kernel_rfl) (fun _ _ _ h => h) (Or.inl ⟨by rfl, ?_⟩) (by assumption) ?_
          rotate_left
          · first | (intro w hSw; (try dsimp only at hSw); go_simp; done) | (intro w hSw; (try dsimp only at hSw); go_simp; with_reducible rfl)
          try simp only [Act.put, List.setIfInBounds_toArray, List.set_cons_zero, List.set_cons_succ]
          refine wpAnyH_ready (rs := [9]) (by kernel_rfl) (by simp) ?_
          refine consH (i := 9) rfl (fun K hK => ?_) AllReadyH.nil
          go_simp
          refine (HFQ.out _ (by assumption)).mono ?_
          rintro e w8 ⟨rfl, hb8⟩
          go_wp2_with fail
          refine hK.out _ _ (hHeld.trans (hb8.mono hHeld.size)) (fun hHeld => ?_)
          clear hK K
          try simp only [Act.put, List.setIfInBounds_toArray, List.set_cons_zero, List.set_cons_succ]
          refine takeH (i := 10) (v := ?_) rfl (by kernel_rfl) (by kernel_rfl) (by kernel_rfl) (fun _ _ _ h => h) (Or.inl ⟨by rfl, ?_⟩) (by assumption) ?_
          rotate_left
          · first | (intro w hSw; (try dsimp only at hSw); go_simp; done) | (intro w hSw; (try dsimp only at hSw); go_simp; with_reducible rfl)
          try simp only [Act.put, List.setIfInBounds_toArray, List.set_cons_zero, List.set_cons_succ]
          refine takeH (i := 11) (v := ?_) rfl (by kernel_rfl) (by kernel_rfl) (by kernel_rfl) (fun _ _ _ h => h) (Or.inl ⟨by rfl, ?_⟩) (by assumption) ?_
          rotate_left
          · first | (intro w hSw; (try dsimp only at hSw); go_simp; done) | (intro w hSw; (try dsimp only at hSw); go_simp; with_reducible rfl)
          try simp only [Act.put, List.setIfInBounds_toArray, List.set_cons_zero, List.set_cons_succ]
          refine takeH (i := 12) (v := ?_) rfl (by kernel_rfl) (by kernel_rfl) (by kernel_rfl) (fun _ _ _ h => h) (Or.inl ⟨by rfl, ?_⟩) (by assumption) ?_
          rotate_left
          · first | (intro w hSw; (try dsimp only at hSw); go_simp; done) | (intro w hSw; (try dsimp only at hSw); go_simp; with_reducible rfl)
          try simp only [Act.put, List.setIfInBounds_toArray, List.set_cons_zero, List.set_cons_succ]
          refine takeH (i := 13) (v := ?_) rfl (by kernel_rfl) (by kernel_rfl) (by kernel_rfl) (fun _ _ _ h => h) (Or.inl ⟨by rfl, ?_⟩) (by assumption) ?_
          rotate_left
          · first | (intro w hSw; (try dsimp only at hSw); go_simp; done) | (intro w hSw; (try dsimp only at hSw); go_simp; with_reducible rfl)
          try simp only [Act.put, List.setIfInBounds_toArray, List.set_cons_zero, List.set_cons_succ]
          refine takeH (i := 14) (v := ?_) rfl (by kernel_rfl) (by kernel_rfl) (by kernel_rfl) (fun _ _ _ h => h) (Or.inl ⟨by rfl, ?_⟩) (by assumption) ?_
          rotate_left
          · first | (intro w hSw; (try dsimp only at hSw); go_simp; done) | (intro w hSw; (try dsimp only at hSw); go_simp; with_reducible rfl)
          try simp only [Act.put, List.setIfInBounds_toArray, List.set_cons_zero, List.set_cons_succ]
          refine wpAnyH_done (by kernel_rfl) ?_ _
          clear HFQ
          go_wp2_with fail
          refine wp_region_held_drew (S := fun w' => Below wr.heap.size wr w') (by kernel_rfl) (below_drew (by assumption)) (fun hHeld => ?_)
          refine takeH (i := 0) (v := ?_) rfl (by kernel_rfl) (by kernel_rfl) (by kernel_rfl) (fun _ _ _ h => h) (Or.inl ⟨by rfl, ?_⟩) (by assumption) ?_
          rotate_left
          · first | (intro w hSw; (try dsimp only at hSw); go_simp; done) | (intro w hSw; (try dsimp only at hSw); go_simp; with_reducible rfl)
          try simp only [Act.put, List.setIfInBounds_toArray, List.set_cons_zero, List.set_cons_succ]
          refine takeH (i := 1) (v := ?_) rfl (by kernel_rfl) (by kernel_rfl) (by kernel_rfl) (fun _ _ _ h => h) (Or.inl ⟨by rfl, ?_⟩) (by assumption) ?_
          rotate_left
          · first | (intro w hSw; (try dsimp only at hSw); go_simp; done) | (intro w hSw; (try dsimp only at hSw); go_simp; with_reducible rfl)
          try simp only [Act.put, List.setIfInBounds_toArray, List.set_cons_zero, List.set_cons_succ]
          refine takeH (i := 2) (v := ?_) rfl (by kernel_rfl) (by kernel_rfl) (by kernel_rfl) (fun _ _ _ h => h) (Or.inl ⟨by rfl, ?_⟩) (by assumption) ?_
          rotate_left
          · first | (intro w hSw; (try dsimp only at hSw); go_simp; done) | (intro w hSw; (try dsimp only at hSw); go_simp; with_reducible rfl)
          try simp only [Act.put, List.setIfInBounds_toArray, List.set_cons_zero, List.set_cons_succ]
          refine takeH (i := 3) (v := ?_) rfl (by kernel_rfl) (by kernel_rfl) (by kernel_rfl) (fun _ _ _ h => h) (Or.inl ⟨by rfl, ?_⟩) (by assumption) ?_
          rotate_left
          · first | (intro w hSw; (try dsimp only at hSw); go_simp; done) | (intro w hSw; (try dsimp only at hSw); go_simp; with_reducible rfl)
          try simp only [Act.put, List.setIfInBounds_toArray, List.set_cons_zero, List.set_cons_succ]
          refine takeH (i := 4) (v := ?_) rfl (by kernel_rfl) (by kernel_rfl) (by kernel_rfl) (fun _ _ _ h => h) (Or.inl ⟨by rfl, ?_⟩) (by assumption) ?_
          rotate_left
          · first | (intro w hSw; (try dsimp only at hSw); go_simp; done) | (intro w hSw; (try dsimp only at hSw); go_simp; with_reducible rfl)
          try simp only [Act.put, List.setIfInBounds_toArray, List.set_cons_zero, List.set_cons_succ]
          refine takeH (i := 5) (v := ?_) rfl (by kernel_rfl) (by kernel_rfl) (by kernel_rfl) (fun _ _ _ h => h) (Or.inl ⟨by rfl, ?_⟩) (by assumption) ?_
          rotate_left
          · first | (intro w hSw; (try dsimp only at hSw); go_simp; done) | (intro w hSw; (try dsimp only at hSw); go_simp; with_reducible rfl)
          try simp only [Act.put, List.setIfInBounds_toArray, List.set_cons_zero, List.set_cons_succ]
          refine takeH (i := 6) (v := ?_) rfl (by kernel_rfl) (by kernel_rfl) (by kernel_rfl) (fun _ _ _ h => h) (Or.inl ⟨by rfl, ?_⟩) (by assumption) ?_
          rotate_left
          · first | (intro w hSw; (try dsimp only at hSw); go_simp; done) | (intro w hSw; (try dsimp only at hSw); go_simp; with_reducible rfl)
          try simp only [Act.put, List.setIfInBounds_toArray, List.set_cons_zero, List.set_cons_succ]
          refine takeH (i := 7) (v := ?_) rfl (by kernel_rfl) (by kernel_rfl) (by kernel_rfl) (fun _ _ _ h => h) (Or.inl ⟨by rfl, ?_⟩) (by assumption) ?_
          rotate_left
          · first | (intro w hSw; (try dsimp only at hSw); go_simp; done) | (intro w hSw; (try dsimp only at hSw); go_simp; with_reducible rfl)
          try simp only [Act.put, List.setIfInBounds_toArray, List.set_cons_zero, List.set_cons_succ]
          refine takeH (i := 8) (v := ?_) rfl (by kernel_rfl) (by kernel_rfl) (by kernel_rfl) (fun _ _ _ h => h) (Or.inl ⟨by rfl, ?_⟩) (by assumption) ?_
          rotate_left
          · first | (intro w hSw; (try dsimp only at hSw); go_simp; done) | (intro w hSw; (try dsimp only at hSw); go_simp; with_reducible rfl)
          try simp only [Act.put, List.setIfInBounds_toArray, List.set_cons_zero, List.set_cons_succ]
          refine wpAnyH_ready (rs := [9]) (by kernel_rfl) (by simp) ?_
          refine consH (i := 9) rfl (fun K hK => ?_) AllReadyH.nil
          go_simp
          refine (HCQ.out _ (by assumption)).mono ?_
          rintro e w9 ⟨rfl, hb9⟩
          go_wp2_with fail
          refine hK.out _ _ (hHeld.trans (hb9.mono hHeld.size)) (fun hHeld => ?_)
          clear hK K
          try simp only [Act.put, List.setIfInBounds_toArray, List.set_cons_zero, List.set_cons_succ]
          refine takeH (i := 10) (v := ?_) rfl (by kernel_rfl) (by kernel_rfl) (by kernel_rfl) (fun _ _ _ h => h) (Or.inl ⟨by rfl, ?_⟩) (by assumption) ?_
          rotate_left
          · first | (intro w hSw; (try dsimp only at hSw); go_simp; done) | (intro w hSw; (try dsimp only at hSw); go_simp; with_reducible rfl)
          try simp only [Act.put, List.setIfInBounds_toArray, List.set_cons_zero, List.set_cons_succ]
          refine takeH (i := 11) (v := ?_) rfl (by kernel_rfl) (by kernel_rfl) (by kernel_rfl) (fun _ _ _ h => h) (Or.inl ⟨by rfl, ?_⟩) (by assumption) ?_
          rotate_left
          · first | (intro w hSw; (try dsimp only at hSw); go_simp; done) | (intro w hSw; (try dsimp only at hSw); go_simp; with_reducible rfl)
          try simp only [Act.put, List.setIfInBounds_toArray, List.set_cons_zero, List.set_cons_succ]
          refine takeH (i := 12) (v := ?_) rfl (by kernel_rfl) (by kernel_rfl) (by kernel_rfl) (fun _ _ _ h => h) (Or.inl ⟨by rfl, ?_⟩) (by assumption) ?_
          rotate_left
          · first | (intro w hSw; (try dsimp only at hSw); go_simp; done) | (intro w hSw; (try dsimp only at hSw); go_simp; with_reducible rfl)
          try simp only [Act.put, List.setIfInBounds_toArray, List.set_cons_zero, List.set_cons_succ]
          refine takeH (i := 13) (v := ?_) rfl (by kernel_rfl) (by kernel_rfl) (by kernel_rfl) (fun _ _ _ h => h) (Or.inl ⟨by rfl, ?_⟩) (by assumption) ?_
          rotate_left
          · first | (intro w hSw; (try dsimp only at hSw); go_simp; done) | (intro w hSw; (try dsimp only at hSw); go_simp; with_reducible rfl)
          try simp only [Act.put, List.setIfInBounds_toArray, List.set_cons_zero, List.set_cons_succ]
          refine takeH (i := 14) (v := ?_) rfl (by kernel_rfl) (by kernel_rfl) (by kernel_rfl) (fun _ _ _ h => h) (Or.inl ⟨by rfl, ?_⟩) (by assumption) ?_
          rotate_left
          · first | (intro w hSw; (try dsimp only at hSw); go_simp; done) | (intro w hSw; (try dsimp only at hSw); go_simp; with_reducible rfl)
          try simp only [Act.put, List.setIfInBounds_toArray, List.set_cons_zero, List.set_cons_succ]
          refine wpAnyH_done (by kernel_rfl) ?_ _
          go_wp2_with fail
          go_roundw
          case rel => exact ⟨m + 1, by omega, by go_num, HBQ.out.trans (hHeld.mono HBQ.out.size)⟩
          case measure => simp [intOf]; omega
        · obtain rfl : m = ns.length := by omega
          go_wp2_with fail
          go_roundw
          case rel => exact ⟨k + 1, by omega, by go_num, hbr6.trans (hbq.mono hbr6.size)⟩
          case measure => simp [intOf]; omega
    · obtain rfl : k = es.length := by omega
      go_wp2_with fail
      refine (known_any wr).mono ?_
      rintro e w7 ⟨rfl, hb7⟩
      go_wp2_with fail
      go_ret
      have hbw := hbw5.trans (hbr.mono hbw5.size)
      exact ⟨rfl, hbw.trans (hb7.mono hbw.size)⟩
end Go.Proofs.Ytghhffcdfbehcaa
