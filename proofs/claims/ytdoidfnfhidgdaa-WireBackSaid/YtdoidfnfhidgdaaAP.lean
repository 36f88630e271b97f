import Derived.Test.YtdoidfnfhidgdaaAN
import Derived.Test.YtdoidfnfhidgdaaAO
import Derived.Test.YtdoidfnfhidgdaaAF
namespace Go.Proofs.Ytdoidfnfhidgdaa
open Go.RowKit

/-- Framed against what was there -/
theorem framed_sealed (x0 x1 x2 x3 n : Nat) (body : List Nat) (hn : body.length = n) : (Crc.le4 (Crc.sum body) ++ [body.length] ++ body = x0 :: x1 :: x2 :: x3 :: n :: body) ↔ sealedB body [x0, x1, x2, x3] = true := by
  obtain ⟨a, b, c, d, hq⟩ : ∃ a b c d, Crc.le4 (Crc.sum body) = [a, b, c, d] := ⟨_, _, _, _, rfl⟩
  unfold sealedB
  rw [hq, decide_eq_true_iff, hn]
  simp only [List.cons_append, List.nil_append, List.cons.injEq, and_true]

set_option maxRecDepth 100000 in
set_option maxHeartbeats 4000000 in
theorem refRead_short (A : Option Addr) (b : List Nat) (c : Nat) (w : World) (hb : b.length < 5) :
    Calls Try.prog 24 #[.slice A b.length c] w (ReadR w (readF b)) := by
  have HR0 := Lib.hid (Blk.new w 24 (entC zeroE))
  have HB0 := Lib.hid ((Below.refl w.heap.size w).alloc (Nat.le_refl _) (.cells (entC zeroE) 24))
  have HF : Hid (readF b = (zeroE, 0, 120)) := by show _ = _; rw [readF, if_pos hb]
  go_enter Try.func24, Try.ntmps24
  go_wp2_with (first | (refine wpList_store_row rfl 24 _ _ rfl (w.heap.size) (entC zeroE) rfl rfl 24 (entC zeroE) HR0.out ent_size rfl (by kernel_rfl) ?_))
  try simp only [Exit.inBlock, Exit.then]
  refine bodyPost_ret_by (ret_cell_tmp2 rfl _ _ w.heap.size zeroE (setRow_same HR0.out) rfl) rfl ?_
  exact ⟨by rw [HF.out]; rfl, below_setRow HB0.out (Nat.le_refl _) _⟩

set_option maxRecDepth 100000 in
set_option maxHeartbeats 8000000 in
theorem refRead_long (bb off : Nat) (x0 x1 x2 x3 n L : Nat) (r : List Nat) (c : Nat) (w : World) (hL : L = r.length + 5) (hb : Bys w w.heap.size (some ⟨bb, off, none⟩) (x0 :: x1 :: x2 :: x3 :: n :: r)) (hc : L ≤ c) (hm : L ≤ 1099511627000) :
    Calls Try.prog 24 #[.slice (some ⟨bb, off, none⟩) L c] w (ReadR w (readF (x0 :: x1 :: x2 :: x3 :: n :: r))) := by
  have HR0 := Lib.hid (Blk.new w 24 (entC zeroE))
  have HB0 := Lib.hid ((Below.refl w.heap.size w).alloc (Nat.le_refl _) (.cells (entC zeroE) 24))
  have hF : readF (x0 :: x1 :: x2 :: x3 :: n :: r) = if n = 0 ∨ 35 < n then (zeroE, 0, 121)
    else if L < 5 + n then (zeroE, 0, 120)
    else if sealedB (r.take n) [x0, x1, x2, x3] = false then (zeroE, 0, 110)
    else match rdB (r.take n) with | .ok e => (e, 5 + (n : Int), 0) | .error x => (zeroE, 0, x) := by
    rw [readF, if_neg (by simp), hL]
    simp only [List.length_cons]
    rfl
  have HL := Lib.hid hL
  have HY := Lib.hid hb
  have hn256 : n < 256 := hb.1 n (by simp)
  have hL5 : ¬ ((L : Int) < 5) := by omega
  have hc5 : (5 : Int) ≤ (c : Int) := by omega
  have hc4 : (w.alloc (.cells #[.int .i64 0, .int .i64 0, .int .i64 0, .int .i64 0, .int .i64 0, .int .i64 0] 24)).cell? ⟨bb, off + 4, none⟩ = some (.int .u8 n) := by
    obtain ⟨b', o', e', h, hcell⟩ := hb.2 (by simp)
    cases e'
    exact (HB0.out.cell (p := ⟨bb, off + 4, none⟩) h).trans (hcell 4 n rfl)
  have hL4 : 4 < L := by omega
  clear hb hL
  by_cases h0 : n = 0
  · have hz : ((n : Int) == 0) = true := by rw [h0]; rfl
    have HF : Hid (readF (x0 :: x1 :: x2 :: x3 :: n :: r) = (zeroE, 0, 121)) := by show _ = _; rw [hF, if_pos (Or.inl h0)]
    clear hF h0
    go_enter Try.func24, Try.ntmps24
    go_wp2_with (first | (refine wpList_store_row rfl 24 _ _ rfl (w.heap.size) (entC zeroE) rfl rfl 24 (entC zeroE) HR0.out ent_size rfl (by kernel_rfl) ?_))
    try simp only [Exit.inBlock, Exit.then]
    refine bodyPost_ret_by (ret_cell_tmp2 rfl _ _ w.heap.size zeroE (setRow_same HR0.out) rfl) rfl ?_
    exact ⟨by rw [HF.out]; rfl, below_setRow HB0.out (Nat.le_refl _) _⟩
  have hz : ((n : Int) == 0) = false := beq_eq_false_iff_ne.2 (by omega)
  by_cases h35 : 35 < n
  · have hz2 : (35 : Int) < (n : Int) := by omega
    have HF : Hid (readF (x0 :: x1 :: x2 :: x3 :: n :: r) = (zeroE, 0, 121)) := by show _ = _; rw [hF, if_pos (Or.inr h35)]
    clear hF h0 h35
    go_enter Try.func24, Try.ntmps24
    go_wp2_with (first | (refine wpList_store_row rfl 24 _ _ rfl (w.heap.size) (entC zeroE) rfl rfl 24 (entC zeroE) HR0.out ent_size rfl (by kernel_rfl) ?_))
    try simp only [Exit.inBlock, Exit.then]
    refine bodyPost_ret_by (ret_cell_tmp2 rfl _ _ w.heap.size zeroE (setRow_same HR0.out) rfl) rfl ?_
    exact ⟨by rw [HF.out]; rfl, below_setRow HB0.out (Nat.le_refl _) _⟩
  have hz2 : ¬ ((35 : Int) < (n : Int)) := by omega
  rw [if_neg (by omega)] at hF
  by_cases h5 : L < 5 + n
  · have hz3 : (L : Int) < (5 : Int) + (n : Int) := by omega
    have HF : Hid (readF (x0 :: x1 :: x2 :: x3 :: n :: r) = (zeroE, 0, 120)) := by show _ = _; rw [hF, if_pos h5]
    clear hF h0 h35 h5
    go_enter Try.func24, Try.ntmps24
    go_wp2_with (first | (refine wpList_store_row rfl 24 _ _ rfl (w.heap.size) (entC zeroE) rfl rfl 24 (entC zeroE) HR0.out ent_size rfl (by kernel_rfl) ?_))
    try simp only [Exit.inBlock, Exit.then]
    refine bodyPost_ret_by (ret_cell_tmp2 rfl _ _ w.heap.size zeroE (setRow_same HR0.out) rfl) rfl ?_
    exact ⟨by rw [HF.out]; rfl, below_setRow HB0.out (Nat.le_refl _) _⟩
  have hz3 : ¬ ((L : Int) < (5 : Int) + (n : Int)) := by omega
  rw [if_neg h5] at hF
  obtain ⟨W, hW⟩ : ∃ W, w.alloc (.cells (entC zeroE) 24) = W := ⟨_, rfl⟩
  have hbW : Below w.heap.size w W := by rw [← hW]; exact HB0.out
  have HBW := Lib.hid hbW
  have HKW : Hid (Blk W w.heap.size 24 (entC zeroE)) := by show Blk _ _ _ _; rw [← hW]; exact HR0.out
  have HW : Hid (w.alloc (.cells #[.int .i64 0, .int .i64 0, .int .i64 0, .int .i64 0, .int .i64 0, .int .i64 0] 24) = W) := hW
  have HYW := Lib.hid (HY.out.grow hbW)
  have hbody : (r.take n).length = n := by rw [List.length_take]; have := HL.out; omega
  have HYB : Hid (Bys W W.heap.size (some ⟨bb, off + 5, none⟩) (r.take n)) := (HYW.out.drop 5).take n
  have HYF : Hid (Bys W W.heap.size (some ⟨bb, off, none⟩) (x0 :: x1 :: x2 :: x3 :: n :: r.take n)) := by
    have := HYW.out.take (5 + n)
    rwa [show (x0 :: x1 :: x2 :: x3 :: n :: r).take (5 + n) = x0 :: x1 :: x2 :: x3 :: n :: r.take n by rw [Nat.add_comm 5 n]; rfl] at this
  have HFr := Lib.hid (fun c' => refFramed_any (some ⟨bb, off + 5, none⟩) (r.take n) c' W HYB.out (by omega))
  have HEn : Hid (∀ c' w', Below W.heap.size W w' → n ≤ c' → Calls Try.prog 48 #[.slice (some ⟨bb, off + 5, none⟩) n c'] w' (EntR w' (rdB (r.take n)))) := by
    intro c' w' hbl hc'
    obtain ⟨y, t, hyt⟩ : ∃ y t, r.take n = y :: t := by
      cases h : r.take n with
      | nil => rw [h] at hbody; simp at hbody; omega
      | cons y t => exact ⟨y, t, rfl⟩
    rw [hyt]
    rw [hyt] at hbody
    refine entry_any bb (off + 5) y t c' n w' (by rw [← hbody]; rfl) ?_ hc' (by omega)
    rw [← hyt]
    exact HYB.out.grow hbl
  have HDE : Hid (((str (Crc.le4 (Crc.sum (r.take n)) ++ [(r.take n).length] ++ r.take n)).toList == (str (x0 :: x1 :: x2 :: x3 :: n :: r.take n)).toList) = sealedB (r.take n) [x0, x1, x2, x3]) := by
    show _ = _
    have h1 : ∀ c ∈ Crc.le4 (Crc.sum (r.take n)) ++ [(r.take n).length] ++ r.take n, c < 256 := by
      intro c hc
      rw [List.mem_append, List.mem_append] at hc
      rcases hc with (hc | hc) | hc
      · have := leN_lt (Crc.sum (r.take n)) 4 c (by rwa [leN_four]); exact this
      · rw [List.mem_singleton] at hc; omega
      · exact HYB.out.1 c hc
    rw [str_eq h1 HYF.out.1]
    rw [Bool.eq_iff_iff, decide_eq_true_iff]
    exact framed_sealed x0 x1 x2 x3 n (r.take n) hbody
  obtain ⟨S1, hS1⟩ : ∃ S, str (Crc.le4 (Crc.sum (r.take n)) ++ [(r.take n).length] ++ r.take n) = S := ⟨_, rfl⟩
  obtain ⟨S2, hS2⟩ : ∃ S, str (x0 :: x1 :: x2 :: x3 :: n :: r.take n) = S := ⟨_, rfl⟩
  have HS1 := Lib.hid hS1
  rw [hS1, hS2] at HDE
  have hcv2 : ∀ c' w', Below W.heap.size W w' → (convert 25 9 (.slice (some ⟨bb, off, none⟩) (5 + n) c')).run Try.prog w' = .ok (.string S2) w' := fun c' w' h => by
    have := conv_any w' _ _ _ c' (HYF.out.grow h)
    rw [hS2] at this
    rwa [show (x0 :: x1 :: x2 :: x3 :: n :: r.take n).length = 5 + n by simp only [List.length_cons, hbody]; omega] at this
  have hc5n : 5 + n ≤ c := by omega
  have hc5ni : (5 : Int) + (n : Int) ≤ (c : Int) := by omega
  have hwr : IntKind.i64.wrap (5 + (n : Int)) = 5 + (n : Int) := IntWalk.i64_in _ (by omega)
  have hmx : max (5 + (n : Int)) 0 = 5 + (n : Int) := by omega
  have htn : (5 + (n : Int)).toNat = 5 + n := by omega
  have h05 : (0 : Int) ≤ 5 + (n : Int) := by omega
  have hcne : ¬ (c = 5) := by omega
  have h5m : 5 + n - 5 = n := by omega
  have h55n : (5 : Int) ≤ (5 : Int) + (n : Int) := by omega
  rw [hbody] at HFr
  clear hF
  have HFF : Hid (readF (x0 :: x1 :: x2 :: x3 :: n :: r) = if sealedB (r.take n) [x0, x1, x2, x3] = false then (zeroE, 0, 110)
    else match rdB (r.take n) with | .ok e => (e, 5 + (n : Int), 0) | .error x => (zeroE, 0, x)) := by
    show _ = _
    have hl := HL.out
    rw [readF, if_neg (by simp), if_neg (by show ¬ (n = 0 ∨ 35 < n); omega), if_neg (by simp only [List.length_cons]; show ¬ (_ < 5 + n); omega)]
    rfl
  clear hS1 hS2 h0 h35 h5 hW hbW hbody
  go_enter Try.func24, Try.ntmps24
  go_wp2_with fail
  rw [HW.out]
  refine wp_region_noPanic ?_
  refine wp_region_held_drew (S := fun w' => Below W.heap.size W w') (by kernel_rfl) (below_drew (Below.refl _ _)) (fun hHeld => ?_)
  refine takeH (i := 0) (v := ?_) rfl (by kernel_rfl) (by kernel_rfl) (by kernel_rfl) (fun _ _ _ h => h) (Or.inl ⟨by rfl, ?_⟩) (by assumption) ?_
  rotate_left
  · first | (intro w hSw; (try dsimp only at hSw); go_simp; done) | (intro w hSw; (try dsimp only at hSw); go_simp; with_reducible rfl)
  try simp only [Act.put, List.setIfInBounds_toArray, List.set_cons_zero, List.set_cons_succ]
  refine takeH (i := 1) (v := ?_) rfl (by kernel_rfl) (by kernel_rfl) (by kernel_rfl) (fun _ _ _ h => h) (Or.inl ⟨by rfl, ?_⟩) (by assumption) ?_
  rotate_left
  · first | (intro w hSw; (try dsimp only at hSw); go_simp; done) | (intro w hSw; (try dsimp only at hSw); go_simp; with_reducible rfl)
  try simp only [Act.put, List.setIfInBounds_toArray, List.set_cons_zero, List.set_cons_succ]
  refine takeH (i := 2) (v := ?_) rfl (by kernel_rfl) (by kernel_rfl) (by kernel_rfl) (fun _ _ _ h => h) (Or.inl ⟨by rfl, ?_⟩) (by assumption) ?_
  rotate_left
  · first | (intro w hSw; (try dsimp only at hSw); go_simp; done) | (intro w hSw; (try dsimp only at hSw); go_simp; with_reducible rfl)
  try simp only [Act.put, List.setIfInBounds_toArray, List.set_cons_zero, List.set_cons_succ]
  refine takeH (i := 3) (v := ?_) rfl (by kernel_rfl) (by kernel_rfl) (by kernel_rfl) (fun _ _ _ h => h) (Or.inl ⟨by rfl, ?_⟩) (by assumption) ?_
  rotate_left
  · first | (intro w hSw; (try dsimp only at hSw); go_simp; done) | (intro w hSw; (try dsimp only at hSw); go_simp; with_reducible rfl)
  try simp only [Act.put, List.setIfInBounds_toArray, List.set_cons_zero, List.set_cons_succ]
  refine takeH (i := 6) (v := ?_) rfl (by kernel_rfl) (by kernel_rfl) (by kernel_rfl) (fun _ _ _ h => h) (Or.inl ⟨by rfl, ?_⟩) (by assumption) ?_
  rotate_left
  · first | (intro w hSw; (try dsimp only at hSw); go_simp; done) | (intro w hSw; (try dsimp only at hSw); go_simp; with_reducible rfl)
  try simp only [Act.put, List.setIfInBounds_toArray, List.set_cons_zero, List.set_cons_succ]
  refine takeH (i := 7) (v := ?_) rfl (by kernel_rfl) (by kernel_rfl) (by kernel_rfl) (fun _ _ _ h => h) (Or.inl ⟨by rfl, ?_⟩) (by assumption) ?_
  rotate_left
  · first | (intro w hSw; (try dsimp only at hSw); go_simp; done) | (intro w hSw; (try dsimp only at hSw); go_simp; with_reducible rfl)
  try simp only [Act.put, List.setIfInBounds_toArray, List.set_cons_zero, List.set_cons_succ]
  refine takeH (i := 8) (v := ?_) rfl (by kernel_rfl) (by kernel_rfl) (by kernel_rfl) (fun _ _ _ h => h) (Or.inl ⟨by rfl, ?_⟩) (by assumption) ?_
  rotate_left
  · first | (intro w hSw; (try dsimp only at hSw); go_simp; done) | (intro w hSw; (try dsimp only at hSw); go_simp; with_reducible rfl)
  try simp only [Act.put, List.setIfInBounds_toArray, List.set_cons_zero, List.set_cons_succ]
  refine takeH (i := 9) (v := ?_) rfl (by kernel_rfl) (by kernel_rfl) (by kernel_rfl) (fun _ _ _ h => h) (Or.inl ⟨by rfl, ?_⟩) (by assumption) ?_
  rotate_left
  · first | (intro w hSw; (try dsimp only at hSw); go_simp; done) | (intro w hSw; (try dsimp only at hSw); go_simp; with_reducible rfl)
  try simp only [Act.put, List.setIfInBounds_toArray, List.set_cons_zero, List.set_cons_succ]
  refine takeH (i := 10) (v := ?_) rfl (by kernel_rfl) (by kernel_rfl) (by kernel_rfl) (fun _ _ _ h => h) (Or.inl ⟨by rfl, ?_⟩) (by assumption) ?_
  rotate_left
  · first | (intro w hSw; (try dsimp only at hSw); go_simp; done) | (intro w hSw; (try dsimp only at hSw); go_simp; with_reducible rfl)
  try simp only [Act.put, List.setIfInBounds_toArray, List.set_cons_zero, List.set_cons_succ]
  obtain ⟨WD, hWD⟩ : ∃ WD, W.drew = WD := ⟨_, rfl⟩
  rw [hWD] at hHeld ⊢
  clear hWD
  refine wpAnyH_ready (rs := [4]) (by kernel_rfl) (by simp) ?_
  refine consH (i := 4) rfl (fun K hK => ?_) AllReadyH.nil
  go_simp
  have hbl := HYB.out.grow hHeld
  have hbq : (r.take n).length = n := by rw [List.length_take]; have := HL.out; omega
  have hfq := refFramed_any (some ⟨bb, off + 5, none⟩) (r.take n) (c - 5) WD hbl (by omega)
  rw [hbq] at hfq
  refine hfq.mono ?_
  rintro x w4 ⟨v4, rfl, ho4, hb4⟩
  have hH4 : Below W.heap.size W w4 := hHeld.trans (hb4.mono hHeld.size)
  obtain ⟨N4, hN4⟩ : ∃ N, (Crc.le4 (Crc.sum (r.take n)) ++ [n] ++ r.take n).length = N := ⟨_, rfl⟩
  obtain ⟨A4, c4, rfl, _, hy4⟩ := ho4.formN hN4
  have hcv4 := conv_any w4 _ A4 _ c4 hy4
  have hs1 := HS1.out
  rw [hbq] at hs1
  rw [hN4, hs1] at hcv4
  clear hbl hfq ho4 hb4 hN4 hbq hs1 hy4
  refine hK.out _ _ hH4 (fun hHeld4 => ?_)
  clear hK K
  try simp only [Act.put, List.setIfInBounds_toArray, List.set_cons_zero, List.set_cons_succ]
  refine wpAnyH_ready (rs := [5]) (by kernel_rfl) (by simp) ?_
  refine consH (i := 5) rfl (fun K hK => ?_) AllReadyH.nil
  go_simp
  refine hK.out _ _ hH4 (fun hHeld5 => ?_)
  clear hK K
  try simp only [Act.put, List.setIfInBounds_toArray, List.set_cons_zero, List.set_cons_succ]
  refine takeH (i := 11) (v := ?_) rfl (by kernel_rfl) (by kernel_rfl) (by kernel_rfl) (fun _ _ _ h => h) (Or.inl ⟨by rfl, ?_⟩) (by assumption) ?_
  rotate_left
  · first | (intro w hSw; (try dsimp only at hSw); go_simp; done) | (intro w hSw; (try dsimp only at hSw); go_simp; with_reducible rfl)
  try simp only [Act.put, List.setIfInBounds_toArray, List.set_cons_zero, List.set_cons_succ]
  refine wpAnyH_done (by kernel_rfl) ?_ _
  refine NoPanic.normal ?_
  have HB4 := Lib.hid hHeld4
  clear hHeld hHeld4 hHeld5 hcv4 hcv2 hH4
  rw [HDE.out]
  obtain ⟨sl, hsl⟩ : ∃ sl, sealedB (r.take n) [x0, x1, x2, x3] = sl := ⟨_, rfl⟩
  rw [hsl] at HFF ⊢
  cases sl with
  | false =>
    have HK4 := Lib.hid (HKW.out.below HB4.out HKW.out.lt)
    go_wp2_with (first | (refine wpList_store_row rfl 24 _ _ rfl (w.heap.size) (entC zeroE) rfl rfl 24 (entC zeroE) HK4.out ent_size rfl (by kernel_rfl) ?_))
    try simp only [Exit.inBlock, Exit.then]
    refine bodyPost_ret_by (ret_cell_tmp2 rfl _ _ w.heap.size zeroE (setRow_same HK4.out) rfl) rfl ?_
    exact ⟨by rw [HFF.out]; rfl, below_setRow (HBW.out.trans (HB4.out.mono HBW.out.size)) (Nat.le_refl _) _⟩
  | true =>
    have HQ := Lib.hid (HEn.out (c - 5) w4 HB4.out (by omega))
    clear HEn
    go_wp2_with fail
    refine HQ.out.mono ?_
    rintro x w6 ⟨⟨e6, ok6, rfl, hok⟩, hb6⟩
    have HB6 : Hid (Below W.heap.size W w6) := HB4.out.trans (hb6.mono HB4.out.size)
    have HK6 := Lib.hid (HKW.out.below HB6.out HKW.out.lt)
    have HOK := Lib.hid hok
    have hlt6 : w.heap.size < w6.heap.size := HK6.out.lt
    clear hok hb6 HQ
    cases ok6 with
    | false =>
      have HKx : Hid (Blk (w6.alloc (.cells (entC e6) 24)) w.heap.size 24 (entC zeroE)) := HK6.out.alloc _
      unfold entV
      go_wp2_with (first | (refine wpList_store_row rfl 24 _ _ rfl (w.heap.size) (entC zeroE) rfl rfl 24 (entC zeroE) HKx.out ent_size rfl (by kernel_rfl) ?_))
      try simp only [Exit.inBlock, Exit.then]
      refine bodyPost_ret_by (ret_cell_tmp2 rfl _ _ w.heap.size zeroE (setRow_same HKx.out) rfl) rfl ?_
      have hbx : Below w.heap.size w w6 := HBW.out.trans (HB6.out.mono HBW.out.size)
      refine ⟨?_, below_setRow (hbx.alloc hbx.size _) (Nat.le_refl _) _⟩
      rw [HFF.out]
      have h := HOK.out
      cases hr : rdB (r.take n) with
      | ok e => rw [hr] at h; exact absurd h.1 (by simp)
      | error x => rw [rdB_err _ _ hr]; rfl
    | true =>
      have HKx : Hid (Blk (w6.alloc (.cells (entC e6) 24)) w.heap.size 24 (entC zeroE)) := HK6.out.alloc _
      have HKy : Hid (Blk (w6.alloc (.cells (entC e6) 24)) w6.heap.size 24 (entC e6)) := Blk.new _ _ _
      unfold entV
      go_wp2_with (first | (refine wpList_load_row rfl 24 _ rfl (w6.heap.size) rfl 24 (entC e6) (0, 0) _ HKy.out Try.underlying24 rfl ent_size ?_) | (refine wpList_store_row rfl 24 _ _ rfl (w.heap.size) (entC e6) rfl rfl 24 (entC zeroE) HKx.out ent_size rfl (by kernel_rfl) ?_))
      try simp only [Exit.inBlock, Exit.then]
      refine bodyPost_ret_by (ret_cell_tmp2 rfl _ _ w.heap.size e6 (setRow_same HKx.out) rfl) rfl ?_
      have hbx : Below w.heap.size w w6 := HBW.out.trans (HB6.out.mono HBW.out.size)
      refine ⟨?_, below_setRow (hbx.alloc hbx.size _) (Nat.le_refl _) _⟩
      rw [HFF.out]
      have h := HOK.out
      cases hr : rdB (r.take n) with
      | ok e => rw [hr] at h; rw [h.2]; rfl
      | error x => rw [hr] at h; exact absurd h (by simp)

/-- ref.Read -/
theorem refRead_any (A : Option Addr) (b : List Nat) (c : Nat) (w : World) (hb : Bys w w.heap.size A b) (hc : b.length ≤ c) (hm : b.length ≤ 1099511627000) :
    Calls Try.prog 24 #[.slice A b.length c] w (ReadR w (readF b)) := by
  by_cases h : b.length < 5
  · exact refRead_short A b c w h
  rcases b with _ | ⟨x0, _ | ⟨x1, _ | ⟨x2, _ | ⟨x3, _ | ⟨n, r⟩⟩⟩⟩⟩
  iterate 5 (exact absurd (by simp) h)
  obtain ⟨bb, off, rfl, _, _⟩ := hb.2 (by simp)
  exact refRead_long bb off x0 x1 x2 x3 n _ r c w rfl hb hc hm
end Go.Proofs.Ytdoidfnfhidgdaa
