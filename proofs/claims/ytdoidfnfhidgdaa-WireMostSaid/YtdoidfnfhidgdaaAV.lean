import Derived.Test.YtdoidfnfhidgdaaAS
import Derived.Test.YtdoidfnfhidgdaaAH
namespace Go.Proofs.Ytdoidfnfhidgdaa
open Go.RowKit

/-- the longest entries -/
def mostL : List Ent := [⟨2147483647, 3, 2147483647, 2147483647, 1, -2147483648⟩, ⟨2147483647, -1, 0, 0, 1, 2147483647⟩, ⟨2147483647, 3, 2147483647, 0, 3, 0⟩]
theorem mostL_right : ∀ e ∈ mostL, Right e := by decide
theorem mostL_ents (w : World) : Ents (w.alloc (.cells (mostL.flatMap Ent.cells).toArray 24)) (w.alloc (.cells (mostL.flatMap Ent.cells).toArray 24)).heap.size (some ⟨w.heap.size, 0, none⟩) mostL := by
  have hB := Blk.new w 24 (mostL.flatMap Ent.cells).toArray
  intro _
  refine ⟨w.heap.size, 0, rfl, by simp, fun k e he => ?_⟩
  have hc : ∀ j, j < 6 → (w.alloc (.cells (mostL.flatMap Ent.cells).toArray 24)).cell? ⟨w.heap.size, 0 + k * 6 + j, none⟩ = e.cells[j]? := by
    intro j hj
    rw [hB.cell, List.getElem?_toArray, Nat.zero_add]
    exact cells_at mostL k j e he hj
  exact ⟨hc 0 (by omega), hc 1 (by omega), hc 2 (by omega), hc 3 (by omega), hc 4 (by omega), hc 5 (by omega)⟩

set_option maxRecDepth 100000 in
set_option maxHeartbeats 4000000 in
theorem most_walk (w : World) : Calls Try.prog 8 #[] w fun x w' => x = .returned (.bool true) ∧ Below w.heap.size w w' := by
  obtain ⟨W1, hW1⟩ : ∃ W1, w.alloc (.cells (mostL.flatMap Ent.cells).toArray 24) = W1 := ⟨_, rfl⟩
  have hen := mostL_ents w
  rw [hW1] at hen
  have HEN := Lib.hid hen
  have HB1 : Hid (Below w.heap.size w W1) := by show Below _ _ _; rw [← hW1]; exact (Below.refl _ w).alloc (Nat.le_refl _) _
  have HW1 : Hid (w.alloc (.cells #[.int .i64 2147483647, .int .i64 3, .int .i64 2147483647, .int .i64 2147483647, .int .i64 1, .int .i64 (-2147483648), .int .i64 2147483647, .int .i64 (-1), .int .i64 0, .int .i64 0, .int .i64 1, .int .i64 2147483647, .int .i64 2147483647, .int .i64 3, .int .i64 2147483647, .int .i64 0, .int .i64 3, .int .i64 0] 24) = W1) := hW1
  obtain ⟨A, hA⟩ : ∃ A, (some ⟨w.heap.size, 0, none⟩ : Option Addr) = A := ⟨_, rfl⟩
  rw [hA] at HEN
  have HA := Lib.hid hA
  clear hen hW1 hA
  go_enter Try.func8, Try.ntmps8
  go_wp2_with fail
  rw [HW1.out, HA.out]
  go_loopw [2] (fun i wr => ∃ k : Nat, k ≤ 3 ∧ i = .int .i64 k ∧ Below W1.heap.size W1 wr) (fun i _ => 3 - (intOf i).toNat)
  case atStart => exact ⟨0, by omega, rfl, Below.refl _ _⟩
  case round =>
    obtain ⟨k, hk, rfl, hbl⟩ := hrel
    have HBX : Hid (Below w.heap.size w wr) := HB1.out.trans (hbl.mono HB1.out.size)
    by_cases hlt : k < 3
    · have hlt2 : k < mostL.length := hlt
      obtain ⟨b, off, rfl, hbB, he⟩ := HEN.out.at_ hlt2
      obtain ⟨e, hee⟩ : ∃ e, mostL[k] = e := ⟨_, rfl⟩
      have hR : Right e := by rw [← hee]; exact mostL_right _ (List.getElem_mem hlt2)
      rw [hee] at he
      have hs := fun (f : Nat) (w' : World) (h : Below wr.heap.size wr w') => (hbl.trans (h.mono hbl.size)).cell (p := ⟨b, off + k * 6 + f, none⟩) hbB
      have hs0 : ∀ w', Below wr.heap.size wr w' → w'.cell? ⟨b, off + k * 6, none⟩ = some (.int .i64 e.epoch) := fun w' h => (hs 0 w' h).trans he.c0
      have hs1 : ∀ w', Below wr.heap.size wr w' → w'.cell? ⟨b, off + k * 6 + 1, none⟩ = some (.int .i64 e.id) := fun w' h => (hs 1 w' h).trans he.c1
      have hs2 : ∀ w', Below wr.heap.size wr w' → w'.cell? ⟨b, off + k * 6 + 2, none⟩ = some (.int .i64 e.num) := fun w' h => (hs 2 w' h).trans he.c2
      have hs3 : ∀ w', Below wr.heap.size wr w' → w'.cell? ⟨b, off + k * 6 + 3, none⟩ = some (.int .i64 e.seq) := fun w' h => (hs 3 w' h).trans he.c3
      have hs4 : ∀ w', Below wr.heap.size wr w' → w'.cell? ⟨b, off + k * 6 + 4, none⟩ = some (.int .i64 e.kind) := fun w' h => (hs 4 w' h).trans he.c4
      have hs5 : ∀ w', Below wr.heap.size wr w' → w'.cell? ⟨b, off + k * 6 + 5, none⟩ = some (.int .i64 e.value) := fun w' h => (hs 5 w' h).trans he.c5
      have HQ : Hid (∀ W, _) := fun W => Frame_any e W
      have HRF : Hid (∀ W, _) := fun W => refFrame_any e hR W
      have HRD := readF_frame e hR []
      rw [List.append_nil] at HRD
      have hfl := frameE_len2 e hR
      have HE : Hid (entV e = .agg #[.int .i64 e.epoch, .int .i64 e.id, .int .i64 e.num, .int .i64 e.seq, .int .i64 e.kind, .int .i64 e.value]) := rfl
      obtain ⟨F, hF⟩ : ∃ F, (frameE e).length = F := ⟨_, rfl⟩
      have HF := Lib.hid hF
      rw [hF] at HRD hfl
      have HRDH := Lib.hid HRD
      have HRR := Lib.hid hR
      have HHE := Lib.hid he
      have hrf := Below.refl wr.heap.size wr
      have t0 := hs0 _ hrf
      have t1 := hs1 _ hrf
      have t2 := hs2 _ hrf
      have t3 := hs3 _ hrf
      have t4 := hs4 _ hrf
      have t5 := hs5 _ hrf
      have HBL := Lib.hid hbl
      simp only [HE.out] at HQ HRF
      clear hR hee hF he HRD hbl hrf hs
      go_wp2_with fail
      refine (HQ.out wr).mono ?_
      rintro x w3 ⟨hx, hb3⟩
      obtain ⟨v, hx2, ho⟩ : ∃ v, x = Ending.returned (Value.tuple #[v, Value.int IntKind.i64 0]) ∧ Own w3 wr.heap.size v (frameE e) := by
        rcases hx with ⟨_, h⟩ | ⟨hn, _⟩
        · exact h
        · exact absurd HRR.out hn
      subst hx2
      obtain ⟨A3, c3, rfl, hc3, hy3⟩ := ho.formN HF.out
      have hcv3 := fun w' (h : Below w3.heap.size w3 w') => conv_any w' _ A3 (frameE e) c3 (hy3.grow h)
      rw [HF.out] at hcv3
      have hrr := Read_any A3 (frameE e) c3 w3 hy3 (by rw [HF.out]; exact hc3) (by rw [HF.out]; omega)
      rw [HF.out, HRDH.out] at hrr
      have HRX := Lib.hid hrr
      have HB3 := Lib.hid hb3
      clear hx ho hy3 hrr hb3 t0 t1 t2 t3 t4 t5
      go_wp2_with fail
      refine HRX.out.mono ?_
      rintro x w5 ⟨hx5, hb5⟩
      simp only [HE.out] at hx5
      subst hx5
      have hb35 : Below wr.heap.size wr w5 := HB3.out.trans (hb5.mono HB3.out.size)
      obtain ⟨W6, hW6⟩ : ∃ W6, w5.alloc (.cells (entC e) 24) = W6 := ⟨_, rfl⟩
      have hb6 : Below wr.heap.size wr W6 := by rw [← hW6]; exact hb35.alloc hb35.size _
      have hb36 : Below w3.heap.size w3 W6 := by rw [← hW6]; exact hb5.alloc hb5.size _
      have hbx : Blk W6 w5.heap.size 24 (entC e) := by rw [← hW6]; exact Blk.new _ _ _
      have HW6 : Hid (w5.alloc (.cells #[.int .i64 e.epoch, .int .i64 e.id, .int .i64 e.num, .int .i64 e.seq, .int .i64 e.kind, .int .i64 e.value] 24) = W6) := hW6
      have hq0 : ∀ w', Below W6.heap.size W6 w' → w'.cell? ⟨w5.heap.size, 0, none⟩ = some (.int .i64 e.epoch) := fun w' h => (hbx.below h hbx.lt).cell 0
      have hq1 : ∀ w', Below W6.heap.size W6 w' → w'.cell? ⟨w5.heap.size, 1, none⟩ = some (.int .i64 e.id) := fun w' h => (hbx.below h hbx.lt).cell 1
      have hq2 : ∀ w', Below W6.heap.size W6 w' → w'.cell? ⟨w5.heap.size, 2, none⟩ = some (.int .i64 e.num) := fun w' h => (hbx.below h hbx.lt).cell 2
      have hq3 : ∀ w', Below W6.heap.size W6 w' → w'.cell? ⟨w5.heap.size, 3, none⟩ = some (.int .i64 e.seq) := fun w' h => (hbx.below h hbx.lt).cell 3
      have hq4 : ∀ w', Below W6.heap.size W6 w' → w'.cell? ⟨w5.heap.size, 4, none⟩ = some (.int .i64 e.kind) := fun w' h => (hbx.below h hbx.lt).cell 4
      have hq5 : ∀ w', Below W6.heap.size W6 w' → w'.cell? ⟨w5.heap.size, 5, none⟩ = some (.int .i64 e.value) := fun w' h => (hbx.below h hbx.lt).cell 5
      have hp0 : ∀ w', Below W6.heap.size W6 w' → w'.cell? ⟨b, off + k * 6, none⟩ = some (.int .i64 e.epoch) := fun w' h => hs0 w' (hb6.trans (h.mono hb6.size))
      have hp1 : ∀ w', Below W6.heap.size W6 w' → w'.cell? ⟨b, off + k * 6 + 1, none⟩ = some (.int .i64 e.id) := fun w' h => hs1 w' (hb6.trans (h.mono hb6.size))
      have hp2 : ∀ w', Below W6.heap.size W6 w' → w'.cell? ⟨b, off + k * 6 + 2, none⟩ = some (.int .i64 e.num) := fun w' h => hs2 w' (hb6.trans (h.mono hb6.size))
      have hp3 : ∀ w', Below W6.heap.size W6 w' → w'.cell? ⟨b, off + k * 6 + 3, none⟩ = some (.int .i64 e.seq) := fun w' h => hs3 w' (hb6.trans (h.mono hb6.size))
      have hp4 : ∀ w', Below W6.heap.size W6 w' → w'.cell? ⟨b, off + k * 6 + 4, none⟩ = some (.int .i64 e.kind) := fun w' h => hs4 w' (hb6.trans (h.mono hb6.size))
      have hp5 : ∀ w', Below W6.heap.size W6 w' → w'.cell? ⟨b, off + k * 6 + 5, none⟩ = some (.int .i64 e.value) := fun w' h => hs5 w' (hb6.trans (h.mono hb6.size))
      have hcv6 : ∀ w', Below W6.heap.size W6 w' → (convert 25 9 (.slice A3 F c3)).run Try.prog w' = .ok (.string (str (frameE e))) w' := fun w' h => hcv3 w' (hb36.trans (h.mono hb36.size))
      have HB6 := Lib.hid hb6
      have hfli : (F : Int) ≤ 40 := by omega
      have hd1 : decide ((40 : Int) < (F : Int)) = false := decide_eq_false (by omega)
      have hd2 : ¬ ((40 : Int) < (F : Int)) := by omega
      clear hcv3 hs0 hs1 hs2 hs3 hs4 hs5 hb35 hb6 hb36 hbx hb5 hW6 HRX
      go_wp2_with fail
      rw [HW6.out]
      refine wp_region_noPanic ?_
      refine wp_region_held_drew (S := fun w' => Below W6.heap.size W6 w') (by kernel_rfl) (below_drew (Below.refl _ _)) (fun hHeld => ?_)
      refine takeH (i := 0) (v := ?_) rfl (by kernel_rfl) (by kernel_rfl) (by kernel_rfl) (fun _ _ _ h => h) (Or.inl ⟨by rfl, ?_⟩) (by assumption) ?_
      rotate_left
      · first | (intro w hSw; (try dsimp only at hSw); go_simp; done) | (intro w hSw; (try dsimp only at hSw); go_simp; with_reducible rfl)
      try simp only [Act.put, List.setIfInBounds_toArray, List.set_cons_zero, List.set_cons_succ]
      refine takeH (i := 2) (v := ?_) rfl (by kernel_rfl) (by kernel_rfl) (by kernel_rfl) (fun _ _ _ h => h) (Or.inl ⟨by rfl, ?_⟩) (by assumption) ?_
      rotate_left
      · first | (intro w hSw; (try dsimp only at hSw); go_simp; done) | (intro w hSw; (try dsimp only at hSw); go_simp; with_reducible rfl)
      try simp only [Act.put, List.setIfInBounds_toArray, List.set_cons_zero, List.set_cons_succ]
      refine wpAnyH_ready (rs := [1]) (by kernel_rfl) (by simp) ?_
      refine consH (i := 1) rfl (fun K hK => ?_) AllReadyH.nil
      go_simp
      refine (num_any _ _).mono ?_
      rintro x wn ⟨rfl, hwn⟩
      subst hwn
      refine hK.out _ _ (by assumption) (fun hHeld1 => ?_)
      clear hK K
      try simp only [Act.put, List.setIfInBounds_toArray, List.set_cons_zero, List.set_cons_succ]
      refine wpAnyH_ready (rs := [3]) (by kernel_rfl) (by simp) ?_
      refine consH (i := 3) rfl (fun K hK => ?_) AllReadyH.nil
      go_simp
      refine (num_any _ _).mono ?_
      rintro x wn ⟨rfl, hwn⟩
      subst hwn
      refine hK.out _ _ (by assumption) (fun hHeld2 => ?_)
      clear hK K
      try simp only [Act.put, List.setIfInBounds_toArray, List.set_cons_zero, List.set_cons_succ]
      refine takeH (i := 4) (v := ?_) rfl (by kernel_rfl) (by kernel_rfl) (by kernel_rfl) (fun _ _ _ h => h) (Or.inl ⟨by rfl, ?_⟩) (by assumption) ?_
      rotate_left
      · first | (intro w hSw; (try dsimp only at hSw); go_simp; done) | (intro w hSw; (try dsimp only at hSw); go_simp; with_reducible rfl)
      try simp only [Act.put, List.setIfInBounds_toArray, List.set_cons_zero, List.set_cons_succ]
      refine takeH (i := 5) (v := ?_) rfl (by kernel_rfl) (by kernel_rfl) (by kernel_rfl) (fun _ _ _ h => h) (Or.inl ⟨by rfl, ?_⟩) (by assumption) ?_
      rotate_left
      · first | (intro w hSw; (try dsimp only at hSw); go_simp; done) | (intro w hSw; (try dsimp only at hSw); go_simp; with_reducible rfl)
      try simp only [Act.put, List.setIfInBounds_toArray, List.set_cons_zero, List.set_cons_succ]
      refine takeH (i := 6) (v := ?_) rfl (by kernel_rfl) (by kernel_rfl) (by kernel_rfl) (fun _ _ _ h => h) (Or.inl ⟨by rfl, ?_⟩) (by assumption) ?_
      rotate_left
      · first | (intro w hSw; (try dsimp only at hSw); go_simp; done) | (intro w hSw; (try dsimp only at hSw); go_simp; with_reducible rfl)
      try simp only [Act.put, List.setIfInBounds_toArray, List.set_cons_zero, List.set_cons_succ]
      refine takeH (i := 7) (v := ?_) rfl (by kernel_rfl) (by kernel_rfl) (by kernel_rfl) (fun _ _ _ h => h) (Or.inl ⟨by rfl, ?_⟩) (by assumption) ?_
      rotate_left
      · first | (intro w hSw; (try dsimp only at hSw); go_simp; done) | (intro w hSw; (try dsimp only at hSw); go_simp; with_reducible rfl)
      try simp only [Act.put, List.setIfInBounds_toArray, List.set_cons_zero, List.set_cons_succ]
      refine takeH (i := 8) (v := ?_) rfl (by kernel_rfl) (by kernel_rfl) (by kernel_rfl) (fun _ _ _ h => h) (Or.inl ⟨by rfl, ?_⟩) (by assumption) ?_
      rotate_left
      · first | (intro w hSw; (try dsimp only at hSw); go_simp; done) | (intro w hSw; (try dsimp only at hSw); go_simp; with_reducible rfl)
      try simp only [Act.put, List.setIfInBounds_toArray, List.set_cons_zero, List.set_cons_succ]
      refine takeH (i := 9) (v := ?_) rfl (by kernel_rfl) (by kernel_rfl) (by kernel_rfl) (fun _ _ _ h => h) (Or.inl ⟨by rfl, ?_⟩) (by assumption) ?_
      rotate_left
      · first | (intro w hSw; (try dsimp only at hSw); go_simp; done) | (intro w hSw; (try dsimp only at hSw); go_simp; with_reducible rfl)
      try simp only [Act.put, List.setIfInBounds_toArray, List.set_cons_zero, List.set_cons_succ]
      refine takeH (i := 10) (v := ?_) rfl (by kernel_rfl) (by kernel_rfl) (by kernel_rfl) (fun _ _ _ h => h) (Or.inl ⟨by rfl, ?_⟩) (by assumption) ?_
      rotate_left
      · first | (intro w hSw; (try dsimp only at hSw); go_simp; done) | (intro w hSw; (try dsimp only at hSw); go_simp; with_reducible rfl)
      try simp only [Act.put, List.setIfInBounds_toArray, List.set_cons_zero, List.set_cons_succ]
      refine takeH (i := 11) (v := ?_) rfl (by kernel_rfl) (by kernel_rfl) (by kernel_rfl) (fun _ _ _ h => h) (Or.inl ⟨by rfl, ?_⟩) (by assumption) ?_
      rotate_left
      · first | (intro w hSw; (try dsimp only at hSw); go_simp; done) | (intro w hSw; (try dsimp only at hSw); go_simp; with_reducible rfl)
      try simp only [Act.put, List.setIfInBounds_toArray, List.set_cons_zero, List.set_cons_succ]
      refine takeH (i := 12) (v := ?_) rfl (by kernel_rfl) (by kernel_rfl) (by kernel_rfl) (fun _ _ _ h => h) (Or.inl ⟨by rfl, ?_⟩) (by assumption) ?_
      rotate_left
      · first | (intro w hSw; (try dsimp only at hSw); go_simp; done) | (intro w hSw; (try dsimp only at hSw); go_simp; with_reducible rfl)
      try simp only [Act.put, List.setIfInBounds_toArray, List.set_cons_zero, List.set_cons_succ]
      refine takeH (i := 13) (v := ?_) rfl (by kernel_rfl) (by kernel_rfl) (by kernel_rfl) (fun _ _ _ h => h) (Or.inl ⟨by rfl, ?_⟩) (by assumption) ?_
      rotate_left
      · first | (intro w hSw; (try dsimp only at hSw); go_simp; done) | (intro w hSw; (try dsimp only at hSw); go_simp; with_reducible rfl)
      try simp only [Act.put, List.setIfInBounds_toArray, List.set_cons_zero, List.set_cons_succ]
      refine takeH (i := 14) (v := ?_) rfl (by kernel_rfl) (by kernel_rfl) (by kernel_rfl) (fun _ _ _ h => h) (Or.inl ⟨by rfl, ?_⟩) (by assumption) ?_
      rotate_left
      · first | (intro w hSw; (try dsimp only at hSw); go_simp; done) | (intro w hSw; (try dsimp only at hSw); go_simp; with_reducible rfl)
      try simp only [Act.put, List.setIfInBounds_toArray, List.set_cons_zero, List.set_cons_succ]
      refine takeH (i := 15) (v := ?_) rfl (by kernel_rfl) (by kernel_rfl) (by kernel_rfl) (fun _ _ _ h => h) (Or.inl ⟨by rfl, ?_⟩) (by assumption) ?_
      rotate_left
      · first | (intro w hSw; (try dsimp only at hSw); go_simp; done) | (intro w hSw; (try dsimp only at hSw); go_simp; with_reducible rfl)
      try simp only [Act.put, List.setIfInBounds_toArray, List.set_cons_zero, List.set_cons_succ]
      refine takeH (i := 16) (v := ?_) rfl (by kernel_rfl) (by kernel_rfl) (by kernel_rfl) (fun _ _ _ h => h) (Or.inl ⟨by rfl, ?_⟩) (by assumption) ?_
      rotate_left
      · first | (intro w hSw; (try dsimp only at hSw); go_simp; done) | (intro w hSw; (try dsimp only at hSw); go_simp; with_reducible rfl)
      try simp only [Act.put, List.setIfInBounds_toArray, List.set_cons_zero, List.set_cons_succ]
      refine takeH (i := 17) (v := ?_) rfl (by kernel_rfl) (by kernel_rfl) (by kernel_rfl) (fun _ _ _ h => h) (Or.inl ⟨by rfl, ?_⟩) (by assumption) ?_
      rotate_left
      · first | (intro w hSw; (try dsimp only at hSw); go_simp; done) | (intro w hSw; (try dsimp only at hSw); go_simp; with_reducible rfl)
      try simp only [Act.put, List.setIfInBounds_toArray, List.set_cons_zero, List.set_cons_succ]
      refine takeH (i := 18) (v := ?_) rfl (by kernel_rfl) (by kernel_rfl) (by kernel_rfl) (fun _ _ _ h => h) (Or.inl ⟨by rfl, ?_⟩) (by assumption) ?_
      rotate_left
      · first | (intro w hSw; (try dsimp only at hSw); go_simp; done) | (intro w hSw; (try dsimp only at hSw); go_simp; with_reducible rfl)
      try simp only [Act.put, List.setIfInBounds_toArray, List.set_cons_zero, List.set_cons_succ]
      refine takeH (i := 19) (v := ?_) rfl (by kernel_rfl) (by kernel_rfl) (by kernel_rfl) (fun _ _ _ h => h) (Or.inl ⟨by rfl, ?_⟩) (by assumption) ?_
      rotate_left
      · first | (intro w hSw; (try dsimp only at hSw); go_simp; done) | (intro w hSw; (try dsimp only at hSw); go_simp; with_reducible rfl)
      try simp only [Act.put, List.setIfInBounds_toArray, List.set_cons_zero, List.set_cons_succ]
      refine takeH (i := 20) (v := ?_) rfl (by kernel_rfl) (by kernel_rfl) (by kernel_rfl) (fun _ _ _ h => h) (Or.inl ⟨by rfl, ?_⟩) (by assumption) ?_
      rotate_left
      · first | (intro w hSw; (try dsimp only at hSw); go_simp; done) | (intro w hSw; (try dsimp only at hSw); go_simp; with_reducible rfl)
      try simp only [Act.put, List.setIfInBounds_toArray, List.set_cons_zero, List.set_cons_succ]
      refine takeH (i := 21) (v := ?_) rfl (by kernel_rfl) (by kernel_rfl) (by kernel_rfl) (fun _ _ _ h => h) (Or.inl ⟨by rfl, ?_⟩) (by assumption) ?_
      rotate_left
      · first | (intro w hSw; (try dsimp only at hSw); go_simp; done) | (intro w hSw; (try dsimp only at hSw); go_simp; with_reducible rfl)
      try simp only [Act.put, List.setIfInBounds_toArray, List.set_cons_zero, List.set_cons_succ]
      refine takeH (i := 22) (v := ?_) rfl (by kernel_rfl) (by kernel_rfl) (by kernel_rfl) (fun _ _ _ h => h) (Or.inl ⟨by rfl, ?_⟩) (by assumption) ?_
      rotate_left
      · first | (intro w hSw; (try dsimp only at hSw); go_simp; done) | (intro w hSw; (try dsimp only at hSw); go_simp; with_reducible rfl)
      try simp only [Act.put, List.setIfInBounds_toArray, List.set_cons_zero, List.set_cons_succ]
      refine takeH (i := 23) (v := ?_) rfl (by kernel_rfl) (by kernel_rfl) (by kernel_rfl) (fun _ _ _ h => h) (Or.inl ⟨by rfl, ?_⟩) (by assumption) ?_
      rotate_left
      · first | (intro w hSw; (try dsimp only at hSw); go_simp; done) | (intro w hSw; (try dsimp only at hSw); go_simp; with_reducible rfl)
      try simp only [Act.put, List.setIfInBounds_toArray, List.set_cons_zero, List.set_cons_succ]
      refine takeH (i := 24) (v := ?_) rfl (by kernel_rfl) (by kernel_rfl) (by kernel_rfl) (fun _ _ _ h => h) (Or.inl ⟨by rfl, ?_⟩) (by assumption) ?_
      rotate_left
      · first | (intro w hSw; (try dsimp only at hSw); go_simp; done) | (intro w hSw; (try dsimp only at hSw); go_simp; with_reducible rfl)
      try simp only [Act.put, List.setIfInBounds_toArray, List.set_cons_zero, List.set_cons_succ]
      refine takeH (i := 25) (v := ?_) rfl (by kernel_rfl) (by kernel_rfl) (by kernel_rfl) (fun _ _ _ h => h) (Or.inl ⟨by rfl, ?_⟩) (by assumption) ?_
      rotate_left
      · first | (intro w hSw; (try dsimp only at hSw); go_simp; done) | (intro w hSw; (try dsimp only at hSw); go_simp; with_reducible rfl)
      try simp only [Act.put, List.setIfInBounds_toArray, List.set_cons_zero, List.set_cons_succ]
      refine takeH (i := 26) (v := ?_) rfl (by kernel_rfl) (by kernel_rfl) (by kernel_rfl) (fun _ _ _ h => h) (Or.inl ⟨by rfl, ?_⟩) (by assumption) ?_
      rotate_left
      · first | (intro w hSw; (try dsimp only at hSw); go_simp; done) | (intro w hSw; (try dsimp only at hSw); go_simp; with_reducible rfl)
      try simp only [Act.put, List.setIfInBounds_toArray, List.set_cons_zero, List.set_cons_succ]
      refine takeH (i := 27) (v := ?_) rfl (by kernel_rfl) (by kernel_rfl) (by kernel_rfl) (fun _ _ _ h => h) (Or.inl ⟨by rfl, ?_⟩) (by assumption) ?_
      rotate_left
      · first | (intro w hSw; (try dsimp only at hSw); go_simp; done) | (intro w hSw; (try dsimp only at hSw); go_simp; with_reducible rfl)
      try simp only [Act.put, List.setIfInBounds_toArray, List.set_cons_zero, List.set_cons_succ]
      refine takeH (i := 28) (v := ?_) rfl (by kernel_rfl) (by kernel_rfl) (by kernel_rfl) (fun _ _ _ h => h) (Or.inl ⟨by rfl, ?_⟩) (by assumption) ?_
      rotate_left
      · first | (intro w hSw; (try dsimp only at hSw); go_simp; done) | (intro w hSw; (try dsimp only at hSw); go_simp; with_reducible rfl)
      try simp only [Act.put, List.setIfInBounds_toArray, List.set_cons_zero, List.set_cons_succ]
      refine takeH (i := 29) (v := ?_) rfl (by kernel_rfl) (by kernel_rfl) (by kernel_rfl) (fun _ _ _ h => h) (Or.inl ⟨by rfl, ?_⟩) (by assumption) ?_
      rotate_left
      · first | (intro w hSw; (try dsimp only at hSw); go_simp; done) | (intro w hSw; (try dsimp only at hSw); go_simp; with_reducible rfl)
      try simp only [Act.put, List.setIfInBounds_toArray, List.set_cons_zero, List.set_cons_succ]
      refine takeH (i := 30) (v := ?_) rfl (by kernel_rfl) (by kernel_rfl) (by kernel_rfl) (fun _ _ _ h => h) (Or.inl ⟨by rfl, ?_⟩) (by assumption) ?_
      rotate_left
      · first | (intro w hSw; (try dsimp only at hSw); go_simp; done) | (intro w hSw; (try dsimp only at hSw); go_simp; with_reducible rfl)
      try simp only [Act.put, List.setIfInBounds_toArray, List.set_cons_zero, List.set_cons_succ]
      refine takeH (i := 31) (v := ?_) rfl (by kernel_rfl) (by kernel_rfl) (by kernel_rfl) (fun _ _ _ h => h) (Or.inl ⟨by rfl, ?_⟩) (by assumption) ?_
      rotate_left
      · first | (intro w hSw; (try dsimp only at hSw); go_simp; done) | (intro w hSw; (try dsimp only at hSw); go_simp; with_reducible rfl)
      try simp only [Act.put, List.setIfInBounds_toArray, List.set_cons_zero, List.set_cons_succ]
      obtain ⟨WD, hWD⟩ : ∃ WD, W6.drew = WD := ⟨_, rfl⟩
      rw [hWD] at hHeld hHeld1 hHeld2 ⊢
      clear hWD
      refine wpAnyH_ready (rs := [32]) (by kernel_rfl) (by simp) ?_
      refine consH (i := 32) rfl (fun K hK => ?_) AllReadyH.nil
      go_simp
      refine (HRF.out WD).mono ?_
      rintro x w7 ⟨v7, rfl, ho7, hb7⟩
      have hH7 : Below W6.heap.size W6 w7 := hHeld.trans (hb7.mono hHeld.size)
      obtain ⟨A7, c7, rfl, _, hy7⟩ := ho7.formN HF.out
      have hcv7 := conv_any w7 _ A7 (frameE e) c7 hy7
      rw [HF.out] at hcv7
      clear ho7 hb7 hy7
      refine hK.out _ _ hH7 (fun hHeld7 => ?_)
      clear hK K
      try simp only [Act.put, List.setIfInBounds_toArray, List.set_cons_zero, List.set_cons_succ]
      refine wpAnyH_ready (rs := [33]) (by kernel_rfl) (by simp) ?_
      refine consH (i := 33) rfl (fun K hK => ?_) AllReadyH.nil
      go_simp
      skip
      refine hK.out _ _ (hH7) (fun hHeld8 => ?_)
      clear hK K
      try simp only [Act.put, List.setIfInBounds_toArray, List.set_cons_zero, List.set_cons_succ]
      refine takeH (i := 34) (v := ?_) rfl (by kernel_rfl) (by kernel_rfl) (by kernel_rfl) (fun _ _ _ h => h) (Or.inl ⟨by rfl, ?_⟩) (by assumption) ?_
      rotate_left
      · first | (intro w hSw; (try dsimp only at hSw); go_simp; done) | (intro w hSw; (try dsimp only at hSw); go_simp; with_reducible rfl)
      try simp only [Act.put, List.setIfInBounds_toArray, List.set_cons_zero, List.set_cons_succ]
      refine takeH (i := 35) (v := ?_) rfl (by kernel_rfl) (by kernel_rfl) (by kernel_rfl) (fun _ _ _ h => h) (Or.inl ⟨by rfl, ?_⟩) (by assumption) ?_
      rotate_left
      · first | (intro w hSw; (try dsimp only at hSw); go_simp; done) | (intro w hSw; (try dsimp only at hSw); go_simp; with_reducible rfl)
      try simp only [Act.put, List.setIfInBounds_toArray, List.set_cons_zero, List.set_cons_succ]
      refine wpAnyH_done (by kernel_rfl) ?_ _
      refine NoPanic.normal ?_
      have HBE := Lib.hid (HB6.out.trans ((show Below W6.heap.size W6 _ from hHeld7).mono HB6.out.size))
      have HBE1 : Hid (Below W1.heap.size W1 w7) := HBL.out.trans (HBE.out.mono HBL.out.size)
      clear hHeld hHeld1 hHeld2 hHeld7 hHeld8 hcv6 hcv7 hH7 hq0 hq1 hq2 hq3 hq4 hq5 hp0 hp1 hp2 hp3 hp4 hp5
      go_wp2_with fail
      go_roundw
      case rel => exact ⟨k + 1, by omega, by go_num, HBE1.out⟩
      case measure => simp [intOf]; omega
    · obtain rfl : k = 3 := by omega
      go_wp2_with fail
      refine (works_any _).mono ?_
      rintro x w6 ⟨rfl, hb6⟩
      have HB6 : Hid (Below w.heap.size w w6) := HBX.out.trans (hb6.mono HBX.out.size)
      clear hb6
      go_wp2_with fail
      go_ret
      exact ⟨rfl, HB6.out⟩
end Go.Proofs.Ytdoidfnfhidgdaa
