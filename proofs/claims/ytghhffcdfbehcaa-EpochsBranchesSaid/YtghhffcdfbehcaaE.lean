import Derived.Test.YtghhffcdfbehcaaD
namespace Go.Proofs.Ytghhffcdfbehcaa
open Go.RowKit

theorem Ents.grow {w w' : World} {A : Option Addr} {l : List Ent} (h : Ents w w.heap.size A l) (hb : Below w.heap.size w w') : Ents w' w'.heap.size A l :=
  (h.below hb (Nat.le_refl _)).mono hb.size
theorem Ints.grow {w w' : World} {A : Option Addr} {l : List Int} (h : Ints w w.heap.size A l) (hb : Below w.heap.size w w') : Ints w' w'.heap.size A l :=
  (h.below hb (Nat.le_refl _)).mono hb.size

theorem known_may : may (logE [1, 1, 2, 4, 4]) = true := by decide +kernel
theorem known_n : aboveN 3 (logE [1, 1, 2, 4, 4]) = 3 := by decide +kernel
theorem known_e : lastE ((logE [1, 1, 2, 4, 4]).take 3) = 2 := by decide +kernel

set_option maxHeartbeats 400000 in
theorem known_any (w : World) : Calls Try.prog 12 #[] w fun e w' => e = .returned (.bool true) ∧ Below w.heap.size w w' := by
  obtain ⟨W, hW⟩ : ∃ W, w.alloc (.cells #[.int .i64 1, .int .i64 1, .int .i64 2, .int .i64 4, .int .i64 4] 2) = W := ⟨_, rfl⟩
  have hz : Ints W W.heap.size (some ⟨w.heap.size, 0, none⟩) [1, 1, 2, 4, 4] := by
    intro _
    refine ⟨w.heap.size, 0, rfl, by rw [← hW]; simp, fun k x hx => ?_⟩
    rw [← hW, Nat.zero_add, cell_of_row _ _ _ _ _ _ (heap_alloc_new w _)]
    match k, hx with
    | 0, hx => simp at hx; subst hx; rfl
    | 1, hx => simp at hx; subst hx; rfl
    | 2, hx => simp at hx; subst hx; rfl
    | 3, hx => simp at hx; subst hx; rfl
    | 4, hx => simp at hx; subst hx; rfl
  have hb0 : Below w.heap.size w W := by rw [← hW]; exact (Below.refl _ _).alloc (Nat.le_refl _) _
  have HW := Lib.hid hW
  clear hW
  have hlog := log_any (some ⟨w.heap.size, 0, none⟩) [1, 1, 2, 4, 4] 5 W hz (by decide)
  have HL := Lib.hid hlog
  clear hlog
  go_enter Try.func12, Try.ntmps12
  go_wp2_with fail
  rw [HW.out]
  refine HL.out.mono ?_
  rintro e w1 ⟨A, c, rfl, hc, he, hb1⟩
  have hb : Below w.heap.size w w1 := hb0.trans (hb1.mono hb0.size)
  have hend := End_yes A (logE [1, 1, 2, 4, 4]) c 3 w1 he (by decide) (by rw [logE_length]; exact hc) (by decide) known_may
  rw [logE_length, known_n, known_e] at hend
  have HE := Lib.hid hend
  clear hend
  go_wp2_with fail
  refine HE.out.mono ?_
  rintro e w2 ⟨rfl, hb2⟩
  go_wp2
  go_ret
  exact ⟨rfl, hb.trans (hb2.mono hb.size)⟩
end Go.Proofs.Ytghhffcdfbehcaa
