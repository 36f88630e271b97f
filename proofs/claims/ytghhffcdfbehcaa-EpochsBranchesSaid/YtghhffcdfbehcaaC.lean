import Derived.Test.YtghhffcdfbehcaaB
namespace Go.Proofs.Ytghhffcdfbehcaa
open Go.RowKit

theorem above_any (A : Option Addr) (l : List Ent) (c : Nat) (x : Int) (w : World) (hl : Ents w w.heap.size A l) (hm : l.length ≤ 9223372036854775807) :
    Calls Try.prog 26 #[.slice A l.length c, .int .i64 x] w fun e w' => e = .returned (.int .i64 (aboveN x l : Nat)) ∧ Below w.heap.size w w' := by
  have hl2 : Ents (w.alloc (.cells #[.int .i64 x] 2)) (w.alloc (.cells #[.int .i64 x] 2)).heap.size A l :=
    (hl.below ((Below.refl _ w).alloc (Nat.le_refl _) _) (Nat.le_refl _)).mono (by simp)
  have hc : (w.alloc (.cells #[.int .i64 x] 2)).cell? ⟨w.heap.size, 0, none⟩ = some (.int .i64 x) := by simp [go_sem]
  have hmf : ∀ (fn : Fn) (first cap : Array Value) (w : World), (Instr.makeFunc fn first cap).run Try.prog w = .ok (.func fn first cap) w := fun _ _ _ _ => rfl
  go_enter Try.func26, Try.ntmps26
  go_wp2_with (go_at_call 30; refine (first_any A l c ⟨w.heap.size, 0, none⟩ x _ hl2 hm (by simp) hc).mono ?_; rintro e w1 ⟨rfl, hb1⟩)
  go_ret
  exact ⟨rfl, ((Below.refl _ _).alloc (Nat.le_refl _) _).trans (hb1.mono (by simp))⟩

theorem bcell {W w1 : World} (hb : Below W.heap.size W w1) : (∀ b o, b < W.heap.size → w1.cell? ⟨b, o, none⟩ = W.cell? ⟨b, o, none⟩) ∧ (∀ b o, b < W.heap.size → w1.frozen? ⟨b, o, none⟩ = W.frozen? ⟨b, o, none⟩) :=
  ⟨fun b o h => hb.cell (p := ⟨b, o, none⟩) h, fun b o h => hb.frozen (p := ⟨b, o, none⟩) h⟩

theorem take_len {l : List Ent} {n : Nat} (h : n ≤ l.length) : (l.take n).length = n := by simp; omega

set_option maxHeartbeats 400000 in
theorem End_yes (A : Option Addr) (l : List Ent) (c : Nat) (x : Int) (w : World) (hl : Ents w w.heap.size A l) (hm : l.length ≤ 9223372036854775807) (hlc : l.length ≤ c) (hx : 0 ≤ x) (hmay : may l = true) :
    Calls Try.prog 10 #[.slice A l.length c, .int .i64 x] w fun e w' => e = .returned (.tuple #[.int .i64 (lastE (l.take (aboveN x l))), .int .i64 (aboveN x l : Nat), .int .i64 0]) ∧ Below w.heap.size w w' := by
  have H1 := Lib.hid hmay
  clear hmay
  have hle := aboveN_le x l
  have ht := take_len hle
  go_enter Try.func10, Try.ntmps10
  go_wp2_with fail
  refine (May_any A l c _ hl hm).mono ?_
  rintro e w1 ⟨rfl, hb1⟩
  rw [H1.out]
  have HT := Lib.hid ht
  clear ht
  go_wp2_with fail
  refine (above_any A l c x w1 ((hl.below hb1 (Nat.le_refl _)).mono hb1.size) hm).mono ?_
  rintro e w2 ⟨rfl, hb2⟩
  have hb : Below w.heap.size w w2 := hb1.trans (hb2.mono hb1.size)
  have hc := last_any A (l.take (aboveN x l)) w.heap.size c w2 ((hl.below hb (Nat.le_refl _)).take _) (by rw [HT.out]; omega)
  rw [HT.out] at hc
  have HC := Lib.hid hc
  clear hc
  go_wp2_with fail
  refine HC.out.mono ?_
  rintro e w3 ⟨rfl, rfl⟩
  go_wp2
  go_ret3
  exact ⟨rfl, hb⟩

theorem End_no (A : Option Addr) (l : List Ent) (c : Nat) (x : Int) (w : World) (hl : Ents w w.heap.size A l) (hm : l.length ≤ 9223372036854775807) (h : x < 0 ∨ may l = false) :
    Calls Try.prog 10 #[.slice A l.length c, .int .i64 x] w fun e w' => e = .returned (.tuple #[.int .i64 0, .int .i64 0, .int .i64 2]) ∧ Below w.heap.size w w' := by
  by_cases hx : x < 0
  · clear h
    go_enter Try.func10, Try.ntmps10
    go_wp2
    go_ret3
    exact ⟨rfl, Below.refl _ _⟩
  · have H1 := Lib.hid (h.resolve_left hx)
    clear h
    go_enter Try.func10, Try.ntmps10
    go_wp2_with fail
    refine (May_any A l c _ hl hm).mono ?_
    rintro e w1 ⟨rfl, hb1⟩
    rw [H1.out]
    go_wp2_with fail
    go_ret3
    exact ⟨rfl, hb1⟩

set_option maxHeartbeats 400000 in
theorem Cut_yes (A : Option Addr) (l : List Ent) (c : Nat) (x : Int) (n : Int) (w : World) (hl : Ents w w.heap.size A l) (hm : l.length ≤ 9223372036854775807) (hx : 0 ≤ x) (hn : 0 ≤ n) (hn2 : n ≤ 9223372036854775807) (hmay : may l = true) :
    Calls Try.prog 11 #[.slice A l.length c, .int .i64 x, .int .i64 n] w fun e w' => e = .returned (.tuple #[.int .i64 (min n (aboveN x l : Nat)), .int .i64 0]) ∧ Below w.heap.size w w' := by
  have H1 := Lib.hid hmay
  clear hmay
  have hle := aboveN_le x l
  go_enter Try.func11, Try.ntmps11
  go_wp2_with fail
  refine (May_any A l c _ hl hm).mono ?_
  rintro e w1 ⟨rfl, hb1⟩
  rw [H1.out]
  go_wp2_with fail
  refine (above_any A l c x w1 ((hl.below hb1 (Nat.le_refl _)).mono hb1.size) hm).mono ?_
  rintro e w2 ⟨rfl, hb2⟩
  have hb : Below w.heap.size w w2 := hb1.trans (hb2.mono hb1.size)
  go_wp2_with fail
  · go_ret2
    exact ⟨by rw [Int.min_eq_right (by omega)]; rfl, hb⟩
  · go_ret2
    exact ⟨by rw [Int.min_eq_left (by omega)]; rfl, hb⟩

theorem Cut_no (A : Option Addr) (l : List Ent) (c : Nat) (x : Int) (n : Int) (w : World) (hl : Ents w w.heap.size A l) (hm : l.length ≤ 9223372036854775807) (h : x < 0 ∨ n < 0 ∨ may l = false) :
    Calls Try.prog 11 #[.slice A l.length c, .int .i64 x, .int .i64 n] w fun e w' => e = .returned (.tuple #[.int .i64 0, .int .i64 2]) ∧ Below w.heap.size w w' := by
  by_cases hx : x < 0
  · clear h
    go_enter Try.func11, Try.ntmps11
    go_wp2
    go_ret2
    exact ⟨rfl, Below.refl _ _⟩
  · by_cases hn : n < 0
    · clear h
      go_enter Try.func11, Try.ntmps11
      go_wp2
      go_ret2
      exact ⟨rfl, Below.refl _ _⟩
    · have H1 := Lib.hid ((h.resolve_left hx).resolve_left hn)
      clear h
      go_enter Try.func11, Try.ntmps11
      go_wp2_with fail
      refine (May_any A l c _ hl hm).mono ?_
      rintro e w1 ⟨rfl, hb1⟩
      rw [H1.out]
      go_wp2_with fail
      go_ret2
      exact ⟨rfl, hb1⟩

def fitsB (l : List Ent) (n : Nat) (x : Int) : Bool := decide (n ≤ l.length) && (lastE (l.take n) == x)

theorem fits_any (A : Option Addr) (l : List Ent) (c n : Nat) (x : Int) (w : World) (hl : Ents w w.heap.size A l) (hm : l.length ≤ 9223372036854775807) (hlc : l.length ≤ c) :
    Calls Try.prog 28 #[.slice A l.length c, .int .i64 n, .int .i64 x] w fun e w' => e = .returned (.bool (fitsB l n x)) ∧ w = w' := by
  by_cases hn : n ≤ l.length
  · have ht := take_len hn
    have hc := last_any A (l.take n) w.heap.size c w (hl.take _) (by rw [ht]; omega)
    rw [ht] at hc
    have HC := Lib.hid hc
    have HF : Hid (fitsB l n x = (lastE (l.take n) == x)) := by show fitsB l n x = _; simp [fitsB, hn]
    clear hc ht
    go_enter Try.func28, Try.ntmps28
    go_wp2_with fail
    refine HC.out.mono ?_
    rintro e w3 ⟨rfl, rfl⟩
    go_wp2_with fail
    go_ret
    exact ⟨by rw [HF.out]; rfl, rfl⟩
  · have HF : Hid (fitsB l n x = false) := by show fitsB l n x = _; simp [fitsB, hn]
    go_enter Try.func28, Try.ntmps28
    go_wp2_with fail
    go_ret
    exact ⟨by rw [HF.out]; rfl, rfl⟩

theorem Fits_yes (A : Option Addr) (l : List Ent) (c n : Nat) (x : Int) (w : World) (hl : Ents w w.heap.size A l) (hm : l.length ≤ 9223372036854775807) (hlc : l.length ≤ c) (hx : 0 ≤ x) (hmay : may l = true) :
    Calls Try.prog 13 #[.slice A l.length c, .int .i64 n, .int .i64 x] w fun e w' => e = .returned (.tuple #[.bool (fitsB l n x), .int .i64 0]) ∧ Below w.heap.size w w' := by
  have H1 := Lib.hid hmay
  clear hmay
  go_enter Try.func13, Try.ntmps13
  go_wp2_with fail
  go_step3
  go_wp2_with fail
  refine (May_any A l c _ hl hm).mono ?_
  rintro e w1 ⟨rfl, hb1⟩
  rw [H1.out]
  go_wp2_with fail
  refine (fits_any A l c n x w1 ((hl.below hb1 (Nat.le_refl _)).mono hb1.size) hm hlc).mono ?_
  rintro e w2 ⟨rfl, rfl⟩
  go_wp2_with fail
  rw [Exit.noGoto_ret]
  go_ret2
  exact ⟨rfl, hb1⟩
end Go.Proofs.Ytghhffcdfbehcaa
