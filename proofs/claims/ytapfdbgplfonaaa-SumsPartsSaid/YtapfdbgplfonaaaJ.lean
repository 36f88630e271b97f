import Derived.Test.YtapfdbgplfonaaaH
import Derived.Test.YtapfdbgplfonaaaI
import Derived.Test.YtapfdbgplfonaaaD
namespace Go.Proofs.Ytapfdbgplfonaaa
open Go.RowKit

theorem own_empty (w : World) : Own (w.alloc (.cells #[] 5)) w.heap.size (.slice (some ⟨w.heap.size, 0, none⟩) 0 0) [] :=
  ⟨World.ownsRow_made w #[] 0 (Nat.le_refl _) (by unfold maxLen; omega) (by simp), by simp⟩

set_option maxHeartbeats 1000000 in
/-- slices.Clone -/
theorem Clone_any (A : Option Addr) (a : List Nat) (c : Nat) (w : World) (ha : Bys w w.heap.size A a) (hm : a.length ≤ 1099511627776) :
    Calls Try.prog 30 #[.slice A a.length c] w fun e w' => ∃ v, e = .returned v ∧ Own w' w.heap.size v a ∧ Below w.heap.size w w' := by
  have qT : ∀ (w : World) (a : Option Addr) (n c n' c' : Nat), (binOp .eql 22 (.slice a n c) (.slice none n' c')).run Try.prog w = .ok (.bool a.isNone) w := fun w a n c n' c' => Lib.run_eql_slice_nil w _ _ a n c n' c' Try.underlying22
  rcases A with _ | ad
  · have h0 : a = [] := by
      rcases a with _ | ⟨x, r⟩
      · rfl
      · obtain ⟨b, off, h, _⟩ := ha.2 (by simp)
        cases h
    subst h0
    go_enter Try.func30, Try.ntmps30
    go_wp2
    go_ret
    exact ⟨_, rfl, own_nil _ _, Below.refl _ _⟩
  · have hb0 : Below w.heap.size w (w.alloc (.cells #[] 5)) := (Below.refl _ w).alloc (Nat.le_refl _) _
    obtain ⟨v', w2, hrun, hown2, hgr⟩ := run_append_bys (w.alloc (.cells #[] 5)) w.heap.size w.heap.size _ _ a (own_empty w) (some ad) c (ha.below hb0 (Nat.le_refl _)) (by simp; omega) hb0.size
    have hb2 : Below w.heap.size w w2 := hb0.grown hgr hb0.size fun g hg => by simp [Value.ownBlock] at hg; omega
    rw [List.nil_append] at hown2
    have HR := Lib.hid hrun
    clear hrun
    go_enter Try.func30, Try.ntmps30
    go_wp2_with (at_builtin; refine Lib.wpList_append_run _ rfl _ _ _ _ rfl _ _ rfl rfl _ _ HR.out ?_)
    go_ret
    exact ⟨_, rfl, hown2, hb2⟩

theorem Concat2 (w : World) (A1 A2 : Option Addr) (a b : List Nat) (c1 c2 : Nat) (ha : Bys w w.heap.size A1 a) (hb : Bys w w.heap.size A2 b) (hm : a.length + b.length ≤ 1099511627776) :
    Calls Try.prog 27 #[.slice (some ⟨w.heap.size, 0, none⟩) 2 2] (w.alloc (.cells #[.slice A1 a.length c1, .slice A2 b.length c2] 22)) fun e w' => ∃ v, e = .returned v ∧ Own w' w.heap.size v (a ++ b) ∧ Below w.heap.size w w' := by
  have hb0 : Below w.heap.size w (w.alloc (.cells #[.slice A1 a.length c1, .slice A2 b.length c2] 22)) := (Below.refl _ w).alloc (Nat.le_refl _) _
  have hp : PartsAt (w.alloc (.cells #[.slice A1 a.length c1, .slice A2 b.length c2] 22)) (w.alloc (.cells #[.slice A1 a.length c1, .slice A2 b.length c2] 22)).heap.size w.heap.size 0 [⟨A1, a, c1⟩, ⟨A2, b, c2⟩] := by
    intro k p hk
    rw [Nat.zero_add, cell_of_row _ _ _ _ _ _ (heap_alloc_new w _)]
    match k, hk with
    | 0, hk => simp at hk; subst hk; exact ⟨rfl, (ha.below hb0 (Nat.le_refl _)).mono hb0.size⟩
    | 1, hk => simp at hk; subst hk; exact ⟨rfl, (hb.below hb0 (Nat.le_refl _)).mono hb0.size⟩
  refine (Concat_any w.heap.size 0 [⟨A1, a, c1⟩, ⟨A2, b, c2⟩] 2 _ (by simp) hp (by simpa [total] using hm) (by simp)).mono ?_
  rintro e w' ⟨v, rfl, hown, hb1⟩
  exact ⟨v, rfl, by simpa [joined] using hown.mono (by simp), hb0.trans (hb1.mono (by simp))⟩

set_option maxHeartbeats 1000000 in
theorem Seal_any (A : Option Addr) (a : List Nat) (c : Nat) (w : World) (ha : Bys w w.heap.size A a) (hm : a.length ≤ 1099511627700) :
    Calls Try.prog 16 #[.slice A a.length c] w fun e w' => ∃ v, e = .returned v ∧ Own w' w.heap.size v (a ++ Crc.le4 (Crc.sum a)) ∧ Below w.heap.size w w' := by
  have hs : Crc.sum a < 4294967296 := by unfold Crc.sum; omega
  go_enter Try.func16, Try.ntmps16
  go_wp2_with fail
  refine (Sum_any A a c w ha (by omega)).mono ?_
  rintro e w1 ⟨rfl, hb1⟩
  go_wp2_with fail
  refine (little_any (Crc.sum a) w1 hs).mono ?_
  rintro e w2 ⟨v, rfl, hown, hb2⟩
  obtain ⟨A2, c2, rfl, hc2, hbys⟩ := hown.form
  have hb : Below w.heap.size w w2 := hb1.trans (hb2.mono hb1.size)
  go_wp2_with fail
  refine (Concat2 w2 A A2 a _ c c2 ((ha.below hb (Nat.le_refl _)).mono hb.size) hbys (by simp [Crc.le4]; omega)).mono ?_
  rintro e w3 ⟨v, rfl, hown3, hb3⟩
  go_wp2_with fail
  go_ret
  exact ⟨v, rfl, hown3.mono hb.size, hb.trans (hb3.mono hb.size)⟩
end Go.Proofs.Ytapfdbgplfonaaa
