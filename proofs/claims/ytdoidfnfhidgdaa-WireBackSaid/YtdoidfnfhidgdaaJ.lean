import Derived.Test.YtdoidfnfhidgdaaH
import Derived.Test.YtdoidfnfhidgdaaI
import Derived.Test.YtdoidfnfhidgdaaD
namespace Go.Proofs.Ytdoidfnfhidgdaa
open Go.RowKit

set_option maxRecDepth 100000 in
theorem own_empty (w : World) : Own (w.alloc (.cells #[] 5)) w.heap.size (.slice (some ⟨w.heap.size, 0, none⟩) 0 0) [] :=
  ⟨World.ownsRow_made w #[] 0 (Nat.le_refl _) (by unfold maxLen; omega) (by simp), by simp⟩

set_option maxHeartbeats 1000000 in
/-- slices.Clone -/
theorem Clone_any (A : Option Addr) (a : List Nat) (c : Nat) (w : World) (ha : Bys w w.heap.size A a) (hm : a.length ≤ 1099511627776) :
    Calls Try.prog 76 #[.slice A a.length c] w fun e w' => ∃ v, e = .returned v ∧ Own w' w.heap.size v a ∧ Below w.heap.size w w' := by
  have qT : ∀ (w : World) (a : Option Addr) (n c n' c' : Nat), (binOp .eql 25 (.slice a n c) (.slice none n' c')).run Try.prog w = .ok (.bool a.isNone) w := fun w a n c n' c' => Lib.run_eql_slice_nil w _ _ a n c n' c' Try.underlying25
  rcases A with _ | ad
  · have h0 : a = [] := by
      rcases a with _ | ⟨x, r⟩
      · rfl
      · obtain ⟨b, off, h, _⟩ := ha.2 (by simp)
        cases h
    subst h0
    go_enter Try.func76, Try.ntmps76
    go_wp2
    go_ret
    exact ⟨_, rfl, own_nil _ _, Below.refl _ _⟩
  · have hb0 : Below w.heap.size w (w.alloc (.cells #[] 5)) := (Below.refl _ w).alloc (Nat.le_refl _) _
    obtain ⟨v', w2, hrun, hown2, hgr⟩ := run_append_bys (w.alloc (.cells #[] 5)) w.heap.size w.heap.size _ _ a (own_empty w) (some ad) c (ha.below hb0 (Nat.le_refl _)) (by simp; omega) hb0.size
    have hb2 : Below w.heap.size w w2 := hb0.grown hgr hb0.size fun g hg => by simp [Value.ownBlock] at hg; omega
    rw [List.nil_append] at hown2
    have HR := Lib.hid hrun
    clear hrun
    go_enter Try.func76, Try.ntmps76
    go_wp2_with (at_builtin; refine Lib.wpList_append_run _ rfl _ _ _ _ rfl _ _ rfl rfl _ _ HR.out ?_)
    go_ret
    exact ⟨_, rfl, hown2, hb2⟩

set_option maxRecDepth 100000 in
theorem Concat2 (w : World) (A1 A2 : Option Addr) (a b : List Nat) (c1 c2 : Nat) (ha : Bys w w.heap.size A1 a) (hb : Bys w w.heap.size A2 b) (hm : a.length + b.length ≤ 1099511627776) :
    Calls Try.prog 46 #[.slice (some ⟨w.heap.size, 0, none⟩) 2 2] (w.alloc (.cells #[.slice A1 a.length c1, .slice A2 b.length c2] 25)) fun e w' => ∃ v, e = .returned v ∧ Own w' w.heap.size v (a ++ b) ∧ Below w.heap.size w w' := by
  have hb0 : Below w.heap.size w (w.alloc (.cells #[.slice A1 a.length c1, .slice A2 b.length c2] 25)) := (Below.refl _ w).alloc (Nat.le_refl _) _
  have hp : PartsAt (w.alloc (.cells #[.slice A1 a.length c1, .slice A2 b.length c2] 25)) (w.alloc (.cells #[.slice A1 a.length c1, .slice A2 b.length c2] 25)).heap.size w.heap.size 0 [⟨A1, a, c1⟩, ⟨A2, b, c2⟩] := by
    intro k p hk
    rw [Nat.zero_add, cell_of_row _ _ _ _ _ _ (heap_alloc_new w _)]
    match k, hk with
    | 0, hk => simp at hk; subst hk; exact ⟨rfl, (ha.below hb0 (Nat.le_refl _)).mono hb0.size⟩
    | 1, hk => simp at hk; subst hk; exact ⟨rfl, (hb.below hb0 (Nat.le_refl _)).mono hb0.size⟩
  refine (Concat_any w.heap.size 0 [⟨A1, a, c1⟩, ⟨A2, b, c2⟩] 2 _ (by simp) hp (by simpa [total] using hm) (by simp)).mono ?_
  rintro e w' ⟨v, rfl, hown, hb1⟩
  exact ⟨v, rfl, by simpa [joined] using hown.mono (by simp), hb0.trans (hb1.mono (by simp))⟩
end Go.Proofs.Ytdoidfnfhidgdaa
