import Derived.Test.YtapfdbgplfonaaaO
namespace Go.Proofs.Ytapfdbgplfonaaa
open Go.RowKit

/-- 'append([]byte{}, x...)' -/
theorem copy_run (w : World) (A : Option Addr) (a : List Nat) (c : Nat) (ha : Bys w w.heap.size A a) (hm : a.length ≤ 1099511627776) :
    ∃ v' w2, (Builtin.append_ #[22, 22] 22 #[.slice (some ⟨w.heap.size, 0, none⟩) 0 0, .slice A a.length c]).run Try.prog (w.alloc (.cells #[] 5)) = .ok v' w2 ∧ Own w2 w.heap.size v' a ∧ Below w.heap.size w w2 := by
  have hb0 : Below w.heap.size w (w.alloc (.cells #[] 5)) := (Below.refl _ w).alloc (Nat.le_refl _) _
  obtain ⟨v', w2, hrun, hown2, hgr⟩ := run_append_bys (w.alloc (.cells #[] 5)) w.heap.size w.heap.size _ _ a (own_empty w) A c (ha.below hb0 (Nat.le_refl _)) (by simp; omega) hb0.size
  exact ⟨v', w2, hrun, by rw [List.nil_append] at hown2; exact hown2, hb0.grown hgr hb0.size fun g hg => by simp [Value.ownBlock] at hg; omega⟩

theorem sum_lt (bs : List Nat) : Crc.sum bs < 4294967296 := by unfold Crc.sum; omega

set_option maxRecDepth 100000 in
set_option maxHeartbeats 2000000 in
theorem sums_walk (A1 A2 : Option Addr) (a b : List Nat) (c1 c2 : Nat) (w : World) (ha : Bys w w.heap.size A1 a) (hb : Bys w w.heap.size A2 b) (hma : a.length ≤ 9223372036854775807) (hmb : b.length ≤ 9223372036854775807) :
    Calls Try.prog 3 #[.slice A1 a.length c1, .slice A2 b.length c2] w fun e w' => e = .returned (.bool true) ∧ Below w.heap.size w w' := by
  by_cases h1 : 2000 < a.length
  · go_enter Try.func3, Try.ntmps3
    go_wp2_with fail
    refine (works_any w).mono ?_
    rintro e w1 ⟨rfl, hb1⟩
    go_wp2_with fail
    go_ret
    exact ⟨rfl, hb1⟩
  · by_cases h2 : 2000 < b.length
    · go_enter Try.func3, Try.ntmps3
      go_wp2_with fail
      refine (works_any w).mono ?_
      rintro e w1 ⟨rfl, hb1⟩
      go_wp2_with fail
      go_ret
      exact ⟨rfl, hb1⟩
    · obtain ⟨v, w1, hrun, hown, hbw1⟩ := copy_run w A1 a c1 ha (by omega)
      obtain ⟨A3, c3, rfl, hc3, hbys3⟩ := hown.form
      have HR := Lib.hid hrun
      clear hrun
      go_enter Try.func3, Try.ntmps3
      go_wp2_with (at_builtin; refine Lib.wpList_append_run _ rfl _ _ _ _ rfl _ _ rfl rfl _ _ HR.out ?_)
      refine (Sum_any A3 a c3 w1 hbys3 hma).mono ?_
      rintro e w2 ⟨rfl, hb2⟩
      have hbw2 : Below w.heap.size w w2 := hbw1.trans (hb2.mono hbw1.size)
      have hbys3b := hbys3.grow hb2
      clear HR hown hb2 hbys3
      go_wp2_with fail
      refine (refSum_any A1 a c1 w2 (ha.grow hbw2) hma).mono ?_
      rintro e w3 ⟨rfl, rfl⟩
      go_wp2_with fail
      refine (More_any (Crc.sum a) A2 b c2 w2 (sum_lt a) (hb.grow hbw2) hmb).mono ?_
      rintro e w3 ⟨rfl, hb3⟩
      have hbw3 : Below w.heap.size w w3 := hbw2.trans (hb3.mono hbw2.size)
      have hbys3c := hbys3b.grow hb3
      clear hb3 hbys3b
      have hcv1 := conv_any w3 w3.heap.size A3 a c3 hbys3c
      have hcv2 := conv_any w3 w3.heap.size A1 a c1 (ha.grow hbw3)
      go_wp2_with fail
      refine (refMore_any (Crc.sum a) A2 b c2 w3 (sum_lt a) (hb.grow hbw3) hmb).mono ?_
      rintro e w4 ⟨rfl, rfl⟩
      go_wp2_with fail
      refine (works_any w3).mono ?_
      rintro e w5 ⟨rfl, hb5⟩
      clear hcv1 hcv2
      go_wp2_with fail
      go_ret
      exact ⟨rfl, hbw3.trans (hb5.mono hbw3.size)⟩
end Go.Proofs.Ytapfdbgplfonaaa
