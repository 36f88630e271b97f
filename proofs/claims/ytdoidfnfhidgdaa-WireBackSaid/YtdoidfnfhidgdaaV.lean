import Derived.Test.YtdoidfnfhidgdaaT
import Derived.Laws.EntriesVeiled
import Derived.Recover
import Derived.Defers
import Derived.StillTailTactics
import Derived.RangeFuncBox
namespace Go.Proofs.Ytdoidfnfhidgdaa
open Go.RowKit

theorem Bys.setCell_other {w : World} {B : Nat} {A : Option Addr} {l : List Nat} {a : Addr} (h : Bys w B A l) (ha : ∀ b o, A = some ⟨b, o, none⟩ → b ≠ a.block) (v : Value) : Bys (w.setCell a v) B A l := by
  refine ⟨h.1, fun h0 => ?_⟩
  obtain ⟨b, off, rfl, hlt, hc⟩ := h.2 h0
  refine ⟨b, off, rfl, hlt, fun k e he => ?_⟩
  rw [World.cell?_of_block (Below.heap_setCell w a v b (ha b off rfl))]
  exact hc k e he

/-- the panic with which is given up -/
abbrev upP (e : Int) : Ending := .panicked [{ v := .iface 92 (.agg #[.int .i64 e]), recovered := false }]

theorem must_yes (e : Int) (w : World) : Calls Try.prog 44 #[.bool true, .int .i64 e] w fun x w' => x = .returned (.tuple #[]) ∧ w = w' := by
  go_enter Try.func44, Try.ntmps44
  go_wp2_with fail
  go_end0
  exact ⟨rfl, rfl⟩
theorem must_no (e : Int) (w : World) : Calls Try.prog 44 #[.bool false, .int .i64 e] w fun x w' => x = upP e ∧ w = w' := by
  go_enter Try.func44, Try.ntmps44
  go_wp2_with fail
  exact ⟨rfl, rfl, rfl⟩

/-- a byte is taken off the list in block L -/
def Left (w : World) (L : Nat) (bs : List Nat) : Prop := ∃ A c, Blk w L 25 #[.slice A bs.length c] ∧ bs.length ≤ c ∧ Bys w w.heap.size A bs ∧ (bs ≠ [] → ∀ b o, A = some ⟨b, o, none⟩ → b ≠ L)

set_option maxRecDepth 100000 in
set_option maxHeartbeats 1000000 in
theorem next_yes (w : World) (P1 P2 L : Nat) (no : Int) (y : Nat) (r : List Nat) (h1 : w.cell? ⟨P1, 0, none⟩ = some (.pointer (some ⟨L, 0, none⟩))) (h2 : w.cell? ⟨P2, 0, none⟩ = some (.int .i64 no)) (hL : Left w L (y :: r)) (hm : (y :: r).length ≤ 9223372036854775807) :
    Calls Try.prog 78 #[.pointer (some ⟨P1, 0, none⟩), .pointer (some ⟨P2, 0, none⟩)] w fun x w' => x = .returned (.int .u8 y) ∧ Left w' L r ∧ w.grownBy w' (some L) := by
  obtain ⟨A, c, hB, hc, hby, hne⟩ := hL
  obtain ⟨b, off, rfl, hlt, hcell⟩ := hby.2 (by simp)
  have hcl := hB.cell 0
  have hfr := hB.frozen 0
  have h0 := hcell 0 y rfl
  rw [List.length_cons] at hcl hc
  have hi1 : (1 : Int) ≤ (r.length : Int) + 1 := by omega
  have hi2 : (r.length : Int) + 1 ≤ (c : Int) := by omega
  have hi3 : 1 ≤ r.length + 1 := by omega
  have hn : ((r.length + 1 : Nat) : Int) = (r.length : Int) + 1 := by omega
  go_enter Try.func78, Try.ntmps78
  have hd1 : w.drew.cell? ⟨P1, 0, none⟩ = some (.pointer (some ⟨L, 0, none⟩)) := h1
  have hd2 : w.drew.cell? ⟨L, 0, none⟩ = some (.slice (some ⟨b, off, none⟩) (r.length + 1) c) := hcl
  have hd3 : w.drew.frozen? ⟨L, 0, none⟩ = false := hfr
  have hd4 : w.drew.cell? ⟨b, off, none⟩ = some (.int .u8 y) := h0
  go_wp2_with fail
  go_still_tail 6, (by kernel_rfl)
  change wpList _ _ _ _ _ w.drew
  obtain ⟨wd, hwd⟩ : ∃ wd, w.drew = wd := ⟨_, rfl⟩
  rw [hwd] at hd1 hd2 hd3 hd4 ⊢
  clear h1 h2 hcl hfr h0
  go_wp2_with fail
  refine (must_yes _ _).mono ?_
  rintro x w2 ⟨rfl, rfl⟩
  go_wp2_with fail
  have he1 : wd.drew.cell? ⟨P1, 0, none⟩ = some (.pointer (some ⟨L, 0, none⟩)) := hd1
  have he2 : wd.drew.cell? ⟨L, 0, none⟩ = some (.slice (some ⟨b, off, none⟩) (r.length + 1) c) := hd2
  have he3 : wd.drew.frozen? ⟨L, 0, none⟩ = false := hd3
  go_still_tail 6, (by kernel_rfl)
  change wpList _ _ _ _ _ wd.drew
  obtain ⟨we, hwe⟩ : ∃ we, wd.drew = we := ⟨_, rfl⟩
  rw [hwe] at he1 he2 he3 ⊢
  clear hd1 hd2 hd3
  go_wp2_with fail
  case inl =>
    have hBe : Blk we L 25 #[.slice (some ⟨b, off, none⟩) (y :: r).length c] := by rw [← hwe, ← hwd]; exact hB
    have hge : w.grownBy we (some L) := by rw [← hwe, ← hwd]; exact ⟨rfl, rfl, rfl, Nat.le_refl _, fun _ _ _ => rfl⟩
    go_ret
    have hr0 : r = [] := List.eq_nil_of_length_eq_zero (by omega)
    subst hr0
    exact ⟨rfl, ⟨some ⟨b, off, none⟩, 0, hBe.set_ 0 _, Nat.le_refl _, ⟨by simp, fun h => absurd rfl h⟩, fun h => absurd rfl h⟩, hge.trans (grownBy_setCell' _ _ _)⟩
  case inr =>
    have hBe : Blk we L 25 #[.slice (some ⟨b, off, none⟩) (y :: r).length c] := by rw [← hwe, ← hwd]; exact hB
    have hge : w.grownBy we (some L) := by rw [← hwe, ← hwd]; exact ⟨rfl, rfl, rfl, Nat.le_refl _, fun _ _ _ => rfl⟩
    have hbe : Bys we we.heap.size (some ⟨b, off, none⟩) (y :: r) := by rw [← hwe, ← hwd]; exact hby
    have hbL : b ≠ L := hne (by simp) b off rfl
    go_ret
    refine ⟨rfl, ⟨some ⟨b, off + 1, none⟩, c - 1, hBe.set_ 0 _, by omega, ?_, fun _ b' o' e => by injection e with e; injection e with e; rw [← e]; exact hbL⟩, hge.trans (grownBy_setCell' _ _ _)⟩
    exact ((hbe.drop 1).setCell_other (a := ⟨L, 0, none⟩) (fun b' o' e => by injection e with e; injection e with e; rw [← e]; exact hbL) _).mono (by simp [World.setCell])

set_option maxRecDepth 100000 in
/-- no byte is left -/
theorem next_no (w : World) (P1 P2 L : Nat) (no : Int) (h1 : w.cell? ⟨P1, 0, none⟩ = some (.pointer (some ⟨L, 0, none⟩))) (h2 : w.cell? ⟨P2, 0, none⟩ = some (.int .i64 no)) (hL : Left w L []) :
    Calls Try.prog 78 #[.pointer (some ⟨P1, 0, none⟩), .pointer (some ⟨P2, 0, none⟩)] w fun x w' => x = upP no ∧ w.grownBy w' (some L) := by
  obtain ⟨A, c, hB, hc, hby, hne⟩ := hL
  have hcl := hB.cell 0
  rw [List.length_nil] at hcl
  go_enter Try.func78, Try.ntmps78
  have hd1 : w.drew.cell? ⟨P1, 0, none⟩ = some (.pointer (some ⟨L, 0, none⟩)) := h1
  have hd2 : w.drew.cell? ⟨L, 0, none⟩ = some (.slice A 0 c) := hcl
  go_wp2_with fail
  go_still_tail 6, (by kernel_rfl)
  change wpList _ _ _ _ _ w.drew
  obtain ⟨wd, hwd⟩ : ∃ wd, w.drew = wd := ⟨_, rfl⟩
  rw [hwd] at hd1 hd2 ⊢
  clear h1 h2 hcl
  go_wp2_with fail
  refine (must_no _ _).mono ?_
  rintro x w2 ⟨rfl, rfl⟩
  have hge : w.grownBy wd (some L) := by rw [← hwd]; exact ⟨rfl, rfl, rfl, Nat.le_refl _, fun _ _ _ => rfl⟩
  exact ⟨rfl, rfl, hge⟩
end Go.Proofs.Ytdoidfnfhidgdaa
