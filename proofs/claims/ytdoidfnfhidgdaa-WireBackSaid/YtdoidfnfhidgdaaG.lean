import Derived.Test.YtdoidfnfhidgdaaF
namespace Go.Proofs.Ytdoidfnfhidgdaa
open Go.RowKit

set_option maxRecDepth 100000 in
theorem own_nil (w : World) (base : Nat) : Own w base (.slice none 0 0) [] := ⟨World.ownsRow_nil _ _ _ _, by simp⟩

set_option maxRecDepth 100000 in
set_option maxHeartbeats 1000000 in
/-- slices.Grow of nil -/
theorem Grow_any (n : Nat) (w : World) (hn : n ≤ 1099511627776) :
    Calls Try.prog 77 #[.slice none 0 0, .int .i64 n] w fun e w' => ∃ v, e = .returned v ∧ Own w' w.heap.size v [] ∧ Below w.heap.size w w' := by
  by_cases h0 : n = 0
  · subst h0
    go_enter Try.func77, Try.ntmps77
    go_wp2
    go_ret
    exact ⟨_, rfl, own_nil _ _, Below.refl _ _⟩
  · obtain ⟨i0, hi, hz0, hz1, hz2⟩ := info_parts byte_info
    have hgc := grownCap_ge w (0 + n) 0 5
    have hgm := grownCap_le_maxLen w (0 + n) 0 5 (by unfold maxLen; omega)
    have hfit := growslice_fits (need := 0 + n) (old := 0) (bytes := i0.bytes) (by omega) (by rw [hz2]; omega)
    have hrun := Lib.run_append_grow_zeros (P := Try.prog) w 25 3 25 5 i0 _ .i64 .i64 Try.underlying25 Try.underlying3 hi hz0 none 0 0 [] (run_firstCells_none w.drew i0.size 0 0 0) n (by omega) (by rw [hz1]; decide) (by omega) (by omega) (by rw [hz2]; omega) hfit
    simp only [Nat.zero_add] at hgc hgm hrun
    generalize hG : grownCap w n 0 5 = G at *
    have hown : Own (w.drew.alloc (.cells (#[] ++ Builtin.zeroCells (Value.int .u8 0).cells n ++ Builtin.zeroCells (Value.int .u8 0).cells (G - n)) 5)) w.heap.size (.slice (some ⟨w.heap.size, 0, none⟩) 0 G) [] :=
      ⟨World.ownsRow_made w.drew _ G (Nat.le_refl _) hgm (by simp [Builtin.zeroCells, Value.cells]; omega), by simp⟩
    have hbel : Below w.heap.size w (w.drew.alloc (.cells (#[] ++ Builtin.zeroCells (Value.int .u8 0).cells n ++ Builtin.zeroCells (Value.int .u8 0).cells (G - n)) 5)) := ((Below.refl _ w).drew).alloc (Nat.le_refl _) _
    generalize (w.drew.alloc (.cells (#[] ++ Builtin.zeroCells (Value.int .u8 0).cells n ++ Builtin.zeroCells (Value.int .u8 0).cells (G - n)) 5)) = W at *
    have HR := Lib.hid hrun
    clear hrun hG hfit hz0 hz1 hz2 hi
    have hn0 : 0 < n := by omega
    unfold maxLen at hgm
    go_enter Try.func77, Try.ntmps77
    go_wp2_with (at_builtin; refine Lib.wpList_append_run _ rfl _ _ _ _ rfl _ _ rfl rfl _ _ HR.out ?_)
    go_ret
    exact ⟨_, rfl, hown, hbel⟩

/-! ### slices.Concat -/
structure Part where
  A : Option Addr
  bs : List Nat
  c : Nat

def PartsAt (w : World) (B g off : Nat) (ps : List Part) : Prop :=
  ∀ k p, ps[k]? = some p → w.cell? ⟨g, off + k, none⟩ = some (.slice p.A p.bs.length p.c) ∧ Bys w B p.A p.bs

set_option maxRecDepth 100000 in
theorem PartsAt.below {w w' : World} {B B' g off : Nat} {ps : List Part} (h : PartsAt w B g off ps) (hb : Below B' w w') (hB : B ≤ B') (hg : g < B') : PartsAt w' B g off ps := by
  intro k p hk
  obtain ⟨h1, h2⟩ := h k p hk
  exact ⟨(hb.cell (p := ⟨g, off + k, none⟩) hg).trans h1, h2.below hb hB⟩
set_option maxRecDepth 100000 in
theorem PartsAt.mono {w : World} {B B' g off : Nat} {ps : List Part} (h : PartsAt w B g off ps) (hB : B ≤ B') : PartsAt w B' g off ps := by
  intro k p hk
  obtain ⟨h1, h2⟩ := h k p hk
  exact ⟨h1, h2.mono hB⟩

def total (ps : List Part) : Nat := (ps.map fun p => p.bs.length).sum
def joined (ps : List Part) : List Nat := ps.flatMap Part.bs
def tot (ps : List Part) (k : Nat) : Nat := total (ps.take k)
def joi (ps : List Part) (k : Nat) : List Nat := joined (ps.take k)
set_option maxRecDepth 100000 in
theorem tot_succ {ps : List Part} {k : Nat} (hk : k < ps.length) : tot ps (k + 1) = tot ps k + ps[k].bs.length := by
  unfold tot total; rw [List.take_succ_eq_append_getElem hk, List.map_append, List.sum_append]; rfl
set_option maxRecDepth 100000 in
theorem joi_succ {ps : List Part} {k : Nat} (hk : k < ps.length) : joi ps (k + 1) = joi ps k ++ ps[k].bs := by
  unfold joi joined; rw [List.take_succ_eq_append_getElem hk, List.flatMap_append, List.flatMap_cons, List.flatMap_nil, List.append_nil]
set_option maxRecDepth 100000 in
theorem tot_le (ps : List Part) (k : Nat) : tot ps k ≤ total ps := by
  unfold tot
  conv => rhs; rw [← List.take_append_drop k ps]
  simp only [total, List.map_append, List.sum_append]; exact Nat.le_add_right _ _
set_option maxRecDepth 100000 in
theorem joined_length (ps : List Part) : (joined ps).length = total ps := by
  induction ps with
  | nil => rfl
  | cons p r ih => simp only [joined, List.flatMap_cons, List.length_append, total, List.map_cons, List.sum_cons] at *; omega
set_option maxRecDepth 100000 in
theorem joi_length (ps : List Part) (k : Nat) : (joi ps k).length = tot ps k := joined_length _
set_option maxRecDepth 100000 in
theorem joi_all (ps : List Part) : joi ps ps.length = joined ps := by unfold joi; rw [List.take_length]
set_option maxRecDepth 100000 in
theorem tot_zero (ps : List Part) : tot ps 0 = 0 := rfl
set_option maxRecDepth 100000 in
theorem joi_zero (ps : List Part) : joi ps 0 = [] := rfl
attribute [irreducible] tot joi
end Go.Proofs.Ytdoidfnfhidgdaa
