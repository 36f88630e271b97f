import Derived.Test.YtdoidfnfhidgdaaAQ
import Derived.Test.YtdoidfnfhidgdaaAB
import Derived.RangeFuncBox
namespace Go.Proofs.Ytdoidfnfhidgdaa
open Go.RowKit

/-- a slice of entries that is the call's own -/
def OwnE (w : World) (base : Nat) (v : Value) (l : List Ent) : Prop := w.ownsRow base 24 6 v l.length (l.flatMap Ent.cells)
theorem entv_info : (Try.prog.info? 24).map (fun i => (i.zero, i.size, i.bytes)) = some (some (.agg #[.int .i64 0, .int .i64 0, .int .i64 0, .int .i64 0, .int .i64 0, .int .i64 0]), 6, 48) := by kernel_rfl
theorem cells_len (l : List Ent) : (l.flatMap Ent.cells).length = l.length * 6 := by
  induction l with
  | nil => rfl
  | cons x r ih => rw [List.flatMap_cons, List.length_append, ih, List.length_cons]; show 6 + _ = _; omega
theorem cells_one (l : List Ent) : ∀ u ∈ l.flatMap Ent.cells, u.oneCell' = true := by
  intro u hu
  obtain ⟨e, _, he⟩ := List.mem_flatMap.1 hu
  simp [Ent.cells] at he
  rcases he with rfl | rfl | rfl | rfl | rfl | rfl <;> rfl
theorem OwnE.nil (w : World) (base : Nat) : OwnE w base (.slice none 0 0) [] := World.ownsRow_nil _ _ _ _
theorem OwnE.form {w : World} {base : Nat} {v : Value} {l : List Ent} (h : OwnE w base v l) : ∃ A c, v = .slice A l.length c ∧ l.length ≤ c ∧ Ents w w.heap.size A l := by
  have h0 := h
  rcases h.2 with ⟨rfl, hz⟩ | ⟨g, cap, cur, rfl, _, hg, hc, _⟩
  · have : l = [] := List.eq_nil_of_length_eq_zero hz
    subst this
    exact ⟨none, 0, rfl, Nat.le_refl _, fun h => absurd rfl h⟩
  · exact ⟨_, _, rfl, hc, Ents.of_own h0⟩
theorem OwnE.below {w w' : World} {base B : Nat} {v : Value} {l : List Ent} (h : OwnE w base v l) (hb : Below B w w') (hB : w.heap.size ≤ B) : OwnE w' base v l := by
  refine World.ownsRow.kept h (row := none) ⟨hb.os, hb.tape, hb.output, hb.size, fun k hk _ => hb.block k (by omega)⟩ ?_
  cases v.ownBlock <;> simp
theorem OwnE.alloc {w : World} {base : Nat} {v : Value} {l : List Ent} (h : OwnE w base v l) (o : Obj) : OwnE (w.alloc o) base v l := World.ownsRow.alloc h o
theorem OwnE.empty (w : World) : OwnE (w.alloc (.cells #[] 24)) w.heap.size (.slice (some ⟨w.heap.size, 0, none⟩) 0 0) [] :=
  ⟨rfl, .inr ⟨w.heap.size, 0, #[], rfl, Nat.le_refl _, heap_alloc_new w _, Nat.le_refl _, by simp⟩⟩

theorem Ents.cells_at' {w : World} {B : Nat} {ad : Addr} {l : List Ent} (h : Ents w B (some ad) l) : ∀ j u, (l.flatMap Ent.cells)[j]? = some u → w.cell? (ad.add j) = some u := by
  intro j u hu
  have hj : j < l.length * 6 := by rw [← cells_len]; exact (List.getElem?_eq_some_iff.1 hu).1
  have hk : j / 6 < l.length := by omega
  obtain ⟨b, off, hA, _, hc⟩ := h (by intro e; subst e; simp at hk)
  injection hA with hA
  subst hA
  obtain ⟨c0, c1, c2, c3, c4, c5⟩ := hc (j / 6) l[j / 6] (List.getElem?_eq_getElem hk)
  have h6 := cells_at l (j / 6) (j % 6) l[j / 6] (List.getElem?_eq_getElem hk) (by omega)
  rw [show j / 6 * 6 + j % 6 = j by omega] at h6
  rw [h6] at hu
  have had : (⟨b, off, none⟩ : Addr).add j = ⟨b, off + j, none⟩ := by unfold Addr.add; split <;> simp_all
  rw [had]
  have hjj : off + j = off + j / 6 * 6 + j % 6 := by omega
  rw [hjj]
  have h6' : j % 6 < 6 := by omega
  generalize j % 6 = m at hu h6'
  rcases m with _ | _ | _ | _ | _ | _ | m
  · simp [Ent.cells] at hu; subst hu; exact c0
  · simp [Ent.cells] at hu; subst hu; exact c1
  · simp [Ent.cells] at hu; subst hu; exact c2
  · simp [Ent.cells] at hu; subst hu; exact c3
  · simp [Ent.cells] at hu; subst hu; exact c4
  · simp [Ent.cells] at hu; subst hu; exact c5
  · omega

set_option maxRecDepth 100000 in
/-- 'append(s, x...)': s is the call's own, x whatever entries -/
theorem run_append_ents (w : World) (base B : Nat) (v : Value) (xs l : List Ent) (hown : OwnE w base v xs) (A : Option Addr) (c : Nat) (hb : Ents w B A l)
    (hn : xs.length + l.length ≤ 1099511627776) (hbase : base ≤ w.heap.size) :
    ∃ v' w', (Builtin.append_ #[34, 34] 34 #[v, .slice A l.length c]).run Try.prog w = .ok v' w' ∧ OwnE w' base v' (xs ++ l) ∧ w.grownBy w' v.ownBlock := by
  obtain ⟨i0, hi, hz0, hz1, hz2⟩ := info_parts entv_info
  rcases A with _ | ad
  · have h0 : l = [] := by
      rcases l with _ | ⟨x, r⟩
      · rfl
      · obtain ⟨b, off, h, _⟩ := hb (by simp)
        cases h
    subst h0
    refine ⟨v, w, ?_, by simpa using hown, World.grownBy.refl w _⟩
    rcases hown.2 with ⟨rfl, h0⟩ | ⟨g, cap, cur, rfl, _, _, hnc, _⟩
    · simp [Builtin.append_, run_underlying Try.underlying34, sizeOf, typeInfo, hi, Builtin.lenOf, Builtin.firstCells]
    · simp [Builtin.append_, run_underlying Try.underlying34, sizeOf, typeInfo, hi, Builtin.lenOf, Builtin.firstCells, hnc, storeCells]
  · obtain ⟨v', w', hrun, h2, h3, _⟩ := run_append_own (P := Try.prog) w base 34 34 24 i0 _ 6 48 Try.underlying34 hi hz0 hz1 hz2 rfl (by decide) v xs.length (xs.flatMap Ent.cells) hown ad l.length c (l.flatMap Ent.cells) (cells_len l) hb.cells_at' (cells_one l)
      (by unfold maxLen; omega) (by omega) hbase
    exact ⟨v', w', hrun, by unfold OwnE; rw [List.length_append, List.flatMap_append]; exact h2, h3⟩

/-- an entry's cells, new -/
theorem ents_new (w : World) (e : Ent) : Ents (w.alloc (.cells (entC e) 24)) (w.alloc (.cells (entC e) 24)).heap.size (some ⟨w.heap.size, 0, none⟩) [e] := by
  have hB := Blk.new w 24 (entC e)
  intro _
  refine ⟨w.heap.size, 0, rfl, by simp, fun k x hk => ?_⟩
  have hk0 : k = 0 := by
    have := (List.getElem?_eq_some_iff.1 hk).1
    simpa using this
  subst hk0
  obtain rfl : e = x := by simpa using hk
  obtain ⟨⟨a0, a1, a2⟩, a3, a4, a5⟩ := ebox hB
  exact ⟨a0, a1, a2, a3, a4, a5⟩

set_option maxRecDepth 100000 in
/-- 'append(append([]Entry{}, l...), e)' -/
theorem spareE_run (w : World) (A : Option Addr) (l : List Ent) (e : Ent) (c : Nat) (ha : Ents w w.heap.size A l) (hm : l.length ≤ 1099511627700) :
    ∃ v1 w1 b2 o2 c2 w2, (Builtin.append_ #[34, 34] 34 #[.slice (some ⟨w.heap.size, 0, none⟩) 0 0, .slice A l.length c]).run Try.prog (w.alloc (.cells #[] 24)) = .ok v1 w1 ∧
      (Builtin.append_ #[34, 34] 34 #[v1, .slice (some ⟨w1.heap.size, 0, none⟩) 1 1]).run Try.prog (w1.alloc (.cells (entC e) 24)) = .ok (.slice (some ⟨b2, o2, none⟩) (l.length + 1) c2) w2 ∧
      l.length + 1 ≤ c2 ∧ Ents w2 w2.heap.size (some ⟨b2, o2, none⟩) (l ++ [e]) ∧ w.heap.size ≤ b2 ∧ Below w.heap.size w w2 := by
  have hb0 : Below w.heap.size w (w.alloc (.cells #[] 24)) := (Below.refl _ w).alloc (Nat.le_refl _) _
  obtain ⟨v1, w1, hr1, ho1, hg1⟩ := run_append_ents (w.alloc (.cells #[] 24)) w.heap.size w.heap.size _ _ l (OwnE.empty w) A c (ha.below hb0 (Nat.le_refl _)) (by simp; omega) hb0.size
  rw [List.nil_append] at ho1
  have hb1 : Below w.heap.size w w1 := hb0.grown hg1 hb0.size fun g hg => by simp [Value.ownBlock] at hg; omega
  have hb1' : Below w.heap.size w (w1.alloc (.cells (entC e) 24)) := hb1.alloc hb1.size _
  obtain ⟨v2, w2, hr2, ho2, hg2⟩ := run_append_ents (w1.alloc (.cells (entC e) 24)) w.heap.size _ v1 l [e] (ho1.alloc _) (some ⟨w1.heap.size, 0, none⟩) 1 (ents_new w1 e) (by simp; omega) hb1'.size
  have hb2 : Below w.heap.size w w2 := hb1'.grown hg2 hb1'.size fun g hg => ((ho1.alloc (.cells (entC e) 24)).lt g hg).1
  obtain ⟨A2, c2, rfl, hc2, hbys⟩ := ho2.form
  obtain ⟨b2, o2, rfl, _, _⟩ := hbys (by simp)
  rw [List.length_append, List.length_singleton] at hr2 hc2
  exact ⟨v1, w1, b2, o2, c2, w2, hr1, hr2, hc2, hbys, (ho2.lt b2 (by simp [Value.ownBlock])).1, hb2⟩
end Go.Proofs.Ytdoidfnfhidgdaa
