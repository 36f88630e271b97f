import Derived.Test.YtghhffcdfbehcaaX
import Derived.Maps.AppendAt
import Derived.RangeFuncBox
namespace Go.Proofs.Ytghhffcdfbehcaa
open Go.RowKit

/-- block g holds these cells -/
def Blk (w : World) (g : Nat) (t : TypeId) (cs : Array Value) : Prop := w.heap[g]? = some (.cells cs t (0, 0))
theorem Blk.lt {w : World} {g : Nat} {t : TypeId} {cs : Array Value} (h : Blk w g t cs) : g < w.heap.size := (Array.getElem?_eq_some_iff.1 h).1
theorem Blk.cell {w : World} {g : Nat} {t : TypeId} {cs : Array Value} (h : Blk w g t cs) (i : Nat) : w.cell? ⟨g, i, none⟩ = cs[i]? := cell_of_row w g i cs t (0, 0) h
theorem Blk.new (w : World) (t : TypeId) (cs : Array Value) : Blk (w.alloc (.cells cs t)) w.heap.size t cs := heap_alloc_new w _
theorem Blk.below {B : Nat} {w w' : World} {g : Nat} {t : TypeId} {cs : Array Value} (h : Blk w g t cs) (hb : Below B w w') (hg : g < B) : Blk w' g t cs := (hb.block g hg).trans h
theorem below_drew {B : Nat} {a w : World} (h : Below B a w) : Below B a w.drew := ⟨h.os, h.tape, h.output, h.size, h.block⟩

def entC (e : Ent) : Array Value := #[.int .i64 e.epoch, .int .i64 e.id, .int .i64 e.num, .int .i64 e.seq, .int .i64 e.kind, .int .i64 e.value]
/-- a slice of entries that is the call's own -/
def OwnE (w : World) (base : Nat) (v : Value) (l : List Ent) : Prop := w.ownsRow base 54 6 v l.length (l.flatMap Ent.cells)
theorem cells_len (l : List Ent) : (l.flatMap Ent.cells).length = l.length * 6 := by
  induction l with
  | nil => rfl
  | cons x r ih => rw [List.flatMap_cons, List.length_append, ih, List.length_cons]; show 6 + _ = _; omega
theorem cells_one (l : List Ent) : ∀ u ∈ l.flatMap Ent.cells, u.oneCell' = true := by
  intro u hu
  obtain ⟨e, _, he⟩ := List.mem_flatMap.1 hu
  simp [Ent.cells] at he
  rcases he with rfl | rfl | rfl | rfl | rfl | rfl <;> rfl
theorem OwnE.nil (w : World) (base : Nat) : OwnE w base (.slice none 0 0) [] := World.ownsRow_nil _ _ _ _
theorem OwnE.form {w : World} {base : Nat} {v : Value} {l : List Ent} (h : OwnE w base v l) : ∃ A c, v = .slice A l.length c ∧ l.length ≤ c ∧ Ents w w.heap.size A l := by
  have h0 := h
  rcases h.2 with ⟨rfl, hz⟩ | ⟨g, cap, cur, rfl, _, hg, hc, _⟩
  · have : l = [] := List.eq_nil_of_length_eq_zero hz
    subst this
    exact ⟨none, 0, rfl, Nat.le_refl _, fun h => absurd rfl h⟩
  · exact ⟨_, _, rfl, hc, Ents.of_own h0⟩
theorem OwnE.below {w w' : World} {base B : Nat} {v : Value} {l : List Ent} (h : OwnE w base v l) (hb : Below B w w') (hB : w.heap.size ≤ B) : OwnE w' base v l := by
  refine World.ownsRow.kept h (row := none) ⟨hb.os, hb.tape, hb.output, hb.size, fun k hk _ => hb.block k (by omega)⟩ ?_
  cases v.ownBlock <;> simp
theorem OwnE.alloc {w : World} {base : Nat} {v : Value} {l : List Ent} (h : OwnE w base v l) (o : Obj) : OwnE (w.alloc o) base v l := World.ownsRow.alloc h o

theorem Ents.cells_at' {w : World} {B : Nat} {ad : Addr} {l : List Ent} (h : Ents w B (some ad) l) : ∀ j u, (l.flatMap Ent.cells)[j]? = some u → w.cell? (ad.add j) = some u := by
  intro j u hu
  have hj : j < l.length * 6 := by rw [← cells_len]; exact (List.getElem?_eq_some_iff.1 hu).1
  have hk : j / 6 < l.length := by omega
  obtain ⟨b, off, hA, _, hc⟩ := h (by intro e; subst e; simp at hk)
  injection hA with hA
  subst hA
  obtain ⟨c0, c1, c2, c3, c4, c5⟩ := hc (j / 6) l[j / 6] (List.getElem?_eq_getElem hk)
  have h6 := cells_at l (j / 6) (j % 6) l[j / 6] (List.getElem?_eq_getElem hk) (by omega)
  rw [show j / 6 * 6 + j % 6 = j by omega] at h6
  rw [h6] at hu
  have had : (⟨b, off, none⟩ : Addr).add j = ⟨b, off + j, none⟩ := by unfold Addr.add; split <;> simp_all
  rw [had]
  have hjj : off + j = off + j / 6 * 6 + j % 6 := by omega
  rw [hjj]
  have h6' : j % 6 < 6 := by omega
  generalize j % 6 = m at hu h6'
  rcases m with _ | _ | _ | _ | _ | _ | m
  · simp [Ent.cells] at hu; subst hu; exact c0
  · simp [Ent.cells] at hu; subst hu; exact c1
  · simp [Ent.cells] at hu; subst hu; exact c2
  · simp [Ent.cells] at hu; subst hu; exact c3
  · simp [Ent.cells] at hu; subst hu; exact c4
  · simp [Ent.cells] at hu; subst hu; exact c5
  · omega

set_option maxRecDepth 100000 in
/-- 'append(s, x...)': s is the call's own, x whatever entries -/
theorem run_append_ents (w : World) (base B : Nat) (v : Value) (xs l : List Ent) (hown : OwnE w base v xs) (A : Option Addr) (c : Nat) (hb : Ents w B A l)
    (hn : xs.length + l.length ≤ 1099511627776) (hbase : base ≤ w.heap.size) :
    ∃ v' w', (Builtin.append_ #[23, 23] 23 #[v, .slice A l.length c]).run Try.prog w = .ok v' w' ∧ OwnE w' base v' (xs ++ l) ∧ w.grownBy w' v.ownBlock := by
  obtain ⟨i0, hi, hz0, hz1, hz2⟩ := info_parts ent_info
  rcases A with _ | ad
  · have h0 : l = [] := by
      rcases l with _ | ⟨x, r⟩
      · rfl
      · obtain ⟨b, off, h, _⟩ := hb (by simp)
        cases h
    subst h0
    refine ⟨v, w, ?_, by simpa using hown, World.grownBy.refl w _⟩
    rcases hown.2 with ⟨rfl, h0⟩ | ⟨g, cap, cur, rfl, _, _, hnc, _⟩
    · simp [Builtin.append_, run_underlying Try.underlying23, sizeOf, typeInfo, hi, Builtin.lenOf, Builtin.firstCells]
    · simp [Builtin.append_, run_underlying Try.underlying23, sizeOf, typeInfo, hi, Builtin.lenOf, Builtin.firstCells, hnc, storeCells]
  · obtain ⟨v', w', hrun, h2, h3, _⟩ := run_append_own (P := Try.prog) w base 23 23 54 i0 _ 6 48 Try.underlying23 hi hz0 hz1 hz2 rfl (by decide) v xs.length (xs.flatMap Ent.cells) hown ad l.length c (l.flatMap Ent.cells) (cells_len l) hb.cells_at' (cells_one l)
      (by unfold maxLen; omega) (by omega) hbase
    exact ⟨v', w', hrun, by unfold OwnE; rw [List.length_append, List.flatMap_append]; exact h2, h3⟩

/-- an entry's cells, new -/
theorem ents_new (w : World) (e : Ent) : Ents (w.alloc (.cells (entC e) 54)) (w.alloc (.cells (entC e) 54)).heap.size (some ⟨w.heap.size, 0, none⟩) [e] := by
  have hB := Blk.new w 54 (entC e)
  intro _
  refine ⟨w.heap.size, 0, rfl, by simp, fun k x hk => ?_⟩
  have hk0 : k = 0 := by
    have := (List.getElem?_eq_some_iff.1 hk).1
    simpa using this
  subst hk0
  obtain rfl : e = x := by simpa using hk
  exact ⟨hB.cell 0, hB.cell 1, hB.cell 2, hB.cell 3, hB.cell 4, hB.cell 5⟩

/-! ### a row of logs -/
structure Log where
  A : Option Addr
  l : List Ent
  c : Nat
def Log.v (h : Log) : Value := .slice h.A h.l.length h.c
/-- it lies in a block of entries -/
def Typ (w : World) (A : Option Addr) : Prop := ∀ ad, A = some ad → ∃ cs, w.heap[ad.block]? = some (.cells cs 54 (0, 0))
theorem OwnE.typ {w : World} {base n c : Nat} {A : Option Addr} {l : List Ent} (h : OwnE w base (.slice A n c) l) : Typ w A := by
  intro ad hA
  subst hA
  rcases h.2 with ⟨e, _⟩ | ⟨g, cap, cur, e, _, hg, _⟩
  · cases e
  · cases e
    exact ⟨cur, hg⟩
theorem Typ.below {w w' : World} {B : Nat} {A : Option Addr} (h : Typ w A) (hb : Below B w w') (hB : w.heap.size ≤ B) : Typ w' A := fun ad hA => by
  obtain ⟨cs, hc⟩ := h ad hA
  exact ⟨cs, (hb.block _ (Nat.lt_of_lt_of_le (Array.getElem?_eq_some_iff.1 hc).1 hB)).trans hc⟩
/-- a slice of logs that is the call's own -/
def OwnL (w : World) (base : Nat) (v : Value) (hs : List Log) : Prop := w.ownsRow base 23 1 v hs.length (hs.map Log.v) ∧ ∀ h ∈ hs, Ents w w.heap.size h.A h.l ∧ Typ w h.A ∧ h.l.length ≤ h.c
theorem log_info : (Try.prog.info? 23).map (fun i => (i.zero, i.size, i.bytes)) = some (some (.slice none 0 0), 1, 24) := by kernel_rfl
theorem OwnL.nil (w : World) (base : Nat) : OwnL w base (.slice none 0 0) [] := ⟨World.ownsRow_nil _ _ _ _, by simp⟩
theorem OwnL.below {w w' : World} {base B : Nat} {v : Value} {hs : List Log} (h : OwnL w base v hs) (hb : Below B w w') (hB : w.heap.size ≤ B) : OwnL w' base v hs := by
  refine ⟨World.ownsRow.kept h.1 (row := none) ⟨hb.os, hb.tape, hb.output, hb.size, fun k hk _ => hb.block k (by omega)⟩ ?_, fun x hx => ?_⟩
  · cases v.ownBlock <;> simp
  · obtain ⟨h1, h2, h3⟩ := h.2 x hx
    refine ⟨fun hne => ?_, h2.below hb hB, h3⟩
    obtain ⟨b, off, hA, hlt, hc⟩ := h1 hne
    exact ⟨b, off, hA, by obtain ⟨cs, hcs⟩ := h2.below hb hB _ hA; exact (Array.getElem?_eq_some_iff.1 hcs).1, fun k e hk => (hc k e hk).keep fun o => hb.cell (p := ⟨b, o, none⟩) (by show b < B; omega)⟩
theorem OwnL.form {w : World} {base : Nat} {v : Value} {hs : List Log} (h : OwnL w base v hs) : ∃ A c, v = .slice A hs.length c ∧ hs.length ≤ c ∧
    ∀ (k : Nat) (x : Log), hs[k]? = some x → ∃ g, A = some ⟨g, 0, none⟩ ∧ g < w.heap.size ∧ w.cell? ⟨g, k, none⟩ = some x.v := by
  rcases h.1.2 with ⟨rfl, hz⟩ | ⟨g, cap, cur, rfl, _, hg, hc, _⟩
  · have : hs = [] := List.eq_nil_of_length_eq_zero hz
    subst this
    exact ⟨none, 0, rfl, Nat.le_refl _, fun k x h => by simp at h⟩
  · refine ⟨_, _, rfl, hc, fun k x hk => ⟨g, rfl, (Array.getElem?_eq_some_iff.1 hg).1, ?_⟩⟩
    have := h.1.cells (g := g) rfl k x.v (by rw [List.getElem?_map, hk]; rfl)
    rw [addr_add] at this
    exact this

set_option maxRecDepth 100000 in
/-- 'append(logs, g)' -/
theorem run_append_log (w : World) (base : Nat) (v : Value) (hs : List Log) (h : Log) (hown : OwnL w base v hs) (hl : Ents w w.heap.size h.A h.l ∧ Typ w h.A ∧ h.l.length ≤ h.c)
    (hn : hs.length ≤ 100000) (hbase : base ≤ w.heap.size) :
    ∃ v' w', (Builtin.append_ #[50, 50] 50 #[v, .slice (some ⟨w.heap.size, 0, none⟩) 1 1]).run Try.prog (w.alloc (.cells #[h.v] 23)) = .ok v' w' ∧ OwnL w' base v' (hs ++ [h]) ∧ Below base w w' ∧ (w.alloc (.cells #[h.v] 23)).grownBy w' v.ownBlock := by
  obtain ⟨i0, hi, hz0, hz1, hz2⟩ := info_parts log_info
  have hown1 : (w.alloc (.cells #[h.v] 23)).ownsRow base 23 1 v hs.length (hs.map Log.v) := hown.1.alloc _
  have hB := Blk.new w 23 #[h.v]
  obtain ⟨v', w', hrun, h2, h3, _⟩ := run_append_own (P := Try.prog) (w.alloc (.cells #[h.v] 23)) base 50 50 23 i0 _ 1 24 Try.underlying50 hi hz0 hz1 hz2 rfl (by decide) v hs.length (hs.map Log.v) hown1 ⟨w.heap.size, 0, none⟩ 1 1 [h.v] rfl
    (fun j u hu => by
      have hj : j = 0 := by
        have := (List.getElem?_eq_some_iff.1 hu).1
        simpa using this
      subst hj
      rw [addr_add, hB.cell]
      simpa using hu)
    (fun u hu => by rw [List.mem_singleton.1 hu]; rfl) (by unfold maxLen; omega) (by omega) (by simp; omega)
  have hba : Below base w (w.alloc (.cells #[h.v] 23)) := (Below.refl _ w).alloc hbase _
  have hbw : Below base w w' := hba.grown h3 (by simp; omega) fun g hg => (hown1.lt g hg).1
  refine ⟨v', w', hrun, ⟨by rw [List.length_append, List.map_append]; exact h2, fun x hx => ?_⟩, hbw, h3⟩
  have hkeep : ∀ y : Log, Ents w w.heap.size y.A y.l → Typ w y.A → Ents w' w'.heap.size y.A y.l ∧ Typ w' y.A := by
    intro y hy ht
    have hsame : ∀ ad, y.A = some ad → w'.heap[ad.block]? = w.heap[ad.block]? := by
      intro ad hA
      obtain ⟨cs, hcs⟩ := ht ad hA
      have hlt := (Array.getElem?_eq_some_iff.1 hcs).1
      refine (h3.block _ (by simp; omega) fun e => ?_).trans (heap_alloc_old w _ _ hlt)
      rcases hown.1.2 with ⟨rfl, _⟩ | ⟨g, cap, cur, rfl, _, hg, _⟩
      · simp [Value.ownBlock] at e
      · have : ad.block = g := by simpa [Value.ownBlock] using e
        rw [this, hg] at hcs
        cases hcs
    have ht' : Typ w' y.A := fun ad hA => by
      obtain ⟨cs, hcs⟩ := ht ad hA
      exact ⟨cs, (hsame ad hA).trans hcs⟩
    refine ⟨fun hne => ?_, ht'⟩
    obtain ⟨b, off, hA, _, hc⟩ := hy hne
    refine ⟨b, off, hA, ?_, fun k e hk => (hc k e hk).keep fun o => World.cell?_of_block (show w'.heap[b]? = w.heap[b]? from hsame _ hA)⟩
    obtain ⟨cs, hcs⟩ := ht' _ hA
    exact (Array.getElem?_eq_some_iff.1 hcs).1
  rcases List.mem_append.1 hx with hx | hx
  · obtain ⟨a1, a2, a3⟩ := hown.2 x hx
    obtain ⟨b1, b2⟩ := hkeep x a1 a2
    exact ⟨b1, b2, a3⟩
  · rw [List.mem_singleton.1 hx]
    obtain ⟨b1, b2⟩ := hkeep h hl.1 hl.2.1
    exact ⟨b1, b2, hl.2.2⟩
end Go.Proofs.Ytghhffcdfbehcaa
