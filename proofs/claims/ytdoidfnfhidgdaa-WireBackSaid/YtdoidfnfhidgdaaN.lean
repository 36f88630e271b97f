import Derived.Test.YtdoidfnfhidgdaaM
import Derived.Deep.RegionHeld3
namespace Go.Proofs.Ytdoidfnfhidgdaa
open Go.RowKit


set_option maxRecDepth 100000 in
theorem bys_new (w : World) (bs : List Nat) (fr : Nat × Nat) (h : ∀ c ∈ bs, c < 256) :
    Bys (w.alloc (.cells (bs.map B8).toArray 5 fr)) (w.alloc (.cells (bs.map B8).toArray 5 fr)).heap.size (some ⟨w.heap.size, 0, none⟩) bs := by
  refine ⟨h, fun _ => ⟨w.heap.size, 0, rfl, by simp, fun k c hk => ?_⟩⟩
  rw [Nat.zero_add, cell_of_row _ _ _ _ _ _ (heap_alloc_new w _)]
  simp [hk, B8]
set_option maxRecDepth 100000 in
theorem Own.formN {w : World} {base : Nat} {v : Value} {bs : List Nat} {n : Nat} (h : Own w base v bs) (hn : bs.length = n) :
    ∃ A c, v = .slice A n c ∧ n ≤ c ∧ Bys w w.heap.size A bs := by
  subst hn
  exact h.form
set_option maxRecDepth 100000 in
/-- Open of at least four bytes -/
theorem Open_any (A : Option Addr) (t q : List Nat) (c n : Nat) (w : World) (ha : Bys w w.heap.size A (t ++ q)) (hn : t.length + 4 = n) (hq : q.length = 4) (hm : n ≤ 1099511627776) (hac : n ≤ c) :
    Calls Try.prog 45 #[.slice A n c] w (OpenRes w t (sealedB t q)) := by
  obtain ⟨b, off, rfl, _, _⟩ := ha.2 (by intro e; have := congrArg List.length e; simp only [List.length_append, List.length_nil] at this; omega)
  have h1 := ha.take t.length
  have h2 := ha.drop t.length
  rw [List.take_left'  rfl] at h1
  rw [List.drop_left' rfl] at h2
  subst hn
  exact Open_long b off t q c t.length w h1 h2 (by omega) (by omega) rfl hq
set_option maxRecDepth 100000 in
theorem sealedB_seal (t : List Nat) : sealedB t (Crc.le4 (Crc.sum t)) = true := by simp [sealedB]


set_option maxRecDepth 100000 in
/-- 'append([]byte{}, x...)' -/
theorem copy_run (w : World) (A : Option Addr) (a : List Nat) (c : Nat) (ha : Bys w w.heap.size A a) (hm : a.length ≤ 1099511627776) :
    ∃ v' w2, (Builtin.append_ #[25, 25] 25 #[.slice (some ⟨w.heap.size, 0, none⟩) 0 0, .slice A a.length c]).run Try.prog (w.alloc (.cells #[] 5)) = .ok v' w2 ∧ Own w2 w.heap.size v' a ∧ Below w.heap.size w w2 := by
  have hb0 : Below w.heap.size w (w.alloc (.cells #[] 5)) := (Below.refl _ w).alloc (Nat.le_refl _) _
  obtain ⟨v', w2, hrun, hown2, hgr⟩ := run_append_bys (w.alloc (.cells #[] 5)) w.heap.size w.heap.size _ _ a (own_empty w) A c (ha.below hb0 (Nat.le_refl _)) (by simp; omega) hb0.size
  exact ⟨v', w2, hrun, by rw [List.nil_append] at hown2; exact hown2, hb0.grown hgr hb0.size fun g hg => by simp [Value.ownBlock] at hg; omega⟩
set_option maxRecDepth 100000 in
theorem sum_lt (bs : List Nat) : Crc.sum bs < 4294967296 := by unfold Crc.sum; omega


set_option maxRecDepth 100000 in
/-- 'append(append([]byte{}, x...), y...)' -/
theorem copy2_run (w : World) (A1 A2 : Option Addr) (a b : List Nat) (c1 c2 : Nat) (ha : Bys w w.heap.size A1 a) (hb : Bys w w.heap.size A2 b) (hm : a.length + b.length ≤ 1099511627776) :
    ∃ v1 w1 v2 w2, (Builtin.append_ #[25, 25] 25 #[.slice (some ⟨w.heap.size, 0, none⟩) 0 0, .slice A1 a.length c1]).run Try.prog (w.alloc (.cells #[] 5)) = .ok v1 w1 ∧
      (Builtin.append_ #[25, 25] 25 #[v1, .slice A2 b.length c2]).run Try.prog w1 = .ok v2 w2 ∧ Own w2 w.heap.size v2 (a ++ b) ∧ Below w.heap.size w w2 := by
  obtain ⟨v1, w1, hr1, ho1, hb1⟩ := copy_run w A1 a c1 ha (by omega)
  obtain ⟨v2, w2, hr2, ho2, hg2⟩ := run_append_bys w1 w.heap.size w.heap.size v1 a b ho1 A2 c2 (hb.below hb1 (Nat.le_refl _)) (by omega) hb1.size
  exact ⟨v1, w1, v2, w2, hr1, hr2, ho2, hb1.grown hg2 hb1.size fun g hg => (ho1.1.lt g hg).1⟩
set_option maxRecDepth 100000 in
/-- an append whose run is known, in a guarded operation that is wanted -/
theorem wpList_append_run_g (w : World) {ops : Array Oper} {rest : List Oper} {o : Oper} {a : Act} {Q : Exit → Act → World → Prop} (hgd : Region.wanted o (yielded ops a.tmps) = true) (s x : Operand) (t tn : TypeId)
    (ho : o.op = .call { callee := .builtin .append, args := #[s, x], argTypes := #[t, tn] }) (vs vx : Value) (hs : a.eval s = vs) (hx : a.eval x = vx)
    (v' : Value) (w' : World) (hr : (Builtin.append_ #[t, tn] o.type #[vs, vx]).run Try.prog w = .ok v' w') (h : wpList Try.prog ops Q rest (a.put o.dst v') w') : wpList Try.prog ops Q (o :: rest) a w := by
  unfold wpList
  rw [if_pos hgd]
  exact .inl (Lib.wp_append_run w s x t tn ho vs vx hs hx v' w' hr h)


set_option maxRecDepth 100000 in
theorem own_snoc {w w2 : World} {base : Nat} {v v' : Value} {xs : List Nat} {c : Nat} (hc : c < 256) (h : Own w base v xs) (h2 : w2.ownsRow base 5 1 v' (xs.length + 1) (xs.map B8 ++ [B8 c])) : Own w2 base v' (xs ++ [c]) := by
  refine ⟨by rw [List.length_append, List.map_append]; exact h2, ?_⟩
  intro x hx
  rcases List.mem_append.1 hx with h3 | h3
  · exact h.2 x h3
  · have : x = c := by simpa using h3
    omega


set_option maxRecDepth 100000 in
/-- 'append(append([]byte{}, x...), 77)[:len(x)]' -/
theorem spare_run (w : World) (A : Option Addr) (a : List Nat) (c : Nat) (ha : Bys w w.heap.size A a) (hm : a.length ≤ 1099511627700) :
    ∃ v1 w1 b2 o2 c2 w2, (Builtin.append_ #[25, 25] 25 #[.slice (some ⟨w.heap.size, 0, none⟩) 0 0, .slice A a.length c]).run Try.prog (w.alloc (.cells #[] 5)) = .ok v1 w1 ∧
      (Builtin.append_ #[25, 25] 25 #[v1, .slice (some ⟨w1.heap.size, 0, none⟩) 1 1]).run Try.prog (w1.alloc (.cells #[.int .u8 77] 5)) = .ok (.slice (some ⟨b2, o2, none⟩) (a.length + 1) c2) w2 ∧
      a.length + 1 ≤ c2 ∧ Bys w2 w2.heap.size (some ⟨b2, o2, none⟩) (a ++ [77]) ∧ w.heap.size ≤ b2 ∧ Below w.heap.size w w2 := by
  obtain ⟨v1, w1, hr1, ho1, hb1⟩ := copy_run w A a c ha (by omega)
  have hb1' : Below w.heap.size w (w1.alloc (.cells #[.int .u8 77] 5)) := hb1.alloc hb1.size _
  have hy : Bys (w1.alloc (.cells #[.int .u8 77] 5)) (w1.alloc (.cells #[.int .u8 77] 5)).heap.size (some ⟨w1.heap.size, 0, none⟩) [77] := bys_new w1 [77] (0, 0) (by decide)
  have ho1' : Own (w1.alloc (.cells #[.int .u8 77] 5)) w.heap.size v1 a := ⟨ho1.1.alloc _, ho1.2⟩
  obtain ⟨v2, w2, hr2, ho2, hg2⟩ := run_append_bys (w1.alloc (.cells #[.int .u8 77] 5)) w.heap.size _ v1 a [77] ho1' (some ⟨w1.heap.size, 0, none⟩) 1 hy (by simp; omega) hb1'.size
  have hb2 : Below w.heap.size w w2 := hb1'.grown hg2 hb1'.size fun g hg => (ho1'.1.lt g hg).1
  obtain ⟨A2, c2, rfl, hc2, hbys⟩ := ho2.formN (n := a.length + 1) (by simp)
  obtain ⟨b2, o2, rfl, _, _⟩ := hbys.2 (by simp)
  exact ⟨v1, w1, b2, o2, c2, w2, hr1, hr2, hc2, hbys, (ho2.1.lt b2 rfl).1, hb2⟩
set_option maxRecDepth 100000 in
theorem ext {w w1 w2 : World} (h : Below w.heap.size w w1) (h2 : Below w1.heap.size w1 w2) : Below w.heap.size w w2 := h.trans (h2.mono h.size)
set_option maxRecDepth 100000 in
theorem below_drew {B : Nat} {a w : World} (h : Below B a w) : Below B a w.drew := ⟨h.os, h.tape, h.output, h.size, h.block⟩
set_option maxRecDepth 100000 in
theorem takeH {P : Program} {md : Region.Mode} {Q : Exit → Act → World → Prop} {S : World → Prop} {l : List Oper} {i : Nat} {oi : Oper} {v : Value} {fuel : Nat} {listed : Array Bool} {a : Act} {w : World} (hi : l[i]? = some oi)
    (hs : Region.noSelect l.toArray = true) (hf : Region.free md l.toArray listed i = true) (hr : (Region.ready md l.toArray listed).contains i = true)
    (hQ : ∀ c a w, Q (.panic c) (a.put oi.dst v) w → Q (.panic c) a w) (hy : YieldsIf P l.toArray S oi v a) (hS : S w)
    (h : wpAnyH P md l.toArray Q S fuel (listed.setIfInBounds i true) (a.put oi.dst v) w) : wpAnyH P md l.toArray Q S (fuel + 1) listed a w :=
  wpAnyH_take (by rw [List.getElem?_toArray]; exact hi) hs hf hr hQ hy hS h
set_option maxRecDepth 100000 in
theorem consH {P : Program} {md : Region.Mode} {Q : Exit → Act → World → Prop} {S : World → Prop} {l : List Oper} {fuel : Nat} {listed : Array Bool} {a : Act} {w : World} {i : Nat} {o : Oper} {rs : List Nat} (ho : l[i]? = some o)
    (h : ∀ K' : Act → World → Prop, Shut (∀ a w, S w → (S w → wpAnyH P md l.toArray Q S fuel (listed.setIfInBounds i true) a w) → K' a w) → if Region.wanted o (yielded l.toArray a.tmps) = true then Oper.wp P o a w K' Q else K' (a.put o.dst undef) w)
    (hs : AllReadyH P md l.toArray Q S fuel listed a w rs) : AllReadyH P md l.toArray Q S fuel listed a w (i :: rs) :=
  AllReadyH.cons (by rw [List.getElem?_toArray]; exact ho) h hs
end Go.Proofs.Ytdoidfnfhidgdaa
