import Derived.RangeFuncNested
import Derived.RangeFuncBound
import Derived.RangeFuncBox
import Derived.RangeFuncCalls
import Derived.RangeFuncLeaves
import Derived.Shelf.Abstract
import Derived.OwnWalkIn
import Derived.TacticsInMore
import Derived.LoopNIn
import Derived.LoopIn
import Derived.Test.YtghhffcdfbehcaaN
namespace Go.Proofs.Ytghhffcdfbehcaa
open Go.RowKit Go.Shelf
attribute [local go_sem] Oper.semAt_some

/-- a log's epochs and the offsets of their first entries -/
def stFrom (last : Int) (at_ : Nat) : List Ent → List (Int × Nat)
  | [] => []
  | e :: r => if e.epoch = last then stFrom last (at_ + 1) r else (e.epoch, at_) :: stFrom e.epoch (at_ + 1) r

theorem stFrom_same {last : Int} {l : List Ent} {k : Nat} (hk : k < l.length) (h : l[k].epoch = last) : stFrom last k (l.drop k) = stFrom last (k + 1) (l.drop (k + 1)) := by
  rw [List.drop_eq_getElem_cons hk, stFrom, if_pos h]
theorem stFrom_new {last : Int} {l : List Ent} {k : Nat} (hk : k < l.length) (h : ¬ l[k].epoch = last) : stFrom last k (l.drop k) = (l[k].epoch, k) :: stFrom l[k].epoch (k + 1) (l.drop (k + 1)) := by
  rw [List.drop_eq_getElem_cons hk, stFrom, if_neg h]

/-- what a round keeps: what lay below n₀, and every block of entries -/
def KpE (n₀ : Nat) (A B : World) : Prop := Below n₀ A B ∧ ∀ (g : Nat) (cs : Array Value) (fr : Nat × Nat), A.heap[g]? = some (Obj.cells cs 54 fr) → B.heap[g]? = some (Obj.cells cs 54 fr)
theorem KpE.trans {n₀ : Nat} {A B C : World} (h : KpE n₀ A B) (k : KpE n₀ B C) : KpE n₀ A C := ⟨h.1.trans k.1, fun g cs fr e => k.2 g cs fr (h.2 g cs fr e)⟩
theorem KpE.putObj {n₀ : Nat} {w : World} (hn : n₀ ≤ w.heap.size) (W : World) (l : Nat) (o o' : Obj) (hl : w.heap.size ≤ l) (h : W.heap[l]? = some o) (hc : o.isCells = false) (hw : o.isWalk = false) : KpE n₀ W (W.putObj l o') :=
  ⟨belowK_b hn W l o o' hl h hc hw, fun g cs fr e => by
    by_cases hg : g = l
    · subst hg
      rw [e] at h; cases h; cases hc
    · exact (World.putObj_heap_other hg).trans e⟩

abbrev encS (p : Int × Nat) : Array Value := #[.int .i64 p.1, .int .i64 (p.2 : Nat)]

set_option maxRecDepth 100000 in
set_option maxHeartbeats 2000000 in
theorem starts1_in (F : Fence) (n : Nat) (h32 : F.fn 32) (hro : F.round = none) (hn : 1 ≤ n) (y Bs n₀ : Nat) (A : Option Addr) (l : List Ent) (c : Nat) (hm : l.length ≤ 9223372036854775807) (J Jx : List (Int × Nat) → World → Prop)
    (W : World) (hn₀ : n₀ ≤ W.heap.size) (hJa : AbidesFrom W.heap.size J)
    (hY : ∀ pre x W, J pre W → pre.length < l.length → YieldAt F (n - 1) Try.prog y #[.int .i64 x.1, .int .i64 (x.2 : Nat)] W fun e W' =>
      (e = .returned (.bool true) ∧ J (pre ++ [x]) W' ∧ KpE n₀ W W') ∨ (e = .returned (.bool false) ∧ Jx (pre ++ [x]) W'))
    (hBs : W.cell? ⟨Bs, 0, none⟩ = some (.slice A l.length c)) (hl : Ents W n₀ A l) (h0 : J [] W) :
    CallsIn F n Try.prog 32 #[.func (.yield y) #[] #[], .pointer (some ⟨Bs, 0, none⟩)] W fun e W' => (∃ v, e = .returned v) ∧
      ((∃ ys, ys = stFrom 0 0 l ∧ J ys W') ∨ (∃ pre, pre <+: stFrom 0 0 l ∧ Jx pre W')) := by
  refine callsIn_of_wp Try.func32 rfl h32 ?_ hro
  simp only [Try.ntmps32, List.size_toArray, List.length_cons, List.length_nil, Nat.reduceAdd, Nat.reduceSub, Array.replicate_succ, Array.replicate_zero, List.push_toArray, List.append_toArray, List.nil_append, List.cons_append]
  gi_wp2
  gi_loopw [3, 8] (fun last i wr => ∃ (k : Nat) (x : Int) (pre : List (Int × Nat)), k ≤ l.length ∧ i = .int .i64 k ∧ last = .int .i64 x ∧ stFrom 0 0 l = pre ++ stFrom x k (l.drop k) ∧ pre.length ≤ k ∧ J pre wr ∧ Below n₀ W wr ∧ W.heap.size ≤ wr.heap.size)
    (fun _ i _ => l.length - (intOf i).toNat)
  case atStart => exact ⟨0, 0, [], Nat.zero_le _, rfl, rfl, by simp, Nat.le_refl _, h0, Below.refl _ _, Nat.le_refl _⟩
  case round =>
    obtain ⟨k, x, pre, hk, rfl, rfl, hs, hpl, hJs, hb, hsz⟩ := hrel
    have HS := Lib.hid hs
    clear hs
    by_cases hlt : k < l.length
    · obtain ⟨b, off, rfl, hbB, he⟩ := (hl.below hb (Nat.le_refl _)).at_ hlt
      obtain ⟨c0, c1, c2, c3, c4, c5⟩ := he
      have hJ1 : ∀ o, J pre (wr.alloc o) := fun o => hJa _ _ _ none hJs (World.grownBy_alloc wr o none) (fun r e => by cases e)
      by_cases t1 : l[k].epoch = x
      · have d1 : (l[k].epoch != x) = false := by simpa using t1
        gi_wp2
        refine ⟨fun _ h => (by cases h), ?_⟩
        gi_wp2
        go_roundw
        case rel => exact ⟨k + 1, _, pre, by omega, by go_num, rfl, by rw [HS.out, ← t1, stFrom_same hlt rfl], by omega, hJ1 _, hb.alloc (by omega) _, by simp; omega⟩
        case measure => simp [intOf]; omega
      · have d1 : (l[k].epoch != x) = true := by simpa using t1
        obtain ⟨fn, tmps, assign, body, hy, hR⟩ := hY pre (l[k].epoch, k) _ (hJ1 (.cells #[.int .i64 l[k].epoch, .int .i64 l[k].id, .int .i64 l[k].num, .int .i64 l[k].seq, .int .i64 l[k].kind, .int .i64 l[k].value] 54)) (by omega)
        dsimp only at hy
        gi_wp2
        refine hR.mono ?_
        rintro e W3 (⟨rfl, hJ3, hk3⟩ | ⟨rfl, hJx3⟩)
        · have hb3 : Below n₀ W W3 := (hb.alloc (by omega) _).trans hk3.1
          have hz3 := hk3.1.size
          rw [World.size_alloc] at hz3
          have hc3 : W3.cell? ⟨wr.heap.size, 0, none⟩ = some (.int .i64 l[k].epoch) := cell_of_row _ _ _ _ _ _ (hk3.2 _ _ _ (World.alloc_heap_new wr _))
          gi_wp2
          go_roundw
          case rel => exact ⟨k + 1, _, pre ++ [(l[k].epoch, k)], by omega, by go_num, rfl, by rw [HS.out, stFrom_new hlt t1]; simp, by simp; omega, hJ3, hb3, by omega⟩
          case measure => simp [intOf]; omega
        · gi_wp2
          refine bodyPost_ret (results_none rfl _ _ _) rfl ?_
          exact ⟨⟨_, rfl⟩, .inr ⟨_, ⟨stFrom l[k].epoch (k + 1) (l.drop (k + 1)), by rw [HS.out, stFrom_new hlt t1]; simp⟩, hJx3⟩⟩
    · obtain rfl : k = l.length := by omega
      gi_wp2
      go_end0
      exact ⟨⟨_, rfl⟩, .inl ⟨_, by rw [HS.out, List.drop_eq_nil_of_le (Nat.le_refl _)]; simp [stFrom], hJs⟩⟩

set_option maxHeartbeats 1000000 in
theorem starts_in (F : Fence) (n : Nat) (h29 : F.fn 29) (hro : F.round = none) (A : Option Addr) (m c : Nat) (w : World) :
    CallsIn F n Try.prog 29 #[.slice A m c] w fun e w' => e = .returned (.func (.func 32) #[] #[.pointer (some ⟨w.heap.size, 0, none⟩)]) ∧ w' = w.alloc (.cells #[.slice A m c] 23) := by
  refine callsIn_of_wp Try.func29 rfl h29 ?_ hro
  simp only [Try.ntmps29, List.size_toArray, List.length_cons, List.length_nil, Nat.reduceAdd, Nat.reduceSub, Array.replicate_succ, Array.replicate_zero, List.push_toArray, List.append_toArray, List.nil_append, List.cons_append]
  gi_wp2
  go_ret
  exact ⟨rfl, rfl⟩

theorem starts_stops (F : Fence) (n : Nat) (h32 : F.fn 32) (hro : F.round = none) (hn : 1 ≤ n) (Bs n₀ : Nat) (A : Option Addr) (l : List Ent) (c : Nat) (hm : l.length ≤ 9223372036854775807) (w : World) (hBs : Bs < w.heap.size) (hn₀ : n₀ ≤ w.heap.size)
    (hc : w.cell? ⟨Bs, 0, none⟩ = some (.slice A l.length c)) (hl : Ents w n₀ A l) :
    SeqStopsK F n Try.prog 32 #[.pointer (some ⟨Bs, 0, none⟩)] encS (KpE n₀) (fun ys => ys = stFrom 0 0 l) (fun pre => pre <+: stFrom 0 0 l) l.length w := fun y J Jx W hW hJa _ hY h0 =>
  starts1_in F n h32 hro hn y Bs n₀ A l c hm J Jx W (Nat.le_trans hn₀ hW.size) hJa hY ((hW.cell (p := ⟨Bs, 0, none⟩) hBs).trans hc) (hl.below hW hn₀) h0
end Go.Proofs.Ytghhffcdfbehcaa
