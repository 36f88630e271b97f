import Derived.RangeFuncNested
import Derived.RangeFuncBound
import Derived.RangeFuncBox
import Derived.RangeFuncCalls
import Derived.RangeFuncLeaves
import Derived.Shelf.Abstract
import Derived.OwnWalkIn
import Derived.TacticsInMore
import Derived.LoopNIn
import Derived.LoopIn
import Derived.WalkKit
namespace Go.Proofs.Ytdoidfnfhidgdaa
open Go.RowKit

/-- An iterator's contract: Step is what it does itself between two rounds, Gv what holds of what it yields in the world at hand, Kp what a round keeps, S what it has yielded at the end, and the world then. No round ends it. -/
def SeqT {α : Type} (F : Fence) (n : Nat) (P : Program) (gf : Nat) (lb : Array Value) (encs : α → Array Value) (Step : World → World → Prop) (Gv : α → World → Prop) (Kp : World → World → Prop) (S : List α → World → Prop) (N : Nat) (w0 : World) : Prop :=
  ∀ (y : Nat) (J : List α → World → Prop) (W : World), Below w0.heap.size w0 W → (∀ s A B, J s A → Step A B → J s B) →
    (∀ pre x W, J pre W → Gv x W → pre.length < N → YieldAt F (n - 1) P y (encs x) W fun e W' => e = .returned (.bool true) ∧ J (pre ++ [x]) W' ∧ Kp W W') →
    J [] W → CallsIn F n P gf (#[.func (.yield y) #[] #[]] ++ lb) W fun e W' => (∃ v, e = .returned v) ∧ ∃ ys, S ys W' ∧ J ys W'

/-- A range over a function whose rounds all end normally, over such a contract. -/
theorem wpIn_range_seqT {α : Type} {F : Fence} {n : Nat} {P : Program} {g : Operand} {ps : Array Tmp} {assign body : Code} {Q : Exit → Act → World → Prop} {a : Act} {w : World}
    (hro : F.round = none) (h1 : 1 ≤ n) {gf : Nat} {lb : Array Value} (hg : a.eval g = .func (.func gf) #[] lb) (hFg : F.fn gf) (eg : ∀ args w, (callFunc gf args).run P w = .ok (.enter gf args) w)
    {encs : α → Array Value} {Step : World → World → Prop} {Gv : α → World → Prop} {Kp : World → World → Prop} {S : List α → World → Prop} {N : Nat}
    (hseq : SeqT F (n - 1) P gf lb encs Step Gv Kp S N w)
    (hSt : ∀ (A B : World) (k : Nat) (o : Obj), Step A B → w.heap.size ≤ k → A.heap[k]? = some o → o.isCells = false → B.heap[k]? = some o)
    (hKt : ∀ {A B C : World}, Kp A B → Kp B C → Kp A C) (hKb : ∀ (W : World) (l : Nat) (o o' : Obj), w.heap.size ≤ l → W.heap[l]? = some o → o.isCells = false → Kp W (W.putObj l o'))
    (hps : ∀ x, (encs x).size = ps.size)
    (I : List α → World → Prop) (hI : OwnFrom w.heap.size I) (hIs : ∀ s A B, I s A → Step A B → I s B) (h0 : I [] w)
    (hround : ∀ (l : Nat) (pre : List α) (x : α) (W : World), w.heap.size ≤ l → (∃ o, W.heap[l]? = some o ∧ o.isCells = false) → I pre W → Gv x W → pre.length < N →
      assign.wpIn (F.inRound l) (n - 1 - 1) P (Exit.then (fun a₁ W₁ => KeepsFrom w.heap.size W W₁ ∧ Kp W W₁ ∧ ∀ o, body.wpIn (F.inRound l) (n - 1 - 1) P (ownPostG w.heap.size Kp I (fun _ _ _ => False) (pre ++ [x]) (W₁.putObj l o)) a₁ (W₁.putObj l o)) (fun _ _ _ => False))
        { tmps := (ps.zip (encs x)).foldl (fun t (p, v) => t.setIfInBounds p v) a.tmps, defers := [] } W)
    (hdone : ∀ (D : Nat) (ys : List α) (W W' : World) (l : Nat) (o o' : Obj), w.heap.size ≤ D → w.heap.size ≤ l → W.heap[l]? = some o → o.isCells = false → W' = W.putObj l o' → S ys W → I ys W → I ys W' → W'.heap[D]? = some (.deferred (some [])) → Q .normal { a with defers := { target := .collected D, args := #[] } :: a.defers } W') :
    (Code.rangeFunc g ps assign body).wpIn F n P Q a w := by
  refine wpIn_rangeFunc fun fn hfn => ?_
  rw [hro]
  obtain ⟨D, hD⟩ : ∃ D, w.heap.size = D := ⟨_, rfl⟩
  obtain ⟨rc, hrc⟩ : ∃ rc : LoopState → Loop, rc = fun st => { state := st, pending := none, fn, tmps := a.tmps, params := ps, assign, body, defers := D } := ⟨_, rfl⟩
  obtain ⟨W1, hW1⟩ : ∃ W1, (w.alloc (.deferred (some []))).alloc (.loop (rc .ready)) = W1 := ⟨_, rfl⟩
  have hL1 : W1.heap[D + 1]? = some (.loop (rc .ready)) := by
    have := World.alloc_heap_new (w.alloc (.deferred (some []))) (.loop (rc .ready))
    rw [World.size_alloc, hD, hW1] at this
    exact this
  have hK1 : W1.heap[D]? = some (.deferred (some [])) := by
    rw [← hW1, ← hD]
    exact (Below.heap_alloc _ _ _ (by simp)).trans (World.alloc_heap_new w _)
  have hI1 : I [] W1 := by rw [← hW1]; exact hI.alloc _ (hI.alloc _ h0)
  have hb1 : Below w.heap.size w W1 := by rw [← hW1]; exact ((Below.refl _ w).alloc (Nat.le_refl _) _).alloc (by simp) _
  refine ⟨D + 1, [{ target := .collected D, args := #[] }], W1, { target := .fn (.func gf) lb, args := #[.func (.yield (D + 1)) #[] #[]] }, W1, gf, #[.func (.yield (D + 1)) #[] #[]] ++ lb, W1, ?_, ?_, ?_, ?_, fun _ => h1, ?_⟩
  · rw [← hW1, hrc, ← hD]
    exact run_enterLoop_outer _ _ _ _ _
  · simp only [resolve, hg]
    simp [go_sem]
  · intro f' hf'
    simp [Target.leads] at hf'
    subst hf'
    exact hFg
  · simp [invoke, go_sem, eg]
  refine (hseq (D + 1) (fun pre W => I pre W ∧ W.heap[D + 1]? = some (.loop (rc .ready)) ∧ W.heap[D]? = some (.deferred (some []))) W1 hb1
    (fun s A B h hs => ⟨hIs s A B h.1 hs, hSt A B _ _ hs (by omega) h.2.1 rfl, hSt A B _ _ hs (by omega) h.2.2 rfl⟩) ?_ ⟨hI1, hL1, hK1⟩).mono ?_
  · rintro pre x W ⟨hi, hl, hk⟩ hgv hlen
    have hy := run_yield (P := P) (args := encs x) hl (by rw [hrc]; exact hps x)
    rw [hrc] at hy
    refine ⟨fn, _, assign, body, hy, roundIn_of_wpIn hfn (wpIn_mono (hround (D + 1) pre x W (by omega) ⟨_, hl, rfl⟩ hi hgv hlen) ?_)⟩
    rintro e a₁ Wa hp
    cases e with
    | normal =>
      obtain ⟨hkf, hkp, hbd⟩ := hp
      have hla := hkf.same _ _ (by omega) hl rfl
      have hka := hkf.same _ _ (by omega) hk rfl
      have hlt : D + 1 < Wa.heap.size := (Array.getElem?_eq_some_iff.1 hla).1
      refine ⟨_, run_beginRound hla (by rw [hrc]), wpIn_mono (hbd _) ?_⟩
      have hl2 : (Wa.putObj (D + 1) (.loop { rc .ready with state := .busy })).heap[D + 1]? = some (.loop { rc .ready with state := .busy }) := World.putObj_heap_same hlt
      have hk2 : (Wa.putObj (D + 1) (.loop { rc .ready with state := .busy })).heap[D]? = some (.deferred (some [])) := (World.putObj_heap_other (by omega)).trans hka
      have hkp2 : Kp W (Wa.putObj (D + 1) (.loop { rc .ready with state := .busy })) := hKt hkp (hKb _ _ _ _ (by omega) hla rfl)
      rintro e2 a2 Wb hp2
      cases e2 with
      | normal =>
        obtain ⟨hkf2, hkp3, hi3⟩ := hp2
        have hl3 := hkf2.same _ _ (by omega) hl2 rfl
        have hk3 := hkf2.same _ _ (by omega) hk2 rfl
        have hend := run_endRound (P := P) none hl3
        have hl4 : (Wb.putObj (D + 1) (.loop (rc .ready))).heap[D + 1]? = some (.loop (rc .ready)) := World.putObj_heap_same (Array.getElem?_eq_some_iff.1 hl3).1
        refine ⟨_, Wb.putObj (D + 1) (.loop (rc .ready)), ?_, rfl, ⟨hI.putObj _ hi3 (by omega) hl3 rfl, hl4, (World.putObj_heap_other (by omega)).trans hk3⟩, hKt hkp2 (hKt hkp3 (hKb _ _ _ _ (by omega) hl3 rfl))⟩
        rw [hend, hrc]
        rfl
      | ret => exact hp2.2.elim
      | exit id => exact hp2.2.elim
      | goto t => exact hp2.2.elim
      | panic ch => exact hp2.elim
      | outgrown => exact hp2.elim
    | ret => exact hp.elim
    | exit id => exact hp.elim
    | goto t => exact hp.elim
    | panic ch => exact hp.elim
    | outgrown => exact hp.elim
  · rintro e W2 ⟨⟨v, rfl⟩, ys, hS, hi, hl, hk⟩
    have hend := run_endLoop (P := P) hl (by rw [hrc]; simp)
    have hpn : (rc .ready).pending = none := by rw [hrc]
    rw [hpn] at hend
    refine ⟨none, _, hend, hdone D ys W2 _ (D + 1) _ _ (by omega) (by omega) hl rfl rfl hS hi (hI.putObj _ hi (by omega) hl rfl) ((World.putObj_heap_other (by omega)).trans hk)⟩
end Go.Proofs.Ytdoidfnfhidgdaa
