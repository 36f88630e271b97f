import Derived.Test.YtghhffcdfbehcaaE
namespace Go.Proofs.Ytghhffcdfbehcaa
open Go.RowKit

/-! ### plain facts -/
theorem mayFrom_ge {l : List Ent} : ∀ {y : Int}, mayFrom y l = true → ∀ k (hk : k < l.length), y ≤ l[k].epoch := by
  induction l with
  | nil => intro y _ k hk; simp at hk
  | cons e r ih =>
    intro y h k hk
    simp only [mayFrom, Bool.and_eq_true, decide_eq_true_eq] at h
    cases k with
    | zero => exact h.1.1
    | succ k => have := ih h.2 k (by simpa using hk); simp only [List.getElem_cons_succ]; omega

theorem above_iff {l : List Ent} (x : Int) : ∀ {y : Int}, mayFrom y l = true → ∀ k (hk : k < l.length), l[k].epoch ≤ x ↔ k < aboveN x l := by
  induction l with
  | nil => intro y _ k hk; simp at hk
  | cons e r ih =>
    intro y h k hk
    simp only [mayFrom, Bool.and_eq_true, decide_eq_true_eq] at h
    simp only [aboveN]
    split
    · have hge : e.epoch ≤ (e :: r)[k].epoch := by
        cases k with
        | zero => exact Int.le_refl _
        | succ k => exact mayFrom_ge h.2 k (by simpa using hk)
      constructor
      · intro hx; omega
      · intro hx; omega
    · cases k with
      | zero => simp; omega
      | succ k => rw [List.getElem_cons_succ, ih h.2 k (by simpa using hk)]; omega

theorem may_from {l : List Ent} (h : may l = true) : mayFrom 1 l = true := by simp [may] at h; exact h.1

theorem lastE_take {l : List Ent} {n : Nat} (h0 : 0 < n) (h : n ≤ l.length) : lastE (l.take n) = (l[n - 1]'(by omega)).epoch := by
  have ht := take_len h
  rw [lastE_eq (by omega)]
  simp only [ht, List.getElem_take]

/-! ### what End and Cut answer, in one word -/
def endOk (l : List Ent) (x : Int) : Bool := decide (0 ≤ x) && may l
def endX (l : List Ent) (x : Int) : Int := if endOk l x = true then lastE (l.take (aboveN x l)) else 0
def endN (l : List Ent) (x : Int) : Int := if endOk l x = true then (aboveN x l : Nat) else 0
def endE (l : List Ent) (x : Int) : Int := if endOk l x = true then 0 else 2

theorem End_any (A : Option Addr) (l : List Ent) (c : Nat) (x : Int) (w : World) (hl : Ents w w.heap.size A l) (hm : l.length ≤ 9223372036854775807) (hlc : l.length ≤ c) :
    Calls Try.prog 10 #[.slice A l.length c, .int .i64 x] w fun e w' => e = .returned (.tuple #[.int .i64 (endX l x), .int .i64 (endN l x), .int .i64 (endE l x)]) ∧ Below w.heap.size w w' := by
  unfold endX endN endE
  by_cases h : endOk l x = true
  · have h2 := h
    simp [endOk] at h2
    rw [if_pos h, if_pos h, if_pos h]
    exact End_yes A l c x w hl hm hlc h2.1 h2.2
  · rw [if_neg h, if_neg h, if_neg h]
    refine End_no A l c x w hl hm ?_
    simp [endOk] at h
    by_cases hx : x < 0
    · exact .inl hx
    · exact .inr (h (by omega))

def cutOk (l : List Ent) (x n : Int) : Bool := decide (0 ≤ x) && decide (0 ≤ n) && may l
def cutN (l : List Ent) (x n : Int) : Int := if cutOk l x n = true then min n (aboveN x l : Nat) else 0
def cutE (l : List Ent) (x n : Int) : Int := if cutOk l x n = true then 0 else 2

theorem Cut_any (A : Option Addr) (l : List Ent) (c : Nat) (x n : Int) (w : World) (hl : Ents w w.heap.size A l) (hm : l.length ≤ 9223372036854775807) (hn2 : n ≤ 9223372036854775807) :
    Calls Try.prog 11 #[.slice A l.length c, .int .i64 x, .int .i64 n] w fun e w' => e = .returned (.tuple #[.int .i64 (cutN l x n), .int .i64 (cutE l x n)]) ∧ Below w.heap.size w w' := by
  unfold cutN cutE
  by_cases h : cutOk l x n = true
  · have h2 := h
    simp [cutOk] at h2
    rw [if_pos h, if_pos h]
    exact Cut_yes A l c x n w hl hm h2.1.1 h2.1.2 hn2 h2.2
  · rw [if_neg h, if_neg h]
    refine Cut_no A l c x n w hl hm ?_
    simp [cutOk] at h
    by_cases hx : x < 0
    · exact .inl hx
    · by_cases hn : n < 0
      · exact .inr (.inl hn)
      · exact .inr (.inr (h (by omega) (by omega)))
end Go.Proofs.Ytghhffcdfbehcaa
