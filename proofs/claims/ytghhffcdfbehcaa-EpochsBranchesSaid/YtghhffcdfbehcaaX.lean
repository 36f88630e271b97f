import Derived.Test.YtghhffcdfbehcaaW
namespace Go.Proofs.Ytghhffcdfbehcaa
open Go.RowKit

/-- a leader's own entry -/
def newE (i k : Nat) : Ent := ⟨(i : Int) + 1, -1, 0, 0, 1, 100 * (i : Int) + (k : Int)⟩
def news (i n : Nat) : List Ent := (List.range n).map (newE i)
theorem news_len (i n : Nat) : (news i n).length = n := by simp [news]
theorem news_succ (i n : Nat) : news i (n + 1) = news i n ++ [newE i n] := by simp [news, List.range_succ]

/-- logs that were copied from one another, one behind the other -/
structure Hist (L : List (List Ent)) : Prop where
  len : ∀ (j : Nat) (l : List Ent), L[j]? = some l → l.length ≤ 5 * (j + 1)
  mays : ∀ (j : Nat) (l : List Ent), L[j]? = some l → mayFrom 1 l = true ∧ ∀ e ∈ l, e.epoch ≤ (j : Int) + 1
  own : ∀ (j : Nat) (l : List Ent), L[j]? = some l → ∀ (p : Nat) (hp : p < l.length), ∃ (q : Nat) (lq : List Ent), q ≤ j ∧ L[q]? = some lq ∧ l[p].epoch = (q : Int) + 1 ∧ l.take (p + 1) = lq.take (p + 1)

theorem Hist.nil : Hist [] := ⟨fun _ _ h => by simp at h, fun _ _ h => by simp at h, fun _ _ h => by simp at h⟩

theorem mayFrom_append : ∀ (l1 l2 : List Ent) (y z : Int), mayFrom y l1 = true → (∀ e ∈ l1, e.epoch ≤ z) → y ≤ z → z ≤ 2147483647 → (∀ e ∈ l2, e.epoch = z) → mayFrom y (l1 ++ l2) = true
  | [], [], _, _, _, _, _, _, _ => rfl
  | [], e :: r, y, z, _, _, hy, hz, h2 => by
    have he := h2 e (by simp)
    rw [List.nil_append, mayFrom, he]
    have := mayFrom_append [] r z z rfl (by simp) (Int.le_refl _) hz (fun x hx => h2 x (List.mem_cons_of_mem _ hx))
    rw [List.nil_append] at this
    rw [this, Bool.and_true, decide_eq_true_iff]
    exact ⟨hy, hz⟩
  | e :: r, l2, y, z, h1, hl, hy, hz, h2 => by
    rw [mayFrom, Bool.and_eq_true, decide_eq_true_iff] at h1
    rw [List.cons_append, mayFrom, Bool.and_eq_true, decide_eq_true_iff]
    exact ⟨h1.1, mayFrom_append r l2 e.epoch z h1.2 (fun x hx => hl x (List.mem_cons_of_mem _ hx)) (hl e (by simp)) hz h2⟩

theorem Hist.snoc {L : List (List Ent)} (h : Hist L) (base : List Ent) (hb : base = [] ∨ ∃ (j : Nat) (l : List Ent) (x : Nat), L[j]? = some l ∧ base = l.take x) (n : Nat) (hn : n ≤ 5) (hL : L.length ≤ 100) : Hist (L ++ [base ++ news L.length n]) := by
  obtain ⟨i, hi⟩ : ∃ i, L.length = i := ⟨_, rfl⟩
  rw [hi] at hL ⊢
  have hold : ∀ (j : Nat) (l : List Ent), L[j]? = some l → (L ++ [base ++ news i n])[j]? = some l := fun j l hj => by
    rw [List.getElem?_append_left (List.getElem?_eq_some_iff.1 hj).1]; exact hj
  have hnew : (L ++ [base ++ news i n])[i]? = some (base ++ news i n) := by
    rw [List.getElem?_append_right (by omega), hi, Nat.sub_self]; rfl
  have hcase : ∀ (j : Nat) (l : List Ent), (L ++ [base ++ news i n])[j]? = some l → (L[j]? = some l ∧ j < i) ∨ (j = i ∧ l = base ++ news i n) := by
    intro j l hj
    by_cases hlt : j < L.length
    · left
      rw [List.getElem?_append_left hlt] at hj
      exact ⟨hj, by omega⟩
    · right
      have h1 := (List.getElem?_eq_some_iff.1 hj).1
      rw [List.length_append, List.length_singleton] at h1
      have hji : j = i := by omega
      subst hji
      rw [hnew] at hj
      exact ⟨rfl, (Option.some.inj hj).symm⟩
  -- what the base is
  have hbl : base.length ≤ 5 * i ∧ mayFrom 1 base = true ∧ (∀ e ∈ base, e.epoch ≤ (i : Int) + 1) ∧
      ∀ (p : Nat) (hp : p < base.length), ∃ (q : Nat) (lq : List Ent), q < i ∧ L[q]? = some lq ∧ base[p].epoch = (q : Int) + 1 ∧ base.take (p + 1) = lq.take (p + 1) := by
    rcases hb with rfl | ⟨j, l, x, hj, rfl⟩
    · exact ⟨Nat.zero_le _, rfl, by simp, fun p hp => by simp at hp⟩
    · have hji : j < i := by rw [← hi]; exact (List.getElem?_eq_some_iff.1 hj).1
      have h1 := h.len j l hj
      obtain ⟨h2, h3⟩ := h.mays j l hj
      refine ⟨by rw [List.length_take]; omega, mayFrom_takes x h2, fun e he => by have := h3 e (List.mem_of_mem_take he); omega, fun p hp => ?_⟩
      rw [List.length_take] at hp
      obtain ⟨q, lq, hq, hlq, he, ht⟩ := h.own j l hj p (by omega)
      refine ⟨q, lq, by omega, hlq, by rw [List.getElem_take]; exact he, ?_⟩
      rw [List.take_take, Nat.min_eq_left (by omega)]
      exact ht
  obtain ⟨b1, b2, b3, b4⟩ := hbl
  have hne : ∀ e ∈ news i n, e.epoch = (i : Int) + 1 := by
    intro e he
    obtain ⟨k, _, rfl⟩ := List.mem_map.1 he
    rfl
  refine ⟨fun j l hj => ?_, fun j l hj => ?_, fun j l hj p hp => ?_⟩
  · rcases hcase j l hj with ⟨h1, _⟩ | ⟨rfl, rfl⟩
    · exact h.len j l h1
    · rw [List.length_append, news_len]; omega
  · rcases hcase j l hj with ⟨h1, _⟩ | ⟨rfl, rfl⟩
    · exact h.mays j l h1
    · refine ⟨mayFrom_append base _ 1 ((j : Int) + 1) b2 b3 (by omega) (by omega) hne, fun e he => ?_⟩
      rcases List.mem_append.1 he with h1 | h1
      · exact b3 e h1
      · rw [hne e h1]; exact Int.le_refl _
  · rcases hcase j l hj with ⟨h1, _⟩ | ⟨rfl, rfl⟩
    · obtain ⟨q, lq, hq, hlq, he, ht⟩ := h.own j l h1 p hp
      exact ⟨q, lq, hq, hold q lq hlq, he, ht⟩
    · by_cases hpb : p < base.length
      · obtain ⟨q, lq, hq, hlq, he, ht⟩ := b4 p hpb
        refine ⟨q, lq, by omega, hold q lq hlq, by rw [List.getElem_append_left hpb]; exact he, ?_⟩
        rw [List.take_append_of_le_length (by omega)]
        exact ht
      · refine ⟨j, _, Nat.le_refl _, hnew, ?_, rfl⟩
        rw [List.getElem_append_right (by omega)]
        exact hne _ (List.getElem_mem _)

theorem take_take' {α : Type} (l : List α) {m n : Nat} (h : m ≤ n) : (l.take n).take m = l.take m := by rw [List.take_take, Nat.min_eq_left h]

theorem Hist.alike {L : List (List Ent)} (h : Hist L) {i j : Nat} {la lb : List Ent} (hi : L[i]? = some la) (hj : L[j]? = some lb) (x y : Nat) : Alike (la.take x) (lb.take y) := by
  have key : ∀ (p q : Nat) (hp : p < (la.take x).length) (hq : q < (lb.take y).length), (la.take x)[p].epoch = (lb.take y)[q].epoch →
      ∃ l : List Ent, (la.take x).take (p + 1) = l.take (p + 1) ∧ (lb.take y).take (q + 1) = l.take (q + 1) := by
    intro p q hp hq he
    rw [List.length_take] at hp hq
    rw [List.getElem_take, List.getElem_take] at he
    obtain ⟨q1, l1, _, hl1, e1, t1⟩ := h.own i la hi p (by omega)
    obtain ⟨q2, l2, _, hl2, e2, t2⟩ := h.own j lb hj q (by omega)
    have hqq : q1 = q2 := by omega
    subst hqq
    rw [hl1] at hl2
    cases hl2
    exact ⟨l1, by rw [List.take_take, Nat.min_eq_left (by omega)]; exact t1, by rw [List.take_take, Nat.min_eq_left (by omega)]; exact t2⟩
  constructor
  · intro p q hp hq he hpq
    obtain ⟨l, h1, h2⟩ := key p q hp hq he
    have := congrArg (List.take (p + 1)) h2
    rw [take_take' (lb.take y) (by omega), take_take' l (by omega)] at this
    rw [h1, this]
  · intro p q hp hq he hpq
    obtain ⟨l, h1, h2⟩ := key p q hp hq he
    have := congrArg (List.take (q + 1)) h1
    rw [take_take' (la.take x) (by omega), take_take' l (by omega)] at this
    rw [h2, this]
theorem hist_may {L : List (List Ent)} (h : Hist L) {i : Nat} {la : List Ent} (hi : L[i]? = some la) (x : Nat) (hL : L.length ≤ 8) : may (la.take x) = true := by
  have h1 := h.len i la hi
  have h2 := (List.getElem?_eq_some_iff.1 hi).1
  unfold may
  rw [Bool.and_eq_true, decide_eq_true_iff]
  exact ⟨mayFrom_takes x (h.mays i la hi).1, by rw [List.length_take]; omega⟩
end Go.Proofs.Ytghhffcdfbehcaa
