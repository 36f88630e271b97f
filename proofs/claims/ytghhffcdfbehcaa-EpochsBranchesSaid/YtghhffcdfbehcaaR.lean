import Derived.Test.YtghhffcdfbehcaaQ
namespace Go.Proofs.Ytghhffcdfbehcaa
open Go.RowKit

/-- a slice of starts below block B -/
def Sts (w : World) (B : Nat) (A : Option Addr) (ps : List (Int × Nat)) : Prop :=
  ps ≠ [] → ∃ b off, A = some ⟨b, off, none⟩ ∧ b < B ∧ ∀ k p, ps[k]? = some p → w.cell? ⟨b, off + k * 2, none⟩ = some (.int .i64 p.1) ∧ w.cell? ⟨b, off + k * 2 + 1, none⟩ = some (.int .i64 (p.2 : Nat))
theorem Sts.below {w w' : World} {B B' : Nat} {A : Option Addr} {l : List (Int × Nat)} (h : Sts w B A l) (hb : Below B' w w') (hB : B ≤ B') : Sts w' B A l := by
  intro hl
  obtain ⟨b, off, hA, hlt, hc⟩ := h hl
  exact ⟨b, off, hA, hlt, fun k p he => ⟨(hb.cell (p := ⟨b, off + k * 2, none⟩) (by show b < B'; omega)).trans (hc k p he).1, (hb.cell (p := ⟨b, off + k * 2 + 1, none⟩) (by show b < B'; omega)).trans (hc k p he).2⟩⟩
theorem Sts.mono {w : World} {B B' : Nat} {A : Option Addr} {l : List (Int × Nat)} (h : Sts w B A l) (hB : B ≤ B') : Sts w B' A l := by
  intro hl
  obtain ⟨b, off, hA, hlt, hc⟩ := h hl
  exact ⟨b, off, hA, by omega, hc⟩
theorem Sts.grow {w w' : World} {A : Option Addr} {l : List (Int × Nat)} (h : Sts w w.heap.size A l) (hb : Below w.heap.size w w') : Sts w' w'.heap.size A l :=
  (h.below hb (Nat.le_refl _)).mono hb.size
theorem Sts.at_ {w : World} {B : Nat} {A : Option Addr} {l : List (Int × Nat)} (h : Sts w B A l) {k : Nat} {p : Int × Nat} (hk : l[k]? = some p) : ∃ b off, A = some ⟨b, off, none⟩ ∧ w.cell? ⟨b, off + k * 2, none⟩ = some (.int .i64 p.1) ∧ w.cell? ⟨b, off + k * 2 + 1, none⟩ = some (.int .i64 (p.2 : Nat)) := by
  obtain ⟨b, off, hA, hlt, hc⟩ := h (by intro e; subst e; simp at hk)
  exact ⟨b, off, hA, hc k p hk⟩

theorem stCells_at (l : List (Int × Nat)) : ∀ (k j : Nat) (e : Int × Nat), l[k]? = some e → j < 2 → (l.flatMap stCells)[k * 2 + j]? = (stCells e)[j]? := by
  induction l with
  | nil => intro k j e h; simp at h
  | cons x r ih =>
    intro k j e h hj
    have h6 : (stCells x).length = 2 := rfl
    cases k with
    | zero =>
      obtain rfl : x = e := by simpa using h
      rw [List.flatMap_cons, List.getElem?_append_left (by omega)]
      simp
    | succ k =>
      rw [List.flatMap_cons, List.getElem?_append_right (by omega), h6, show (k + 1) * 2 + j - 2 = k * 2 + j by omega]
      exact ih k j e (by simpa using h) hj

theorem Sts.of_own {w : World} {base : Nat} {v : Value} {l : List (Int × Nat)} (h : w.ownsRow base 40 2 v l.length (l.flatMap stCells)) : ∃ A c, v = .slice A l.length c ∧ l.length ≤ c ∧ Sts w w.heap.size A l := by
  by_cases hl : l = []
  · subst hl
    rcases h.2 with ⟨rfl, _⟩ | ⟨g, cap, cur, rfl, _⟩
    · exact ⟨none, 0, rfl, Nat.le_refl _, fun h => absurd rfl h⟩
    · exact ⟨_, cap, rfl, Nat.zero_le _, fun h => absurd rfl h⟩
  · rcases h.2 with ⟨_, h0⟩ | ⟨g, cap, cur, rfl, _, hg, hcap, _⟩
    · exact absurd (List.eq_nil_of_length_eq_zero h0) hl
    · refine ⟨_, cap, rfl, hcap, fun _ => ⟨g, 0, rfl, (Array.getElem?_eq_some_iff.1 hg).1, fun k p hk => ?_⟩⟩
      have hc := h.cells (g := g) rfl
      have hat : ∀ j u, (stCells p)[j]? = some u → j < 2 → w.cell? ⟨g, 0 + k * 2 + j, none⟩ = some u := by
        intro j u hu hj
        have := hc (k * 2 + j) u (by rw [stCells_at l k j p hk hj]; exact hu)
        rw [addr_add] at this
        rw [show 0 + k * 2 + j = k * 2 + j by omega]
        exact this
      exact ⟨hat 0 _ rfl (by omega), hat 1 _ rfl (by omega)⟩

/-- what epochs.Starts answers -/
def stNo (l : List Ent) : Int := if may l then 0 else 2
def stAns (l : List Ent) : List (Int × Nat) := if may l then stFrom 0 0 l else []
theorem may_len {l : List Ent} (h : may l = true) : l.length ≤ 4096 := by
  unfold may at h
  simp at h
  exact h.2
theorem Starts_any (A : Option Addr) (l : List Ent) (c : Nat) (w : World) (hl : Ents w w.heap.size A l) (hm : l.length ≤ 9223372036854775807) :
    Calls Try.prog 15 #[.slice A l.length c] w fun e w' => ∃ A' c', e = .returned (.tuple #[.slice A' (stAns l).length c', .int .i64 (stNo l)]) ∧ (stAns l).length ≤ c' ∧ Sts w' w'.heap.size A' (stAns l) ∧ Below w.heap.size w w' := by
  unfold stNo stAns
  cases h : may l with
  | false =>
    refine (Starts_no A l c w hl hm h).mono ?_
    rintro e w1 ⟨rfl, hb⟩
    exact ⟨none, 0, rfl, Nat.le_refl _, fun h => absurd rfl h, hb⟩
  | true =>
    refine (Starts_yes A l c w hl (by have := may_len h; omega) h).mono ?_
    rintro e w1 ⟨v, rfl, hown, hb⟩
    obtain ⟨A', c', rfl, hc, hs⟩ := Sts.of_own hown
    exact ⟨A', c', rfl, hc, hs, hb⟩

/-! the plain law -/
theorem stFrom_ge (l : List Ent) : ∀ (x : Int) (k : Nat) (p : Int × Nat), p ∈ stFrom x k l → k ≤ p.2 := by
  induction l with
  | nil => intro x k p h; simp [stFrom] at h
  | cons e r ih =>
    intro x k p h
    rw [stFrom] at h
    split at h
    · have := ih x (k + 1) p h; omega
    · rcases List.mem_cons.1 h with rfl | h
      · exact Nat.le_refl _
      · have := ih e.epoch (k + 1) p h; omega

/-- where the law's loop stands: m starts are behind it, i entries, x is the last epoch -/
structure Stand (S : List (Int × Nat)) (l : List Ent) (i m : Nat) (x : Int) : Prop where
  rest : S.drop m = stFrom x i (l.drop i)
  le : m ≤ S.length
  zero : m = 0 → i = 0 ∧ x = 0
  last : ∀ j, m = j + 1 → ∃ t, S[j]? = some (x, t)
theorem Stand.start (l : List Ent) : Stand (stFrom 0 0 l) l 0 0 0 := ⟨by simp, Nat.zero_le _, fun _ => ⟨rfl, rfl⟩, fun j h => by omega⟩
theorem Stand.new {S : List (Int × Nat)} {l : List Ent} {i m : Nat} {x : Int} (h : Stand S l i m x) (hi : i < l.length) (he : ¬ l[i].epoch = x) : S[m]? = some (l[i].epoch, i) ∧ Stand S l (i + 1) (m + 1) l[i].epoch := by
  have hr := h.rest
  rw [stFrom_new hi he] at hr
  have hm : m < S.length := by
    apply Nat.lt_of_not_le
    intro hle
    rw [List.drop_eq_nil_of_le hle] at hr
    cases hr
  rw [List.drop_eq_getElem_cons hm] at hr
  injection hr with h1 h2
  have h3 : S[m]? = some (l[i].epoch, i) := by rw [List.getElem?_eq_getElem hm, h1]
  exact ⟨h3, h2, hm, fun h => by omega, fun j hj => by
    obtain rfl : m = j := by omega
    exact ⟨i, h3⟩⟩
theorem Stand.same {S : List (Int × Nat)} {l : List Ent} {i m : Nat} {x : Int} (h : Stand S l i m x) (hi : i < l.length) (he : l[i].epoch = x) (h1 : 1 ≤ l[i].epoch) : (∀ p, S[m]? = some p → i < p.2) ∧ (∃ j t, m = j + 1 ∧ S[j]? = some (x, t)) ∧ Stand S l (i + 1) m x := by
  have hr := h.rest
  rw [← he, stFrom_same hi rfl, he] at hr
  have hm : m ≠ 0 := fun h0 => by have := (h.zero h0).2; omega
  obtain ⟨j, rfl⟩ : ∃ j, m = j + 1 := ⟨m - 1, by omega⟩
  obtain ⟨t, ht⟩ := h.last j rfl
  refine ⟨fun p hp => ?_, ⟨j, t, rfl, ht⟩, ⟨hr, h.le, fun h0 => by omega, h.last⟩⟩
  have hlt := (List.getElem?_eq_some_iff.1 hp).1
  have : p ∈ stFrom x (i + 1) (l.drop (i + 1)) := by
    rw [← hr]
    refine List.mem_of_getElem? (i := 0) ?_
    rw [List.getElem?_drop]
    exact hp
  have := stFrom_ge _ _ _ _ this
  omega
theorem Stand.done {S : List (Int × Nat)} {l : List Ent} {m : Nat} {x : Int} (h : Stand S l l.length m x) : m = S.length := by
  have hr := h.rest
  rw [List.drop_eq_nil_of_le (Nat.le_refl _)] at hr
  have := congrArg List.length hr
  simp [stFrom] at this
  have := h.le
  omega
theorem may_pos {l : List Ent} (h : may l = true) : ∀ (i : Nat) (hi : i < l.length), 1 ≤ l[i].epoch := by
  have key : ∀ (l : List Ent) (x : Int), 1 ≤ x → mayFrom x l = true → ∀ (i : Nat) (hi : i < l.length), 1 ≤ l[i].epoch := by
    intro l
    induction l with
    | nil => intro x _ _ i hi; simp at hi
    | cons e r ih =>
      intro x hx h i hi
      simp [mayFrom] at h
      cases i with
      | zero => show 1 ≤ e.epoch; omega
      | succ i => exact ih e.epoch (by omega) h.2 i (by simpa using hi)
  unfold may at h
  simp at h
  exact key l 1 (by omega) h.1

set_option maxRecDepth 100000 in
set_option maxHeartbeats 1000000 in
theorem starts_big (A : Option Addr) (zs : List Int) (c : Nat) (w : World) (hz : Ints w w.heap.size A zs) (hm : zs.length ≤ 1048576)
    (h : 60 < zs.length ∨ may (logE zs) = false) :
    Calls Try.prog 5 #[.slice A zs.length c] w fun e w' => e = .returned (.bool true) ∧ Below w.heap.size w w' := by
  have HLL := Lib.hid (logE_length zs)
  go_enter Try.func5, Try.ntmps5
  go_wp2_with fail
  refine (log_any A zs c w hz hm).mono ?_
  rintro e w1 ⟨A1, c1, rfl, hc1, he1, hb1⟩
  have hst := Starts_any A1 (logE zs) c1 w1 he1 (by rw [HLL.out]; omega)
  rw [HLL.out] at hst
  obtain ⟨no, hno⟩ : ∃ s, stNo (logE zs) = s := ⟨_, rfl⟩
  obtain ⟨an, han⟩ : ∃ s, stAns (logE zs) = s := ⟨_, rfl⟩
  rw [hno, han] at hst
  have hnb : 60 < zs.length ∨ no = 2 := by
    rcases h with h | h
    · exact .inl h
    · exact .inr (by rw [← hno, stNo, h]; rfl)
  have HD := Lib.hid hst
  clear hst hno han h
  go_wp2_with fail
  refine HD.out.mono ?_
  rintro e w2 ⟨A2, c2, rfl, hc2, hs2, hb2⟩
  have hb : Below w.heap.size w w2 := hb1.trans (hb2.mono hb1.size)
  clear hb1 hb2 hs2
  by_cases h60 : 60 < zs.length
  · go_wp2_with fail
    refine (known_any w2).mono ?_
    rintro e w4 ⟨rfl, hb4⟩
    go_wp2
    go_ret
    exact ⟨rfl, hb.trans (hb4.mono hb.size)⟩
  · obtain rfl : no = 2 := hnb.resolve_left h60
    go_wp2_with fail
    refine (known_any w2).mono ?_
    rintro e w4 ⟨rfl, hb4⟩
    go_wp2
    go_ret
    exact ⟨rfl, hb.trans (hb4.mono hb.size)⟩
end Go.Proofs.Ytghhffcdfbehcaa
