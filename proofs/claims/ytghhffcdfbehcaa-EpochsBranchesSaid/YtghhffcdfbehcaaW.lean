import Derived.Test.YtghhffcdfbehcaaR
namespace Go.Proofs.Ytghhffcdfbehcaa
open Go.RowKit

theorem Ent.eq_iff (a b : Ent) : a = b ↔ a.epoch = b.epoch ∧ a.id = b.id ∧ a.num = b.num ∧ a.seq = b.seq ∧ a.kind = b.kind ∧ a.value = b.value := by
  constructor
  · rintro rfl; exact ⟨rfl, rfl, rfl, rfl, rfl, rfl⟩
  · obtain ⟨a1, a2, a3, a4, a5, a6⟩ := a
    obtain ⟨b1, b2, b3, b4, b5, b6⟩ := b
    rintro ⟨h1, h2, h3, h4, h5, h6⟩
    simp only at h1 h2 h3 h4 h5 h6
    subst h1 h2 h3 h4 h5 h6
    rfl
instance (a b : Ent) : Decidable (a = b) := decidable_of_iff _ (Ent.eq_iff a b).symm

/-- how many entries two logs begin with alike -/
def sameN : List Ent → List Ent → Nat
  | x :: a, y :: b => if x = y then sameN a b + 1 else 0
  | _, _ => 0
theorem sameN_le : ∀ a b : List Ent, sameN a b ≤ a.length ∧ sameN a b ≤ b.length
  | [], _ => by simp [sameN]
  | _ :: _, [] => by simp [sameN]
  | x :: a, y :: b => by
    have h := sameN_le a b
    rw [sameN]
    split
    · simp only [List.length_cons]; omega
    · omega
theorem sameN_take : ∀ a b : List Ent, a.take (sameN a b) = b.take (sameN a b)
  | [], _ => by simp [sameN]
  | _ :: _, [] => by simp [sameN]
  | x :: a, y :: b => by
    rw [sameN]
    split
    · next h => rw [List.take_succ_cons, List.take_succ_cons, h, sameN_take a b]
    · rfl
theorem sameN_ge : ∀ (a b : List Ent) (n : Nat), n ≤ a.length → n ≤ b.length → a.take n = b.take n → n ≤ sameN a b
  | [], _, n, h, _, _ => by simp at h; omega
  | _ :: _, [], n, _, h, _ => by simp at h; omega
  | x :: a, y :: b, 0, _, _, _ => Nat.zero_le _
  | x :: a, y :: b, n + 1, h1, h2, h => by
    rw [List.take_succ_cons, List.take_succ_cons] at h
    injection h with h3 h4
    rw [sameN, if_pos h3]
    have := sameN_ge a b n (by simpa using h1) (by simpa using h2) h4
    omega
/-- the walk's own step -/
theorem sameN_step (a b : List Ent) (k : Nat) (ha : k < a.length) (hb : k < b.length) (hk : k ≤ sameN a b) : (a[k] = b[k] → k + 1 ≤ sameN a b) ∧ (a[k] ≠ b[k] → sameN a b = k) := by
  have ht : a.take k = b.take k := by
    have h := congrArg (List.take k) (sameN_take a b)
    rwa [List.take_take, List.take_take, Nat.min_eq_left hk] at h
  constructor
  · intro h
    refine sameN_ge a b (k + 1) ha hb ?_
    rw [List.take_succ_eq_append_getElem ha, List.take_succ_eq_append_getElem hb, ht, h]
  · intro h
    have hle := sameN_le a b
    by_cases hlt : k < sameN a b
    · exfalso
      apply h
      have h2 := congrArg (fun l => l[k]?) (sameN_take a b)
      simp only [List.getElem?_take, if_pos hlt, List.getElem?_eq_getElem ha, List.getElem?_eq_getElem hb] at h2
      exact Option.some.inj h2
    · omega
theorem sameN_end (a b : List Ent) (k : Nat) (hk : k ≤ sameN a b) (h : a.length ≤ k ∨ b.length ≤ k) : sameN a b = k := by
  have := sameN_le a b
  omega

/-- logs that hold an entry of one epoch are alike up to the one that stands ahead -/
def Alike (a b : List Ent) : Prop := (∀ (p q : Nat) (hp : p < a.length) (hq : q < b.length), a[p].epoch = b[q].epoch → p ≤ q → a.take (p + 1) = b.take (p + 1)) ∧
  (∀ (p q : Nat) (hp : p < a.length) (hq : q < b.length), a[p].epoch = b[q].epoch → q ≤ p → a.take (q + 1) = b.take (q + 1))

/-! ### runs -/
def runs (l : List Ent) : Nat := (stFrom 0 0 l).length
def lastFrom (x : Int) (l : List Ent) : Int := match l.getLast? with | some e => e.epoch | none => x
theorem lastFrom_zero (l : List Ent) : lastFrom 0 l = lastE l := by
  cases l with
  | nil => rfl
  | cons e r => simp [lastFrom, lastE, List.getLast?_cons]
theorem stFrom_append : ∀ (l1 l2 : List Ent) (x : Int) (k : Nat), stFrom x k (l1 ++ l2) = stFrom x k l1 ++ stFrom (lastFrom x l1) (k + l1.length) l2
  | [], l2, x, k => by simp [stFrom, lastFrom]
  | e :: r, l2, x, k => by
    have hl : ∀ y, lastFrom y (e :: r) = lastFrom e.epoch r := by
      intro y
      cases r with
      | nil => simp [lastFrom]
      | cons f t => simp [lastFrom, List.getLast?_cons]
    have hk : k + (e :: r).length = k + 1 + r.length := by simp only [List.length_cons]; omega
    rw [hl, hk, List.cons_append, stFrom, stFrom]
    split
    · next h => rw [stFrom_append r l2 x (k + 1), h]
    · rw [stFrom_append r l2 e.epoch (k + 1), List.cons_append]
theorem stFrom_nil : ∀ (l : List Ent) (x : Int) (k : Nat), stFrom x k l = [] → ∀ e ∈ l, e.epoch = x
  | [], _, _, _ => by simp
  | e :: r, x, k, h => by
    rw [stFrom] at h
    split at h
    · next he =>
      intro f hf
      rcases List.mem_cons.1 hf with rfl | hf
      · exact he
      · exact stFrom_nil r x (k + 1) h f hf
    · cases h
theorem runs_le (l : List Ent) {m n : Nat} (h : m ≤ n) : runs (l.take m) ≤ runs (l.take n) := by
  have : l.take n = l.take m ++ (l.take n).drop m := by
    conv => lhs; rw [← List.take_append_drop m (l.take n), List.take_take, Nat.min_eq_left h]
  unfold runs
  rw [this, stFrom_append, List.length_append]
  omega
theorem runs_lt (l : List Ent) {m n : Nat} (h : m < n) (hn : n ≤ l.length) (hne : lastE (l.take m) ≠ lastE (l.take n)) : runs (l.take m) < runs (l.take n) := by
  have hs : l.take n = l.take m ++ (l.take n).drop m := by
    conv => lhs; rw [← List.take_append_drop m (l.take n), List.take_take, Nat.min_eq_left (Nat.le_of_lt h)]
  have hd : ((l.take n).drop m).length = n - m := by rw [List.length_drop, List.length_take]; omega
  unfold runs
  rw [hs, stFrom_append, List.length_append, lastFrom_zero]
  have hpos : 0 < (stFrom (lastE (l.take m)) (0 + (l.take m).length) ((l.take n).drop m)).length := by
    rw [List.length_pos_iff]
    intro h0
    have hall := stFrom_nil _ _ _ h0
    apply hne
    have hmem : l[n - 1]'(by omega) ∈ (l.take n).drop m := by
      rw [List.mem_iff_getElem]
      refine ⟨n - 1 - m, by omega, ?_⟩
      rw [List.getElem_drop, List.getElem_take]
      congr 1
      omega
    rw [lastE_take (by omega) hn, hall _ hmem]
  omega
theorem runs_pos (l : List Ent) {n : Nat} (h : 1 ≤ n) (hn : n ≤ l.length) (h1 : lastE (l.take n) ≠ 0) : 1 ≤ runs (l.take n) := by
  have := runs_lt l (m := 0) (n := n) (by omega) hn (by rw [List.take_zero]; exact fun h => h1 h.symm)
  omega

theorem mayFrom_mono {l : List Ent} {y : Int} (h : mayFrom y l = true) {p q : Nat} (hpq : p ≤ q) (hq : q < l.length) : l[p].epoch ≤ l[q].epoch := by
  have := (above_iff (x := l[q].epoch) h q hq).1 (Int.le_refl _)
  exact (above_iff (x := l[q].epoch) h p (by omega)).2 (by omega)
theorem mayFrom_takes {l : List Ent} : ∀ {y : Int} (n : Nat), mayFrom y l = true → mayFrom y (l.take n) = true := by
  induction l with
  | nil => intro y n _; simp [mayFrom]
  | cons e r ih =>
    intro y n h
    cases n with
    | zero => simp [mayFrom]
    | succ n =>
      simp only [mayFrom, Bool.and_eq_true] at h
      simp only [List.take_succ_cons, mayFrom, Bool.and_eq_true]
      exact ⟨h.1, ih n h.2⟩

theorem meetF_same {a b : List Ent} (h1 : mayFrom 1 a = true) (h2 : mayFrom 1 b = true) (hA : Alike a b) (R : Nat) :
    ∀ f n o : Nat, n ≤ f → sameN a b ≤ n → n ≤ b.length → (o + runs (b.take n) ≤ R ∨ (meets a b n = true ∧ 1 ≤ n ∧ o + runs (b.take n) ≤ R + 1)) →
      (meetF a b f n o).1 = sameN a b ∧ (meetF a b f n o).2 ≤ R := by
  have hp1 : ∀ k (hk : k < a.length), 1 ≤ a[k].epoch := fun k hk => mayFrom_ge h1 k hk
  have hp2 : ∀ k (hk : k < b.length), 1 ≤ b[k].epoch := fun k hk => mayFrom_ge h2 k hk
  have hfin : ∀ n, sameN a b ≤ n → n ≤ b.length → meets a b n = true → n = sameN a b := by
    intro n hs hn hm
    by_cases h0 : n = 0
    · have := sameN_le a b; omega
    unfold meets fitsB at hm
    simp only [Bool.and_eq_true, decide_eq_true_iff, beq_iff_eq] at hm
    obtain ⟨m1, m2⟩ := hm
    rw [lastE_take (by omega) m1, lastE_take (by omega) hn] at m2
    have := hA.1 (n - 1) (n - 1) (by omega) (by omega) m2 (Nat.le_refl _)
    rw [show n - 1 + 1 = n by omega] at this
    have := sameN_ge a b n m1 hn this
    omega
  intro f
  induction f with
  | zero =>
    intro n o hf hs hn hc
    obtain rfl : n = 0 := by omega
    refine ⟨by show (0 : Nat) = _; omega, ?_⟩
    show o ≤ R
    rcases hc with h | ⟨_, h, _⟩ <;> omega
  | succ f ih =>
    intro n o hf hs hn hc
    by_cases hm : meets a b n = true
    · rw [meetF_fits hm]
      refine ⟨hfin n hs hn hm, ?_⟩
      show o ≤ R
      rcases hc with h | ⟨_, h, h3⟩
      · omega
      · have := runs_pos b h hn (by rw [lastE_take (by omega) hn]; have := hp2 (n - 1) (by omega); omega)
        omega
    · have hn0 : n ≠ 0 := fun e => hm (by rw [e]; exact meets_zero _ _)
      replace hc : o + runs (b.take n) ≤ R := by
        rcases hc with hc | ⟨h, _⟩
        · exact hc
        · exact absurd h hm
      rw [meetF, if_neg hm]
      have hlt := nearer_lt hm
      -- the epoch at the end, and the leader's end of it
      obtain ⟨e, he⟩ : ∃ e, lastE (b.take n) = e := ⟨_, rfl⟩
      have heb : (b[n - 1]'(by omega)).epoch = e := by rw [← he, lastE_take (by omega) hn]
      obtain ⟨E, hE⟩ : ∃ E, aboveN e a = E := ⟨_, rfl⟩
      have hEa : E ≤ a.length := by rw [← hE]; exact aboveN_le _ _
      have hEi : ∀ k (hk : k < a.length), a[k].epoch ≤ e ↔ k < E := by
        intro k hk; rw [← hE]; exact above_iff e h1 k hk
      obtain ⟨x, hx⟩ : ∃ x, lastE (a.take E) = x := ⟨_, rfl⟩
      have hnear : nearer a b n = min (min E (aboveN x (b.take n))) (n - 1) := by unfold nearer endOf; rw [he, hE, hx]
      have hbn := mayFrom_takes n h2
      have hbl : (b.take n).length = n := by rw [List.length_take]; omega
      have hXi : ∀ k (hk : k < n), b[k].epoch ≤ x ↔ k < aboveN x (b.take n) := by
        intro k hk
        have := above_iff x hbn k (by omega)
        rwa [List.getElem_take] at this
      have hXl : aboveN x (b.take n) ≤ n := by have := aboveN_le x (b.take n); omega
      have hxe : x ≤ e := by
        rw [← hx]
        by_cases h0 : E = 0
        · rw [h0, List.take_zero]; have := hp2 (n - 1) (by omega); show (0 : Int) ≤ e; omega
        · rw [lastE_take (by omega) hEa]; exact (hEi (E - 1) (by omega)).2 (by omega)
      -- what is alike stays
      have hsE : sameN a b ≤ E := by
        by_cases h0 : sameN a b = 0
        · omega
        have hl := sameN_le a b
        have h3 := congrArg (fun l => l[sameN a b - 1]?) (sameN_take a b)
        simp only [List.getElem?_take, if_pos (show sameN a b - 1 < sameN a b by omega), List.getElem?_eq_getElem (show sameN a b - 1 < a.length by omega), List.getElem?_eq_getElem (show sameN a b - 1 < b.length by omega)] at h3
        have h4 := Option.some.inj h3
        have h5 := mayFrom_mono h2 (show sameN a b - 1 ≤ n - 1 by omega) (by omega)
        rw [← h4, heb] at h5
        have := (hEi (sameN a b - 1) (by omega)).1 h5
        omega
      have hsX : sameN a b ≤ aboveN x (b.take n) := by
        by_cases h0 : sameN a b = 0
        · omega
        have hl := sameN_le a b
        have h3 := congrArg (fun l => l[sameN a b - 1]?) (sameN_take a b)
        simp only [List.getElem?_take, if_pos (show sameN a b - 1 < sameN a b by omega), List.getElem?_eq_getElem (show sameN a b - 1 < a.length by omega), List.getElem?_eq_getElem (show sameN a b - 1 < b.length by omega)] at h3
        have h4 := Option.some.inj h3
        have h5 := mayFrom_mono h1 (show sameN a b - 1 ≤ E - 1 by omega) (by omega)
        have h6 : (a[E - 1]'(by omega)).epoch = x := by rw [← hx, lastE_take (by omega) hEa]
        rw [h4, h6] at h5
        have := (hXi (sameN a b - 1) (by omega)).1 h5
        omega
      have hsn : sameN a b ≤ n - 1 := by
        by_cases h0 : sameN a b = n
        · exfalso
          apply hm
          unfold meets fitsB
          have hl := sameN_le a b
          have ht := sameN_take a b
          rw [h0] at ht
          simp only [Bool.and_eq_true, decide_eq_true_iff, beq_iff_eq]
          exact ⟨by omega, by rw [ht]⟩
        · omega
      have hsN : sameN a b ≤ nearer a b n := by rw [hnear]; omega
      refine ih (nearer a b n) (o + 1) (by omega) hsN (by omega) ?_
      by_cases hxe2 : x = e
      · -- the epoch is the leader's too: it fits now
        right
        have he1 : 1 ≤ e := by rw [← heb]; exact hp2 (n - 1) (by omega)
        have hE0 : E ≠ 0 := by
          intro h0
          rw [h0, List.take_zero] at hx
          have : (0 : Int) = x := hx
          omega
        have haX : (a[E - 1]'(by omega)).epoch = x := by rw [← hx, lastE_take (by omega) hEa]
        have haE : (a[E - 1]'(by omega)).epoch = e := haX.trans hxe2
        have hEn : E < n := by
          by_cases hge : n ≤ E
          · exfalso
            apply hm
            have ht := hA.2 (E - 1) (n - 1) (by omega) (by omega) (by rw [haE, heb]) (by omega)
            rw [show n - 1 + 1 = n by omega] at ht
            unfold meets fitsB
            simp only [Bool.and_eq_true, decide_eq_true_iff, beq_iff_eq]
            exact ⟨by omega, by rw [ht]⟩
          · omega
        have hX : aboveN x (b.take n) = n := by
          have := (hXi (n - 1) (by omega)).1 (by rw [hxe2, heb]; exact Int.le_refl _)
          omega
        have hN : nearer a b n = E := by rw [hnear, hX]; omega
        rw [hN]
        have ht := hA.1 (E - 1) (n - 1) (by omega) (by omega) (by rw [haE, heb]) (by omega)
        rw [show E - 1 + 1 = E by omega] at ht
        refine ⟨?_, by omega, ?_⟩
        · unfold meets fitsB
          simp only [Bool.and_eq_true, decide_eq_true_iff, beq_iff_eq]
          exact ⟨hEa, by rw [ht]⟩
        · have := runs_le b (show E ≤ n by omega)
          omega
      · -- an epoch is left behind
        left
        have hlast : lastE (b.take (nearer a b n)) ≠ lastE (b.take n) := by
          rw [he]
          by_cases h0 : nearer a b n = 0
          · rw [h0, List.take_zero]
            have := hp2 (n - 1) (by omega)
            show (0 : Int) ≠ e
            omega
          · rw [lastE_take (by omega) (by omega)]
            have := (hXi (nearer a b n - 1) (by omega)).2 (by rw [hnear] at h0 ⊢; omega)
            omega
        have := runs_lt b hlt hn hlast
        omega

/-- what is kept of logs that are alike so -/
theorem meetN_same {a b : List Ent} (h1 : mayFrom 1 a = true) (h2 : mayFrom 1 b = true) (hA : Alike a b) : (meetN a b).1 = sameN a b ∧ (meetN a b).2 ≤ (stFrom 0 0 b).length := by
  refine meetF_same h1 h2 hA _ b.length b.length 0 (Nat.le_refl _) (sameN_le a b).2 (Nat.le_refl _) (.inl ?_)
  rw [List.take_length]
  unfold runs
  omega
end Go.Proofs.Ytghhffcdfbehcaa
