/- the plain law of the sum: words, bytes, bits that are turned -/
namespace Crc

def poly : Nat := 2197175160

/-- one step of the word -/
def step (x : Nat) : Nat := if x % 2 = 1 then x / 2 ^^^ poly else x / 2

def steps : Nat → Nat → Nat
  | 0, x => x
  | k + 1, x => steps k (step x)

theorem steps_add (a b x : Nat) : steps (a + b) x = steps b (steps a x) := by
  induction a generalizing x with
  | zero => simp [steps]
  | succ a ih => rw [Nat.succ_add]; simp only [steps]; exact ih _

theorem steps_succ (k x : Nat) : steps (k + 1) x = step (steps k x) := by
  rw [steps_add]; rfl

theorem step_lt {x : Nat} (h : x < 4294967296) : step x < 4294967296 := by
  unfold step
  split
  · exact Nat.xor_lt_two_pow (n := 32) (by omega) (by decide)
  · omega

theorem steps_lt (k : Nat) : ∀ {x : Nat}, x < 4294967296 → steps k x < 4294967296 := by
  induction k with
  | zero => exact fun h => h
  | succ k ih => exact fun h => ih (step_lt h)

theorem xor_mod_two (a b : Nat) : (a ^^^ b) % 2 = (a + b) % 2 := by
  have h : (a ^^^ b) % 2 = (a % 2) ^^^ (b % 2) := Nat.xor_mod_two_pow (n := 1)
  rw [h]
  rcases Nat.mod_two_eq_zero_or_one a with ha | ha <;> rcases Nat.mod_two_eq_zero_or_one b with hb | hb <;> rw [ha, hb] <;> simp <;> omega

theorem step_xor (a b : Nat) : step (a ^^^ b) = step a ^^^ step b := by
  have h2 : (a ^^^ b) / 2 = a / 2 ^^^ b / 2 := Nat.xor_div_two
  have h1 : (a ^^^ b) % 2 = (a + b) % 2 := xor_mod_two a b
  unfold step
  rw [h2, h1]
  by_cases ha : a % 2 = 1 <;> by_cases hb : b % 2 = 1
  · rw [if_pos ha, if_pos hb, if_neg (by omega)]
    rw [Nat.xor_assoc, Nat.xor_comm poly, Nat.xor_assoc, Nat.xor_self, Nat.xor_zero]
  · rw [if_pos ha, if_neg hb, if_pos (by omega)]
    rw [Nat.xor_assoc, Nat.xor_comm (b / 2), ← Nat.xor_assoc]
  · rw [if_neg ha, if_pos hb, if_pos (by omega)]
    rw [Nat.xor_assoc]
  · rw [if_neg ha, if_neg hb, if_neg (by omega)]

theorem steps_xor (k : Nat) : ∀ a b : Nat, steps k (a ^^^ b) = steps k a ^^^ steps k b := by
  induction k with
  | zero => exact fun _ _ => rfl
  | succ k ih => intro a b; simp only [steps]; rw [step_xor, ih]

theorem step_two (h : Nat) : step (2 * h) = h := by
  unfold step; rw [if_neg (by omega)]; omega

theorem step_zero : step 0 = 0 := rfl
theorem steps_zero (k : Nat) : steps k 0 = 0 := by
  induction k with
  | zero => rfl
  | succ k ih => simp only [steps]; exact ih

theorem steps_high (k : Nat) : ∀ h : Nat, steps k (2 ^ k * h) = h := by
  induction k with
  | zero => intro h; simp [steps]
  | succ k ih =>
    intro h
    simp only [steps]
    rw [Nat.pow_succ, Nat.mul_comm (2 ^ k) 2, Nat.mul_assoc, step_two]
    exact ih h

theorem split8 (x : Nat) : x = (256 * (x / 256)) ^^^ (x % 256) := by
  apply Nat.eq_of_testBit_eq
  intro i
  rw [Nat.testBit_xor, show (256 : Nat) = 2 ^ 8 from rfl, Nat.testBit_two_pow_mul, Nat.testBit_mod_two_pow, Nat.testBit_div_two_pow]
  by_cases h : 8 ≤ i
  · simp [h, show ¬ i < 8 by omega]
  · simp [h, show i < 8 by omega]

/-- eight steps -/
def s8 (x : Nat) : Nat := steps 8 x
theorem s8_xor (a b : Nat) : s8 (a ^^^ b) = s8 a ^^^ s8 b := steps_xor 8 a b
theorem s8_high (h : Nat) : s8 (256 * h) = h := steps_high 8 h
theorem s8_lt {x : Nat} (h : x < 4294967296) : s8 x < 4294967296 := steps_lt 8 h
theorem s8_zero : s8 0 = 0 := steps_zero 8
theorem steps_s8 (k x : Nat) : steps k (s8 x) = steps (8 + k) x := (steps_add 8 k x).symm
theorem s8_eq (x : Nat) : s8 x = steps 8 x := rfl
attribute [irreducible] s8

/-- the word behind a byte -/
theorem s8_split (x : Nat) : s8 x = (x / 256) ^^^ s8 (x % 256) := by
  have h := s8_xor (256 * (x / 256)) (x % 256)
  rw [← split8 x, s8_high] at h
  exact h

/-- the reference's round, and the program's -/
theorem round_eq (w c : Nat) (hc : c < 256) : s8 (w ^^^ c) = (w / 256) ^^^ s8 ((w ^^^ c) % 256) := by
  rw [s8_split]
  congr 1
  have h := Nat.xor_div_two_pow (a := w) (b := c) (n := 8)
  rw [show (2 : Nat) ^ 8 = 256 from rfl] at h
  rw [h, Nat.div_eq_of_lt hc, Nat.xor_zero]

/-- the word behind bytes -/
def run : Nat → List Nat → Nat
  | w, [] => w
  | w, c :: l => run (s8 (w ^^^ c)) l

theorem run_append (w : Nat) (a b : List Nat) : run w (a ++ b) = run (run w a) b := by
  induction a generalizing w with
  | nil => rfl
  | cons c a ih => simp only [List.cons_append, run]; exact ih _

theorem run_lt (l : List Nat) : ∀ {w : Nat}, w < 4294967296 → (∀ c ∈ l, c < 256) → run w l < 4294967296 := by
  induction l with
  | nil => exact fun h _ => h
  | cons c l ih =>
    intro w hw hl
    simp only [run]
    refine ih (s8_lt (Nat.xor_lt_two_pow (n := 32) hw ?_)) fun x hx => hl x (List.mem_cons_of_mem _ hx)
    have := hl c (by simp)
    omega

theorem xor_cancel4 (a b c d : Nat) : (a ^^^ b) ^^^ (c ^^^ d) = (a ^^^ c) ^^^ (b ^^^ d) := by
  rw [Nat.xor_assoc, Nat.xor_assoc, ← Nat.xor_assoc b, Nat.xor_comm b c, Nat.xor_assoc c]

theorem run_xor : ∀ (a b : List Nat) (v w : Nat), a.length = b.length → run (v ^^^ w) (List.zipWith (· ^^^ ·) a b) = run v a ^^^ run w b
  | [], [], v, w, _ => rfl
  | x :: a, y :: b, v, w, h => by
    simp only [List.zipWith_cons_cons, run]
    rw [xor_cancel4, s8_xor]
    exact run_xor a b _ _ (by simpa using h)
  | [], _ :: _, _, _, h => by simp at h
  | _ :: _, [], _, _, h => by simp at h

/-- a number's four bytes, the lowest ahead -/
def le4 (n : Nat) : List Nat := [n % 256, n / 256 % 256, n / 65536 % 256, n / 16777216 % 256]

theorem xor_low (x : Nat) : x ^^^ (x % 256) = 256 * (x / 256) := by
  conv => lhs; arg 1; rw [split8 x]
  rw [Nat.xor_assoc, Nat.xor_self, Nat.xor_zero]

theorem s8_low (x : Nat) : s8 (x ^^^ (x % 256)) = x / 256 := by
  rw [xor_low, s8_high]

/-- a word, and its own bytes behind: nothing is left -/
theorem run_own {w : Nat} (h : w < 4294967296) : run w (le4 w) = 0 := by
  have e1 : w / 65536 = w / 256 / 256 := by omega
  have e2 : w / 16777216 = w / 256 / 256 / 256 := by omega
  simp only [le4, run]
  rw [s8_low, s8_low, e1, s8_low, e2, s8_low]
  omega

theorem of_xor_zero {a b : Nat} (h : a ^^^ b = 0) : a = b := by
  have e : (a ^^^ b) ^^^ b = a := by rw [Nat.xor_assoc, Nat.xor_self, Nat.xor_zero]
  rw [h, Nat.zero_xor] at e
  exact e.symm

/-! ### words that bits make -/
theorem step_inj {x : Nat} (h : step x = 0) (hx : x < 4294967296) : x = 0 := by
  unfold step at h
  split at h
  · have := of_xor_zero h
    unfold poly at this
    omega
  · omega

theorem steps_inj (k : Nat) : ∀ {x : Nat}, steps k x = 0 → x < 4294967296 → x = 0 := by
  induction k with
  | zero => exact fun h _ => h
  | succ k ih => exact fun h hx => step_inj (ih h (step_lt hx)) hx

/-- the word of one bit, m places ahead of the end -/
def one (m : Nat) : Nat := steps m 1

theorem one_lt (m : Nat) : one m < 4294967296 := steps_lt m (by decide)

/-- no word of the first d comes back to 1 -/
def apart : Nat → Nat → Bool
  | 0, _ => true
  | d + 1, x => (step x != 1) && apart d (step x)

theorem apart_spec (d : Nat) : ∀ (x : Nat), apart d x = true → ∀ k, k < d → steps (k + 1) x ≠ 1 := by
  induction d with
  | zero => intro x _ k hk; omega
  | succ d ih =>
    intro x h k hk
    simp only [apart, Bool.and_eq_true, bne_iff_ne, ne_eq] at h
    cases k with
    | zero => exact h.1
    | succ k => exact ih _ h.2 k (by omega)

theorem apart_all : apart 4096 1 = true := by decide +kernel

theorem one_ne {m k : Nat} (hmk : m < k) (hk : k - m ≤ 4096) : one m ^^^ one k ≠ 0 := by
  intro h
  have e : one k = steps m (one (k - m)) := by
    unfold one
    rw [← steps_add, show k - m + m = k by omega]
  rw [e] at h
  unfold one at h
  rw [← steps_xor] at h
  have h0 := steps_inj m h (Nat.xor_lt_two_pow (n := 32) (by decide) (steps_lt _ (by decide)))
  have h1 := of_xor_zero h0
  have := apart_spec 4096 1 apart_all (k - m - 1) (by omega)
  rw [show k - m - 1 + 1 = k - m by omega] at this
  exact this h1.symm

/-! ### the parity of a word -/
def par : Nat → Nat → Nat
  | 0, _ => 0
  | k + 1, x => (x % 2 + par k (x / 2)) % 2

theorem par_xor (k : Nat) : ∀ a b : Nat, par k (a ^^^ b) = (par k a + par k b) % 2 := by
  induction k with
  | zero => intro a b; rfl
  | succ k ih =>
    intro a b
    simp only [par]
    rw [Nat.xor_div_two, ih, xor_mod_two]
    omega

theorem par_lt (k x : Nat) : par k x < 2 := by
  cases k with
  | zero => simp [par]
  | succ k => simp only [par]; omega

theorem par_more (k : Nat) : ∀ x : Nat, x < 2 ^ k → par (k + 1) x = par k x := by
  induction k with
  | zero => intro x h; have : x = 0 := by simpa using h
            subst this; rfl
  | succ k ih =>
    intro x h
    have h2 : x / 2 < 2 ^ k := by rw [Nat.pow_succ] at h; omega
    rw [par, ih _ h2]; rfl

theorem par_step {x : Nat} (h : x < 4294967296) : par 32 (step x) = par 32 x := by
  have h2 : par 32 (x / 2) = par 31 (x / 2) := par_more 31 _ (by omega)
  have h3 : par 32 x = (x % 2 + par 31 (x / 2)) % 2 := rfl
  have hl := par_lt 31 (x / 2)
  unfold step
  split
  · rw [par_xor, h2, h3, show par 32 poly = 1 from by decide +kernel]
    omega
  · rw [h2, h3]
    omega

theorem par_steps (k : Nat) : ∀ {x : Nat}, x < 4294967296 → par 32 (steps k x) = par 32 x := by
  induction k with
  | zero => exact fun _ => rfl
  | succ k ih => intro x h; simp only [steps]; rw [ih (step_lt h), par_step h]

theorem par_one (m : Nat) : par 32 (one m) = 1 := by
  unfold one; rw [par_steps m (by decide)]; decide +kernel

/-! ### bits that are turned -/
def flip (l : List Nat) (p : Nat) : List Nat := l.set (p / 8) ((l.getD (p / 8) 0) ^^^ 2 ^ (p % 8))

theorem flip_length (l : List Nat) (p : Nat) : (flip l p).length = l.length := by simp [flip]

theorem run_word (l : List Nat) : ∀ v u : Nat, run (v ^^^ u) l = run v l ^^^ steps (8 * l.length) u := by
  induction l with
  | nil => intro v u; rfl
  | cons c l ih =>
    intro v u
    simp only [run]
    rw [show (v ^^^ u) ^^^ c = (v ^^^ c) ^^^ u by rw [Nat.xor_assoc, Nat.xor_comm u, ← Nat.xor_assoc], s8_xor, ih, steps_s8]
    congr 2
    simp only [List.length_cons]
    omega

theorem s8_bit {j : Nat} (h : j < 8) : s8 (2 ^ j) = one (8 - j) := by
  have e := steps_high j 1
  rw [Nat.mul_one] at e
  have e2 : steps 8 (2 ^ j) = steps (8 - j) 1 := by
    rw [show 8 = j + (8 - j) by omega, steps_add, e, show j + (8 - j) - j = 8 - j by omega]
  have e3 : s8 (2 ^ j) = steps 8 (2 ^ j) := by unfold s8; rfl
  rw [e3, e2]; rfl

theorem run_flip (l : List Nat) : ∀ (w p : Nat), p < 8 * l.length → run w (flip l p) = run w l ^^^ one (8 * l.length - p) := by
  induction l with
  | nil => intro w p h; simp at h
  | cons c l ih =>
    intro w p h
    rcases Nat.lt_or_ge p 8 with hp | hp
    · have e : flip (c :: l) p = (c ^^^ 2 ^ p) :: l := by
        unfold flip
        rw [Nat.div_eq_of_lt hp, Nat.mod_eq_of_lt hp]; rfl
      rw [e]
      simp only [run]
      rw [← Nat.xor_assoc, s8_xor, run_word, s8_bit hp]
      unfold one
      rw [← steps_add]
      congr 2
      simp only [List.length_cons]
      omega
    · have e : flip (c :: l) p = c :: flip l (p - 8) := by
        unfold flip
        have h1 : p / 8 = (p - 8) / 8 + 1 := by omega
        have h2 : p % 8 = (p - 8) % 8 := by omega
        rw [h1, h2]; rfl
      rw [e]
      simp only [run]
      rw [ih _ (p - 8) (by simp only [List.length_cons] at h; omega)]
      congr 2
      simp only [List.length_cons]
      omega

theorem flip_flip (l : List Nat) (p : Nat) : flip (flip l p) p = l := by
  unfold flip
  by_cases h : p / 8 < l.length
  · rw [List.set_set]
    apply List.ext_getElem
    · simp
    · intro i h1 h2
      rw [List.getElem_set]
      split
      · rename_i hi
        subst hi
        simp [List.getD_eq_getElem?_getD, h, Nat.xor_assoc]
      · rfl
  · rw [List.set_eq_of_length_le (by simp; omega), List.set_eq_of_length_le (by omega)]

/-! ### sealed bytes -/
def sum (l : List Nat) : Nat := 4294967295 - run 4294967295 l

theorem not_eq {w : Nat} (h : w < 4294967296) : 4294967295 - w = w ^^^ 4294967295 := by
  have h1 : w ^^^ (2 ^ 32 - 1) = 2 ^ 32 - 1 - w := by
    apply Nat.eq_of_testBit_eq
    intro i
    rw [Nat.testBit_xor, Nat.testBit_two_pow_sub_one, show 2 ^ 32 - 1 - w = 2 ^ 32 - (w + 1) by omega, Nat.testBit_two_pow_sub_succ (n := 32) h]
    by_cases hi : i < 32
    · simp [hi]
    · have : w.testBit i = false := Nat.testBit_lt_two_pow (Nat.lt_of_lt_of_le h (Nat.pow_le_pow_right (n := 2) (by decide) (by omega : 32 ≤ i)))
      simp [hi, this]
  exact h1.symm

theorem xor_mod8 (a b : Nat) : (a ^^^ b) % 256 = (a % 256) ^^^ (b % 256) := Nat.xor_mod_two_pow (n := 8)

theorem le4_xor (a b : Nat) : le4 (a ^^^ b) = List.zipWith (· ^^^ ·) (le4 a) (le4 b) := by
  have h8 : (a ^^^ b) / 256 = a / 256 ^^^ b / 256 := Nat.xor_div_two_pow (n := 8)
  have h16 : (a ^^^ b) / 65536 = a / 65536 ^^^ b / 65536 := Nat.xor_div_two_pow (n := 16)
  have h24 : (a ^^^ b) / 16777216 = a / 16777216 ^^^ b / 16777216 := Nat.xor_div_two_pow (n := 24)
  simp only [le4, List.zipWith_cons_cons, List.zipWith_nil_left, h8, h16, h24, xor_mod8]

/-- a word, and behind it the bytes of what it is with all bits turned -/
theorem run_seal {w : Nat} (h : w < 4294967296) : run w (le4 (4294967295 - w)) = run 0 [255, 255, 255, 255] := by
  have e : le4 4294967295 = [255, 255, 255, 255] := by decide
  have h1 : run w (le4 (4294967295 - w)) = run (w ^^^ 0) (List.zipWith (· ^^^ ·) (le4 w) (le4 4294967295)) := by
    rw [not_eq h, le4_xor, Nat.xor_zero]
  have h2 : run (w ^^^ 0) (List.zipWith (· ^^^ ·) (le4 w) (le4 4294967295)) = run w (le4 w) ^^^ run 0 (le4 4294967295) := run_xor _ _ w 0 (by simp [le4])
  rw [h1, h2, run_own h, Nat.zero_xor, e]

theorem run_sealed (d : List Nat) (hd : ∀ c ∈ d, c < 256) : run 4294967295 (d ++ le4 (sum d)) = run 0 [255, 255, 255, 255] := by
  rw [run_append]
  exact run_seal (run_lt d (by decide) hd)

/-- bytes of which one, two or three bits are turned are not sealed -/
theorem turned {s t d d' : List Nat} (hd : ∀ c ∈ d, c < 256) (hd' : ∀ c ∈ d', c < 256) (hs : s = d ++ le4 (sum d)) (ps : List Nat) (h3 : ps.length ≤ 3)
    (hp : ∀ p ∈ ps, p < 8 * s.length) (hl : 8 * s.length ≤ 4096) (ht : t = ps.foldl flip s) (hne : t ≠ s) : t ≠ d' ++ le4 (sum d') := by
  intro e
  have r1 := run_sealed d hd
  have r2 := run_sealed d' hd'
  rw [← hs] at r1
  rw [← e] at r2
  have h01 : ∀ x y : Nat, x ^^^ y = x → y = 0 := fun x y h => by
    have e : x ^^^ (x ^^^ y) = y := by rw [← Nat.xor_assoc, Nat.xor_self, Nat.zero_xor]
    rw [h, Nat.xor_self] at e
    exact e.symm
  match ps, h3 with
  | [], _ => exact hne ht
  | [p], _ =>
    rw [ht] at r2
    simp only [List.foldl_cons, List.foldl_nil] at r2
    rw [run_flip _ _ _ (hp p (by simp)), r1] at r2
    have := par_one (8 * s.length - p)
    rw [h01 _ _ r2] at this
    revert this; decide
  | [p, q], _ =>
    by_cases hpq : p = q
    · subst hpq
      simp only [List.foldl_cons, List.foldl_nil, flip_flip] at ht
      exact hne ht
    · rw [ht] at r2
      simp only [List.foldl_cons, List.foldl_nil] at r2
      have hp1 := hp p (by simp)
      have hq1 := hp q (by simp)
      rw [run_flip _ _ _ (by rw [flip_length]; exact hq1), run_flip _ _ _ hp1, flip_length, r1, Nat.xor_assoc] at r2
      have h0 := h01 _ _ r2
      rcases Nat.lt_or_gt_of_ne hpq with h | h
      · rw [Nat.xor_comm] at h0
        exact one_ne (by omega) (by omega) h0
      · exact one_ne (by omega) (by omega) h0
  | [p, q, r], _ =>
    rw [ht] at r2
    simp only [List.foldl_cons, List.foldl_nil] at r2
    have hp1 := hp p (by simp)
    have hq1 := hp q (by simp)
    have hr1 := hp r (by simp)
    rw [run_flip _ _ _ (by rw [flip_length, flip_length]; exact hr1), run_flip _ _ _ (by rw [flip_length]; exact hq1), run_flip _ _ _ hp1, flip_length, flip_length, r1, Nat.xor_assoc, Nat.xor_assoc] at r2
    try rw [flip_length] at r2
    have h0 := h01 _ _ r2
    have hpar : par 32 (one (8 * s.length - p) ^^^ (one (8 * s.length - q) ^^^ one (8 * s.length - r))) = 1 := by
      rw [par_xor, par_xor, par_one, par_one, par_one]
    rw [h0] at hpar
    revert hpar; decide
end Crc
