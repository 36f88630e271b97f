import Derived.Test.YtdoidfnfhidgdaaAI
namespace Go.Proofs.Ytdoidfnfhidgdaa
open Go.RowKit

theorem tk_no (a b : Int) : ∀ (bs : List Nat) (i n : Nat), (∀ p, tk a i n bs = .ok p → tk b i n bs = .ok p)
  | [], i, n, p, h => by simp [tk] at h
  | y :: t, i, n, p, h => by
    rw [tk] at h ⊢
    split at h
    · cases h
    · next h1 =>
      rw [if_neg h1]
      split at h
      · next h2 => rw [if_pos h2]; exact tk_no a b t _ _ p h
      · next h2 =>
        rw [if_neg h2]
        split at h
        · cases h
        · next h3 => rw [if_neg h3]; exact h
theorem tk_err : ∀ (bs : List Nat) (i n : Nat) (e : Int), tk 121 i n bs = .error e → e = 121
  | [], i, n, e, h => by rw [tk] at h; injection h with h; exact h.symm
  | y :: t, i, n, e, h => by
    rw [tk] at h
    split at h
    · injection h with h; exact h.symm
    · split at h
      · exact tk_err t _ _ e h
      · split at h
        · injection h with h; exact h.symm
        · cases h
theorem tk_errs : ∀ (bs : List Nat) (i n : Nat) (e : Int), tk 120 i n bs = .error e → e = 120 ∨ e = 121
  | [], i, n, e, h => by rw [tk] at h; injection h with h; exact .inl h.symm
  | y :: t, i, n, e, h => by
    rw [tk] at h
    split at h
    · injection h with h; exact .inr h.symm
    · split at h
      · exact tk_errs t _ _ e h
      · split at h
        · injection h with h; exact .inr h.symm
        · cases h
/-- what both takings say of the same bytes -/
theorem tk_cases (bs : List Nat) : (∃ m r, tk 121 0 0 bs = .ok (m, r) ∧ takeN bs = (m : Nat) ∧ takeK bs = (bs.length : Int) - (r.length : Int) ∧ takeE bs = 0 ∧ m < 9223372036854775808 ∧ ∃ pre, bs = pre ++ r ∧ 1 ≤ pre.length) ∨
    (tk 121 0 0 bs = .error 121 ∧ takeN bs = 0 ∧ takeK bs = 0 ∧ takeE bs ≠ 0) := by
  have hpre : ∀ (no : Int) (bs : List Nat) (i n m : Nat) (r : List Nat), tk no i n bs = .ok (m, r) → ∃ pre, bs = pre ++ r ∧ 1 ≤ pre.length := by
    intro no bs
    induction bs with
    | nil => intro i n m r h; simp [tk] at h
    | cons y t ih =>
      intro i n m r h
      rw [tk] at h
      split at h
      · cases h
      · split at h
        · obtain ⟨p, hp, hl⟩ := ih _ _ _ _ h
          exact ⟨y :: p, by rw [hp]; rfl, by simp⟩
        · split at h
          · cases h
          · cases h
            exact ⟨[y], rfl, by simp⟩
  cases h : tk 120 0 0 bs with
  | ok p =>
    obtain ⟨m, r⟩ := p
    have h1 := tk_no 120 121 bs 0 0 _ h
    exact .inl ⟨m, r, h1, by simp [takeN, h], by simp [takeK, h], by simp [takeE, h], tk_bound 120 bs 0 0 m r (by omega) (by simp) h, hpre 120 bs 0 0 m r h⟩
  | error e =>
    refine .inr ⟨?_, by simp [takeN, h], by simp [takeK, h], ?_⟩
    · cases h1 : tk 121 0 0 bs with
      | ok p => rw [tk_no 121 120 bs 0 0 _ h1] at h; cases h
      | error e1 => rw [tk_err bs 0 0 e1 h1]
    · have := tk_errs bs 0 0 e h
      simp [takeE, h]
      omega

/-- the worlds in which ref.entry reads: the result's cells, the entry's, and the bytes -/
structure St (w W : World) (bb off : Nat) (bs : List Nat) (e : Ent) : Prop where
  r0 : ∃ ez, Blk W w.heap.size 24 (entC ez)
  r1 : Blk W (w.heap.size + 1) 24 (entC e)
  b : Below w.heap.size w W
  y : Bys w w.heap.size (some ⟨bb, off, none⟩) bs
theorem St.set_ {w W : World} {bb off : Nat} {bs : List Nat} {e e' : Ent} (h : St w W bb off bs e) (i : Nat) (v : Value) (he : (entC e).setIfInBounds i v = entC e') : St w (W.setCell ⟨w.heap.size + 1, i, none⟩ v) bb off bs e' :=
  ⟨h.r0.imp fun _ hz => hz.other (a := ⟨w.heap.size + 1, i, none⟩) (by show w.heap.size ≠ w.heap.size + 1; omega) _, by rw [← he]; exact h.r1.set_ i v, h.b.setCell (p := ⟨w.heap.size + 1, i, none⟩) (by show w.heap.size ≤ w.heap.size + 1; omega) _, h.y⟩
theorem St.bys {w W : World} {bb off : Nat} {bs : List Nat} {e : Ent} (h : St w W bb off bs e) : Bys W W.heap.size (some ⟨bb, off, none⟩) bs := h.y.grow h.b
theorem St.at_ {w W : World} {bb off : Nat} {bs : List Nat} {e : Ent} (h : St w W bb off bs e) (k y : Nat) (hk : bs[k]? = some y) : W.cell? ⟨bb, off + k, none⟩ = some (.int .u8 y) := by
  obtain ⟨b', o', e', _, hc⟩ := h.bys.2 (by intro h; subst h; simp at hk)
  cases e'
  exact hc k y hk
theorem St.start {w : World} {bb off : Nat} {bs : List Nat} (h : Bys w w.heap.size (some ⟨bb, off, none⟩) bs) (e : Ent) : St w ((w.alloc (.cells (entC zeroE) 24)).alloc (.cells (entC e) 24)) bb off bs e := by
  have a1 := Blk.new w 24 (entC zeroE)
  have z1 : (w.alloc (.cells (entC zeroE) 24)).heap.size = w.heap.size + 1 := by simp
  have a2 := Blk.new (w.alloc (.cells (entC zeroE) 24)) 24 (entC e)
  rw [z1] at a2
  exact ⟨⟨zeroE, a1.alloc _⟩, a2, ((Below.refl _ w).alloc (Nat.le_refl _) _).alloc (by omega) _, h⟩
theorem St.drew {w W : World} {bb off : Nat} {bs : List Nat} {e : Ent} (h : St w W bb off bs e) : St w W.drew bb off bs e := ⟨h.r0, h.r1, below_drew h.b, h.y⟩
theorem St.grow {w W W' : World} {bb off : Nat} {bs : List Nat} {e : Ent} (h : St w W bb off bs e) (hb : Below W.heap.size W W') : St w W' bb off bs e :=
  ⟨h.r0.imp fun _ hz => hz.below hb hz.lt, h.r1.below hb h.r1.lt, h.b.trans (hb.mono h.b.size), h.y⟩
theorem St.six {w W : World} {bb off : Nat} {bs : List Nat} {e : Ent} (h : St w W bb off bs e) :
    (W.cell? ⟨w.heap.size + 1, 0, none⟩ = some (.int .i64 e.epoch) ∧ W.cell? ⟨w.heap.size + 1, 1, none⟩ = some (.int .i64 e.id) ∧ W.cell? ⟨w.heap.size + 1, 2, none⟩ = some (.int .i64 e.num)) ∧ W.cell? ⟨w.heap.size + 1, 3, none⟩ = some (.int .i64 e.seq) ∧ W.cell? ⟨w.heap.size + 1, 4, none⟩ = some (.int .i64 e.kind) ∧ W.cell? ⟨w.heap.size + 1, 5, none⟩ = some (.int .i64 e.value) := ebox h.r1
theorem St.row {w W : World} {bb off : Nat} {bs : List Nat} {e : Ent} (h : St w W bb off bs e) (e' : Ent) : St w (W.setRow w.heap.size (entC e')) bb off bs e ∧ Blk (W.setRow w.heap.size (entC e')) w.heap.size 24 (entC e') := by
  obtain ⟨ez, hz⟩ := h.r0
  have h2 : Blk (W.setRow w.heap.size (entC e')) w.heap.size 24 (entC e') := setRow_same hz
  exact ⟨⟨⟨e', h2⟩, (setRow_far W w.heap.size (w.heap.size + 1) _ (by omega)).trans h.r1, below_setRow h.b (Nat.le_refl _) _, h.y⟩, h2⟩
theorem ret_cell_tmp {fn : Func} {p u : Tmp} (h : fn.results = #[.cell p 24, .tmp u]) (tmps : Array Value) (w : World) (X : Nat) (e : Ent) (hx : Blk w X 24 (entC e)) (hp : tmps.getD p undef = .pointer (some ⟨X, 0, none⟩)) :
    (results fn tmps).run Try.prog w = .ok (.tuple #[entV e, tmps.getD u undef]) w := by
  obtain ⟨⟨a0, a1, a2⟩, a3, a4, a5⟩ := ebox hx
  simp at hp
  unfold entV
  simp [results, h, go_sem, hp, a0, a1, a2, a3, a4, a5]
theorem ret_cell_tmp2 {fn : Func} {p u v : Tmp} (h : fn.results = #[.cell p 24, .tmp u, .tmp v]) (tmps : Array Value) (w : World) (X : Nat) (e : Ent) (hx : Blk w X 24 (entC e)) (hp : tmps.getD p undef = .pointer (some ⟨X, 0, none⟩)) :
    (results fn tmps).run Try.prog w = .ok (.tuple #[entV e, tmps.getD u undef, tmps.getD v undef]) w := by
  obtain ⟨⟨a0, a1, a2⟩, a3, a4, a5⟩ := ebox hx
  simp at hp
  unfold entV
  simp [results, h, go_sem, hp, a0, a1, a2, a3, a4, a5]

/-- what ref.entry answers -/
def EntR (w : World) (R : Except Int Ent) (x : Ending) (w' : World) : Prop :=
  (∃ e' ok, x = .returned (.tuple #[entV e', .bool ok]) ∧ (match R with | .ok e => ok = true ∧ e' = e | .error _ => ok = false)) ∧ Below w.heap.size w w'

/-- a body that is not read -/
theorem rdN_e {bs : List Nat} {j : Nat} {p : Ent × List Nat} (h : rdN bs j = .ok p) (hh : has p.1 j = true) : rdN bs (j + 1) = rdE p.1 p.2 j := by rw [rdN_next h, rdS, if_pos hh]
theorem rdN_s {bs : List Nat} {j : Nat} {p : Ent × List Nat} (h : rdN bs j = .ok p) (hh : has p.1 j = false) : rdN bs (j + 1) = .ok p := by rw [rdN_next h, rdS, if_neg (by rw [hh]; decide)]
end Go.Proofs.Ytdoidfnfhidgdaa
