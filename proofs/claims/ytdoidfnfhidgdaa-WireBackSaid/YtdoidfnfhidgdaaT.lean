import Derived.Test.YtdoidfnfhidgdaaS
namespace Go.Proofs.Ytdoidfnfhidgdaa
open Go.RowKit

/-- entry k of a row of entries that begins at off -/
structure EntAt (w : World) (b off k : Nat) (e : Ent) : Prop where
  c0 : w.cell? ⟨b, off + k * 6, none⟩ = some (.int .i64 e.epoch)
  c1 : w.cell? ⟨b, off + k * 6 + 1, none⟩ = some (.int .i64 e.id)
  c2 : w.cell? ⟨b, off + k * 6 + 2, none⟩ = some (.int .i64 e.num)
  c3 : w.cell? ⟨b, off + k * 6 + 3, none⟩ = some (.int .i64 e.seq)
  c4 : w.cell? ⟨b, off + k * 6 + 4, none⟩ = some (.int .i64 e.kind)
  c5 : w.cell? ⟨b, off + k * 6 + 5, none⟩ = some (.int .i64 e.value)

/-- a slice of entries below block B -/
def Ents (w : World) (B : Nat) (A : Option Addr) (l : List Ent) : Prop :=
  l ≠ [] → ∃ b off, A = some ⟨b, off, none⟩ ∧ b < B ∧ ∀ k e, l[k]? = some e → EntAt w b off k e

theorem EntAt.keep {w w' : World} {b off k : Nat} {e : Ent} (h : EntAt w b off k e) (hk : ∀ o, w'.cell? ⟨b, o, none⟩ = w.cell? ⟨b, o, none⟩) : EntAt w' b off k e :=
  ⟨(hk _).trans h.c0, (hk _).trans h.c1, (hk _).trans h.c2, (hk _).trans h.c3, (hk _).trans h.c4, (hk _).trans h.c5⟩

theorem Ents.keep {w w' : World} {B : Nat} {A : Option Addr} {l : List Ent} (h : Ents w B A l) (hk : ∀ b o, b < B → w'.cell? ⟨b, o, none⟩ = w.cell? ⟨b, o, none⟩) : Ents w' B A l := by
  intro hl
  obtain ⟨b, off, hA, hb, hc⟩ := h hl
  exact ⟨b, off, hA, hb, fun k e he => (hc k e he).keep fun o => hk b o hb⟩

theorem Ents.below {w w' : World} {B B' : Nat} {A : Option Addr} {l : List Ent} (h : Ents w B A l) (hb : Below B' w w') (hB : B ≤ B') : Ents w' B A l :=
  h.keep fun b o hlt => hb.cell (p := ⟨b, o, none⟩) (by show b < B'; omega)

theorem Ents.mono {w : World} {B B' : Nat} {A : Option Addr} {l : List Ent} (h : Ents w B A l) (hB : B ≤ B') : Ents w B' A l := by
  intro hl
  obtain ⟨b, off, hA, hb, hc⟩ := h hl
  exact ⟨b, off, hA, by omega, hc⟩

theorem Ents.at_ {w : World} {B : Nat} {A : Option Addr} {l : List Ent} (h : Ents w B A l) {k : Nat} (hk : k < l.length) : ∃ b off, A = some ⟨b, off, none⟩ ∧ b < B ∧ EntAt w b off k l[k] := by
  obtain ⟨b, off, hA, hb, hc⟩ := h (by intro e; subst e; simp at hk)
  exact ⟨b, off, hA, hb, hc k _ (List.getElem?_eq_getElem hk)⟩

theorem Ents.take {w : World} {B : Nat} {A : Option Addr} {l : List Ent} (h : Ents w B A l) (n : Nat) : Ents w B A (l.take n) := by
  intro hl
  obtain ⟨b, off, hA, hb, hc⟩ := h (by intro e; subst e; simp at hl)
  refine ⟨b, off, hA, hb, fun k e he => hc k e ?_⟩
  rw [List.getElem?_take] at he
  split at he
  · exact he
  · cases he

def Ent.cells (e : Ent) : List Value := [.int .i64 e.epoch, .int .i64 e.id, .int .i64 e.num, .int .i64 e.seq, .int .i64 e.kind, .int .i64 e.value]

theorem cells_at (l : List Ent) : ∀ (k j : Nat) (e : Ent), l[k]? = some e → j < 6 → (l.flatMap Ent.cells)[k * 6 + j]? = e.cells[j]? := by
  induction l with
  | nil => intro k j e h; simp at h
  | cons x r ih =>
    intro k j e h hj
    have h6 : x.cells.length = 6 := rfl
    cases k with
    | zero =>
      obtain rfl : x = e := by simpa using h
      rw [List.flatMap_cons, List.getElem?_append_left (by omega)]
      simp
    | succ k =>
      rw [List.flatMap_cons, List.getElem?_append_right (by omega), h6, show (k + 1) * 6 + j - 6 = k * 6 + j by omega]
      exact ih k j e (by simpa using h) hj

/-- what a row of the call's own holds reads as entries -/
theorem Ents.of_own {w : World} {base n c : Nat} {A : Option Addr} {l : List Ent} (h : w.ownsRow base 24 6 (.slice A n c) n (l.flatMap Ent.cells)) : Ents w w.heap.size A l := by
  intro hl
  have h1 := h.1
  have h6 : ∀ l : List Ent, (l.flatMap Ent.cells).length = l.length * 6 := by
    intro l
    induction l with
    | nil => rfl
    | cons x r ih => rw [List.flatMap_cons, List.length_append, ih, List.length_cons]; show 6 + _ = _; omega
  rw [h6] at h1
  have hp : 0 < l.length := List.length_pos_iff.2 hl
  obtain ⟨g, cap, hv, _, hlt⟩ := h.form (by omega)
  have hA : A = some ⟨g, 0, none⟩ := by injection hv
  refine ⟨g, 0, hA, hlt, fun k e he => ?_⟩
  have hc := h.cells (g := g) (by rw [hA]; rfl)
  have hat : ∀ j u, e.cells[j]? = some u → j < 6 → w.cell? ⟨g, 0 + k * 6 + j, none⟩ = some u := by
    intro j u hu hj
    have := hc (k * 6 + j) u (by rw [cells_at l k j e he hj]; exact hu)
    rw [addr_add] at this
    rw [show 0 + k * 6 + j = k * 6 + j by omega]
    exact this
  exact ⟨hat 0 _ rfl (by omega), hat 1 _ rfl (by omega), hat 2 _ rfl (by omega), hat 3 _ rfl (by omega), hat 4 _ rfl (by omega), hat 5 _ rfl (by omega)⟩

theorem Ents.grow {w w' : World} {A : Option Addr} {l : List Ent} (h : Ents w w.heap.size A l) (hb : Below w.heap.size w w') : Ents w' w'.heap.size A l :=
  (h.below hb (Nat.le_refl _)).mono hb.size

/-! ### an entry's body -/
def pt (e : Ent) : Nat → List Nat
  | 0 => [e.kind.toNat]
  | 1 => numB e.epoch.toNat
  | 2 => [(e.id + 1).toNat]
  | 3 => if 0 ≤ e.id then numB e.num.toNat else []
  | 4 => if e.kind = 1 ∧ 0 ≤ e.id then numB e.seq.toNat else []
  | 5 => if e.kind = 1 then numB (zig e.value) else []
  | _ => []
def bodyN (e : Ent) (k : Nat) : List Nat := (List.range k).flatMap (pt e)
theorem bodyN_succ (e : Ent) (k : Nat) : bodyN e (k + 1) = bodyN e k ++ pt e k := by simp [bodyN, List.range_succ]
def bodyE (e : Ent) : List Nat := bodyN e 6

theorem pt_len (e : Ent) (h : Right e) (k : Nat) : (pt e k).length ≤ 9 := by
  obtain ⟨h1, h2, h3, h4, h5, h6, h7, h8⟩ := h
  have hn : ∀ n : Nat, n < 9223372036854775808 → (numB n).length ≤ 9 := fun n hn => numB_len 8 n (by omega)
  have hz : zig e.value < 9223372036854775808 := by unfold zig; split <;> omega
  unfold pt
  split
  · simp
  · exact hn _ (by omega)
  · simp
  · split
    · next hid => have := h8 hid; exact hn _ (by omega)
    · simp
  · split
    · exact hn _ (by omega)
    · simp
  · split
    · exact hn _ hz
    · simp
  · simp
theorem bodyN_len (e : Ent) (h : Right e) (k : Nat) : (bodyN e k).length ≤ 9 * k := by
  induction k with
  | zero => simp [bodyN]
  | succ k ih => rw [bodyN_succ, List.length_append]; have := pt_len e h k; omega

theorem wr60 (e : Ent) (h : Right e) (base : Nat) (v : Value) (xs : List Nat) (w : World) (hown : Own w base v xs) (hbase : base ≤ w.heap.size) (hm : xs.length ≤ 1099511627000) :
    Calls Try.prog 60 #[v, entV e] w fun x w' => ∃ v', x = .returned v' ∧ Own w' base v' (xs ++ pt e 0) ∧ Below base w w' := by
  obtain ⟨ep, id, nu, se, ki, va⟩ := e
  obtain ⟨h1, h2, h3, h4, h5, h6, h7, h8⟩ := h
  dsimp only at h1 h2 h3 h4 h5 h6 h7 h8
  obtain ⟨n, rfl⟩ := Int.eq_ofNat_of_zero_le (show 0 ≤ ki by omega)
  have := w60_any n (by omega) ep id nu se va base v xs w hown hbase hm
  simpa [pt, entV] using this

theorem wr62 (e : Ent) (h : Right e) (base : Nat) (v : Value) (xs : List Nat) (w : World) (hown : Own w base v xs) (hbase : base ≤ w.heap.size) (hm : xs.length ≤ 1099511627000) :
    Calls Try.prog 62 #[v, entV e] w fun x w' => ∃ v', x = .returned v' ∧ Own w' base v' (xs ++ pt e 1) ∧ Below base w w' := by
  obtain ⟨ep, id, nu, se, ki, va⟩ := e
  obtain ⟨h1, h2, h3, h4, h5, h6, h7, h8⟩ := h
  dsimp only at h1 h2 h3 h4 h5 h6 h7 h8
  obtain ⟨n, rfl⟩ := Int.eq_ofNat_of_zero_le (show 0 ≤ ep by omega)
  have := w62_any n (by omega) id nu se ki va base v xs w hown hbase hm
  simpa [pt, entV] using this

theorem wr64 (e : Ent) (h : Right e) (base : Nat) (v : Value) (xs : List Nat) (w : World) (hown : Own w base v xs) (hbase : base ≤ w.heap.size) (hm : xs.length ≤ 1099511627000) :
    Calls Try.prog 64 #[v, entV e] w fun x w' => ∃ v', x = .returned v' ∧ Own w' base v' (xs ++ pt e 2) ∧ Below base w w' := by
  obtain ⟨ep, id, nu, se, ki, va⟩ := e
  obtain ⟨h1, h2, h3, h4, h5, h6, h7, h8⟩ := h
  dsimp only at h1 h2 h3 h4 h5 h6 h7 h8
  obtain ⟨n, hn⟩ := Int.eq_ofNat_of_zero_le (show 0 ≤ id + 1 by omega)
  have := w64_any n (by omega) ep id nu se ki va hn base v xs w hown hbase hm
  simpa [pt, entV, hn] using this

theorem wr66 (e : Ent) (h : Right e) (hc : 0 ≤ e.id) (base : Nat) (v : Value) (xs : List Nat) (w : World) (hown : Own w base v xs) (hbase : base ≤ w.heap.size) (hm : xs.length ≤ 1099511627000) :
    Calls Try.prog 66 #[v, entV e] w fun x w' => ∃ v', x = .returned v' ∧ Own w' base v' (xs ++ pt e 3) ∧ Below base w w' := by
  obtain ⟨ep, id, nu, se, ki, va⟩ := e
  obtain ⟨h1, h2, h3, h4, h5, h6, h7, h8⟩ := h
  dsimp only at h1 h2 h3 h4 h5 h6 h7 h8
  dsimp only at hc
  have h9 := h8 hc
  obtain ⟨n, rfl⟩ := Int.eq_ofNat_of_zero_le (show 0 ≤ nu by omega)
  have := w66_any n (by omega) ep id se ki va base v xs w hown hbase hm
  simpa [pt, entV, hc] using this

theorem wr69 (e : Ent) (h : Right e) (hc : e.kind = 1 ∧ 0 ≤ e.id) (base : Nat) (v : Value) (xs : List Nat) (w : World) (hown : Own w base v xs) (hbase : base ≤ w.heap.size) (hm : xs.length ≤ 1099511627000) :
    Calls Try.prog 69 #[v, entV e] w fun x w' => ∃ v', x = .returned v' ∧ Own w' base v' (xs ++ pt e 4) ∧ Below base w w' := by
  obtain ⟨ep, id, nu, se, ki, va⟩ := e
  obtain ⟨h1, h2, h3, h4, h5, h6, h7, h8⟩ := h
  dsimp only at h1 h2 h3 h4 h5 h6 h7 h8
  dsimp only at hc
  obtain ⟨n, rfl⟩ := Int.eq_ofNat_of_zero_le (show 0 ≤ se by omega)
  have := w69_any n (by omega) ep id nu ki va base v xs w hown hbase hm
  simpa [pt, entV, hc] using this

theorem wr71 (e : Ent) (h : Right e) (hc : e.kind = 1) (base : Nat) (v : Value) (xs : List Nat) (w : World) (hown : Own w base v xs) (hbase : base ≤ w.heap.size) (hm : xs.length ≤ 1099511627000) :
    Calls Try.prog 71 #[v, entV e] w fun x w' => ∃ v', x = .returned v' ∧ Own w' base v' (xs ++ pt e 5) ∧ Below base w w' := by
  obtain ⟨ep, id, nu, se, ki, va⟩ := e
  obtain ⟨h1, h2, h3, h4, h5, h6, h7, h8⟩ := h
  dsimp only at h1 h2 h3 h4 h5 h6 h7 h8
  dsimp only at hc
  have := w71_any va (by omega) (by omega) ep id nu se ki base v xs w hown hbase hm
  simpa [pt, entV, hc] using this

end Go.Proofs.Ytdoidfnfhidgdaa
