import Derived.Test.YtdoidfnfhidgdaaY
namespace Go.Proofs.Ytdoidfnfhidgdaa
open Go.RowKit

/-- a number with a sign out of one without -/
def unz (n : Nat) : Int := if n % 2 = 1 then -((n / 2 : Nat) : Int) - 1 else ((n / 2 : Nat) : Int)

theorem and1 (n : Nat) (h : n < 9223372036854775808) : bits .and .i64 (n : Int) 1 = ((n % 2 : Nat) : Int) := by
  have e64 : ∀ a : Nat, a < 18446744073709551616 → (BitVec.ofInt 64 (a : Int)).toNat = a := fun a ha => by rw [BitVec.ofInt_natCast, BitVec.toNat_ofNat]; exact Nat.mod_eq_of_lt (by omega)
  show IntKind.i64.wrap ((BitVec.ofInt 64 (n : Int) &&& BitVec.ofInt 64 ((1 : Nat) : Int)).toNat : Int) = _
  rw [BitVec.toNat_and, e64 _ (by omega), e64 _ (by omega), Nat.and_one_is_mod, IntKind.wrap_i64]
  omega
theorem xor0 (m : Nat) (h : m < 9223372036854775808) : bits .xor .i64 (m : Int) 0 = (m : Int) := by
  have e64 : ∀ a : Nat, a < 18446744073709551616 → (BitVec.ofInt 64 (a : Int)).toNat = a := fun a ha => by rw [BitVec.ofInt_natCast, BitVec.toNat_ofNat]; exact Nat.mod_eq_of_lt (by omega)
  show IntKind.i64.wrap ((BitVec.ofInt 64 (m : Int) ^^^ BitVec.ofInt 64 ((0 : Nat) : Int)).toNat : Int) = _
  rw [BitVec.toNat_xor, e64 _ (by omega), e64 _ (by omega), Nat.xor_zero, IntKind.wrap_i64]
  omega
theorem xorm (m : Nat) (h : m < 9223372036854775808) : bits .xor .i64 (m : Int) (-1) = -(m : Int) - 1 := by
  have e64 : ∀ a : Nat, a < 18446744073709551616 → (BitVec.ofInt 64 (a : Int)).toNat = a := fun a ha => by rw [BitVec.ofInt_natCast, BitVec.toNat_ofNat]; exact Nat.mod_eq_of_lt (by omega)
  have em : (BitVec.ofInt 64 (-1)).toNat = 18446744073709551615 := by decide
  show IntKind.i64.wrap ((BitVec.ofInt 64 (m : Int) ^^^ BitVec.ofInt 64 (-1)).toNat : Int) = _
  rw [BitVec.toNat_xor, e64 _ (by omega), em, not64 (by omega), IntKind.wrap_i64]
  omega

set_option maxRecDepth 100000 in
theorem unsigned_any (n : Nat) (h : n < 9223372036854775808) (w : World) : Calls Try.prog 52 #[.int .i64 n] w fun x w' => x = .returned (.int .i64 (unz n)) ∧ w = w' := by
  have h1 := and1 n h
  obtain ⟨m, hm⟩ : ∃ m : Nat, n / 2 = m := ⟨_, rfl⟩
  have hm2 : m < 9223372036854775808 := by omega
  have HU : Hid (n % 2 = 1 → unz n = -(m : Int) - 1) := fun hh => by unfold unz; rw [if_pos hh, hm]
  have HU2 : Hid (n % 2 = 0 → unz n = (m : Int)) := fun hh => by unfold unz; rw [if_neg (by omega), hm]
  have hq : (n : Int) / 2 = (m : Int) := by omega
  rcases Nat.mod_two_eq_zero_or_one n with h2 | h2
  · rw [h2] at h1
    have h3 := xor0 m hm2
    have HR := Lib.hid (HU2.out h2)
    clear hm h2
    go_enter Try.func52, Try.ntmps52
    go_wp2_with fail
    go_ret
    exact ⟨by rw [HR.out]; rfl, rfl⟩
  · rw [h2] at h1
    have h3 := xorm m hm2
    have HR := Lib.hid (HU.out h2)
    clear hm h2
    go_enter Try.func52, Try.ntmps52
    go_wp2_with fail
    go_ret
    exact ⟨by rw [HR.out]; rfl, rfl⟩

/-- whatever lay, but for two blocks, lies as it lay -/
structure Two (X L : Nat) (w w' : World) : Prop where
  os : w'.os = w.os
  tape : w'.tape = w.tape
  output : w'.output = w.output
  size : w.heap.size ≤ w'.heap.size
  block : ∀ k, k < w.heap.size → k ≠ X → k ≠ L → w'.heap[k]? = w.heap[k]?
theorem Two.refl (X L : Nat) (w : World) : Two X L w w := ⟨rfl, rfl, rfl, Nat.le_refl _, fun _ _ _ _ => rfl⟩
theorem Two.trans {X L : Nat} {a b c : World} (h : Two X L a b) (k : Two X L b c) : Two X L a c :=
  ⟨k.os.trans h.os, k.tape.trans h.tape, k.output.trans h.output, Nat.le_trans h.size k.size, fun i hi hx hl => (k.block i (Nat.lt_of_lt_of_le hi h.size) hx hl).trans (h.block i hi hx hl)⟩
theorem Two.of_grown {X L : Nat} {a b : World} (h : a.grownBy b (some L)) : Two X L a b := ⟨h.os, h.tape, h.output, h.size, fun i hi _ hl => h.block i hi (by intro e; injection e with e; exact hl e)⟩
theorem Two.setX {X L : Nat} (a : World) (i : Nat) (v : Value) : Two X L a (a.setCell ⟨X, i, none⟩ v) := ⟨rfl, rfl, rfl, by simp [World.setCell], fun k _ hx _ => Below.heap_setCell a ⟨X, i, none⟩ v k hx⟩
theorem Two.of_below {X L : Nat} {a b : World} (h : Below a.heap.size a b) : Two X L a b := ⟨h.os, h.tape, h.output, h.size, fun i hi _ _ => h.block i hi⟩
theorem Two.below {X L n : Nat} {w a b : World} (h : Two X L a b) (hb : Below n w a) (hn : n ≤ a.heap.size) (hX : n ≤ X) (hL : n ≤ L) : Below n w b :=
  ⟨h.os.trans hb.os, h.tape.trans hb.tape, h.output.trans hb.output, Nat.le_trans hb.size h.size, fun k hk => (h.block k (by omega) (by omega) (by omega)).trans (hb.block k hk)⟩
theorem Two.blk {X L g : Nat} {t : TypeId} {cs : Array Value} {a b : World} (h : Two X L a b) (hb : Blk a g t cs) (hX : g ≠ X) (hL : g ≠ L) : Blk b g t cs := (h.block g hb.lt hX hL).trans hb

/-- what one part reads of an entry -/
def rdE (e : Ent) (bs : List Nat) : Nat → Except Int (Ent × List Nat)
  | 0 => match bs with | [] => .error 121 | y :: r => .ok ({ e with kind := (y : Int) }, r)
  | 1 => match tk 121 0 0 bs with | .ok p => .ok ({ e with epoch := (p.1 : Int) }, p.2) | .error x => .error x
  | 2 => match bs with | [] => .error 121 | y :: r => .ok ({ e with id := (y : Int) - 1 }, r)
  | 3 => match tk 121 0 0 bs with | .ok p => .ok ({ e with num := (p.1 : Int) }, p.2) | .error x => .error x
  | 4 => match tk 121 0 0 bs with | .ok p => .ok ({ e with seq := (p.1 : Int) }, p.2) | .error x => .error x
  | _ => match tk 121 0 0 bs with | .ok p => .ok ({ e with value := unz p.1 }, p.2) | .error x => .error x
/-- where an entry and what is left of a body lie -/
structure At (w : World) (X P1 P2 L : Nat) (e : Ent) (bs : List Nat) : Prop where
  x : Blk w X 24 (entC e)
  p1 : w.cell? ⟨P1, 0, none⟩ = some (.pointer (some ⟨L, 0, none⟩))
  p2 : w.cell? ⟨P2, 0, none⟩ = some (.int .i64 121)
  n1 : P1 ≠ L
  n2 : P2 ≠ L
  n3 : X ≠ L
  n4 : P1 ≠ X
  n5 : P2 ≠ X
  left : Left w L bs
  len : bs.length ≤ 9223372036854775807
def RdRes (w : World) (X P1 P2 L : Nat) (t : Except Int (Ent × List Nat)) (x : Ending) (w' : World) : Prop :=
  (match t with
  | .ok p => x = .returned (.tuple #[]) ∧ At w' X P1 P2 L p.1 p.2
  | .error e => x = upP e ∧ ∃ e0, Blk w' X 24 (entC e0)) ∧ Two X L w w'

theorem far_of {w : World} {X B b o : Nat} {e : Ent} {bs : List Nat} (hx : Blk w X 24 (entC e)) (h : Bys w B (some ⟨b, o, none⟩) bs) (h0 : bs ≠ []) : b ≠ X := by
  intro hb
  subst hb
  obtain ⟨b', o', e', _, hc⟩ := h.2 h0
  cases e'
  obtain ⟨y, r, rfl⟩ := List.exists_cons_of_ne_nil h0
  have h1 := hc 0 y rfl
  rw [hx.cell] at h1
  rcases o with _ | _ | _ | _ | _ | _ | o <;> simp [entC] at h1
theorem Left.setX {w : World} {X L i : Nat} {e : Ent} {bs : List Nat} (h : Left w L bs) (hx : Blk w X 24 (entC e)) (hne : X ≠ L) (v : Value) : Left (w.setCell ⟨X, i, none⟩ v) L bs := by
  obtain ⟨A, c, hB, hc, hby, hn⟩ := h
  refine ⟨A, c, hB.other (a := ⟨X, i, none⟩) (Ne.symm hne) _, hc, ?_, hn⟩
  by_cases h0 : bs = []
  · subst h0; exact ⟨by simp, fun h => absurd rfl h⟩
  · obtain ⟨b, o, rfl, _, _⟩ := hby.2 h0
    exact (hby.setCell_other (a := ⟨X, i, none⟩) (fun b' o' e => by injection e with e; injection e with e; subst e; exact far_of hx hby h0) _).mono (by simp [World.setCell])
/-- the entry's cell i is written, the list having grown shorter -/
theorem At.next {w w6 : World} {X P1 P2 L i : Nat} {e e' : Ent} {bs r : List Nat} {v : Value} (h : At w X P1 P2 L e bs) (hg : w.grownBy w6 (some L)) (hL : Left w6 L r) (hr : r.length ≤ bs.length) (he : (entC e).setIfInBounds i v = entC e') :
    At (w6.setCell ⟨X, i, none⟩ v) X P1 P2 L e' r ∧ Two X L w (w6.setCell ⟨X, i, none⟩ v) := by
  have hx6 : Blk w6 X 24 (entC e) := (hg.block X h.x.lt (by intro e; injection e with e; exact h.n3 e)).trans h.x
  refine ⟨⟨by rw [← he]; exact hx6.set_ i v, ?_, ?_, h.n1, h.n2, h.n3, h.n4, h.n5, hL.setX hx6 h.n3 v, Nat.le_trans hr h.len⟩, (Two.of_grown hg).trans (Two.setX _ _ _)⟩
  · rw [World.cell?_of_block (Below.heap_setCell w6 ⟨X, i, none⟩ v P1 h.n4)]
    exact (hg.cell_far ⟨P1, 0, none⟩ (cell_lt h.p1) (by intro e; injection e with e; exact h.n1 e)).trans h.p1
  · rw [World.cell?_of_block (Below.heap_setCell w6 ⟨X, i, none⟩ v P2 h.n5)]
    exact (hg.cell_far ⟨P2, 0, none⟩ (cell_lt h.p2) (by intro e; injection e with e; exact h.n2 e)).trans h.p2
theorem tk_lt (no : Int) : ∀ (bs : List Nat) (i n m : Nat) (r : List Nat), i ≤ 8 → n < 128 ^ i → tk no i n bs = .ok (m, r) → m < 9223372036854775808
  | [], i, n, m, r, _, _, h => by simp [tk] at h
  | y :: t, i, n, m, r, hi, hn, h => by
    have h2 := next_lt n (y % 128) i hn (by omega)
    rw [tk] at h
    split at h
    · cases h
    · split at h
      · next h3 h4 => exact tk_lt no t _ _ _ _ (by omega) h2 h
      · split at h
        · cases h
        · cases h
          have h8 : (128 : Nat) ^ (i + 1) ≤ 128 ^ 9 := Nat.pow_le_pow_right (by omega) (by omega)
          have h9 : (128 : Nat) ^ 9 = 9223372036854775808 := by decide
          omega

set_option maxRecDepth 100000 in
set_option maxHeartbeats 1000000 in
theorem rd61 (w : World) (X P1 P2 L : Nat) (e : Ent) (bs : List Nat) (h : At w X P1 P2 L e bs) : Calls Try.prog 61 #[nextV P1 P2, .pointer (some ⟨X, 0, none⟩)] w (RdRes w X P1 P2 L (rdE e bs 0)) := by
  have H := Lib.hid h
  rcases bs with _ | ⟨y, r⟩
  · have HT := Lib.hid (next_no w P1 P2 L 121 h.p1 h.p2 h.left)
    clear h
    go_enter Try.func61, Try.ntmps61
    go_wp2_with fail
    refine HT.out.mono ?_
    rintro x w6 ⟨rfl, hg⟩
    go_wp2_with fail
    refine ⟨rfl, ?_⟩
    exact ⟨⟨rfl, _, (hg.block X H.out.x.lt (by intro e; injection e with e; exact H.out.n3 e)).trans H.out.x⟩, Two.of_grown hg⟩
  · have HT := Lib.hid (next_yes w P1 P2 L 121 y r h.p1 h.p2 h.left h.len)
    have hyb : y < 256 := by obtain ⟨_, _, _, _, hb, _⟩ := h.left; exact hb.1 y (by simp)
    clear h
    go_enter Try.func61, Try.ntmps61
    go_wp2_with fail
    refine HT.out.mono ?_
    rintro x w6 ⟨rfl, hL, hg⟩
    have hx6 : Blk w6 X 24 (entC e) := (hg.block X H.out.x.lt (by intro e; injection e with e; exact H.out.n3 e)).trans H.out.x
    have x1 : ∃ v, w6.cell? ⟨X, 4, none⟩ = some v := ⟨_, hx6.cell 4⟩
    obtain ⟨v0, x1⟩ := x1
    have x2 := hx6.frozen 4
    have HF := Lib.hid (H.out.next (i := 4) (v := .int .i64 ((y : Int))) (e' := { e with kind := (y : Int) }) hg hL (by simp) rfl)
    clear hx6 hg hL
    go_wp2_with fail
    go_end0
    exact ⟨⟨rfl, HF.out.1⟩, HF.out.2⟩

set_option maxRecDepth 100000 in
set_option maxHeartbeats 1000000 in
theorem rd63 (w : World) (X P1 P2 L : Nat) (e : Ent) (bs : List Nat) (h : At w X P1 P2 L e bs) : Calls Try.prog 63 #[nextV P1 P2, .pointer (some ⟨X, 0, none⟩)] w (RdRes w X P1 P2 L (rdE e bs 1)) := by
  have ht := take_any w P1 P2 L 121 bs h.p1 h.p2 h.n1 h.n2 h.left h.len
  have H := Lib.hid h
  clear h
  obtain ⟨R, hR⟩ : ∃ R, rdE e bs 1 = R := ⟨_, rfl⟩
  rw [hR]
  cases hT : tk 121 0 0 bs with
  | error e0 =>
    have HR : Hid (R = .error e0) := by show _ = _; rw [← hR]; simp [rdE, hT]
    rw [hT] at ht
    have HT := Lib.hid ht
    clear hT hR ht
    go_enter Try.func63, Try.ntmps63
    go_wp2_with fail
    refine HT.out.mono ?_
    rintro x w6 ⟨hx, hg⟩
    have hx2 : x = upP e0 := hx
    subst hx2
    go_wp2_with fail
    refine ⟨rfl, ?_⟩
    unfold RdRes
    rw [HR.out]
    exact ⟨⟨rfl, _, (hg.block X H.out.x.lt (by intro e; injection e with e; exact H.out.n3 e)).trans H.out.x⟩, Two.of_grown hg⟩
  | ok p =>
    obtain ⟨n, r⟩ := p
    have HR : Hid (R = .ok ({ e with epoch := (n : Int) }, r)) := by show _ = _; rw [← hR]; simp [rdE, hT]
    have HLEN := Lib.hid (tk_len 121 bs 0 0 n r hT)
    have HLT := Lib.hid (tk_lt 121 bs 0 0 n r (by omega) (by simp) hT)
    rw [hT] at ht
    have HT := Lib.hid ht
    clear hT hR ht
    go_enter Try.func63, Try.ntmps63
    go_wp2_with fail
    refine HT.out.mono ?_
    rintro x w6 ⟨hx, hg⟩
    obtain ⟨hx2, hL⟩ : x = .returned (.int .i64 (n : Int)) ∧ Left w6 L r := hx
    subst hx2
    have hx6 : Blk w6 X 24 (entC e) := (hg.block X H.out.x.lt (by intro e; injection e with e; exact H.out.n3 e)).trans H.out.x
    have x1 : ∃ v, w6.cell? ⟨X, 0, none⟩ = some v := ⟨_, hx6.cell 0⟩
    obtain ⟨v0, x1⟩ := x1
    have x2 := hx6.frozen 0
    have HF := Lib.hid (H.out.next (i := 0) (v := .int .i64 ((n : Int))) (e' := { e with epoch := (n : Int) }) hg hL (by have := HLEN.out; omega) rfl)
    clear hx6 hg hL
    go_wp2_with fail
    go_end0
    unfold RdRes
    rw [HR.out]
    exact ⟨⟨rfl, HF.out.1⟩, HF.out.2⟩

set_option maxRecDepth 100000 in
set_option maxHeartbeats 1000000 in
theorem rd65 (w : World) (X P1 P2 L : Nat) (e : Ent) (bs : List Nat) (h : At w X P1 P2 L e bs) : Calls Try.prog 65 #[nextV P1 P2, .pointer (some ⟨X, 0, none⟩)] w (RdRes w X P1 P2 L (rdE e bs 2)) := by
  have H := Lib.hid h
  rcases bs with _ | ⟨y, r⟩
  · have HT := Lib.hid (next_no w P1 P2 L 121 h.p1 h.p2 h.left)
    clear h
    go_enter Try.func65, Try.ntmps65
    go_wp2_with fail
    refine HT.out.mono ?_
    rintro x w6 ⟨rfl, hg⟩
    go_wp2_with fail
    refine ⟨rfl, ?_⟩
    exact ⟨⟨rfl, _, (hg.block X H.out.x.lt (by intro e; injection e with e; exact H.out.n3 e)).trans H.out.x⟩, Two.of_grown hg⟩
  · have HT := Lib.hid (next_yes w P1 P2 L 121 y r h.p1 h.p2 h.left h.len)
    have hyb : y < 256 := by obtain ⟨_, _, _, _, hb, _⟩ := h.left; exact hb.1 y (by simp)
    clear h
    go_enter Try.func65, Try.ntmps65
    go_wp2_with fail
    refine HT.out.mono ?_
    rintro x w6 ⟨rfl, hL, hg⟩
    have hx6 : Blk w6 X 24 (entC e) := (hg.block X H.out.x.lt (by intro e; injection e with e; exact H.out.n3 e)).trans H.out.x
    have x1 : ∃ v, w6.cell? ⟨X, 1, none⟩ = some v := ⟨_, hx6.cell 1⟩
    obtain ⟨v0, x1⟩ := x1
    have x2 := hx6.frozen 1
    have HF := Lib.hid (H.out.next (i := 1) (v := .int .i64 ((y : Int) - 1)) (e' := { e with id := (y : Int) - 1 }) hg hL (by simp) rfl)
    clear hx6 hg hL
    go_wp2_with fail
    go_end0
    exact ⟨⟨rfl, HF.out.1⟩, HF.out.2⟩

set_option maxRecDepth 100000 in
set_option maxHeartbeats 1000000 in
theorem rd67 (w : World) (X P1 P2 L : Nat) (e : Ent) (bs : List Nat) (h : At w X P1 P2 L e bs) : Calls Try.prog 67 #[nextV P1 P2, .pointer (some ⟨X, 0, none⟩)] w (RdRes w X P1 P2 L (rdE e bs 3)) := by
  have ht := take_any w P1 P2 L 121 bs h.p1 h.p2 h.n1 h.n2 h.left h.len
  have H := Lib.hid h
  clear h
  obtain ⟨R, hR⟩ : ∃ R, rdE e bs 3 = R := ⟨_, rfl⟩
  rw [hR]
  cases hT : tk 121 0 0 bs with
  | error e0 =>
    have HR : Hid (R = .error e0) := by show _ = _; rw [← hR]; simp [rdE, hT]
    rw [hT] at ht
    have HT := Lib.hid ht
    clear hT hR ht
    go_enter Try.func67, Try.ntmps67
    go_wp2_with fail
    refine HT.out.mono ?_
    rintro x w6 ⟨hx, hg⟩
    have hx2 : x = upP e0 := hx
    subst hx2
    go_wp2_with fail
    refine ⟨rfl, ?_⟩
    unfold RdRes
    rw [HR.out]
    exact ⟨⟨rfl, _, (hg.block X H.out.x.lt (by intro e; injection e with e; exact H.out.n3 e)).trans H.out.x⟩, Two.of_grown hg⟩
  | ok p =>
    obtain ⟨n, r⟩ := p
    have HR : Hid (R = .ok ({ e with num := (n : Int) }, r)) := by show _ = _; rw [← hR]; simp [rdE, hT]
    have HLEN := Lib.hid (tk_len 121 bs 0 0 n r hT)
    have HLT := Lib.hid (tk_lt 121 bs 0 0 n r (by omega) (by simp) hT)
    rw [hT] at ht
    have HT := Lib.hid ht
    clear hT hR ht
    go_enter Try.func67, Try.ntmps67
    go_wp2_with fail
    refine HT.out.mono ?_
    rintro x w6 ⟨hx, hg⟩
    obtain ⟨hx2, hL⟩ : x = .returned (.int .i64 (n : Int)) ∧ Left w6 L r := hx
    subst hx2
    have hx6 : Blk w6 X 24 (entC e) := (hg.block X H.out.x.lt (by intro e; injection e with e; exact H.out.n3 e)).trans H.out.x
    have x1 : ∃ v, w6.cell? ⟨X, 2, none⟩ = some v := ⟨_, hx6.cell 2⟩
    obtain ⟨v0, x1⟩ := x1
    have x2 := hx6.frozen 2
    have HF := Lib.hid (H.out.next (i := 2) (v := .int .i64 ((n : Int))) (e' := { e with num := (n : Int) }) hg hL (by have := HLEN.out; omega) rfl)
    clear hx6 hg hL
    go_wp2_with fail
    go_end0
    unfold RdRes
    rw [HR.out]
    exact ⟨⟨rfl, HF.out.1⟩, HF.out.2⟩

set_option maxRecDepth 100000 in
set_option maxHeartbeats 1000000 in
theorem rd70 (w : World) (X P1 P2 L : Nat) (e : Ent) (bs : List Nat) (h : At w X P1 P2 L e bs) : Calls Try.prog 70 #[nextV P1 P2, .pointer (some ⟨X, 0, none⟩)] w (RdRes w X P1 P2 L (rdE e bs 4)) := by
  have ht := take_any w P1 P2 L 121 bs h.p1 h.p2 h.n1 h.n2 h.left h.len
  have H := Lib.hid h
  clear h
  obtain ⟨R, hR⟩ : ∃ R, rdE e bs 4 = R := ⟨_, rfl⟩
  rw [hR]
  cases hT : tk 121 0 0 bs with
  | error e0 =>
    have HR : Hid (R = .error e0) := by show _ = _; rw [← hR]; simp [rdE, hT]
    rw [hT] at ht
    have HT := Lib.hid ht
    clear hT hR ht
    go_enter Try.func70, Try.ntmps70
    go_wp2_with fail
    refine HT.out.mono ?_
    rintro x w6 ⟨hx, hg⟩
    have hx2 : x = upP e0 := hx
    subst hx2
    go_wp2_with fail
    refine ⟨rfl, ?_⟩
    unfold RdRes
    rw [HR.out]
    exact ⟨⟨rfl, _, (hg.block X H.out.x.lt (by intro e; injection e with e; exact H.out.n3 e)).trans H.out.x⟩, Two.of_grown hg⟩
  | ok p =>
    obtain ⟨n, r⟩ := p
    have HR : Hid (R = .ok ({ e with seq := (n : Int) }, r)) := by show _ = _; rw [← hR]; simp [rdE, hT]
    have HLEN := Lib.hid (tk_len 121 bs 0 0 n r hT)
    have HLT := Lib.hid (tk_lt 121 bs 0 0 n r (by omega) (by simp) hT)
    rw [hT] at ht
    have HT := Lib.hid ht
    clear hT hR ht
    go_enter Try.func70, Try.ntmps70
    go_wp2_with fail
    refine HT.out.mono ?_
    rintro x w6 ⟨hx, hg⟩
    obtain ⟨hx2, hL⟩ : x = .returned (.int .i64 (n : Int)) ∧ Left w6 L r := hx
    subst hx2
    have hx6 : Blk w6 X 24 (entC e) := (hg.block X H.out.x.lt (by intro e; injection e with e; exact H.out.n3 e)).trans H.out.x
    have x1 : ∃ v, w6.cell? ⟨X, 3, none⟩ = some v := ⟨_, hx6.cell 3⟩
    obtain ⟨v0, x1⟩ := x1
    have x2 := hx6.frozen 3
    have HF := Lib.hid (H.out.next (i := 3) (v := .int .i64 ((n : Int))) (e' := { e with seq := (n : Int) }) hg hL (by have := HLEN.out; omega) rfl)
    clear hx6 hg hL
    go_wp2_with fail
    go_end0
    unfold RdRes
    rw [HR.out]
    exact ⟨⟨rfl, HF.out.1⟩, HF.out.2⟩

set_option maxRecDepth 100000 in
set_option maxHeartbeats 1000000 in
theorem rd72 (w : World) (X P1 P2 L : Nat) (e : Ent) (bs : List Nat) (h : At w X P1 P2 L e bs) : Calls Try.prog 72 #[nextV P1 P2, .pointer (some ⟨X, 0, none⟩)] w (RdRes w X P1 P2 L (rdE e bs 5)) := by
  have ht := take_any w P1 P2 L 121 bs h.p1 h.p2 h.n1 h.n2 h.left h.len
  have H := Lib.hid h
  clear h
  obtain ⟨R, hR⟩ : ∃ R, rdE e bs 5 = R := ⟨_, rfl⟩
  rw [hR]
  cases hT : tk 121 0 0 bs with
  | error e0 =>
    have HR : Hid (R = .error e0) := by show _ = _; rw [← hR]; simp [rdE, hT]
    rw [hT] at ht
    have HT := Lib.hid ht
    clear hT hR ht
    go_enter Try.func72, Try.ntmps72
    go_wp2_with fail
    refine HT.out.mono ?_
    rintro x w6 ⟨hx, hg⟩
    have hx2 : x = upP e0 := hx
    subst hx2
    go_wp2_with fail
    refine ⟨rfl, ?_⟩
    unfold RdRes
    rw [HR.out]
    exact ⟨⟨rfl, _, (hg.block X H.out.x.lt (by intro e; injection e with e; exact H.out.n3 e)).trans H.out.x⟩, Two.of_grown hg⟩
  | ok p =>
    obtain ⟨n, r⟩ := p
    have HR : Hid (R = .ok ({ e with value := unz n }, r)) := by show _ = _; rw [← hR]; simp [rdE, hT]
    have HLEN := Lib.hid (tk_len 121 bs 0 0 n r hT)
    have HLT := Lib.hid (tk_lt 121 bs 0 0 n r (by omega) (by simp) hT)
    rw [hT] at ht
    have HT := Lib.hid ht
    clear hT hR ht
    go_enter Try.func72, Try.ntmps72
    go_wp2_with fail
    refine HT.out.mono ?_
    rintro x w6 ⟨hx, hg⟩
    obtain ⟨hx2, hL⟩ : x = .returned (.int .i64 (n : Int)) ∧ Left w6 L r := hx
    subst hx2
    have hx6 : Blk w6 X 24 (entC e) := (hg.block X H.out.x.lt (by intro e; injection e with e; exact H.out.n3 e)).trans H.out.x
    have x1 : ∃ v, w6.cell? ⟨X, 5, none⟩ = some v := ⟨_, hx6.cell 5⟩
    obtain ⟨v0, x1⟩ := x1
    have x2 := hx6.frozen 5
    have HF := Lib.hid (H.out.next (i := 5) (v := .int .i64 (unz n)) (e' := { e with value := unz n }) hg hL (by have := HLEN.out; omega) rfl)
    clear hx6 hg hL
    go_wp2_with fail
    refine (unsigned_any n HLT.out _).mono ?_
    rintro x w7 ⟨rfl, rfl⟩
    go_wp2_with fail
    go_end0
    unfold RdRes
    rw [HR.out]
    exact ⟨⟨rfl, HF.out.1⟩, HF.out.2⟩
end Go.Proofs.Ytdoidfnfhidgdaa
