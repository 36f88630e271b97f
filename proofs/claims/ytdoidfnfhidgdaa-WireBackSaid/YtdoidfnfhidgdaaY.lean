import Derived.Test.YtdoidfnfhidgdaaX
import Derived.Shelf.Abstract
namespace Go.Proofs.Ytdoidfnfhidgdaa
open Go.RowKit

theorem mk_func : ∀ (fn : Fn) (first cap : Array Value) (w : World), (Instr.makeFunc fn first cap).run Try.prog w = .ok (.func fn first cap) w := fun _ _ _ _ => rfl

theorem taker_any (L : Nat) (no : Int) (w : World) : Calls Try.prog 47 #[.pointer (some ⟨L, 0, none⟩), .int .i64 no] w fun x w' => x = .returned (nextV w.heap.size (w.heap.size + 1)) ∧ w' = (w.alloc (.cells #[.pointer (some ⟨L, 0, none⟩)] 80)).alloc (.cells #[.int .i64 no] 26) := by
  have hmf := mk_func
  go_enter Try.func47, Try.ntmps47
  go_wp2_with fail
  go_ret
  exact ⟨rfl, rfl⟩

/-- what is cleared where a number is not taken -/
theorem clear_any (N K : Nat) (w : World) (n0 k0 : Value) (h1 : w.cell? ⟨N, 0, none⟩ = some n0) (h2 : w.cell? ⟨K, 0, none⟩ = some k0) (f1 : w.frozen? ⟨N, 0, none⟩ = false) (f2 : w.frozen? ⟨K, 0, none⟩ = false) (hne : N ≠ K) :
    Calls Try.prog 50 #[.pointer (some ⟨N, 0, none⟩), .pointer (some ⟨K, 0, none⟩)] w fun x w' => x = .returned (.tuple #[]) ∧ w' = (w.setCell ⟨N, 0, none⟩ (.int .i64 0)).setCell ⟨K, 0, none⟩ (.int .i64 0) := by
  have h3 : (w.setCell ⟨N, 0, none⟩ (.int .i64 0)).cell? ⟨K, 0, none⟩ = some k0 := by rw [World.cell?_setCell_other] <;> first | exact h2 | (intro e; injection e with e; exact hne e) | (intro e; injection e with e; exact hne e.symm)
  have f3 : (w.setCell ⟨N, 0, none⟩ (.int .i64 0)).frozen? ⟨K, 0, none⟩ = false := by simpa using f2
  go_enter Try.func50, Try.ntmps50
  go_wp2_with fail
  go_end0
  exact ⟨rfl, rfl⟩

def takeN (bs : List Nat) : Int := match tk 120 0 0 bs with | .ok p => (p.1 : Int) | .error _ => 0
def takeK (bs : List Nat) : Int := match tk 120 0 0 bs with | .ok p => (bs.length : Int) - (p.2.length : Int) | .error _ => 0
def takeE (bs : List Nat) : Int := match tk 120 0 0 bs with | .ok _ => 0 | .error e => e

/-- the world in which bytes are taken -/
def tkW (w : World) (A : Option Addr) (n c : Nat) : World :=
  ((((((w.alloc (.cells #[.int .i64 0] 2)).alloc (.cells #[.int .i64 0] 3)).alloc (.cells #[.int .i64 0] 26)).alloc (.cells #[.slice A n c] 25)).alloc (.cells #[.pointer (some ⟨w.heap.size + 1 + 1 + 1, 0, none⟩)] 80)).alloc (.cells #[.int .i64 120] 26))

theorem tkW_facts (w : World) (A : Option Addr) (n c : Nat) :
    Blk (tkW w A n c) w.heap.size 2 #[.int .i64 0] ∧ Blk (tkW w A n c) (w.heap.size + 1) 3 #[.int .i64 0] ∧ Blk (tkW w A n c) (w.heap.size + 1 + 1) 26 #[.int .i64 0] ∧ Blk (tkW w A n c) (w.heap.size + 1 + 1 + 1) 25 #[.slice A n c] ∧
    Blk (tkW w A n c) (w.heap.size + 1 + 1 + 1 + 1) 80 #[.pointer (some ⟨w.heap.size + 1 + 1 + 1, 0, none⟩)] ∧ Blk (tkW w A n c) (w.heap.size + 1 + 1 + 1 + 1 + 1) 26 #[.int .i64 120] ∧ (tkW w A n c).heap.size = w.heap.size + 1 + 1 + 1 + 1 + 1 + 1 ∧ Below w.heap.size w (tkW w A n c) := by
  have a1 := Blk.new w 2 #[.int .i64 0]
  obtain ⟨W1, h1⟩ : ∃ W1, w.alloc (.cells #[.int .i64 0] 2) = W1 := ⟨_, rfl⟩
  have z1 : W1.heap.size = w.heap.size + 1 := by rw [← h1]; simp
  have l1 : Below w.heap.size w W1 := by rw [← h1]; exact (Below.refl _ w).alloc (Nat.le_refl _) _
  rw [h1] at a1
  have a2 := Blk.new W1 3 #[.int .i64 0]
  rw [z1] at a2
  obtain ⟨W2, h2⟩ : ∃ W2, W1.alloc (.cells #[.int .i64 0] 3) = W2 := ⟨_, rfl⟩
  have z2 : W2.heap.size = w.heap.size + 1 + 1 := by rw [← h2]; simp [z1]
  have l2 : Below w.heap.size w W2 := by rw [← h2]; exact l1.alloc (by omega) _
  have b1 := a1.alloc (.cells #[.int .i64 0] 3)
  rw [h2] at a2 b1
  have a3 := Blk.new W2 26 #[.int .i64 0]
  rw [z2] at a3
  obtain ⟨W3, h3⟩ : ∃ W3, W2.alloc (.cells #[.int .i64 0] 26) = W3 := ⟨_, rfl⟩
  have z3 : W3.heap.size = w.heap.size + 1 + 1 + 1 := by rw [← h3]; simp [z2]
  have l3 : Below w.heap.size w W3 := by rw [← h3]; exact l2.alloc (by omega) _
  have c1 := b1.alloc (.cells #[.int .i64 0] 26)
  have c2 := a2.alloc (.cells #[.int .i64 0] 26)
  rw [h3] at a3 c1 c2
  have a4 := Blk.new W3 25 #[.slice A n c]
  rw [z3] at a4
  obtain ⟨W4, h4⟩ : ∃ W4, W3.alloc (.cells #[.slice A n c] 25) = W4 := ⟨_, rfl⟩
  have z4 : W4.heap.size = w.heap.size + 1 + 1 + 1 + 1 := by rw [← h4]; simp [z3]
  have l4 : Below w.heap.size w W4 := by rw [← h4]; exact l3.alloc (by omega) _
  have d1 := c1.alloc (.cells #[.slice A n c] 25)
  have d2 := c2.alloc (.cells #[.slice A n c] 25)
  have d3 := a3.alloc (.cells #[.slice A n c] 25)
  rw [h4] at a4 d1 d2 d3
  have a5 := Blk.new W4 80 #[.pointer (some ⟨w.heap.size + 1 + 1 + 1, 0, none⟩)]
  rw [z4] at a5
  obtain ⟨W5, h5⟩ : ∃ W5, W4.alloc (.cells #[.pointer (some ⟨w.heap.size + 1 + 1 + 1, 0, none⟩)] 80) = W5 := ⟨_, rfl⟩
  have z5 : W5.heap.size = w.heap.size + 1 + 1 + 1 + 1 + 1 := by rw [← h5]; simp [z4]
  have l5 : Below w.heap.size w W5 := by rw [← h5]; exact l4.alloc (by omega) _
  have e1 := d1.alloc (.cells #[.pointer (some ⟨w.heap.size + 1 + 1 + 1, 0, none⟩)] 80)
  have e2 := d2.alloc (.cells #[.pointer (some ⟨w.heap.size + 1 + 1 + 1, 0, none⟩)] 80)
  have e3 := d3.alloc (.cells #[.pointer (some ⟨w.heap.size + 1 + 1 + 1, 0, none⟩)] 80)
  have e4 := a4.alloc (.cells #[.pointer (some ⟨w.heap.size + 1 + 1 + 1, 0, none⟩)] 80)
  rw [h5] at a5 e1 e2 e3 e4
  have a6 := Blk.new W5 26 #[.int .i64 120]
  rw [z5] at a6
  have hW : tkW w A n c = W5.alloc (.cells #[.int .i64 120] 26) := by unfold tkW; rw [h1, h2, h3, h4, h5]
  rw [hW]
  exact ⟨e1.alloc _, e2.alloc _, e3.alloc _, e4.alloc _, a5.alloc _, a6, by simp [z5], l5.alloc (by omega) _⟩

/-- what the last step of Take finds -/
def TkS (w : World) (n : Int) (A : Option Addr) (m c : Nat) (w' : World) : Prop :=
  Blk w' w.heap.size 2 #[.int .i64 n] ∧ (∃ v, Blk w' (w.heap.size + 1) 3 #[v]) ∧ (∃ v, Blk w' (w.heap.size + 1 + 1) 26 #[v]) ∧ Blk w' (w.heap.size + 1 + 1 + 1) 25 #[.slice A m c] ∧ Below w.heap.size w w'
theorem Blk.other {w : World} {g : Nat} {t : TypeId} {cs : Array Value} (h : Blk w g t cs) {a : Addr} (hne : g ≠ a.block) (v : Value) : Blk (w.setCell a v) g t cs := (Below.heap_setCell w a v g hne).trans h

theorem TkS.cells {w : World} {n : Int} {A : Option Addr} {m c : Nat} {w' : World} (h : TkS w n A m c w') : w'.cell? ⟨w.heap.size, 0, none⟩ = some (.int .i64 n) ∧ w'.cell? ⟨w.heap.size + 1 + 1 + 1, 0, none⟩ = some (.slice A m c) := ⟨h.1.cell 0, h.2.2.2.1.cell 0⟩
theorem TkS.setN {w : World} {n : Int} {A : Option Addr} {m c : Nat} {w' : World} (h : TkS w n A m c w') : TkS w n A m c (w'.setCell ⟨w.heap.size, 0, none⟩ (.int .i64 n)) := by
  obtain ⟨h1, ⟨kv, h2⟩, ⟨ev, h3⟩, h4, h5⟩ := h
  exact ⟨h1.set_ 0 _, ⟨_, h2.other (a := ⟨w.heap.size, 0, none⟩) (by show w.heap.size + 1 ≠ w.heap.size; omega) _⟩, ⟨_, h3.other (a := ⟨w.heap.size, 0, none⟩) (by show w.heap.size + 1 + 1 ≠ w.heap.size; omega) _⟩, h4.other (a := ⟨w.heap.size, 0, none⟩) (by show w.heap.size + 1 + 1 + 1 ≠ w.heap.size; omega) _, h5.setCell (p := ⟨w.heap.size, 0, none⟩) (Nat.le_refl _) _⟩
theorem TkS.setK {w : World} {n : Int} {A : Option Addr} {m c : Nat} {w' : World} (h : TkS w n A m c w') (v : Value) : TkS w n A m c (w'.setCell ⟨w.heap.size + 1, 0, none⟩ v) ∧ Blk (w'.setCell ⟨w.heap.size + 1, 0, none⟩ v) (w.heap.size + 1) 3 #[v] := by
  obtain ⟨h1, ⟨kv, h2⟩, ⟨ev, h3⟩, h4, h5⟩ := h
  exact ⟨⟨h1.other (a := ⟨w.heap.size + 1, 0, none⟩) (by show w.heap.size ≠ w.heap.size + 1; omega) _, ⟨_, h2.set_ 0 _⟩, ⟨_, h3.other (a := ⟨w.heap.size + 1, 0, none⟩) (by show w.heap.size + 1 + 1 ≠ w.heap.size + 1; omega) _⟩, h4.other (a := ⟨w.heap.size + 1, 0, none⟩) (by show w.heap.size + 1 + 1 + 1 ≠ w.heap.size + 1; omega) _, h5.setCell (p := ⟨w.heap.size + 1, 0, none⟩) (by show w.heap.size ≤ w.heap.size + 1; omega) _⟩, h2.set_ 0 _⟩
theorem TkS.setE {w : World} {n : Int} {A : Option Addr} {m c : Nat} {w' : World} (h : TkS w n A m c w') (v : Value) : TkS w n A m c (w'.setCell ⟨w.heap.size + 1 + 1, 0, none⟩ v) ∧ Blk (w'.setCell ⟨w.heap.size + 1 + 1, 0, none⟩ v) (w.heap.size + 1 + 1) 26 #[v] := by
  obtain ⟨h1, ⟨kv, h2⟩, ⟨ev, h3⟩, h4, h5⟩ := h
  exact ⟨⟨h1.other (a := ⟨w.heap.size + 1 + 1, 0, none⟩) (by show w.heap.size ≠ w.heap.size + 1 + 1; omega) _, ⟨_, h2.other (a := ⟨w.heap.size + 1 + 1, 0, none⟩) (by show w.heap.size + 1 ≠ w.heap.size + 1 + 1; omega) _⟩, ⟨_, h3.set_ 0 _⟩, h4.other (a := ⟨w.heap.size + 1 + 1, 0, none⟩) (by show w.heap.size + 1 + 1 + 1 ≠ w.heap.size + 1 + 1; omega) _, h5.setCell (p := ⟨w.heap.size + 1 + 1, 0, none⟩) (by show w.heap.size ≤ w.heap.size + 1 + 1; omega) _⟩, h3.set_ 0 _⟩

theorem tk_len (no : Int) : ∀ (bs : List Nat) (i n m : Nat) (r : List Nat), tk no i n bs = .ok (m, r) → r.length < bs.length
  | [], i, n, m, r, h => by simp [tk] at h
  | y :: t, i, n, m, r, h => by
    rw [tk] at h
    split at h
    · cases h
    · split at h
      · have := tk_len no t _ _ _ _ h
        rw [List.length_cons]
        omega
      · split at h
        · cases h
        · cases h
          simp

set_option maxRecDepth 100000 in
set_option maxHeartbeats 4000000 in
theorem Take_any (A : Option Addr) (bs : List Nat) (c : Nat) (w : World) (hb : Bys w w.heap.size A bs) (hc : bs.length ≤ c) (hm : bs.length ≤ 9223372036854775807) :
    Calls Try.prog 26 #[.slice A bs.length c] w fun x w' => x = .returned (.tuple #[.int .i64 (takeN bs), .int .i64 (takeK bs), .int .i64 (takeE bs)]) ∧ Below w.heap.size w w' := by
  obtain ⟨k1, k2, k3, k4, k5, k6, hz, hl⟩ := tkW_facts w A bs.length c
  have hLeft : Left (tkW w A bs.length c) (w.heap.size + 1 + 1 + 1) bs := ⟨A, c, k4, hc, hb.grow hl, fun h0 b o e h => by
    subst e
    obtain ⟨b', o', e', h', _⟩ := hb.2 h0
    cases e'
    omega⟩
  have HT := Lib.hid (take_any (tkW w A bs.length c) (w.heap.size + 1 + 1 + 1 + 1) (w.heap.size + 1 + 1 + 1 + 1 + 1) (w.heap.size + 1 + 1 + 1) 120 bs (k5.cell 0) (k6.cell 0) (by omega) (by omega) hLeft hm)
  obtain ⟨tN, htN⟩ : ∃ v, takeN bs = v := ⟨_, rfl⟩
  obtain ⟨tK, htK⟩ : ∃ v, takeK bs = v := ⟨_, rfl⟩
  obtain ⟨tE, htE⟩ : ∃ v, takeE bs = v := ⟨_, rfl⟩
  rw [htN, htK, htE]
  have HN := Lib.hid htN
  have HK := Lib.hid htK
  have HE := Lib.hid htE
  clear htN htK htE
  have hmf := mk_func
  go_enter_defers Try.func26, Try.ntmps26
  go_wp2_with fail
  refine (taker_any _ _ _).mono ?_
  rintro x w5 ⟨rfl, rfl⟩
  go_wp2_with fail
  refine HT.out.mono ?_
  rintro x w6 ⟨hx, hg6⟩
  have r1 : Blk w6 w.heap.size 2 #[.int .i64 0] := (hg6.block _ k1.lt (by intro e; injection e with e; omega)).trans k1
  have r2 : Blk w6 (w.heap.size + 1) 3 #[.int .i64 0] := (hg6.block _ k2.lt (by intro e; injection e with e; omega)).trans k2
  have r3 : Blk w6 (w.heap.size + 1 + 1) 26 #[.int .i64 0] := (hg6.block _ k3.lt (by intro e; injection e with e; omega)).trans k3
  have hl6 : Below w.heap.size w w6 := hl.grown hg6 hl.size (fun g e => by injection e; omega)
  clear k1 k2 k3 k4 k5 k6 hLeft HT hg6 hl hz hb hc
  cases hT : tk 120 0 0 bs with
  | error e =>
    rw [hT] at hx
    have hx2 : x = upP e := hx
    subst hx2
    have e1 : 0 = tN := by rw [← HN.out]; simp [takeN, hT]
    have e2 : 0 = tK := by rw [← HK.out]; simp [takeK, hT]
    have e3 : e = tE := by rw [← HE.out]; simp [takeE, hT]
    subst e1 e2 e3
    clear hx hT HN HK HE
    go_wp2_with fail
    have hne21 : w.heap.size ≠ w.heap.size + 1 := by omega
    have hz6 : w.heap.size + 1 + 1 < w6.heap.size := r3.lt
    have s1 := r1.alloc (.cells #[.int .i64 e] 92)
    have s2 := r2.alloc (.cells #[.int .i64 e] 92)
    have s3 := r3.alloc (.cells #[.int .i64 e] 92)
    have s4 := Blk.new w6 92 #[.int .i64 e]
    have l4 : Below w.heap.size w (w6.alloc (.cells #[.int .i64 e] 92)) := hl6.alloc (by omega) _
    obtain ⟨W7, hW7⟩ : ∃ W7, w6.alloc (.cells #[.int .i64 e] 92) = W7 := ⟨_, rfl⟩
    have hcl := clear_any w.heap.size (w.heap.size + 1) W7 _ _ (by rw [← hW7]; exact s1.cell 0) (by rw [← hW7]; exact s2.cell 0) (by rw [← hW7]; exact s1.frozen 0) (by rw [← hW7]; exact s2.frozen 0) hne21
    rw [hW7] at s1 s2 s3 s4 l4
    have u1 : Blk ((W7.setCell ⟨w.heap.size, 0, none⟩ (.int .i64 0)).setCell ⟨w.heap.size + 1, 0, none⟩ (.int .i64 0)) w.heap.size 2 #[.int .i64 0] := (s1.set_ 0 (.int .i64 0)).other (a := ⟨w.heap.size + 1, 0, none⟩) hne21 _
    have u2 : Blk ((W7.setCell ⟨w.heap.size, 0, none⟩ (.int .i64 0)).setCell ⟨w.heap.size + 1, 0, none⟩ (.int .i64 0)) (w.heap.size + 1) 3 #[.int .i64 0] := (s2.other (a := ⟨w.heap.size, 0, none⟩) (Ne.symm hne21) _).set_ 0 (.int .i64 0)
    have u3 : Blk ((W7.setCell ⟨w.heap.size, 0, none⟩ (.int .i64 0)).setCell ⟨w.heap.size + 1, 0, none⟩ (.int .i64 0)) (w.heap.size + 1 + 1) 26 #[.int .i64 0] := (s3.other (a := ⟨w.heap.size, 0, none⟩) (by show w.heap.size + 1 + 1 ≠ w.heap.size; omega) _).other (a := ⟨w.heap.size + 1, 0, none⟩) (by show w.heap.size + 1 + 1 ≠ w.heap.size + 1; omega) _
    have u4 : Blk ((W7.setCell ⟨w.heap.size, 0, none⟩ (.int .i64 0)).setCell ⟨w.heap.size + 1, 0, none⟩ (.int .i64 0)) w6.heap.size 92 #[.int .i64 e] := (s4.other (a := ⟨w.heap.size, 0, none⟩) (by show w6.heap.size ≠ w.heap.size; omega) _).other (a := ⟨w.heap.size + 1, 0, none⟩) (by show w6.heap.size ≠ w.heap.size + 1; omega) _
    have l5 : Below w.heap.size w ((W7.setCell ⟨w.heap.size, 0, none⟩ (.int .i64 0)).setCell ⟨w.heap.size + 1, 0, none⟩ (.int .i64 0)) := (l4.setCell (p := ⟨w.heap.size, 0, none⟩) (Nat.le_refl _) _).setCell (p := ⟨w.heap.size + 1, 0, none⟩) (by show w.heap.size ≤ w.heap.size + 1; omega) _
    obtain ⟨V, hV⟩ : ∃ V, (W7.setCell ⟨w.heap.size, 0, none⟩ (.int .i64 0)).setCell ⟨w.heap.size + 1, 0, none⟩ (.int .i64 0) = V := ⟨_, rfl⟩
    rw [hV] at u1 u2 u3 u4 l5 hcl
    refine leaves_cons (f := 42) (args := #[.pointer (some ⟨w.heap.size + 1 + 1, 0, none⟩), .func (.func 50) #[] #[.pointer (some ⟨w.heap.size, 0, none⟩), .pointer (some ⟨w.heap.size + 1, 0, none⟩)]]) (by simp) (by simp [go_sem]) ?_
    refine (caught_up ⟨w.heap.size + 1 + 1, 0, none⟩ 50 #[.pointer (some ⟨w.heap.size, 0, none⟩), .pointer (some ⟨w.heap.size + 1, 0, none⟩)] e [] w6 (fun W => W = V) (enters_of Try.func50 (by kernel_rfl) rfl) (by rw [hW7]; exact hcl) (fun W hW => by subst hW; exact ⟨u4.cell 0, ⟨_, u3.cell 0⟩, u3.frozen 0⟩)).mono ?_
    rintro x u' w' ⟨rfl, rfl, W, rfl, rfl⟩
    have v1 : (W.setCell ⟨w.heap.size + 1 + 1, 0, none⟩ (.int .i64 e)).cell? ⟨w.heap.size, 0, none⟩ = some (.int .i64 0) := (u1.other (a := ⟨w.heap.size + 1 + 1, 0, none⟩) (by show w.heap.size ≠ w.heap.size + 1 + 1; omega) _).cell 0
    have v2 : (W.setCell ⟨w.heap.size + 1 + 1, 0, none⟩ (.int .i64 e)).cell? ⟨w.heap.size + 1, 0, none⟩ = some (.int .i64 0) := (u2.other (a := ⟨w.heap.size + 1 + 1, 0, none⟩) (by show w.heap.size + 1 ≠ w.heap.size + 1 + 1; omega) _).cell 0
    have v3 : (W.setCell ⟨w.heap.size + 1 + 1, 0, none⟩ (.int .i64 e)).cell? ⟨w.heap.size + 1 + 1, 0, none⟩ = some (.int .i64 e) := (u3.set_ 0 (.int .i64 e)).cell 0
    have hfin : Below w.heap.size w (W.setCell ⟨w.heap.size + 1 + 1, 0, none⟩ (.int .i64 e)) := l5.setCell (p := ⟨w.heap.size + 1 + 1, 0, none⟩) (by show w.heap.size ≤ w.heap.size + 1 + 1; omega) _
    obtain ⟨Z, hZ⟩ : ∃ Z, W.setCell ⟨w.heap.size + 1 + 1, 0, none⟩ (.int .i64 e) = Z := ⟨_, rfl⟩
    rw [hZ] at v1 v2 v3 hfin ⊢
    simp [Leaves, settle, results, Try.results26, go_sem, v1, v2, v3]
    exact hfin
  | ok p =>
    obtain ⟨tn, r⟩ := p
    rw [hT] at hx
    obtain ⟨hx2, hLr⟩ : x = .returned (.int .i64 (tn : Int)) ∧ Left w6 (w.heap.size + 1 + 1 + 1) r := hx
    subst hx2
    have e1 : (tn : Int) = tN := by rw [← HN.out]; simp [takeN, hT]
    have e2 : (bs.length : Int) - (r.length : Int) = tK := by rw [← HK.out]; simp [takeK, hT]
    have e3 : 0 = tE := by rw [← HE.out]; simp [takeE, hT]
    have hrl := tk_len 120 bs 0 0 tn r hT
    subst e1 e2 e3
    clear hT HN HK HE
    obtain ⟨A', c', hB', _⟩ := hLr
    have x1 := r1.cell 0
    have x2 := r1.frozen 0
    go_wp2_with fail
    have hS7 : TkS w tn A' r.length c' (w6.setCell ⟨w.heap.size, 0, none⟩ (.int .i64 (tn : Int))) := ⟨r1.set_ 0 _, ⟨_, r2.other (a := ⟨w.heap.size, 0, none⟩) (by simp) _⟩, ⟨_, r3.other (a := ⟨w.heap.size, 0, none⟩) (by show w.heap.size + 1 + 1 ≠ w.heap.size; omega) _⟩, hB'.other (a := ⟨w.heap.size, 0, none⟩) (by show w.heap.size + 1 + 1 + 1 ≠ w.heap.size; omega) _, hl6.setCell (p := ⟨w.heap.size, 0, none⟩) (Nat.le_refl _) _⟩
    obtain ⟨w7, hw7⟩ : ∃ w7, w6.setCell ⟨w.heap.size, 0, none⟩ (.int .i64 (tn : Int)) = w7 := ⟨_, rfl⟩
    rw [hw7] at hS7 ⊢
    have q1 := hS7.1.cell 0
    have q4 := hS7.2.2.2.1.cell 0
    obtain ⟨n, hn⟩ : ∃ n : Int, (tn : Int) = n := ⟨_, rfl⟩
    rw [hn] at q1 hS7 ⊢
    have HNN := Lib.hid hn
    clear x1 x2 r1 r2 r3 hB' hw7 hl6 hn
    refine wp_region_noPanic ?_
    refine wp_region_held_drew (S := fun w' => (w'.cell? ⟨w.heap.size, 0, none⟩ = some (.int .i64 n) ∧ w'.cell? ⟨w.heap.size + 1 + 1 + 1, 0, none⟩ = some (.slice A' r.length c')) ∧ TkS w n A' r.length c' w') (by kernel_rfl) ⟨⟨q1, q4⟩, hS7.1, hS7.2.1, hS7.2.2.1, hS7.2.2.2.1, below_drew hS7.2.2.2.2⟩ (fun hHeld => ?_)
    refine takeH (i := 0) (v := ?_) rfl (by kernel_rfl) (by kernel_rfl) (by kernel_rfl) (fun _ _ _ h => h) (Or.inl ⟨by rfl, ?_⟩) (by assumption) ?_
    rotate_left
    · first | (intro w hSw; (try dsimp only at hSw); go_simp; done) | (intro w hSw; (try dsimp only at hSw); go_simp; with_reducible rfl)
    try simp only [Act.put, List.setIfInBounds_toArray, List.set_cons_zero, List.set_cons_succ]
    refine takeH (i := 1) (v := ?_) rfl (by kernel_rfl) (by kernel_rfl) (by kernel_rfl) (fun _ _ _ h => h) (Or.inl ⟨by rfl, ?_⟩) (by assumption) ?_
    rotate_left
    · first | (intro w hSw; (try dsimp only at hSw); go_simp; done) | (intro w hSw; (try dsimp only at hSw); go_simp; with_reducible rfl)
    try simp only [Act.put, List.setIfInBounds_toArray, List.set_cons_zero, List.set_cons_succ]
    refine takeH (i := 2) (v := ?_) rfl (by kernel_rfl) (by kernel_rfl) (by kernel_rfl) (fun _ _ _ h => h) (Or.inl ⟨by rfl, ?_⟩) (by assumption) ?_
    rotate_left
    · first | (intro w hSw; (try dsimp only at hSw); go_simp; done) | (intro w hSw; (try dsimp only at hSw); go_simp; with_reducible rfl)
    try simp only [Act.put, List.setIfInBounds_toArray, List.set_cons_zero, List.set_cons_succ]
    refine takeH (i := 3) (v := ?_) rfl (by kernel_rfl) (by kernel_rfl) (by kernel_rfl) (fun _ _ _ h => h) (Or.inl ⟨by rfl, ?_⟩) (by assumption) ?_
    rotate_left
    · first | (intro w hSw; (try dsimp only at hSw); go_simp; done) | (intro w hSw; (try dsimp only at hSw); go_simp; with_reducible rfl)
    try simp only [Act.put, List.setIfInBounds_toArray, List.set_cons_zero, List.set_cons_succ]
    refine takeH (i := 4) (v := ?_) rfl (by kernel_rfl) (by kernel_rfl) (by kernel_rfl) (fun _ _ _ h => h) (Or.inl ⟨by rfl, ?_⟩) (by assumption) ?_
    rotate_left
    · first | (intro w hSw; (try dsimp only at hSw); go_simp; done) | (intro w hSw; (try dsimp only at hSw); go_simp; with_reducible rfl)
    try simp only [Act.put, List.setIfInBounds_toArray, List.set_cons_zero, List.set_cons_succ]
    refine takeH (i := 5) (v := ?_) rfl (by kernel_rfl) (by kernel_rfl) (by kernel_rfl) (fun _ _ _ h => h) (Or.inl ⟨by rfl, ?_⟩) (by assumption) ?_
    rotate_left
    · first | (intro w hSw; (try dsimp only at hSw); go_simp; done) | (intro w hSw; (try dsimp only at hSw); go_simp; with_reducible rfl)
    try simp only [Act.put, List.setIfInBounds_toArray, List.set_cons_zero, List.set_cons_succ]
    have hS8 := hHeld.2
    obtain ⟨wd, hwd⟩ : ∃ wd, w7.drew = wd := ⟨_, rfl⟩
    rw [hwd] at hS8 ⊢
    clear hHeld hwd q1 q4 hS7
    refine wpAnyH_ready (rs := [6]) (by kernel_rfl) (by simp) ?_
    refine consH (i := 6) rfl (fun K hK => ?_) AllReadyH.nil
    have x1 := hS8.1.cell 0
    have x2 := hS8.1.frozen 0
    go_simp
    refine hK.out _ _ (⟨hS8.setN.cells, hS8.setN⟩) (fun hHeld => ?_)
    clear hK K
    try simp only [Act.put, List.setIfInBounds_toArray, List.set_cons_zero, List.set_cons_succ]
    have hS9 := hHeld.2
    clear hHeld x1 x2
    obtain ⟨we, hwe⟩ : ∃ we, wd.setCell ⟨w.heap.size, 0, none⟩ (.int .i64 n) = we := ⟨_, rfl⟩
    rw [hwe] at hS9 ⊢
    clear hwe hS8
    refine wpAnyH_ready (rs := [7]) (by kernel_rfl) (by simp) ?_
    refine consH (i := 7) rfl (fun K hK => ?_) AllReadyH.nil
    obtain ⟨kv, hkv⟩ := hS9.2.1
    have x1 := hkv.cell 0
    have x2 := hkv.frozen 0
    go_simp
    refine hK.out _ _ (⟨(hS9.setK _).1.cells, (hS9.setK _).1⟩) (fun hHeld => ?_)
    clear hK K
    try simp only [Act.put, List.setIfInBounds_toArray, List.set_cons_zero, List.set_cons_succ]
    have hS10 := hHeld.2
    have hK10 := (hS9.setK (.int .i64 ((bs.length : Int) - (r.length : Int)))).2
    clear hHeld x1 x2
    rw [IntWalk.i64_in _ (by omega)] at hS10 ⊢
    obtain ⟨wf, hwf⟩ : ∃ wf, we.setCell ⟨w.heap.size + 1, 0, none⟩ (.int .i64 ((bs.length : Int) - (r.length : Int))) = wf := ⟨_, rfl⟩
    rw [hwf] at hS10 hK10 ⊢
    clear hwf hS9 hkv
    refine wpAnyH_ready (rs := [8]) (by kernel_rfl) (by simp) ?_
    refine consH (i := 8) rfl (fun K hK => ?_) AllReadyH.nil
    obtain ⟨ev, hev⟩ := hS10.2.2.1
    have x1 := hev.cell 0
    have x2 := hev.frozen 0
    go_simp
    refine hK.out _ _ (⟨(hS10.setE _).1.cells, (hS10.setE _).1⟩) (fun hHeld => ?_)
    clear hK K
    try simp only [Act.put, List.setIfInBounds_toArray, List.set_cons_zero, List.set_cons_succ]
    refine wpAnyH_done (by kernel_rfl) ?_ _
    refine NoPanic.normal ?_
    have hE11 := (hS10.setE (.int .i64 0)).2
    have hS11 := (hS10.setE (.int .i64 0)).1
    have hK11 := hK10.other (a := ⟨w.heap.size + 1 + 1, 0, none⟩) (by show w.heap.size + 1 ≠ w.heap.size + 1 + 1; omega) (.int .i64 0)
    obtain ⟨wg, hwg⟩ : ∃ wg, wf.setCell ⟨w.heap.size + 1 + 1, 0, none⟩ (.int .i64 0) = wg := ⟨_, rfl⟩
    rw [hwg] at hE11 hS11 hK11 ⊢
    clear hHeld hS10 hK10 hev x1 x2 hwg
    go_wp2_with fail
    refine leaves_cons (f := 42) (args := #[.pointer (some ⟨w.heap.size + 1 + 1, 0, none⟩), .func (.func 50) #[] #[.pointer (some ⟨w.heap.size, 0, none⟩), .pointer (some ⟨w.heap.size + 1, 0, none⟩)]]) (by simp) (by simp [go_sem]) ?_
    refine (caught_idle _ _ _ _).mono ?_
    rintro x u' w' ⟨rfl, rfl, rfl⟩
    have v1 := hS11.1.cell 0
    have v2 := hK11.cell 0
    have v3 := hE11.cell 0
    have hfin := hS11.2.2.2.2
    simp at v1 v2 v3
    simp [Leaves, settle, results, Try.results26, go_sem, v1, v2, v3]
    exact ⟨HNN.out.symm, hfin⟩
end Go.Proofs.Ytdoidfnfhidgdaa
