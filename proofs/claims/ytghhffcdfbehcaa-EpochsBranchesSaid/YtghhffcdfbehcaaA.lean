import Derived.Test.YtghhffcdfbehcaaProg
import Derived.WalkKit
import Derived.WalkSpells
import Derived.Lib.Hide
import Derived.Deep.QuietTactic
import Derived.BigQuiet
namespace Go.Proofs.Ytghhffcdfbehcaa
open Go.RowKit

structure Ent where
  epoch : Int
  id : Int
  num : Int
  seq : Int
  kind : Int
  value : Int

/-- entry k of a row of entries that begins at off -/
structure EntAt (w : World) (b off k : Nat) (e : Ent) : Prop where
  c0 : w.cell? ⟨b, off + k * 6, none⟩ = some (.int .i64 e.epoch)
  c1 : w.cell? ⟨b, off + k * 6 + 1, none⟩ = some (.int .i64 e.id)
  c2 : w.cell? ⟨b, off + k * 6 + 2, none⟩ = some (.int .i64 e.num)
  c3 : w.cell? ⟨b, off + k * 6 + 3, none⟩ = some (.int .i64 e.seq)
  c4 : w.cell? ⟨b, off + k * 6 + 4, none⟩ = some (.int .i64 e.kind)
  c5 : w.cell? ⟨b, off + k * 6 + 5, none⟩ = some (.int .i64 e.value)

/-- a slice of entries below block B -/
def Ents (w : World) (B : Nat) (A : Option Addr) (l : List Ent) : Prop :=
  l ≠ [] → ∃ b off, A = some ⟨b, off, none⟩ ∧ b < B ∧ ∀ k e, l[k]? = some e → EntAt w b off k e

theorem EntAt.keep {w w' : World} {b off k : Nat} {e : Ent} (h : EntAt w b off k e) (hk : ∀ o, w'.cell? ⟨b, o, none⟩ = w.cell? ⟨b, o, none⟩) : EntAt w' b off k e :=
  ⟨(hk _).trans h.c0, (hk _).trans h.c1, (hk _).trans h.c2, (hk _).trans h.c3, (hk _).trans h.c4, (hk _).trans h.c5⟩

theorem Ents.keep {w w' : World} {B : Nat} {A : Option Addr} {l : List Ent} (h : Ents w B A l) (hk : ∀ b o, b < B → w'.cell? ⟨b, o, none⟩ = w.cell? ⟨b, o, none⟩) : Ents w' B A l := by
  intro hl
  obtain ⟨b, off, hA, hb, hc⟩ := h hl
  exact ⟨b, off, hA, hb, fun k e he => (hc k e he).keep fun o => hk b o hb⟩

theorem Ents.below {w w' : World} {B B' : Nat} {A : Option Addr} {l : List Ent} (h : Ents w B A l) (hb : Below B' w w') (hB : B ≤ B') : Ents w' B A l :=
  h.keep fun b o hlt => hb.cell (p := ⟨b, o, none⟩) (by show b < B'; omega)

theorem Ents.mono {w : World} {B B' : Nat} {A : Option Addr} {l : List Ent} (h : Ents w B A l) (hB : B ≤ B') : Ents w B' A l := by
  intro hl
  obtain ⟨b, off, hA, hb, hc⟩ := h hl
  exact ⟨b, off, hA, by omega, hc⟩

theorem Ents.at_ {w : World} {B : Nat} {A : Option Addr} {l : List Ent} (h : Ents w B A l) {k : Nat} (hk : k < l.length) : ∃ b off, A = some ⟨b, off, none⟩ ∧ b < B ∧ EntAt w b off k l[k] := by
  obtain ⟨b, off, hA, hb, hc⟩ := h (by intro e; subst e; simp at hk)
  exact ⟨b, off, hA, hb, hc k _ (List.getElem?_eq_getElem hk)⟩

theorem Ents.take {w : World} {B : Nat} {A : Option Addr} {l : List Ent} (h : Ents w B A l) (n : Nat) : Ents w B A (l.take n) := by
  intro hl
  obtain ⟨b, off, hA, hb, hc⟩ := h (by intro e; subst e; simp at hl)
  refine ⟨b, off, hA, hb, fun k e he => hc k e ?_⟩
  rw [List.getElem?_take] at he
  split at he
  · exact he
  · cases he

/-! ### the plain functions -/
def lastE : List Ent → Int
  | [] => 0
  | l => (l.getLast?.map Ent.epoch).getD 0

def mayFrom (last : Int) : List Ent → Bool
  | [] => true
  | e :: r => decide (last ≤ e.epoch ∧ e.epoch ≤ 2147483647) && mayFrom e.epoch r

def may (l : List Ent) : Bool := mayFrom 1 l && decide (l.length ≤ 4096)

theorem mayFrom_yes {last : Int} {l : List Ent} {k : Nat} (hk : k < l.length) (h1 : last ≤ l[k].epoch) (h2 : l[k].epoch ≤ 2147483647) :
    mayFrom last (l.drop k) = mayFrom l[k].epoch (l.drop (k + 1)) := by
  rw [List.drop_eq_getElem_cons hk, mayFrom]; simp [h1, h2]
theorem mayFrom_no {last : Int} {l : List Ent} {k : Nat} (hk : k < l.length) (h : l[k].epoch < last ∨ 2147483647 < l[k].epoch) :
    mayFrom last (l.drop k) = false := by
  rw [List.drop_eq_getElem_cons hk, mayFrom]
  have : ¬ (last ≤ l[k].epoch ∧ l[k].epoch ≤ 2147483647) := by omega
  simp [this]

theorem lastE_eq {l : List Ent} (h : 0 < l.length) : lastE l = l[l.length - 1].epoch := by
  cases l with
  | nil => simp at h
  | cons e r => simp [lastE, List.getLast?_eq_getElem?]

theorem last_any (A : Option Addr) (l : List Ent) (B c : Nat) (w : World) (hl : Ents w B A l) (hm : l.length ≤ 9223372036854775807) :
    Calls Try.prog 27 #[.slice A l.length c] w fun e w' => e = .returned (.int .i64 (lastE l)) ∧ w = w' := by
  by_cases hz : l.length = 0
  · have : l = [] := List.eq_nil_of_length_eq_zero hz
    subst this
    go_enter Try.func27, Try.ntmps27
    go_wp2
    go_ret
    exact ⟨rfl, rfl⟩
  · have h0 : ((l.length : Int) == 0) = false := beq_eq_false_iff_ne.2 (by omega)
    obtain ⟨b, off, rfl, hbB, he⟩ := hl.at_ (k := l.length - 1) (by omega)
    have c0 := he.c0
    have hp : 0 < l.length := by omega
    have HL := Lib.hid (lastE_eq hp)
    go_enter Try.func27, Try.ntmps27
    go_wp2
    go_ret
    exact ⟨by rw [HL.out]; rfl, rfl⟩

theorem refLast_any (A : Option Addr) (l : List Ent) (B c : Nat) (w : World) (hl : Ents w B A l) (hm : l.length ≤ 9223372036854775807) :
    Calls Try.prog 19 #[.slice A l.length c] w fun e w' => e = .returned (.int .i64 (lastE l)) ∧ w = w' := by
  by_cases hz : l.length = 0
  · have : l = [] := List.eq_nil_of_length_eq_zero hz
    subst this
    go_enter Try.func19, Try.ntmps19
    go_wp2
    go_ret
    exact ⟨rfl, rfl⟩
  · have h0 : ((l.length : Int) == 0) = false := beq_eq_false_iff_ne.2 (by omega)
    obtain ⟨b, off, rfl, hbB, he⟩ := hl.at_ (k := l.length - 1) (by omega)
    have c0 := he.c0
    have hp : 0 < l.length := by omega
    have HL := Lib.hid (lastE_eq hp)
    go_enter Try.func19, Try.ntmps19
    go_wp2
    go_ret
    exact ⟨by rw [HL.out]; rfl, rfl⟩

set_option maxHeartbeats 400000 in
theorem May_any (A : Option Addr) (l : List Ent) (c : Nat) (w : World) (hl : Ents w w.heap.size A l) (hm : l.length ≤ 9223372036854775807) :
    Calls Try.prog 14 #[.slice A l.length c] w fun e w' => e = .returned (.bool (may l)) ∧ Below w.heap.size w w' := by
  go_enter Try.func14, Try.ntmps14
  go_wp2
  go_loopw [3, 8] (fun last i wr => ∃ (k : Nat) (x : Int), k ≤ l.length ∧ i = .int .i64 k ∧ last = .int .i64 x ∧ mayFrom 1 l = mayFrom x (l.drop k) ∧ Below w.heap.size w wr)
    (fun _ i _ => l.length - (intOf i).toNat)
  case atStart => exact ⟨0, 1, Nat.zero_le _, rfl, rfl, by simp, Below.refl _ _⟩
  case round =>
    obtain ⟨k, x, hk, rfl, rfl, hf, hb⟩ := hrel
    have HF := Lib.hid hf
    clear hf
    by_cases hlt : k < l.length
    · obtain ⟨b, off, rfl, hbB, he⟩ := (hl.below hb (Nat.le_refl _)).at_ hlt
      obtain ⟨h0, h1, h2, h3, h4, h5⟩ := he
      by_cases t1 : l[k].epoch < x
      · go_wp2
        go_ret
        exact ⟨by rw [may, HF.out, mayFrom_no hlt (.inl t1)]; rfl, hb.alloc hb.size _⟩
      · by_cases t2 : 2147483647 < l[k].epoch
        · go_wp2
          go_ret
          exact ⟨by rw [may, HF.out, mayFrom_no hlt (.inr t2)]; rfl, hb.alloc hb.size _⟩
        · go_wp2
          go_roundw
          case rel => exact ⟨k + 1, _, by omega, by go_num, rfl, by rw [HF.out, mayFrom_yes hlt (by omega) (by omega)], hb.alloc hb.size _⟩
          case measure => simp [intOf]; omega
    · obtain rfl : k = l.length := by omega
      have HM : Hid (may l = decide (l.length ≤ 4096)) := by
        show may l = _
        rw [may, HF.out, List.drop_eq_nil_of_le (Nat.le_refl _)]
        simp [mayFrom]
      go_wp2
      go_ret
      exact ⟨by rw [HM.out]; go_num, hb⟩
end Go.Proofs.Ytghhffcdfbehcaa
