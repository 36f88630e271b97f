import Derived.Test.YtdoidfnfhidgdaaJ
import Derived.Deep.RegionHeld3
namespace Go.Proofs.Ytdoidfnfhidgdaa
open Go.RowKit

set_option maxHeartbeats 1000000 in
theorem Open_short (A : Option Addr) (a : List Nat) (c : Nat) (w : World) (hm : a.length < 4) :
    Calls Try.prog 45 #[.slice A a.length c] w fun e w' => e = .returned (.tuple #[.slice none 0 0, .int .i64 110]) ∧ Below w.heap.size w w' := by
  have h1 : decide ((a.length : Int) - 4 < 0) = true := by simp; omega
  have h2 : (a.length : Int) - 4 < 0 := by omega
  go_enter Try.func45, Try.ntmps45
  go_wp2_with fail
  go_quiet (fail)
  go_wp2_with fail
  go_ret2
  exact ⟨rfl, below_drewN (Below.refl _ _) _⟩

set_option maxRecDepth 100000 in
theorem Bys.take {w : World} {B : Nat} {A : Option Addr} {l : List Nat} (h : Bys w B A l) (n : Nat) : Bys w B A (l.take n) := by
  refine ⟨fun c hc => h.1 c (List.mem_of_mem_take hc), fun hl => ?_⟩
  obtain ⟨b, off, hA, hlt, hc⟩ := h.2 (by intro e; subst e; simp at hl)
  refine ⟨b, off, hA, hlt, fun k e he => hc k e ?_⟩
  rw [List.getElem?_take] at he
  split at he
  · exact he
  · cases he
set_option maxRecDepth 100000 in
theorem Bys.drop {w : World} {B b off : Nat} {l : List Nat} (h : Bys w B (some ⟨b, off, none⟩) l) (n : Nat) : Bys w B (some ⟨b, off + n, none⟩) (l.drop n) := by
  refine ⟨fun c hc => h.1 c (List.mem_of_mem_drop hc), fun hl => ?_⟩
  obtain ⟨b', off', hA, hlt, hc⟩ := h.2 (by intro e; subst e; simp at hl)
  cases hA
  refine ⟨b, off + n, rfl, hlt, fun k e he => ?_⟩
  rw [List.getElem?_drop] at he
  have := hc _ e he
  rw [show off + n + k = off + (n + k) by omega]
  exact this

/-- sealed? -/
def sealedB (t q : List Nat) : Bool := decide (Crc.le4 (Crc.sum t) = q)

/-- what Open answers -/
def OpenRes (w : World) (t : List Nat) (ok : Bool) (e : Ending) (w' : World) : Prop :=
  match ok with
  | true => (∃ v, e = .returned (.tuple #[v, .int .i64 0]) ∧ Own w' w.heap.size v t) ∧ Below w.heap.size w w'
  | false => e = .returned (.tuple #[.slice none 0 0, .int .i64 110]) ∧ Below w.heap.size w w'

set_option maxHeartbeats 2000000 in
theorem Open_long (b off : Nat) (t q : List Nat) (c n : Nat) (w : World) (ha : Bys w w.heap.size (some ⟨b, off, none⟩) t) (hq : Bys w w.heap.size (some ⟨b, off + n, none⟩) q) (hm : n ≤ 1099511627776) (hac : n + 4 ≤ c) (ht : t.length = n) (hql : q.length = 4) :
    Calls Try.prog 45 #[.slice (some ⟨b, off, none⟩) (n + 4) c] w (OpenRes w t (sealedB t q)) := by
  have hsum : ∀ W : World, Bys W W.heap.size (some ⟨b, off, none⟩) t → Calls Try.prog 41 #[.slice (some ⟨b, off, none⟩) n c] W fun e w' => e = .returned (.int .u32 (Crc.sum t : Nat)) ∧ Below W.heap.size W w' := by
    intro W hW
    have := Sum_any (some ⟨b, off, none⟩) t c W hW (by omega)
    rw [ht] at this
    exact this
  have heq : ∀ (W : World) (A : Option Addr) (c1 c2 : Nat), Bys W W.heap.size A (Crc.le4 (Crc.sum t)) → Bys W W.heap.size (some ⟨b, off + n, none⟩) q →
      Calls Try.prog 74 #[.slice A 4 c1, .slice (some ⟨b, off + n, none⟩) 4 c2] W fun e w' => e = .returned (.bool (sealedB t q)) ∧ Below W.heap.size W w' := by
    intro W A c1 c2 h1 h2
    have := Equal_any A (some ⟨b, off + n, none⟩) (Crc.le4 (Crc.sum t)) q c1 c2 W h1 h2 (by simp [Crc.le4]) (by omega)
    rw [hql] at this
    exact this
  have hs : Crc.sum t < 4294967296 := by unfold Crc.sum; omega
  have hcn : ¬ c = n := by omega
  have hnc : n ≤ c := by omega
  have hnci : (n : Int) ≤ (c : Int) := by omega
  have hn4 : (n : Int) ≤ (n : Int) + 4 := by omega
  have hn0 : (0 : Int) ≤ (n : Int) := by omega
  have h1 : decide ((n : Int) < 0) = false := by simp
  have had : Bys w.drew w.drew.heap.size (some ⟨b, off, none⟩) t := ha
  have HS := Lib.hid hsum
  have HE := Lib.hid heq
  have HT := Lib.hid ht
  clear hsum heq ht hql
  go_enter Try.func45, Try.ntmps45
  go_wp2_with fail
  go_region_held3 (fun _ => True) (trivial) (first
    | (go_at_call 41; refine (HS.out _ ?_).mono ?_; exact had; rintro e w1 ⟨rfl, hb1⟩)
    | (go_at_call 75; refine (little_any (Crc.sum t) _ hs).mono ?_; rintro e w2 ⟨v, rfl, hown, hb2⟩; obtain ⟨A2, c2, rfl, hc2, hbys⟩ := hown.form)
    | (go_at_call 74; refine (HE.out _ _ _ _ ?_ ?_).mono ?_; exact hbys; exact (hq.below ((Below.refl _ w).drew.trans (hb1.trans (hb2.mono hb1.size))) (Nat.le_refl _)).mono (hb1.trans (hb2.mono hb1.size)).size; rintro e w3 ⟨rfl, hb3⟩))
  have hb : Below w.heap.size w w3 := (Below.refl _ w).drew.trans ((hb1.trans (hb2.mono hb1.size)).trans (hb3.mono (Nat.le_trans hb1.size hb2.size)))
  cases hsb : sealedB t q with
  | false =>
    go_wp2_with fail
    go_ret2
    show OpenRes w t (sealedB t q) _ _
    rw [hsb]
    exact ⟨rfl, hb⟩
  | true =>
    have hcl : ∀ W : World, Bys W W.heap.size (some ⟨b, off, none⟩) t → Calls Try.prog 76 #[.slice (some ⟨b, off, none⟩) n c] W fun e w' => ∃ v, e = .returned v ∧ Own w' W.heap.size v t ∧ Below W.heap.size W w' := by
      intro W hW
      have := Clone_any (some ⟨b, off, none⟩) t c W hW (by have := HT.out; omega)
      rw [HT.out] at this
      exact this
    have HC := Lib.hid hcl
    clear hcl
    go_wp2_with fail
    refine (HC.out w3 ((ha.below hb (Nat.le_refl _)).mono hb.size)).mono ?_
    rintro e w4 ⟨v, rfl, hown4, hb4⟩
    go_wp2_with fail
    go_ret2
    show OpenRes w t (sealedB t q) _ _
    rw [hsb]
    exact ⟨⟨v, rfl, hown4.mono hb.size⟩, hb.trans (hb4.mono hb.size)⟩
end Go.Proofs.Ytdoidfnfhidgdaa
