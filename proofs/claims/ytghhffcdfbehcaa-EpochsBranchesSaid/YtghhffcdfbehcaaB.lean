import Derived.Test.YtghhffcdfbehcaaA
import Derived.Handy
namespace Go.Proofs.Ytghhffcdfbehcaa
open Go.RowKit

/-- how many entries stand ahead of the first of a greater epoch -/
def aboveN (x : Int) : List Ent → Nat
  | [] => 0
  | e :: r => if x < e.epoch then 0 else aboveN x r + 1

theorem aboveN_le (x : Int) (l : List Ent) : aboveN x l ≤ l.length := by
  induction l with
  | nil => exact Nat.le_refl _
  | cons e r ih => simp only [aboveN, List.length_cons]; split <;> omega

theorem aboveN_drop_no {x : Int} {l : List Ent} {k : Nat} (hk : k < l.length) (h : ¬ x < l[k].epoch) : aboveN x (l.drop k) = aboveN x (l.drop (k + 1)) + 1 := by
  rw [List.drop_eq_getElem_cons hk, aboveN, if_neg h]
theorem aboveN_drop_yes {x : Int} {l : List Ent} {k : Nat} (hk : k < l.length) (h : x < l[k].epoch) : aboveN x (l.drop k) = 0 := by
  rw [List.drop_eq_getElem_cons hk, aboveN, if_pos h]

def Ent.agg (e : Ent) : Value := .agg #[.int .i64 e.epoch, .int .i64 e.id, .int .i64 e.num, .int .i64 e.seq, .int .i64 e.kind, .int .i64 e.value]

theorem above1_any (e : Ent) (p : Addr) (x : Int) (w : World) (hp : p.block < w.heap.size) (hc : w.cell? p = some (.int .i64 x)) :
    Calls Try.prog 31 #[.agg #[.int .i64 e.epoch, .int .i64 e.id, .int .i64 e.num, .int .i64 e.seq, .int .i64 e.kind, .int .i64 e.value], .pointer (some p)] w fun en w' => en = .returned (.bool (decide (x < e.epoch))) ∧ Below w.heap.size w w' := by
  have hc2 := World.cell?_alloc_lt w (.cells #[.int .i64 e.epoch, .int .i64 e.id, .int .i64 e.num, .int .i64 e.seq, .int .i64 e.kind, .int .i64 e.value] 54) p hp
  rw [hc] at hc2
  go_enter Try.func31, Try.ntmps31
  go_wp2
  go_ret
  exact ⟨rfl, (Below.refl _ _).alloc (Nat.le_refl _) _⟩

set_option maxHeartbeats 400000 in
theorem first_any (A : Option Addr) (l : List Ent) (c : Nat) (p : Addr) (x : Int) (w : World) (hl : Ents w w.heap.size A l) (hm : l.length ≤ 9223372036854775807)
    (hp : p.block < w.heap.size) (hc : w.cell? p = some (.int .i64 x)) :
    Calls Try.prog 30 #[.slice A l.length c, .func (.func 31) #[] #[.pointer (some p)]] w fun e w' => e = .returned (.int .i64 (aboveN x l : Nat)) ∧ Below w.heap.size w w' := by
  go_enter Try.func30, Try.ntmps30
  go_wp2
  go_loopw [9] (fun i wr => ∃ (k : Nat), k ≤ l.length ∧ i = .int .i64 k ∧ aboveN x l = aboveN x (l.drop k) + k ∧ Below w.heap.size w wr)
    (fun i _ => l.length - (intOf i).toNat)
  case atStart => exact ⟨0, Nat.zero_le _, rfl, by simp, Below.refl _ _⟩
  case round =>
    obtain ⟨k, hk, rfl, hf, hb⟩ := hrel
    have HF := Lib.hid hf
    clear hf
    by_cases hlt : k < l.length
    · obtain ⟨b, off, rfl, hbB, he⟩ := (hl.below hb (Nat.le_refl _)).at_ hlt
      obtain ⟨h0, h1, h2, h3, h4, h5⟩ := he
      have hcw : wr.cell? p = some (.int .i64 x) := (hb.cell hp).trans hc
      have hsz := hb.size
      by_cases t1 : x < l[k].epoch
      · have HN : Hid (aboveN x l = k) := by show aboveN x l = k; rw [HF.out, aboveN_drop_yes hlt t1]; omega
        have d1 : decide (x < l[k].epoch) = true := by simpa using t1
        go_wp2_with (go_at_call 31; refine (above1_any l[k] p x _ (by simp; omega) ((World.cell?_alloc_lt wr _ p (by omega)).trans hcw)).mono ?_; rintro e w1 ⟨rfl, hb1⟩)
        go_ret
        exact ⟨by rw [HN.out]; rfl, (hb.alloc hb.size _).trans (hb1.mono (by simp; omega))⟩
      · have d1 : decide (x < l[k].epoch) = false := by simpa using t1
        go_wp2_with (go_at_call 31; refine (above1_any l[k] p x _ (by simp; omega) ((World.cell?_alloc_lt wr _ p (by omega)).trans hcw)).mono ?_; rintro e w1 ⟨rfl, hb1⟩)
        go_roundw
        case rel => exact ⟨k + 1, by omega, by go_num, by rw [HF.out, aboveN_drop_no hlt (by omega)]; omega, (hb.alloc hb.size _).trans (hb1.mono (by simp; omega))⟩
        case measure => simp [intOf]; omega
    · obtain rfl : k = l.length := by omega
      have HN : Hid (aboveN x l = l.length) := by show aboveN x l = _; rw [HF.out, List.drop_eq_nil_of_le (Nat.le_refl _)]; simp [aboveN]
      go_wp2
      go_ret
      exact ⟨by rw [HN.out]; rfl, hb⟩
end Go.Proofs.Ytghhffcdfbehcaa
