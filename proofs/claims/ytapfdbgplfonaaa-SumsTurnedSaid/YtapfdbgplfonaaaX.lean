import Derived.Test.YtapfdbgplfonaaaV
import Derived.WalkLawsBesides
namespace Go.Proofs.Ytapfdbgplfonaaa
open Go.RowKit

theorem flip_lt (xs : List Nat) (p : Nat) (h : ∀ c ∈ xs, c < 256) (hp : p / 8 < xs.length) : ∀ c ∈ Crc.flip xs p, c < 256 := by
  intro c hc
  unfold Crc.flip at hc
  rcases List.mem_or_eq_of_mem_set hc with h1 | rfl
  · exact h c h1
  · refine Nat.xor_lt_two_pow (n := 8) ?_ (Nat.pow_lt_pow_right (by omega) (by omega))
    rw [List.getD_eq_getElem?_getD, List.getElem?_eq_getElem hp]
    exact h _ (List.getElem_mem hp)

theorem xor_help (r D M : Nat) : (r ^^^ M) ^^^ ((r ^^^ D) ^^^ M) = D := by
  apply Nat.eq_of_testBit_eq
  intro i
  simp only [Nat.testBit_xor]
  cases r.testBit i <;> cases D.testBit i <;> cases M.testBit i <;> rfl

theorem sum_flip (xs : List Nat) (p : Nat) (h : ∀ c ∈ xs, c < 256) (hp : p < 8 * xs.length) : Crc.sum xs ^^^ Crc.sum (Crc.flip xs p) = Crc.one (8 * xs.length - p) := by
  have h1 := Crc.run_lt xs (w := 4294967295) (by omega) h
  have h2 := Crc.run_lt (Crc.flip xs p) (w := 4294967295) (by omega) (flip_lt xs p h (by omega))
  unfold Crc.sum
  rw [Crc.not_eq h1, Crc.not_eq h2, Crc.run_flip xs _ p hp]
  exact xor_help _ _ _

theorem one_pos (m : Nat) : Crc.one m ≠ 0 := by
  intro h
  have h1 := Crc.par_one m
  rw [h] at h1
  exact absurd h1 (by decide)

theorem sum_flip_ne (xs : List Nat) (p : Nat) (h : ∀ c ∈ xs, c < 256) (hp : p < 8 * xs.length) : Crc.sum xs ≠ Crc.sum (Crc.flip xs p) := by
  intro e
  have h1 := sum_flip xs p h hp
  rw [← e, Nat.xor_self] at h1
  exact one_pos _ h1.symm

theorem xor8 (x p : Nat) (hx : x < 256) : bits BinOp.xor IntKind.u8 (x : Int) (2 ^ (p % 8) % 256) = ((x ^^^ 2 ^ (p % 8) : Nat) : Int) := by
  have hp : 2 ^ (p % 8) < 2 ^ 8 := Nat.pow_lt_pow_right (by omega) (by omega)
  have hp256 : (2 : Nat) ^ 8 = 256 := rfl
  rw [hp256] at hp
  have key : ∀ j : Nat, j < 8 → ((2 : Int) ^ j % 256) = ((2 ^ j : Nat) : Int) := by decide
  have h2 := key (p % 8) (by omega)
  rw [h2]
  exact u8_xor_nat x (2 ^ (p % 8)) hx hp

theorem Bys.set_ {w : World} {B g k v : Nat} {xs : List Nat} (h : Bys w B (some ⟨g, 0, none⟩) xs) (hk : k < xs.length) (hv : v < 256) : Bys (w.setCell ⟨g, k, none⟩ (.int .u8 v)) B (some ⟨g, 0, none⟩) (xs.set k v) := by
  refine ⟨fun c hc => ?_, fun _ => ?_⟩
  · rcases List.mem_or_eq_of_mem_set hc with h1 | rfl
    · exact h.1 c h1
    · exact hv
  · obtain ⟨b, off, e, hlt, hc⟩ := h.2 (by intro e; subst e; simp at hk)
    cases e
    refine ⟨g, 0, rfl, hlt, fun j c hj => ?_⟩
    rw [Nat.zero_add]
    rw [List.getElem?_set] at hj
    by_cases hjk : k = j
    · subst hjk
      rw [if_pos rfl, if_pos hk] at hj
      injection hj with hj
      subst hj
      refine World.cell?_setCell_same' w ⟨g, k, none⟩ _ ?_
      have h0 := hc k _ (List.getElem?_eq_getElem hk)
      rw [Nat.zero_add] at h0
      rw [h0]
      rfl
    · rw [if_neg hjk] at hj
      have h0 := hc j c hj
      rw [Nat.zero_add] at h0
      rw [World.cell?_setCell_other]
      · exact h0
      · intro e
        injection e with _ e2
        exact hjk e2

theorem Bys.flip {w : World} {B g p x n : Nat} {xs : List Nat} (h : Bys w B (some ⟨g, 0, none⟩) xs) (hl : xs.length = n) (hp : p / 8 < n) (hx : w.cell? ⟨g, p / 8, none⟩ = some (.int .u8 x)) : Bys (w.setCell ⟨g, p / 8, none⟩ (.int .u8 (x ^^^ 2 ^ (p % 8) : Nat))) B (some ⟨g, 0, none⟩) (Crc.flip xs p) := by
  subst hl
  obtain ⟨b, off, e, _, hc⟩ := h.at_ hp
  cases e
  rw [Nat.zero_add, hx] at hc
  have he : x = xs[p / 8] := by injection hc with hc; injection hc with _ hc; omega
  have hd : xs.getD (p / 8) 0 = x := by rw [List.getD_eq_getElem?_getD, List.getElem?_eq_getElem hp, he]; rfl
  have hlt : x < 256 := by rw [he]; exact h.1 _ (List.getElem_mem hp)
  unfold Crc.flip
  rw [hd]
  refine h.set_ hp (Nat.xor_lt_two_pow (n := 8) hlt (Nat.pow_lt_pow_right (by omega) (by omega)))

theorem Row8.other {w : World} {g n : Nat} (h : Row8 w g n) {a : Addr} (hne : g ≠ a.block) (v : Value) : Row8 (w.setCell a v) g n := by
  obtain ⟨cs, h1, h2⟩ := h
  exact ⟨cs, (Below.heap_setCell w a v g hne).trans h1, h2⟩
end Go.Proofs.Ytapfdbgplfonaaa
