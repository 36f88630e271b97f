import Derived.Test.YtghhffcdfbehcaaK
import Derived.WalkLawsBesides
namespace Go.Proofs.Ytghhffcdfbehcaa
open Go.RowKit

/-- it fits at its end -/
def meets (leader l : List Ent) (n : Nat) : Bool := fitsB leader n (lastE (l.take n))
/-- the end of its last epoch in the leader's log -/
def endOf (leader l : List Ent) (n : Nat) : Nat := aboveN (lastE (l.take n)) leader
/-- how many it keeps as it comes nearer once -/
def nearer (leader l : List Ent) (n : Nat) : Nat :=
  min (min (endOf leader l n) (aboveN (lastE (leader.take (endOf leader l n))) (l.take n))) (n - 1)

def meetF (leader l : List Ent) : Nat → Nat → Nat → Nat × Nat
  | 0, n, o => (n, o)
  | f + 1, n, o => if meets leader l n = true then (n, o) else meetF leader l f (nearer leader l n) (o + 1)

def meetN (leader l : List Ent) : Nat × Nat := meetF leader l l.length l.length 0

theorem meets_zero (leader l : List Ent) : meets leader l 0 = true := by simp [meets, fitsB, lastE]
theorem nearer_lt {leader l : List Ent} {n : Nat} (h : ¬ meets leader l n = true) : nearer leader l n < n := by
  have h0 : n ≠ 0 := fun e => h (by rw [e]; exact meets_zero _ _)
  unfold nearer; omega
theorem meetF_fits {leader l : List Ent} {f n o : Nat} (h : meets leader l n = true) : meetF leader l f n o = (n, o) := by
  cases f with
  | zero => rfl
  | succ f => rw [meetF, if_pos h]
theorem meetF_next {leader l : List Ent} {f n o : Nat} (h : ¬ meets leader l n = true) (hf : n ≤ f) : meetF leader l f n o = meetF leader l (f - 1) (nearer leader l n) (o + 1) := by
  have := nearer_lt h
  cases f with
  | zero => omega
  | succ f => rw [meetF, if_neg h]; rfl

theorem meetF_facts {leader l : List Ent} : ∀ f n o : Nat, n ≤ f → meets leader l (meetF leader l f n o).1 = true ∧ (meetF leader l f n o).1 ≤ n ∧ (meetF leader l f n o).2 + (meetF leader l f n o).1 ≤ o + n := by
  intro f
  induction f with
  | zero => intro n o h; obtain rfl : n = 0 := by omega
            exact ⟨meets_zero _ _, Nat.le_refl _, Nat.le_refl _⟩
  | succ f ih =>
    intro n o h
    rw [meetF]
    split
    · rename_i hm; exact ⟨hm, Nat.le_refl _, Nat.le_refl _⟩
    · rename_i hm
      have hl := nearer_lt hm
      obtain ⟨h1, h2, h3⟩ := ih (nearer leader l n) (o + 1) (by omega)
      exact ⟨h1, by omega, by omega⟩

set_option maxRecDepth 100000 in
set_option maxHeartbeats 4000000 in
theorem Meet_yes (A1 A2 : Option Addr) (a b : List Ent) (c1 c2 : Nat) (w : World) (ha : Ents w w.heap.size A1 a) (hb : Ents w w.heap.size A2 b) (hma : a.length ≤ 1048576) (hmb : b.length ≤ 1048576) (hca : a.length ≤ c1) (hcb : b.length ≤ c2)
    (m1 : may a = true) (m2 : may b = true) :
    Calls Try.prog 16 #[.slice A1 a.length c1, .slice A2 b.length c2] w fun e w' => e = .returned (.tuple #[.int .i64 ((meetN a b).1 : Nat), .int .i64 ((meetN a b).2 : Nat), .int .i64 0]) ∧ Below w.heap.size w w' := by
  have M1 := Lib.hid m1
  have M2 := Lib.hid m2
  clear m1 m2
  go_enter Try.func16, Try.ntmps16
  go_wp2_with fail
  go_step3
  go_wp2_with fail
  refine (May_any A1 a c1 w ha (by omega)).mono ?_
  rintro e w1 ⟨rfl, hb1⟩
  rw [M1.out]
  go_wp2_with fail
  refine (May_any A2 b c2 w1 (hb.grow hb1) (by omega)).mono ?_
  rintro e w2 ⟨rfl, hb2⟩
  rw [M2.out]
  have hbw : Below w.heap.size w w2 := hb1.trans (hb2.mono hb1.size)
  clear hb1 hb2
  go_wp2_with fail
  go_step3
  go_wp2_with fail
  go_loopw [1, 7] (fun l o wr => ∃ (f n k : Nat), n ≤ f ∧ n ≤ b.length ∧ k + n ≤ b.length ∧ l = .slice A2 n c2 ∧ o = .int .i64 k ∧ meetN a b = meetF a b f n k ∧ Below w.heap.size w wr)
    (fun l _ _ => match l with | .slice _ n _ => n | _ => 0)
  case atStart => exact ⟨b.length, b.length, 0, Nat.le_refl _, Nat.le_refl _, by omega, rfl, rfl, rfl, hbw⟩
  case round =>
    obtain ⟨f, n, k, hnf, hnb, hkn, rfl, rfl, hmt, hbr⟩ := hrel
    have HMT := Lib.hid hmt
    clear hmt
    have htk := take_len hnb
    have hL : ∀ W : World, Ents W W.heap.size A2 b → Calls Try.prog 27 #[.slice A2 n c2] W fun e w' => e = .returned (.int .i64 (lastE (b.take n))) ∧ W = w' := by
      intro W hW
      have := last_any A2 (b.take n) _ c2 W (hW.take n) (by omega)
      rw [htk] at this
      exact this
    have hA : ∀ (W : World) (x : Int), Ents W W.heap.size A2 b → Calls Try.prog 26 #[.slice A2 n c2, .int .i64 x] W fun e w' => e = .returned (.int .i64 (aboveN x (b.take n) : Nat)) ∧ Below W.heap.size W w' := by
      intro W x hW
      have := above_any A2 (b.take n) c2 x W (hW.take n) (by omega)
      rw [htk] at this
      exact this
    have hLa : ∀ (W : World) (j : Nat), j ≤ a.length → Ents W W.heap.size A1 a → Calls Try.prog 27 #[.slice A1 j c1] W fun e w' => e = .returned (.int .i64 (lastE (a.take j))) ∧ W = w' := by
      intro W j hj hW
      have ht := take_len hj
      have := last_any A1 (a.take j) _ c1 W (hW.take j) (by omega)
      rw [ht] at this
      exact this
    have HL := Lib.hid hL
    have HA := Lib.hid hA
    have HLA := Lib.hid hLa
    clear hL hA hLa htk
    have ha0 := (ha.below hbr (Nat.le_refl _)).mono hbr.size
    have hb0 := (hb.below hbr (Nat.le_refl _)).mono hbr.size
    go_wp2_with fail
    refine (HL.out wr hb0).mono ?_
    rintro e w3 ⟨rfl, rfl⟩
    go_wp2_with fail
    refine (fits_any A1 a c1 n _ wr ha0 (by omega) hca).mono ?_
    rintro e w3 ⟨rfl, rfl⟩
    cases hmm : meets a b n with
    | true =>
      have hmf : fitsB a n (lastE (b.take n)) = true := hmm
      have HR : Hid (meetN a b = (n, k)) := by show _ = _; rw [HMT.out, meetF_fits hmm]
      clear hmm
      rw [hmf]
      clear hmf
      go_wp2_with fail
      rw [Exit.noGoto_ret]
      go_ret3
      exact ⟨by rw [HR.out]; rfl, hbr⟩
    | false =>
      have hmf : fitsB a n (lastE (b.take n)) = false := hmm
      have HM := Lib.hid hmm
      clear hmm
      rw [hmf]
      clear hmf
      go_wp2_with fail
      refine (HL.out wr hb0).mono ?_
      rintro e w3 ⟨rfl, rfl⟩
      go_wp2_with fail
      refine (above_any A1 a c1 _ wr ha0 (by omega)).mono ?_
      rintro e w3 ⟨rfl, hb3⟩
      have hle := aboveN_le (lastE (b.take n)) a
      obtain ⟨E, hE⟩ : ∃ E, aboveN (lastE (b.take n)) a = E := ⟨_, rfl⟩
      rw [hE] at hle ⊢
      have HE := Lib.hid hE
      clear hE
      go_wp2_with fail
      refine (HLA.out w3 E hle (ha0.grow hb3)).mono ?_
      rintro e w4 ⟨rfl, rfl⟩
      go_wp2_with fail
      refine (HA.out w3 _ (hb0.grow hb3)).mono ?_
      rintro e w5 ⟨rfl, hb5⟩
      have hle2 := aboveN_le (lastE (a.take E)) (b.take n)
      obtain ⟨F, hF⟩ : ∃ F, aboveN (lastE (a.take E)) (b.take n) = F := ⟨_, rfl⟩
      rw [hF] at hle2 ⊢
      have HF := Lib.hid hF
      clear hF
      have hle3 : F ≤ n := by rw [List.length_take] at hle2; omega
      clear hle2
      have hn1 : 1 ≤ n := by
        rcases Nat.eq_zero_or_pos n with h0 | h0
        · have h1 := HM.out
          rw [h0, meets_zero] at h1
          cases h1
        · exact h0
      have hnc : n ≤ c2 := by omega
      have hX : Hid (nearer a b n = min (min E F) (n - 1)) := by
        show _ = _
        unfold nearer endOf
        rw [HE.out, HF.out]
      have hb' : Below w.heap.size w w5 := hbr.trans ((hb3.trans (hb5.mono hb3.size)).mono hbr.size)
      have HN : Hid (meetN a b = meetF a b (f - 1) (nearer a b n) (k + 1)) := by
        show _ = _
        rw [HMT.out, meetF_next (by rw [HM.out]; decide) hnf]
      clear HL HA HLA ha0 hb0 hb3 hb5 hbr
      go_wp2_with fail
      all_goals first
        | (exfalso; omega)
        | (go_roundw
           case rel => exact ⟨f - 1, _, k + 1, by omega, by omega, by omega, rfl, by go_num, by rw [HN.out, hX.out]; congr 1; omega, hb'⟩
           case measure => dsimp only; omega)
end Go.Proofs.Ytghhffcdfbehcaa
