import Derived.Test.YtghhffcdfbehcaaL
namespace Go.Proofs.Ytghhffcdfbehcaa
open Go.RowKit

theorem mayFrom_take {l : List Ent} : ∀ {y : Int} (n : Nat), mayFrom y l = true → mayFrom y (l.take n) = true := by
  induction l with
  | nil => intro y n _; simp [mayFrom]
  | cons e r ih =>
    intro y n h
    cases n with
    | zero => rfl
    | succ n =>
      simp only [mayFrom, Bool.and_eq_true] at h
      simp only [List.take_succ_cons, mayFrom, Bool.and_eq_true]
      exact ⟨h.1, ih n h.2⟩

theorem Meet_no (A1 A2 : Option Addr) (a b : List Ent) (c1 c2 : Nat) (w : World) (ha : Ents w w.heap.size A1 a) (hb : Ents w w.heap.size A2 b) (hma : a.length ≤ 1048576) (hmb : b.length ≤ 1048576)
    (h : may a = false ∨ may b = false) :
    Calls Try.prog 16 #[.slice A1 a.length c1, .slice A2 b.length c2] w fun e w' => e = .returned (.tuple #[.int .i64 0, .int .i64 0, .int .i64 2]) ∧ Below w.heap.size w w' := by
  have H := Lib.hid h
  clear h
  go_enter Try.func16, Try.ntmps16
  go_wp2_with fail
  go_step3
  go_wp2_with fail
  refine (May_any A1 a c1 w ha (by omega)).mono ?_
  rintro e w1 ⟨rfl, hb1⟩
  cases m1 : may a with
  | false =>
    have M1 := Lib.hid m1
    clear m1
    go_wp2_with fail
    rw [Exit.noGoto_ret]
    go_ret3
    exact ⟨rfl, hb1⟩
  | true =>
    have m2 : may b = false := H.out.resolve_left (by rw [m1]; decide)
    have M2 := Lib.hid m2
    clear m1 m2
    go_wp2_with fail
    refine (May_any A2 b c2 w1 (hb.grow hb1) (by omega)).mono ?_
    rintro e w2 ⟨rfl, hb2⟩
    rw [M2.out]
    go_wp2_with fail
    rw [Exit.noGoto_ret]
    go_ret3
    exact ⟨rfl, hb1.trans (hb2.mono hb1.size)⟩

set_option maxRecDepth 100000 in
set_option maxHeartbeats 4000000 in
theorem refMeet_any (A1 A2 : Option Addr) (a b : List Ent) (c1 c2 : Nat) (w : World) (ha : Ents w w.heap.size A1 a) (hb : Ents w w.heap.size A2 b) (hma : a.length ≤ 1048576) (hmb : b.length ≤ 4096) (hcb : b.length ≤ c2)
    (m1 : may a = true) (m2 : may b = true) :
    Calls Try.prog 18 #[.slice A1 a.length c1, .slice A2 b.length c2] w fun e w' => e = .returned (.tuple #[.int .i64 ((meetN a b).1 : Nat), .int .i64 ((meetN a b).2 : Nat)]) ∧ w = w' := by
  have M1 := Lib.hid m1
  have M2 := Lib.hid (may_from m2)
  clear m1 m2
  go_enter Try.func18, Try.ntmps18
  go_wp2_with fail
  go_loop [6, 7] (fun l o => ∃ (f n k : Nat), n ≤ f ∧ n ≤ b.length ∧ k + n ≤ b.length ∧ l = .int .i64 n ∧ o = .int .i64 k ∧ meetN a b = meetF a b f n k)
    (fun l _ => (intOf l).toNat)
  case atStart => exact ⟨b.length, b.length, 0, Nat.le_refl _, Nat.le_refl _, by omega, rfl, rfl, rfl⟩
  case round =>
    obtain ⟨f, n, k, hnf, hnb, hkn, rfl, rfl, hmt⟩ := hrel
    have HMT := Lib.hid hmt
    clear hmt
    have htk := take_len hnb
    have hL : Calls Try.prog 19 #[.slice A2 n c2] w fun e w' => e = .returned (.int .i64 (lastE (b.take n))) ∧ w = w' := by
      have := refLast_any A2 (b.take n) _ c2 w (hb.take n) (by omega)
      rw [htk] at this
      exact this
    have hC : ∀ (x : Int) (E : Nat), E ≤ 1048576 → Calls Try.prog 25 #[.slice A2 n c2, .int .i64 x, .int .i64 E] w fun e w' => e = .returned (.int .i64 (min E (aboveN x (b.take n)) : Nat)) ∧ w = w' := by
      intro x E hE
      have := refCut_any A2 (b.take n) c2 x E w (hb.take n) (by omega) (by omega) (mayFrom_take n M2.out)
      rw [htk] at this
      exact this
    have HL := Lib.hid hL
    have HC := Lib.hid hC
    clear hL hC htk
    have hk5 : (k : Int) < 5000 := by omega
    have d5 : decide ((k : Int) < 5000) = true := by simpa using hk5
    have hnc : n ≤ c2 := by omega
    go_wp2_with fail
    refine HL.out.mono ?_
    rintro e w3 ⟨rfl, rfl⟩
    go_wp2_with fail
    refine (refFits_any A1 a c1 n _ w ha (by omega) (by omega)).mono ?_
    rintro e w3 ⟨rfl, rfl⟩
    cases hmm : meets a b n with
    | true =>
      have hmf : fitsB a n (lastE (b.take n)) = true := hmm
      have HR : Hid (meetN a b = (n, k)) := by show _ = _; rw [HMT.out, meetF_fits hmm]
      clear hmm
      rw [hmf]
      clear hmf
      go_wp2_with fail
      go_ret2
      exact ⟨by rw [HR.out]; rfl, rfl⟩
    | false =>
      have hmf : fitsB a n (lastE (b.take n)) = false := hmm
      have HM := Lib.hid hmm
      clear hmm
      rw [hmf]
      clear hmf
      go_wp2_with fail
      refine HL.out.mono ?_
      rintro e w3 ⟨rfl, rfl⟩
      go_wp2_with fail
      refine (refEnd_any A1 a c1 _ w ha (by omega) M1.out).mono ?_
      rintro e w3 ⟨rfl, rfl⟩
      have hle := aboveN_le (lastE (b.take n)) a
      obtain ⟨E, hE⟩ : ∃ E, aboveN (lastE (b.take n)) a = E := ⟨_, rfl⟩
      rw [hE] at hle ⊢
      have HE := Lib.hid hE
      clear hE
      go_wp2_with fail
      refine (HC.out _ E (by omega)).mono ?_
      rintro e w4 ⟨rfl, rfl⟩
      obtain ⟨F, hF⟩ : ∃ F, aboveN (lastE (a.take E)) (b.take n) = F := ⟨_, rfl⟩
      rw [hF]
      have HF := Lib.hid hF
      clear hF
      obtain ⟨G, hG⟩ : ∃ G, min E F = G := ⟨_, rfl⟩
      rw [hG]
      have HG := Lib.hid hG
      clear hG
      have hn1 : 1 ≤ n := by
        rcases Nat.eq_zero_or_pos n with h0 | h0
        · have h1 := HM.out
          rw [h0, meets_zero] at h1
          cases h1
        · exact h0
      have hX : Hid (nearer a b n = min G (n - 1)) := by
        show _ = _
        unfold nearer endOf
        rw [HE.out, HF.out, HG.out]
      have HN : Hid (meetN a b = meetF a b (f - 1) (nearer a b n) (k + 1)) := by
        show _ = _
        rw [HMT.out, meetF_next (by rw [HM.out]; decide) hnf]
      go_wp2_with fail
      all_goals first
        | (exfalso; omega)
        | (go_round
           case rel => exact ⟨f - 1, min G (n - 1), k + 1, by omega, by omega, by omega, by congr 1; omega, by go_num, by rw [HN.out, hX.out]⟩
           case measure => simp [intOf]; omega)
end Go.Proofs.Ytghhffcdfbehcaa
