import Derived.Test.YtghhffcdfbehcaaR
import Derived.BigQuiet
namespace Go.Proofs.Ytghhffcdfbehcaa
open Go.RowKit

/-- what epochs.Last answers -/
def lasAns (l : List Ent) : Int := if may l then lastE l else 0

set_option maxHeartbeats 1000000 in
theorem Last_any (A : Option Addr) (l : List Ent) (c : Nat) (w : World) (hl : Ents w w.heap.size A l) (hm : l.length ≤ 9223372036854775807) :
    Calls Try.prog 20 #[.slice A l.length c] w fun e w' => e = .returned (.tuple #[.int .i64 (lasAns l), .int .i64 (stNo l)]) ∧ Below w.heap.size w w' := by
  have hmay := May_any A l c w hl hm
  unfold lasAns stNo
  cases h : may l with
  | false =>
    rw [h] at hmay
    go_enter Try.func20, Try.ntmps20
    go_wp2_with (go_at_call 14; refine hmay.mono ?_; rintro e w1 ⟨rfl, hb1⟩)
    go_ret2
    exact ⟨rfl, hb1⟩
  | true =>
    rw [h] at hmay
    go_enter Try.func20, Try.ntmps20
    go_wp2_with (go_at_call 14; refine hmay.mono ?_; rintro e w1 ⟨rfl, hb1⟩)
    refine (last_any A l _ c w1 (hl.grow hb1) hm).mono ?_
    rintro e w2 ⟨rfl, rfl⟩
    go_wp2_with fail
    go_ret2
    exact ⟨rfl, hb1⟩

set_option maxRecDepth 100000 in
set_option maxHeartbeats 4000000 in
theorem refStarts_any (A : Option Addr) (l : List Ent) (c : Nat) (w : World) (hl : Ents w w.heap.size A l) (hm : l.length ≤ 1000000) (hpos : ∀ (i : Nat) (hi : i < l.length), 1 ≤ l[i].epoch) :
    Calls Try.prog 22 #[.slice A l.length c] w fun e w' => ∃ A' c', e = .returned (.slice A' (stFrom 0 0 l).length c') ∧ (stFrom 0 0 l).length ≤ c' ∧ Sts w' w'.heap.size A' (stFrom 0 0 l) ∧ Below w.heap.size w w' := by
  obtain ⟨i0, hi, hz0, hz1, hz2⟩ := info_parts start_info
  have HSL := Lib.hid (stFrom_len l 0 0)
  obtain ⟨S, hS⟩ : ∃ S, stFrom 0 0 l = S := ⟨_, rfl⟩
  have HS0 := Lib.hid hS
  rw [hS] at HSL ⊢
  clear hS
  go_enter Try.func22, Try.ntmps22
  go_wp2_with fail
  go_loopw [3, 4] (fun v i wr => ∃ (k : Nat) (x : Int) (pre : List (Int × Nat)), k ≤ l.length ∧ i = .int .i64 k ∧ Hid (S = pre ++ stFrom x k (l.drop k)) ∧ pre.length ≤ k ∧ Hid (k = 0 → x = 0) ∧ Hid (∀ (h : 0 < k) (h2 : k - 1 < l.length), x = l[k - 1].epoch) ∧ wr.ownsRow w.heap.size 40 2 v pre.length (pre.flatMap stCells) ∧ Below w.heap.size w wr)
    (fun _ i _ => l.length - (intOf i).toNat)
  case atStart => exact ⟨0, 0, [], Nat.zero_le _, rfl, Lib.hid (by rw [← HS0.out]; simp), Nat.le_refl _, Lib.hid (fun _ => rfl), Lib.hid (fun h => by omega), World.ownsRow_nil _ _ _ _, Below.refl _ _⟩
  case round =>
    obtain ⟨k, x, pre, hk, rfl, HS, hpl, HX0, HX1, hown, hb⟩ := hrel
    by_cases hlt : k < l.length
    · have hlr := hl.below hb (Nat.le_refl _)
      obtain ⟨b, off, rfl, hbB, he⟩ := hlr.at_ hlt
      have c0 := he.c0
      have hp1 := hpos k hlt
      have hz := hb.size
      by_cases hk0 : k = 0
      · subst hk0
        have hne : ¬ l[0].epoch = x := by have := HX0.out rfl; omega
        go_wp2_with fail
        go_quiet (fail)
        have hownd : (wr.drewN nq).ownsRow w.heap.size 40 2 u3 pre.length (pre.flatMap stCells) := hown
        have hbd : Below w.heap.size w (wr.drewN nq) := below_drewN hb _
        have hzd := hbd.size
        have c0d : (wr.drewN nq).cell? ⟨b, off, none⟩ = some (.int .i64 l[0].epoch) := by have := c0; rw [Nat.zero_mul, Nat.add_zero] at this; exact this
        clear hown hb
        generalize wr.drewN nq = wd at *
        go_wp2_with (at_builtin; refine wpList_append_own _ rfl (.tmp 27) (.tmp 35) 36 rfl w.heap.size 40 i0 _ 2 16 Try.underlying36 hi hz0 hz1 hz2 rfl (by decide) u3 pre.length (pre.flatMap stCells) rfl (hownd.alloc _) ⟨wd.heap.size, 0, none⟩ 1 1 [.int .i64 l[0].epoch, .int .i64 0] rfl rfl (cells2_new _ _ _ _) (one2 _ _) (by unfold maxLen; omega) (by omega) (by simp; omega) ?_; intro v' w1 hown' hgrow _)
        have hb1 : Below w.heap.size w w1 := (hbd.alloc hbd.size _).grown hgrow (by simp; omega) fun g hg => (hownd.lt g hg).1
        go_roundw
        case rel => exact ⟨0 + 1, l[0].epoch, pre ++ [(l[0].epoch, 0)], by omega, by go_num, Lib.hid (by rw [HS.out, stFrom_new hlt hne]; simp), by rw [List.length_append]; show _ + 1 ≤ _; omega, Lib.hid (fun h => absurd h (by omega)), Lib.hid (fun _ _ => rfl), by rw [List.length_append, List.flatMap_append]; simpa [stCells] using hown', hb1⟩
        case measure => simp [intOf]; omega
      · have hk1 : k - 1 < l.length := by omega
        have hk2 : 0 < k := by omega
        have hx := HX1.out hk2 hk1
        obtain ⟨b', off', e', _, he1⟩ := hlr.at_ hk1
        injection e' with e'
        injection e' with e' e''
        subst e' e''
        have c1 := he1.c0
        rw [← hx] at c1
        have hks : ((k - 1 : Nat) : Int) = (k : Int) - 1 := by omega
        have hkz : ((k : Int) == 0) = false := beq_eq_false_iff_ne.2 (by omega)
        by_cases t1 : l[k].epoch = x
        · have d1 : (l[k].epoch != x) = false := by simpa using t1
          go_wp2_with fail
          go_quiet (fail)
          go_wp2_with fail
          go_roundw
          case rel => exact ⟨k + 1, _, pre, by omega, by go_num, Lib.hid (by rw [HS.out, stFrom_same hlt t1]), by omega, Lib.hid (fun h => absurd h (by omega)), Lib.hid (fun _ _ => by simp [t1]), hown, below_drewN hb _⟩
          case measure => simp [intOf]; omega
        · have d1 : (l[k].epoch != x) = true := by simpa using t1
          go_wp2_with fail
          go_quiet (fail)
          have hownd : (wr.drewN nq).ownsRow w.heap.size 40 2 u3 pre.length (pre.flatMap stCells) := hown
          have hbd : Below w.heap.size w (wr.drewN nq) := below_drewN hb _
          have hzd := hbd.size
          have c0d : (wr.drewN nq).cell? ⟨b, off + k * 6, none⟩ = some (.int .i64 l[k].epoch) := c0
          clear hown hb
          generalize wr.drewN nq = wd at *
          go_wp2_with (at_builtin; refine wpList_append_own _ rfl (.tmp 27) (.tmp 35) 36 rfl w.heap.size 40 i0 _ 2 16 Try.underlying36 hi hz0 hz1 hz2 rfl (by decide) u3 pre.length (pre.flatMap stCells) rfl (hownd.alloc _) ⟨wd.heap.size, 0, none⟩ 1 1 [.int .i64 l[k].epoch, .int .i64 (k : Nat)] rfl rfl (cells2_new _ _ _ _) (one2 _ _) (by unfold maxLen; omega) (by omega) (by simp; omega) ?_; intro v' w1 hown' hgrow _)
          have hb1 : Below w.heap.size w w1 := (hbd.alloc hbd.size _).grown hgrow (by simp; omega) fun g hg => (hownd.lt g hg).1
          go_roundw
          case rel => exact ⟨k + 1, l[k].epoch, pre ++ [(l[k].epoch, k)], by omega, by go_num, Lib.hid (by rw [HS.out, stFrom_new hlt t1]; simp), by simp; omega, Lib.hid (fun h => absurd h (by omega)), Lib.hid (fun _ _ => rfl), by rw [List.length_append, List.flatMap_append]; simpa [stCells] using hown', hb1⟩
          case measure => simp [intOf]; omega
    · obtain rfl : k = l.length := by omega
      obtain ⟨A', c', rfl, hc', hs'⟩ := Sts.of_own hown
      go_wp2_with fail
      go_ret
      have hSp : pre = S := by rw [HS.out, List.drop_eq_nil_of_le (Nat.le_refl _)]; simp [stFrom]
      subst hSp
      exact ⟨A', c', rfl, hc', hs', hb⟩

set_option maxRecDepth 100000 in
set_option maxHeartbeats 4000000 in
/-- two lists of the same starts -/
theorem same_any (A1 A2 : Option Addr) (S : List (Int × Nat)) (c1 c2 : Nat) (w : World) (h1 : Sts w w.heap.size A1 S) (h2 : Sts w w.heap.size A2 S) (hm : S.length ≤ 1000000) :
    Calls Try.prog 21 #[.slice A1 S.length c1, .slice A2 S.length c2] w fun e w' => e = .returned (.bool true) ∧ Below w.heap.size w w' := by
  go_enter Try.func21, Try.ntmps21
  go_wp2_with fail
  go_loopw [5] (fun i wr => ∃ (k : Nat), k ≤ S.length ∧ i = .int .i64 k ∧ Below w.heap.size w wr)
    (fun i _ => S.length - (intOf i).toNat)
  case atStart => exact ⟨0, Nat.zero_le _, rfl, Below.refl _ _⟩
  case round =>
    obtain ⟨k, hk, rfl, hb⟩ := hrel
    by_cases hlt : k < S.length
    · obtain ⟨b, off, rfl, a0, a1⟩ := (h1.below hb (Nat.le_refl _)).at_ (List.getElem?_eq_getElem hlt)
      obtain ⟨b', off', rfl, d0, d1⟩ := (h2.below hb (Nat.le_refl _)).at_ (List.getElem?_eq_getElem hlt)
      go_wp2_with fail
      go_quiet (fail)
      go_wp2_with fail
      go_roundw
      case rel => exact ⟨k + 1, by omega, by go_num, below_drewN hb _⟩
      case measure => simp [intOf]; omega
    · obtain rfl : k = S.length := by omega
      go_wp2_with fail
      go_ret
      exact ⟨rfl, hb⟩
end Go.Proofs.Ytghhffcdfbehcaa
