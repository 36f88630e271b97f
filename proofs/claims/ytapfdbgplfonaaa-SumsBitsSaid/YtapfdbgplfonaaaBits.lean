/-
  The law SumsBits answers true for every input: one bit that is turned turns the sum by just as much whatever the other bytes are (two lists of bytes of one length, at most 300; of other inputs the law asks nothing but that the sums work at all). What came in reads as it did.
  Conditions: none.
-/
import Derived.Test.YtapfdbgplfonaaaOpen
import Derived.Test.YtapfdbgplfonaaaW
namespace Go.Proofs.Ytapfdbgplfonaaa.bitsDone
open Go.ChangeShapes Go.WideShapes Go.ChangeAt Go.RowKit
set_option linter.unusedVariables false

set_option maxRecDepth 100000 in
set_option maxHeartbeats 1000000 in
theorem big (A1 A2 : Option Addr) (a b : List Nat) (c1 c2 : Nat) (bit : Int) (w : World) (hma : a.length ≤ 9223372036854775807) (hmb : b.length ≤ 9223372036854775807)
    (h : 300 < min a.length b.length ∨ bit < 0 ∨ 8 * (min a.length b.length : Nat) ≤ bit) :
    Calls Try.prog 7 #[.slice A1 a.length c1, .slice A2 b.length c2, .int .i64 bit] w fun e w' => e = .returned (.bool true) ∧ Below w.heap.size w w' := by
  have HM : Hid ((min (a.length : Int) (b.length : Int)) = ((min a.length b.length : Nat) : Int)) := by show _ = _; omega
  obtain ⟨n, hn⟩ : ∃ n, min a.length b.length = n := ⟨_, rfl⟩
  rw [hn] at h
  by_cases h1 : 300 < n
  · have h2 : (300 : Int) < min (a.length : Int) (b.length : Int) := by omega
    clear hn h
    go_enter Try.func7, Try.ntmps7
    go_wp2_with fail
    refine (works_any w).mono ?_
    rintro e w1 ⟨rfl, hb1⟩
    go_wp2_with fail
    go_ret
    exact ⟨rfl, hb1⟩
  · have h2 : ¬ (300 : Int) < min (a.length : Int) (b.length : Int) := by omega
    have h2' : min (a.length : Int) (b.length : Int) ≤ 300 := by omega
    by_cases h3 : bit < 0
    · clear hn h
      go_enter Try.func7, Try.ntmps7
      go_wp2_with fail
      refine (works_any w).mono ?_
      rintro e w1 ⟨rfl, hb1⟩
      go_wp2_with fail
      go_ret
      exact ⟨rfl, hb1⟩
    · have h4 : 8 * min (a.length : Int) (b.length : Int) ≤ bit := by omega
      clear hn h
      go_enter Try.func7, Try.ntmps7
      go_wp2_with fail
      refine (works_any w).mono ?_
      rintro e w1 ⟨rfl, hb1⟩
      go_wp2_with fail
      go_ret
      exact ⟨rfl, hb1⟩

theorem walk (A1 A2 : Option Addr) (a b : List Nat) (c1 c2 : Nat) (bit : Int) (w : World) (ha : Bys w w.heap.size A1 a) (hb : Bys w w.heap.size A2 b) (hca : a.length ≤ c1) (hcb : b.length ≤ c2)
    (hma : a.length ≤ 9223372036854775807) (hmb : b.length ≤ 9223372036854775807) :
    Calls Try.prog 7 #[.slice A1 a.length c1, .slice A2 b.length c2, .int .i64 bit] w fun e w' => e = .returned (.bool true) ∧ Below w.heap.size w w' := by
  by_cases h : 300 < min a.length b.length ∨ bit < 0 ∨ 8 * (min a.length b.length : Nat) ≤ bit
  · exact big A1 A2 a b c1 c2 bit w hma hmb h
  · obtain ⟨m, rfl⟩ := Int.eq_ofNat_of_zero_le (show 0 ≤ bit by omega)
    exact bits_ok A1 A2 a b c1 c2 _ m w ha hb hca hcb rfl (by omega) (by omega)

set_option maxRecDepth 100000 in
theorem lifted (os : Os) (started : os.Started) (H : Type) (enc : TypeId × Value → H) :
    ReturnsInHanded {} Try.checked os 7 .any (Rows.sumsBitsSpec.pre6 enc Try.prog Try.f7 Rows.sumsBitsRow.domain false) (Rows.sumsBitsSpec.post enc Try.prog Try.f7 false true false false) := by
  refine returnsInHanded_of_change (C := Try.checked) own started (by kernel_rfl) Try.func7
    (ChangeSpec.witness6 (enc := enc) (C := Try.checked) false ⟨#[], #[.slice none 0 0, .slice none 0 0, .int .i64 0], []⟩ 8 (by kernel_rfl) (by kernel_rfl) (by kernel_rfl) (by kernel_rfl)) ?_
  intro W base args ds gs before hval0 hW hcnd _
  have hval : ∀ (j : Nat) t v, Try.f7.params[j]? = some t → args[j]? = some v → Value.okWide Try.prog W .any base t v := hval0
  have hW' := hW
  obtain ⟨p, q, hA0, hV, rfl, hfz, hnd⟩ := hW
  have hA : DataW.TrodAll enc Try.prog W 0 (fun _ => true) true Try.f7.params.toList args.toList ds p := hA0
  rw [Try.params7] at hA hval
  obtain ⟨v0, vs0, d0, ds0, p0, q0, hargs, rfl, rfl, h0, r0⟩ := trodAll_cons hA
  obtain ⟨v1, vs1, d1, ds1, p1, q1, rfl, rfl, rfl, h1, r1⟩ := trodAll_cons r0
  obtain ⟨v2, vs2, d2, ds2, p2, q2, rfl, rfl, rfl, h2, r2⟩ := trodAll_cons r1
  obtain ⟨rfl, rfl, rfl⟩ := trodAll_nil r2
  obtain rfl : args = #[v0, v1, v2] := by cases args; simp_all
  obtain ⟨rfl, rfl⟩ := trodVars_none hV
  obtain ⟨A0, bs0, c0, rfl, hb0, hc0, hm0, lt0⟩ := open_bytes (hval 0 22 v0 rfl rfl) h0
  obtain ⟨A1, bs1, c1, rfl, hb1, hc1, hm1, lt1⟩ := open_bytes (hval 1 22 v1 rfl rfl) h1
  obtain ⟨x2, rfl, rfl, rfl, w2⟩ := open_int Try.underlying3 (hval 2 3 v2 rfl rfl) h2
  have wb2 := wf_i64 w2
  clear hA0 hval0
  refine (walk A0 A1 bs0 bs1 c0 c1 x2 W hb0 hb1 hc0 hc1 (by omega) (by omega)).mono fun e W' ⟨he, bel⟩ => ?_
  subst he
  exact ⟨_, rfl, _, _, _, [], _, [], hW', trodAll_mk1 (shut_bool Try.underlying4 _), (trodAll_cons_mk (Below.trod laidOut (by kernel_rfl) (of_decide_eq_true (by kernel_rfl)) h0 bel lt0) (trodAll_cons_mk (Below.trod laidOut (by kernel_rfl) (of_decide_eq_true (by kernel_rfl)) h1 bel lt1) (trodAll_cons_mk (shut_int Try.underlying3 w2) trodAll_mk0))), rfl, bel.frame _, fun h => by cases h⟩

theorem over : Rows.sumsBitsRow.holds Try.pinned (OpenSpec.ofChange Rows.sumsBitsSpec) :=
  OpenClaim.holds_of_wide 7 Try.f7 rfl rfl rfl rfl rfl rfl rfl ⟨rfl, rfl, rfl, rfl, rfl⟩ rfl rfl rfl rfl rfl (by kernel_rfl) Try.func7 (by kernel_rfl)
    (of_decide_eq_true (by kernel_rfl)) (by unfold Func.isWrapper; first | (rw [if_pos (by decide +kernel)]; kernel_rfl) | (rw [if_neg (by decide +kernel)]; exact ⟨rfl, rfl⟩))
    (fun os started H enc _ => lifted os started H enc)

theorem proved : Rows.SumsBitsSaid := over
#print axioms proved
end Go.Proofs.Ytapfdbgplfonaaa.bitsDone
