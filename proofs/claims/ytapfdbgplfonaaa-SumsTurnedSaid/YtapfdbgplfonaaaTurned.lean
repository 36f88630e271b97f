/-
  The law SumsTurned answers true for every input: sums of bytes in two parts are those of all, and sealed bytes of which up to three bits are turned are not opened (at most 400 bytes; of longer ones the law asks nothing but that the sums work at all). What came in reads as it did.
  Conditions: none.
-/
import Derived.Test.YtapfdbgplfonaaaArr
import Derived.Test.YtapfdbgplfonaaaY
import Derived.SizedLaws
namespace Go.Proofs.Ytapfdbgplfonaaa.turnedDone
open Go.ChangeShapes Go.WideShapes Go.ChangeAt Go.RowKit
set_option linter.unusedVariables false

set_option maxRecDepth 100000 in
set_option maxHeartbeats 1000000 in
theorem walk (A1 A2 : Option Addr) (a b : List Nat) (c1 c2 : Nat) (x0 x1 x2 : Int) (w : World) (ha : Bys w w.heap.size A1 a) (hb : Bys w w.heap.size A2 b) (hma : a.length ≤ 2 ^ 47) (hmb : b.length ≤ 2 ^ 47)
    (hx0 : -9223372036854775808 ≤ x0 ∧ x0 ≤ 9223372036854775807) (hx1 : -9223372036854775808 ≤ x1 ∧ x1 ≤ 9223372036854775807) (hx2 : -9223372036854775808 ≤ x2 ∧ x2 ≤ 9223372036854775807) :
    Calls Try.prog 9 #[.slice A1 a.length c1, .slice A2 b.length c2, .agg #[.int .i64 x0, .int .i64 x1, .int .i64 x2]] w fun e w' => e = .returned (.bool true) ∧ Below w.heap.size w w' := by
  by_cases h : 400 < a.length + b.length
  · have h2 : (400 : Int) < (a.length : Int) + (b.length : Int) := by omega
    have h3 : (a.length : Int) ≤ 140737488355328 := by omega
    have h4 : (b.length : Int) ≤ 140737488355328 := by omega
    have hbw0 : Below w.heap.size w (w.alloc (.cells #[.int .i64 x0, .int .i64 x1, .int .i64 x2] 40)) := (Below.refl _ w).alloc (Nat.le_refl _) _
    clear hma hmb h
    go_enter Try.func9, Try.ntmps9
    go_wp2_with fail
    refine (works_any _).mono ?_
    rintro e w1 ⟨rfl, hb1⟩
    go_wp2_with fail
    go_ret
    exact ⟨rfl, ext hbw0 hb1⟩
  · exact turned_ok A1 A2 a b c1 c2 x0 x1 x2 w ha hb (by omega) hx0 hx1 hx2

set_option maxRecDepth 100000 in
theorem lifted (os : Os) (started : os.Started) (H : Type) (enc : TypeId × Value → H) :
    ReturnsInHanded {} Try.checked os 9 .any (Rows.sumsTurnedSpec.pre6 enc Try.prog Try.f9 Rows.sumsTurnedRow.domain false) (Rows.sumsTurnedSpec.post enc Try.prog Try.f9 false true false false) := by
  refine returnsInHanded_of_change_sized (C := Try.checked) own started (by kernel_rfl) Try.func9
    (ChangeSpec.witness6 (enc := enc) (C := Try.checked) false ⟨#[], #[.slice none 0 0, .slice none 0 0, .agg #[.int .i64 0, .int .i64 0, .int .i64 0]], []⟩ 8 (by kernel_rfl) (by kernel_rfl) (by kernel_rfl) (by kernel_rfl)) ?_
  intro W base args ds gs before hval0 hW hcnd hsz _
  have hval : ∀ (j : Nat) t v, Try.f9.params[j]? = some t → args[j]? = some v → Value.okWide Try.prog W .any base t v := hval0
  have hW' := hW
  obtain ⟨p, q, hA0, hV, rfl, hfz, hnd⟩ := hW
  have hA : DataW.TrodAll enc Try.prog W 0 (fun _ => true) true Try.f9.params.toList args.toList ds p := hA0
  rw [Try.params9] at hA hval
  obtain ⟨v0, vs0, d0, ds0, p0, q0, hargs, rfl, rfl, h0, r0⟩ := trodAll_cons hA
  obtain ⟨v1, vs1, d1, ds1, p1, q1, rfl, rfl, rfl, h1, r1⟩ := trodAll_cons r0
  obtain ⟨v2, vs2, d2, ds2, p2, q2, rfl, rfl, rfl, h2, r2⟩ := trodAll_cons r1
  obtain ⟨rfl, rfl, rfl⟩ := trodAll_nil r2
  obtain rfl : args = #[v0, v1, v2] := by cases args; simp_all
  obtain ⟨rfl, rfl⟩ := trodVars_none hV
  obtain ⟨A0, bs0, c0, rfl, hb0, hc0, hm0, lt0⟩ := open_bytes (hval 0 22 v0 rfl rfl) h0
  obtain ⟨A1, bs1, c1, rfl, hb1, hc1, hm1, lt1⟩ := open_bytes (hval 1 22 v1 rfl rfl) h1
  obtain ⟨x0, x1, x2, rfl, lt2, w0, w1, w2⟩ := open_arr3 Try.underlying40 Try.underlying3 (by kernel_rfl) (by kernel_rfl) (hval 2 40 v2 rfl rfl) h2
  have wx0 := wf_i64 w0
  have wx1 := wf_i64 w1
  have wx2 := wf_i64 w2
  have z0 : bs0.length ≤ reachBytes := bytes_sized h0 fun elems spare e => sized_slice hsz (j := 0) (t := 22) (e := 5) rfl (by rw [e]; rfl) Try.underlying22
  have z1 : bs1.length ≤ reachBytes := bytes_sized h1 fun elems spare e => sized_slice hsz (j := 1) (t := 22) (e := 5) rfl (by rw [e]; rfl) Try.underlying22
  have zr := reachBytes_lt
  clear hA0 hval0
  refine (walk A0 A1 bs0 bs1 c0 c1 x0 x1 x2 W hb0 hb1 (by omega) (by omega) wx0 wx1 wx2).mono fun e W' ⟨he, bel⟩ => ?_
  subst he
  exact ⟨_, rfl, _, _, _, [], _, [], hW', trodAll_mk1 (shut_bool Try.underlying4 _), (trodAll_cons_mk (Below.trod laidOut (by kernel_rfl) (of_decide_eq_true (by kernel_rfl)) h0 bel lt0) (trodAll_cons_mk (Below.trod laidOut (by kernel_rfl) (of_decide_eq_true (by kernel_rfl)) h1 bel lt1) (trodAll_cons_mk (Below.trod laidOut (by kernel_rfl) (of_decide_eq_true (by kernel_rfl)) h2 bel lt2) trodAll_mk0))), rfl, bel.frame _, fun h => by cases h⟩

theorem over : Rows.sumsTurnedRow.holds Try.pinned (OpenSpec.ofChange Rows.sumsTurnedSpec) :=
  OpenClaim.holds_of_wide 9 Try.f9 rfl rfl rfl rfl rfl rfl rfl ⟨rfl, rfl, rfl, rfl, rfl⟩ rfl rfl rfl rfl rfl (by kernel_rfl) Try.func9 (by kernel_rfl)
    (of_decide_eq_true (by kernel_rfl)) (by unfold Func.isWrapper; first | (rw [if_pos (by decide +kernel)]; kernel_rfl) | (rw [if_neg (by decide +kernel)]; exact ⟨rfl, rfl⟩))
    (fun os started H enc _ => lifted os started H enc)

theorem proved : Rows.SumsTurnedSaid := over
#print axioms proved
end Go.Proofs.Ytapfdbgplfonaaa.turnedDone
