/-
  The law WireBack answers true for every input: frames of entries are read as these, with whatever stands behind; and a frame of which up to three bits are turned, but of the byte that says how many, is not read.
  Conditions: none.
-/
import Derived.Test.YtdoidfnfhidgdaaOpenE
import Derived.Test.YtdoidfnfhidgdaaBC
import Derived.SizedLaws
namespace Go.Proofs.Ytdoidfnfhidgdaa.backDone
open Go.ChangeShapes Go.WideShapes Go.ChangeAt Go.RowKit
set_option linter.unusedVariables false

set_option maxRecDepth 100000 in
/-- an array of three integers, opened -/
theorem open_arr3 {H : Type} {enc : TypeId × Value → H} {W : World} {base b0 : Nat} {v : Value} {d : DataW H} {p : List MemPlace} {k e : TypeId} {q : IntKind}
    (hu : Try.prog.underlying k = some (.array 3 e)) (he : Try.prog.underlying e = some (.int q)) (hc : Try.prog.cellsOf e = 1) (hk : Try.prog.cellsOf k = 3)
    (hval : Value.okWide Try.prog W .any base k v) (h : DataW.Trod enc Try.prog W b0 (fun _ => true) true k v d p) :
    ∃ x0 x1 x2 : Int, v = .agg #[.int q x0, .int q x1, .int q x2] ∧ (∀ x ∈ p, x.block < W.heap.size) ∧ (Lit.int q x0).wf = true ∧ (Lit.int q x1).wf = true ∧ (Lit.int q x2).wf = true := by
  have lt0 : ∀ x ∈ p, x.block < W.heap.size := by obtain ⟨m, hm⟩ := h; exact DataW.trod_lt m _ _ _ hm
  simp only [Value.okWide, hu] at hval
  obtain ⟨cs, rfl, h2, _⟩ := hval
  rw [hk] at h2
  obtain ⟨l⟩ := cs
  rcases l with _ | ⟨a, _ | ⟨b, _ | ⟨c, _ | ⟨x, r⟩⟩⟩⟩
  · simp at h2
  · simp at h2
  · simp at h2
  · obtain ⟨fuel, hf⟩ := h
    cases fuel with
    | zero => simp [DataW.trod] at hf
    | succ m =>
      rw [DataW.trod_step] at hf
      unfold DataW.trodStep at hf
      simp only [hu, Value.cells] at hf
      rw [if_pos (by rw [hk]; rfl)] at hf
      simp only [Option.map_eq_some_iff] at hf
      obtain ⟨ys, hy, e1⟩ := hf
      rw [hc] at hy
      simp [List.range_succ, List.range_zero, Option.bind_eq_some_iff] at hy
      obtain ⟨y0, z0, h0, ys1, ⟨y1, z1, h1, ys2, ⟨y2, z2, hh2, _⟩, _⟩, _⟩ := hy
      obtain ⟨a0, e0, _, w0⟩ := DataW.trod_int he h0
      obtain ⟨a1, e1', _, w1⟩ := DataW.trod_int he h1
      obtain ⟨a2, e2, _, w2⟩ := DataW.trod_int he hh2
      simp only [List.cons.injEq, and_true] at e0 e1' e2
      subst e0 e1' e2
      exact ⟨a0, a1, a2, rfl, lt0, w0, w1, w2⟩
  · simp at h2


set_option maxRecDepth 100000 in
theorem lifted (os : Os) (started : os.Started) (H : Type) (enc : TypeId × Value → H) :
    ReturnsInHanded {} Try.checked os 12 .any (Rows.wireBackSpec.pre6 enc Try.prog Try.f12 Rows.wireBackRow.domain false) (Rows.wireBackSpec.post enc Try.prog Try.f12 false true false false) := by
  refine returnsInHanded_of_change_sized (C := Try.checked) own started (by kernel_rfl) Try.func12
    (ChangeSpec.witness6 (enc := enc) (C := Try.checked) false ⟨#[], #[.slice none 0 0, .slice none 0 0, .agg #[.int .i64 0, .int .i64 0, .int .i64 0]], []⟩ 8 (by kernel_rfl) (by kernel_rfl) (by kernel_rfl) (by kernel_rfl)) ?_
  intro W base args ds gs before hval0 hW hcnd hsz _
  have hval : ∀ (j : Nat) t v, Try.f12.params[j]? = some t → args[j]? = some v → Value.okWide Try.prog W .any base t v := hval0
  have hW' := hW
  obtain ⟨p, q, hA0, hV, rfl, hfz, hnd⟩ := hW
  have hA : DataW.TrodAll enc Try.prog W 0 (fun _ => true) true Try.f12.params.toList args.toList ds p := hA0
  rw [Try.params12] at hA hval
  obtain ⟨v0, vs0, d0, ds0, p0, q0, hargs, rfl, rfl, h0, r0⟩ := trodAll_cons hA
  obtain ⟨v1, vs1, d1, ds1, p1, q1, rfl, rfl, rfl, h1, r1⟩ := trodAll_cons r0
  obtain ⟨v2, vs2, d2, ds2, p2, q2, rfl, rfl, rfl, h2, r2⟩ := trodAll_cons r1
  obtain ⟨rfl, rfl, rfl⟩ := trodAll_nil r2
  obtain rfl : args = #[v0, v1, v2] := by cases args; simp_all
  obtain ⟨rfl, rfl⟩ := trodVars_none hV
  obtain ⟨A0, es0, c0, rfl, hb0, hc0, hm0, lt0⟩ := open_ents (hval 0 34 v0 rfl rfl) h0
  obtain ⟨A1, bs1, c1, rfl, hb1, hc1, hm1, lt1⟩ := open_bytes (hval 1 25 v1 rfl rfl) h1
  obtain ⟨y0, y1, y2, rfl, lt2, w0, w1, w2⟩ := open_arr3 Try.underlying57 Try.underlying3 (by kernel_rfl) (by kernel_rfl) (hval 2 57 v2 rfl rfl) h2
  clear hA0 hval0
  refine (back_walk A0 A1 es0 bs1 c0 c1 y0 y1 y2 W hb0 hb1 (wf_i64 w0) (wf_i64 w1) (wf_i64 w2)).mono fun e W' ⟨he, bel⟩ => ?_
  subst he
  exact ⟨_, rfl, _, _, _, [], _, [], hW', trodAll_mk1 (shut_bool Try.underlying4 _), (trodAll_cons_mk (Below.trod laidOut (by kernel_rfl) (of_decide_eq_true (by kernel_rfl)) h0 bel lt0) (trodAll_cons_mk (Below.trod laidOut (by kernel_rfl) (of_decide_eq_true (by kernel_rfl)) h1 bel lt1) (trodAll_cons_mk (Below.trod laidOut (by kernel_rfl) (of_decide_eq_true (by kernel_rfl)) h2 bel lt2) trodAll_mk0))), rfl, bel.frame _, fun h => by cases h⟩

theorem over : Rows.wireBackRow.holds Try.pinned (OpenSpec.ofChange Rows.wireBackSpec) :=
  OpenClaim.holds_of_wide 12 Try.f12 rfl rfl rfl rfl rfl rfl rfl ⟨rfl, rfl, rfl, rfl, rfl⟩ rfl rfl rfl rfl rfl (by kernel_rfl) Try.func12 (by kernel_rfl)
    (of_decide_eq_true (by kernel_rfl)) (by unfold Func.isWrapper; first | (rw [if_pos (by decide +kernel)]; kernel_rfl) | (rw [if_neg (by decide +kernel)]; exact ⟨rfl, rfl⟩))
    (fun os started H enc _ => lifted os started H enc)

theorem proved : Rows.WireBackSaid := over
#print axioms proved
end Go.Proofs.Ytdoidfnfhidgdaa.backDone
