/-
  The law EpochsAsks answers true for every input: a log's epochs' starts and ends, what fits and what is cut are what the document says (at most 60 entries, 20 epochs and 20 numbers that are asked; of longer ones the law asks nothing but the known case). What came in reads as it did.
  Conditions: none.
-/
import Derived.Test.YtghhffcdfbehcaaRows
import Derived.Test.YtghhffcdfbehcaaV
import Derived.Test.YtghhffcdfbehcaaOpen
namespace Go.Proofs.Ytghhffcdfbehcaa.asksDone
open Go.ChangeShapes Go.WideShapes Go.ChangeAt Go.RowKit
set_option linter.unusedVariables false

theorem wf_i64 {x : Int} (h : (Lit.int .i64 x).wf = true) : -9223372036854775808 ≤ x ∧ x ≤ 9223372036854775807 := by
  simpa [Lit.wf, IntKind.min, IntKind.max, IntKind.signed, IntKind.bits] using h

/-- a slice of int64 (or int) that came in: nil, or a row -/
theorem open_i64sW {H : Type} {enc : TypeId × Value → H} {W : World} {base b0 : Nat} {T E : TypeId} {v : Value} {d : DataW H} {p : List MemPlace} (hT : Try.prog.underlying T = some (.slice E)) (hE : Try.prog.underlying E = some (.int .i64)) (hC : Try.prog.cellsOf E = 1)
    (hval : Value.okWide Try.prog W .any base T v) (h : DataW.Trod enc Try.prog W b0 (fun _ => true) true T v d p) :
    ∃ (A : Option Addr) (zs : List Int) (c : Nat), v = .slice A zs.length c ∧ Ints W W.heap.size A zs ∧ (∀ x ∈ p, x.block < W.heap.size) ∧ zs.length ≤ Rows.uptoBulk d ∧ (∀ z ∈ zs, z ≤ 9223372036854775807) := by
  have lt0 : ∀ x ∈ p, x.block < W.heap.size := by obtain ⟨m, hm⟩ := h; exact DataW.trod_lt m _ _ _ hm
  obtain ⟨a0, len0, cap0, rfl⟩ := okWide_slice hT hval
  obtain ⟨fuel, hf⟩ := h
  rcases open_ints hT hE hC hf with ⟨hcs, _⟩ | ⟨x, l, c, zs, hcs, _, hl, hm, hz, hx, hcell, hwz⟩
  · simp [Value.cells] at hcs
    obtain ⟨rfl, rfl, rfl⟩ := hcs
    exact ⟨none, [], 0, rfl, fun h => absurd rfl h, lt0, Nat.zero_le _, by simp⟩
  · simp [Value.cells] at hcs
    obtain ⟨rfl, rfl, rfl⟩ := hcs
    have hz2 : zs.length = cap0 := by simpa using hz
    have hlen : (zs.take len0).length = len0 := by simp; omega
    refine ⟨some x, zs.take len0, cap0, by rw [hlen], fun hne => ?_, lt0, ?_, fun z hz => (wf_i64 (hwz z (List.mem_of_mem_take hz))).2⟩
    · have hp : 0 < len0 := by rw [← hlen]; exact List.length_pos_iff.2 hne
      obtain ⟨b, off, spot⟩ := x
      have h0 := hcell 0 (by omega)
      have hspot : spot = none := by simpa [Addr.add] using World.cell?_spot h0
      subst hspot
      refine ⟨b, off, rfl, ?_, fun k y hy => ?_⟩
      · have := block_lt_of_cell h0
        simpa [Addr.add] using this
      · have hk : k < len0 := by
          have := (List.getElem?_eq_some_iff.1 hy).1
          rw [hlen] at this
          exact this
        have hc := hcell k (by omega)
        rw [List.getElem?_take, if_pos hk] at hy
        have e : zs.getD k 0 = y := by simp [List.getD, hy]
        rw [e] at hc
        by_cases hk0 : k = 0
        · subst hk0
          simpa [Addr.add] using hc
        · simpa [Addr.add, hk0] using hc
    · simp only [Prod.mk.injEq] at hx
      rw [hx.1]
      refine Nat.le_trans ?_ (slice_le_bulk _ _)
      simp [lits]

set_option maxRecDepth 100000 in
set_option maxHeartbeats 2000000 in
theorem asks_big (A1 A2 A3 : Option Addr) (zs es ns : List Int) (c1 c2 c3 : Nat) (w : World) (h : 60 < zs.length ∨ 20 < es.length ∨ 20 < ns.length) :
    Calls Try.prog 8 #[.slice A1 zs.length c1, .slice A2 es.length c2, .slice A3 ns.length c3] w fun e w' => e = .returned (.bool true) ∧ Below w.heap.size w w' := by
  by_cases h1 : 60 < zs.length
  · clear h
    go_enter Try.func8, Try.ntmps8
    go_wp2_with fail
    refine (known_any w).mono ?_
    rintro e w1 ⟨rfl, hb1⟩
    go_wp2_with fail
    go_ret
    exact ⟨rfl, hb1⟩
  · by_cases h2 : 20 < es.length
    · clear h
      go_enter Try.func8, Try.ntmps8
      go_wp2_with fail
      refine (known_any w).mono ?_
      rintro e w1 ⟨rfl, hb1⟩
      go_wp2_with fail
      go_ret
      exact ⟨rfl, hb1⟩
    · have h3 : 20 < ns.length := (h.resolve_left h1).resolve_left h2
      clear h
      go_enter Try.func8, Try.ntmps8
      go_wp2_with fail
      refine (known_any w).mono ?_
      rintro e w1 ⟨rfl, hb1⟩
      go_wp2_with fail
      go_ret
      exact ⟨rfl, hb1⟩

theorem walk (A1 A2 A3 : Option Addr) (zs es ns : List Int) (c1 c2 c3 : Nat) (w : World) (h1 : Ints w w.heap.size A1 zs) (h2 : Ints w w.heap.size A2 es) (h3 : Ints w w.heap.size A3 ns) (hns : ∀ z ∈ ns, z ≤ 9223372036854775807) :
    Calls Try.prog 8 #[.slice A1 zs.length c1, .slice A2 es.length c2, .slice A3 ns.length c3] w fun e w' => e = .returned (.bool true) ∧ Below w.heap.size w w' := by
  by_cases h : 60 < zs.length ∨ 20 < es.length ∨ 20 < ns.length
  · exact asks_big A1 A2 A3 zs es ns c1 c2 c3 w h
  · cases hm : may (logE zs) with
    | false => exact asks_no A1 A2 A3 zs es ns c1 c2 c3 w h1 h2 h3 (by omega) (by omega) (by omega) hns hm
    | true => exact asks_yes A1 A2 A3 zs es ns c1 c2 c3 w h1 h2 h3 (by omega) (by omega) (by omega) hns hm

theorem contract (H : Type) (enc : TypeId × Value → H) (W : World) (base : Nat) (args : Array Value) (ds gs : List (DataW H)) (before : List MemPlace)
    (hval : ∀ (j : Nat) t v, Try.f8.params[j]? = some t → args[j]? = some v → Value.okWide Try.prog W .any base t v)
    (hW : DataW.Whole enc Try.prog Try.f8.params.toList Rows.epochsAsksSpec.vars false W args.toList ds gs before) :
    Calls Try.prog 8 args W fun e W' => ∃ v, e = .returned v ∧ Rows.epochsAsksSpec.post enc Try.prog Try.f8 false true false false W args v W' := by
  have hW' := hW
  obtain ⟨p, q, hA0, hV, rfl, hfz, hnd⟩ := hW
  have hA : DataW.TrodAll enc Try.prog W 0 (fun _ => true) true Try.f8.params.toList args.toList ds p := hA0
  rw [Try.params8] at hA hval
  obtain ⟨v0, vs0, d0, ds0, p0, q0, hargs, rfl, rfl, h0, r0⟩ := trodAll_cons hA
  obtain ⟨v1, vs1, d1, ds1, p1, q1, rfl, rfl, rfl, h1, r1⟩ := trodAll_cons r0
  obtain ⟨v2, vs2, d2, ds2, p2, q2, rfl, rfl, rfl, h2, r2⟩ := trodAll_cons r1
  obtain ⟨rfl, rfl, rfl⟩ := trodAll_nil r2
  obtain rfl : args = #[v0, v1, v2] := by cases args; simp_all
  obtain ⟨rfl, rfl⟩ := trodVars_none hV
  obtain ⟨A0, zs0, c0, rfl, hz0, lt0, hbulk0⟩ := open_i64s Try.underlying22 Try.underlying2 (by kernel_rfl) (hval 0 22 v0 rfl rfl) h0
  obtain ⟨A1, zs1, c1, rfl, hz1, lt1, hbulk1⟩ := open_i64s Try.underlying22 Try.underlying2 (by kernel_rfl) (hval 1 22 v1 rfl rfl) h1
  obtain ⟨A2, zs2, c2, rfl, hz2, lt2, hbulk2, hns2⟩ := open_i64sW Try.underlying56 Try.underlying3 (by kernel_rfl) (hval 2 56 v2 rfl rfl) h2
  clear hA0 hA
  refine (walk A0 A1 A2 zs0 zs1 zs2 c0 c1 c2 W hz0 hz1 hz2 hns2).mono fun e W' ⟨he, bel⟩ => ?_
  subst he
  exact ⟨_, rfl, _, _, _, [], _, [], hW', trodAll_mk1 (shut_bool Try.underlying4 _), (trodAll_cons_mk (Below.trod laidOut (by kernel_rfl) (of_decide_eq_true (by kernel_rfl)) h0 bel lt0) (trodAll_cons_mk (Below.trod laidOut (by kernel_rfl) (of_decide_eq_true (by kernel_rfl)) h1 bel lt1) (trodAll_cons_mk (Below.trod laidOut (by kernel_rfl) (of_decide_eq_true (by kernel_rfl)) h2 bel lt2) trodAll_mk0))), rfl, bel.frame _, fun h => by cases h⟩

set_option maxRecDepth 100000 in
theorem lifted (os : Os) (started : os.Started) (H : Type) (enc : TypeId × Value → H) :
    ReturnsInHanded {} Try.checked os 8 .any (Rows.epochsAsksSpec.pre6 enc Try.prog Try.f8 Rows.epochsAsksRow.domain false) (Rows.epochsAsksSpec.post enc Try.prog Try.f8 false true false false) := by
  refine returnsInHanded_of_change (C := Try.checked) own started (by kernel_rfl) Try.func8
    (ChangeSpec.witness6 (enc := enc) (C := Try.checked) false ⟨#[], #[.slice none 0 0, .slice none 0 0, .slice none 0 0], []⟩ 8 (by kernel_rfl) (by kernel_rfl) (by kernel_rfl) (by kernel_rfl)) ?_
  intro W base args ds gs before hval hW _ _
  exact contract H enc W base args ds gs before hval hW

theorem over : Rows.epochsAsksRow.holds Try.pinned (OpenSpec.ofChange Rows.epochsAsksSpec) :=
  OpenClaim.holds_of_wide 8 Try.f8 rfl rfl rfl rfl rfl rfl rfl ⟨rfl, rfl, rfl, rfl, rfl⟩ rfl rfl rfl rfl rfl (by kernel_rfl) Try.func8 (by kernel_rfl)
    (of_decide_eq_true (by kernel_rfl)) (by unfold Func.isWrapper; first | (rw [if_pos (by decide +kernel)]; kernel_rfl) | (rw [if_neg (by decide +kernel)]; exact ⟨rfl, rfl⟩))
    (fun os started H enc _ => lifted os started H enc)

theorem proved : Rows.EpochsAsksSaid := over
#print axioms proved
end Go.Proofs.Ytghhffcdfbehcaa.asksDone
