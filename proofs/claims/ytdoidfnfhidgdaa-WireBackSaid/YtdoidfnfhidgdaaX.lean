import Derived.Test.YtdoidfnfhidgdaaW
namespace Go.Proofs.Ytdoidfnfhidgdaa
open Go.RowKit

set_option maxRecDepth 100000 in
set_option maxHeartbeats 1000000 in
/-- what a call answers that gives up, where it has not given up -/
theorem caught_idle (pe : Addr) (fn : Fn) (cap : Array Value) (w : World) :
    CallsD Try.prog 42 #[.pointer (some pe), .func fn #[] cap] .returning w fun e u' w' => e = .returned (.tuple #[]) ∧ u' = .returning ∧ w' = w := by
  refine callsD_of_wpS Try.func42 rfl fun c₀ cs hu => ?_
  apply wpS_seq
  apply wpS_region
  simp [wpOpsS, go_sem, recoverD, hu, Try.ntmps42, Exit.thenS]
  change Code.wpS Try.prog _ _ { tmps := #[.pointer (some pe), .func fn #[] cap, undef, undef, undef, undef, undef, .nilIface, undef, undef, undef, undef, undef, undef, undef, undef, undef, undef, undef], defers := [] } _ _
  refine wpS_of_wp ?_
  go_wp2_with fail
  cases c₀
  simp_all [bodyPostS, results, Try.results42]

set_option maxRecDepth 100000 in
set_option maxHeartbeats 1000000 in
theorem caught_up (pe : Addr) (f : FuncId) (cap : Array Value) (e : Int) (older : List PanicEntry) (w : World) (K : World → Prop) (hcf : ∀ args w, (callFunc f args).run Try.prog w = .ok (.enter f args) w)
    (hcl : Calls Try.prog f cap (w.alloc (.cells #[.int .i64 e] 92)) fun x W => x = .returned (.tuple #[]) ∧ K W)
    (hK : ∀ W, K W → W.cell? ⟨w.heap.size, 0, none⟩ = some (.int .i64 e) ∧ (∃ v0, W.cell? pe = some v0) ∧ W.frozen? pe = false) :
    CallsD Try.prog 42 #[.pointer (some pe), .func (.func f) #[] cap] (.panicking ({ v := .iface 92 (.agg #[.int .i64 e]), recovered := false } :: older)) w fun x u' w' =>
      x = .returned (.tuple #[]) ∧ u' = .panicking ({ v := .iface 92 (.agg #[.int .i64 e]), recovered := true } :: older) ∧ ∃ W, K W ∧ w' = W.setCell pe (.int .i64 e) := by
  refine callsD_of_wpS Try.func42 rfl fun c₀ cs hu => ?_
  apply wpS_seq
  apply wpS_region
  simp [wpOpsS, go_sem, recoverD, hu, Try.ntmps42, Exit.thenS]
  change Code.wpS Try.prog _ _ { tmps := #[.pointer (some pe), .func (.func f) #[] cap, undef, undef, undef, undef, undef, .iface 92 (.agg #[.int .i64 e]), undef, undef, undef, undef, undef, undef, undef, undef, undef, undef, undef], defers := [] } _ _
  refine wpS_of_wp ?_
  have hta : ∀ w, (Instr.typeAssert (.iface 92 (.agg #[.int .i64 e])) 20 92 true).run Try.prog w = .ok (.tuple #[.agg #[.int .i64 e], .bool true]) w := fun w => by kernel_rfl
  have HC := Lib.hid hcl
  have HK := Lib.hid hK
  clear hcl hK
  go_wp2_with fail
  refine HC.out.mono ?_
  rintro x W ⟨rfl, hKW⟩
  obtain ⟨k1, ⟨v0, k2⟩, k3⟩ := HK.out W hKW
  have HW := Lib.hid hKW
  clear hKW
  go_wp2_with fail
  cases c₀
  simp [bodyPostS, results, Try.results42]
  exact ⟨W, HW.out, rfl⟩
end Go.Proofs.Ytdoidfnfhidgdaa
