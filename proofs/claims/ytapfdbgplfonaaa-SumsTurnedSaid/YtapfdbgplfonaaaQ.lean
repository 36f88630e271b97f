import Derived.Test.YtapfdbgplfonaaaP
namespace Go.Proofs.Ytapfdbgplfonaaa
open Go.RowKit

/-- 'append(append([]byte{}, x...), y...)' -/
theorem copy2_run (w : World) (A1 A2 : Option Addr) (a b : List Nat) (c1 c2 : Nat) (ha : Bys w w.heap.size A1 a) (hb : Bys w w.heap.size A2 b) (hm : a.length + b.length ≤ 1099511627776) :
    ∃ v1 w1 v2 w2, (Builtin.append_ #[22, 22] 22 #[.slice (some ⟨w.heap.size, 0, none⟩) 0 0, .slice A1 a.length c1]).run Try.prog (w.alloc (.cells #[] 5)) = .ok v1 w1 ∧
      (Builtin.append_ #[22, 22] 22 #[v1, .slice A2 b.length c2]).run Try.prog w1 = .ok v2 w2 ∧ Own w2 w.heap.size v2 (a ++ b) ∧ Below w.heap.size w w2 := by
  obtain ⟨v1, w1, hr1, ho1, hb1⟩ := copy_run w A1 a c1 ha (by omega)
  obtain ⟨v2, w2, hr2, ho2, hg2⟩ := run_append_bys w1 w.heap.size w.heap.size v1 a b ho1 A2 c2 (hb.below hb1 (Nat.le_refl _)) (by omega) hb1.size
  exact ⟨v1, w1, v2, w2, hr1, hr2, ho2, hb1.grown hg2 hb1.size fun g hg => (ho1.1.lt g hg).1⟩

/-- an append whose run is known, in a guarded operation that is wanted -/
theorem wpList_append_run_g (w : World) {ops : Array Oper} {rest : List Oper} {o : Oper} {a : Act} {Q : Exit → Act → World → Prop} (hgd : Region.wanted o (yielded ops a.tmps) = true) (s x : Operand) (t tn : TypeId)
    (ho : o.op = .call { callee := .builtin .append, args := #[s, x], argTypes := #[t, tn] }) (vs vx : Value) (hs : a.eval s = vs) (hx : a.eval x = vx)
    (v' : Value) (w' : World) (hr : (Builtin.append_ #[t, tn] o.type #[vs, vx]).run Try.prog w = .ok v' w') (h : wpList Try.prog ops Q rest (a.put o.dst v') w') : wpList Try.prog ops Q (o :: rest) a w := by
  unfold wpList
  rw [if_pos hgd]
  exact .inl (Lib.wp_append_run w s x t tn ho vs vx hs hx v' w' hr h)

def zeros (n : Nat) : List Nat := List.replicate n 0
theorem zeros_length (n : Nat) : (zeros n).length = n := by simp [zeros]
def zc (n : Nat) : Array Value := madeCells #[.int .u8 0] n

theorem more_sum (b z : List Nat) (hb : ∀ c ∈ b, c < 256) : moreN (Crc.sum b) z = Crc.sum (b ++ z) := by
  have h := Crc.run_lt b (w := 4294967295) (by omega) hb
  unfold moreN Crc.sum
  rw [Crc.run_append, show 4294967295 - (4294967295 - Crc.run 4294967295 b) = Crc.run 4294967295 b by omega]

theorem make_zeros (n : Nat) (hn : n ≤ 1000) : ∀ w : World, (Instr.makeSlice 22 (.int .i64 (n : Int)) (.int .i64 (n : Int))).run Try.prog w = .ok (.slice (some ⟨w.heap.size, 0, none⟩) n n) (w.alloc (.cells (zc n) 5)) := by
  intro w
  obtain ⟨i0, hi, hz0, hz1, hz2⟩ := info_parts byte_info
  have hr := run_make (P := Try.prog) w 22 5 i0 _ Try.underlying22 hi hz0 .i64 .i64 n n (by omega) (by omega) (by rw [hz2]; omega) (by omega)
  rw [hz1, show (Value.int .u8 0).cells = #[Value.int .u8 0] from rfl] at hr
  unfold zc
  simpa using hr

theorem bys_zeros (w : World) (n : Nat) : Bys (w.alloc (.cells (zc n) 5)) (w.alloc (.cells (zc n) 5)).heap.size (some ⟨w.heap.size, 0, none⟩) (zeros n) := by
  unfold zeros zc
  refine ⟨fun c hc => by have := List.eq_of_mem_replicate hc; omega, fun _ => ⟨w.heap.size, 0, rfl, by simp, fun k c hk => ?_⟩⟩
  rw [Nat.zero_add, cell_of_row _ _ _ _ _ _ (heap_alloc_new w _)]
  have hkn := (List.getElem?_eq_some_iff.1 hk).1
  have hc0 : c = 0 := List.eq_of_mem_replicate (List.mem_of_getElem? hk)
  subst hc0
  have := toList_madeCells_one (.int .u8 0) n
  rw [← Array.getElem?_toList, this]
  simp at hkn
  simp [hkn]
attribute [irreducible] zeros zc
end Go.Proofs.Ytapfdbgplfonaaa
