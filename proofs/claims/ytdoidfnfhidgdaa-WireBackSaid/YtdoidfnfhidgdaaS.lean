import Derived.Test.YtdoidfnfhidgdaaR
import Derived.Laws.EntriesVeiled
namespace Go.Proofs.Ytdoidfnfhidgdaa
open Go.RowKit

theorem wpList_append_byte2 {ops : Array Oper} {rest : List Oper} {o : Oper} {a : Act} {Q : Exit → Act → World → Prop} (hgd : o.guard = none) (s x : Operand)
    (ho : o.op = .call { callee := .builtin .append, args := #[s, x], argTypes := #[25, 25] }) (base : Nat) (v : Value) (xs : List Nat) (hs : a.eval s = v) (W : World) (hown : Own W base v xs) (y : Int) (c : Nat) (hy : y = (c : Int)) (hc : c < 256)
    (g : Nat) (hg : W.heap.size = g) (hx : a.eval x = .slice (some ⟨g, 0, none⟩) 1 1) (hbase : base ≤ W.heap.size) (hm : xs.length ≤ 1099511627700)
    (h : ∀ v' w', Own w' base v' (xs ++ [c]) → Below base W w' → wpList Try.prog ops Q rest (a.put o.dst v') w') : wpList Try.prog ops Q (o :: rest) a (W.alloc (.cells #[.int .u8 y] 5)) := by
  subst hg
  exact wpList_append_byte hgd s x ho base v xs hs W hown y c hy hc hx hbase hm h

set_option maxRecDepth 100000 in
theorem w62_any (n : Nat) (hn : n < 9223372036854775808) (id nu se ki va : Int) (base : Nat) (v : Value) (xs : List Nat) (w : World) (hown : Own w base v xs) (hbase : base ≤ w.heap.size) (hm : xs.length ≤ 1099511627000) :
    Calls Try.prog 62 #[v, .agg #[.int .i64 (n : Int), .int .i64 id, .int .i64 nu, .int .i64 se, .int .i64 ki, .int .i64 va]] w fun x w' => ∃ v', x = .returned v' ∧ Own w' base v' (xs ++ numB n) ∧ Below base w w' := by
  obtain ⟨W1, hW1⟩ : ∃ W1, w.alloc (.cells #[.int .i64 (n : Int), .int .i64 id, .int .i64 nu, .int .i64 se, .int .i64 ki, .int .i64 va] 24) = W1 := ⟨_, rfl⟩
  have HB : Hid (Below base w W1) := by rw [← hW1]; exact (Below.refl _ w).alloc hbase _
  have HQ := Lib.hid (number_any n base v xs W1 hn (by rw [← hW1]; exact hown.alloc _) (by have := HB.out.size; omega) hm)
  have HW1 := Lib.hid hW1
  clear hown hbase hm hW1
  go_enter Try.func62, Try.ntmps62
  go_wp2_with fail
  rw [HW1.out]
  refine HQ.out.mono ?_
  rintro x w1 ⟨v', rfl, hown', hb⟩
  have HB2 : Hid (Below base w w1) := HB.out.trans hb
  clear hb
  go_wp2_with fail
  go_ret
  exact ⟨v', rfl, hown', HB2.out⟩

set_option maxRecDepth 100000 in
theorem w66_any (n : Nat) (hn : n < 9223372036854775808) (ep id se ki va : Int) (base : Nat) (v : Value) (xs : List Nat) (w : World) (hown : Own w base v xs) (hbase : base ≤ w.heap.size) (hm : xs.length ≤ 1099511627000) :
    Calls Try.prog 66 #[v, .agg #[.int .i64 ep, .int .i64 id, .int .i64 (n : Int), .int .i64 se, .int .i64 ki, .int .i64 va]] w fun x w' => ∃ v', x = .returned v' ∧ Own w' base v' (xs ++ numB n) ∧ Below base w w' := by
  obtain ⟨W1, hW1⟩ : ∃ W1, w.alloc (.cells #[.int .i64 ep, .int .i64 id, .int .i64 (n : Int), .int .i64 se, .int .i64 ki, .int .i64 va] 24) = W1 := ⟨_, rfl⟩
  have HB : Hid (Below base w W1) := by rw [← hW1]; exact (Below.refl _ w).alloc hbase _
  have HQ := Lib.hid (number_any n base v xs W1 hn (by rw [← hW1]; exact hown.alloc _) (by have := HB.out.size; omega) hm)
  have HW1 := Lib.hid hW1
  clear hown hbase hm hW1
  go_enter Try.func66, Try.ntmps66
  go_wp2_with fail
  rw [HW1.out]
  refine HQ.out.mono ?_
  rintro x w1 ⟨v', rfl, hown', hb⟩
  have HB2 : Hid (Below base w w1) := HB.out.trans hb
  clear hb
  go_wp2_with fail
  go_ret
  exact ⟨v', rfl, hown', HB2.out⟩

set_option maxRecDepth 100000 in
theorem w69_any (n : Nat) (hn : n < 9223372036854775808) (ep id nu ki va : Int) (base : Nat) (v : Value) (xs : List Nat) (w : World) (hown : Own w base v xs) (hbase : base ≤ w.heap.size) (hm : xs.length ≤ 1099511627000) :
    Calls Try.prog 69 #[v, .agg #[.int .i64 ep, .int .i64 id, .int .i64 nu, .int .i64 (n : Int), .int .i64 ki, .int .i64 va]] w fun x w' => ∃ v', x = .returned v' ∧ Own w' base v' (xs ++ numB n) ∧ Below base w w' := by
  obtain ⟨W1, hW1⟩ : ∃ W1, w.alloc (.cells #[.int .i64 ep, .int .i64 id, .int .i64 nu, .int .i64 (n : Int), .int .i64 ki, .int .i64 va] 24) = W1 := ⟨_, rfl⟩
  have HB : Hid (Below base w W1) := by rw [← hW1]; exact (Below.refl _ w).alloc hbase _
  have HQ := Lib.hid (number_any n base v xs W1 hn (by rw [← hW1]; exact hown.alloc _) (by have := HB.out.size; omega) hm)
  have HW1 := Lib.hid hW1
  clear hown hbase hm hW1
  go_enter Try.func69, Try.ntmps69
  go_wp2_with fail
  rw [HW1.out]
  refine HQ.out.mono ?_
  rintro x w1 ⟨v', rfl, hown', hb⟩
  have HB2 : Hid (Below base w w1) := HB.out.trans hb
  clear hb
  go_wp2_with fail
  go_ret
  exact ⟨v', rfl, hown', HB2.out⟩

set_option maxRecDepth 100000 in
theorem w71_any (n : Int) (h1 : -4611686018427387904 ≤ n) (h2 : n < 4611686018427387904) (ep id nu se ki : Int) (base : Nat) (v : Value) (xs : List Nat) (w : World) (hown : Own w base v xs) (hbase : base ≤ w.heap.size) (hm : xs.length ≤ 1099511627000) :
    Calls Try.prog 71 #[v, .agg #[.int .i64 ep, .int .i64 id, .int .i64 nu, .int .i64 se, .int .i64 ki, .int .i64 n]] w fun x w' => ∃ v', x = .returned v' ∧ Own w' base v' (xs ++ numB (zig n)) ∧ Below base w w' := by
  obtain ⟨W1, hW1⟩ : ∃ W1, w.alloc (.cells #[.int .i64 ep, .int .i64 id, .int .i64 nu, .int .i64 se, .int .i64 ki, .int .i64 n] 24) = W1 := ⟨_, rfl⟩
  have HB : Hid (Below base w W1) := by rw [← hW1]; exact (Below.refl _ w).alloc hbase _
  have HQ := Lib.hid (signed_any n base v xs W1 h1 h2 (by rw [← hW1]; exact hown.alloc _) (by have := HB.out.size; omega) hm)
  have HW1 := Lib.hid hW1
  clear hown hbase hm hW1
  go_enter Try.func71, Try.ntmps71
  go_wp2_with fail
  rw [HW1.out]
  refine HQ.out.mono ?_
  rintro x w1 ⟨v', rfl, hown', hb⟩
  have HB2 : Hid (Below base w w1) := HB.out.trans hb
  clear hb
  go_wp2_with fail
  go_ret
  exact ⟨v', rfl, hown', HB2.out⟩

set_option maxRecDepth 100000 in
theorem w60_any (c : Nat) (hc : c < 255) (ep id nu se va : Int) (base : Nat) (v : Value) (xs : List Nat) (w : World) (hown : Own w base v xs) (hbase : base ≤ w.heap.size) (hm : xs.length ≤ 1099511627000) :
    Calls Try.prog 60 #[v, .agg #[.int .i64 ep, .int .i64 id, .int .i64 nu, .int .i64 se, .int .i64 (c : Int), .int .i64 va]] w fun x w' => ∃ v', x = .returned v' ∧ Own w' base v' (xs ++ [c]) ∧ Below base w w' := by
  have HB : Hid (Below base w (w.alloc (.cells #[.int .i64 ep, .int .i64 id, .int .i64 nu, .int .i64 se, .int .i64 (c : Int), .int .i64 va] 24))) := (Below.refl _ w).alloc hbase _
  have hown1 := hown.alloc (.cells #[.int .i64 ep, .int .i64 id, .int .i64 nu, .int .i64 se, .int .i64 (c : Int), .int .i64 va] 24)
  have HZ := Lib.hid (Nat.le_trans hbase HB.out.size)
  clear hown
  go_enter Try.func60, Try.ntmps60
  go_wp2_with (at_builtin; refine wpList_append_byte2 rfl _ _ rfl base v xs rfl _ hown1 _ c (by omega) (by omega) _ (by simp) rfl HZ.out (by omega) ?_; intro v' w1 hown' hb1)
  go_ret
  exact ⟨v', rfl, hown', HB.out.trans hb1⟩

set_option maxRecDepth 100000 in
theorem w64_any (c : Nat) (hc : c < 255) (ep id nu se ki va : Int) (h : id + 1 = (c : Int)) (base : Nat) (v : Value) (xs : List Nat) (w : World) (hown : Own w base v xs) (hbase : base ≤ w.heap.size) (hm : xs.length ≤ 1099511627000) :
    Calls Try.prog 64 #[v, .agg #[.int .i64 ep, .int .i64 id, .int .i64 nu, .int .i64 se, .int .i64 ki, .int .i64 va]] w fun x w' => ∃ v', x = .returned v' ∧ Own w' base v' (xs ++ [c]) ∧ Below base w w' := by
  have HB : Hid (Below base w (w.alloc (.cells #[.int .i64 ep, .int .i64 id, .int .i64 nu, .int .i64 se, .int .i64 ki, .int .i64 va] 24))) := (Below.refl _ w).alloc hbase _
  have hown1 := hown.alloc (.cells #[.int .i64 ep, .int .i64 id, .int .i64 nu, .int .i64 se, .int .i64 ki, .int .i64 va] 24)
  have HZ := Lib.hid (Nat.le_trans hbase HB.out.size)
  clear hown
  go_enter Try.func64, Try.ntmps64
  go_wp2_with (at_builtin; refine wpList_append_byte2 rfl _ _ rfl base v xs rfl _ hown1 _ c (by omega) (by omega) _ (by simp) rfl HZ.out (by omega) ?_; intro v' w1 hown' hb1)
  go_ret
  exact ⟨v', rfl, hown', HB.out.trans hb1⟩


/-- the parts of an entry -/
def partsC (s d : Nat) : Array Value := #[.func (.func 57) #[] #[], .func (.func 60) #[] #[], .func (.func 61) #[] #[], .func (.func 57) #[] #[], .func (.func 62) #[] #[], .func (.func 63) #[] #[], .func (.func 57) #[] #[], .func (.func 64) #[] #[], .func (.func 65) #[] #[],
  .func (.func 58) #[] #[], .func (.func 66) #[] #[], .func (.func 67) #[] #[], .func (.func 68) #[] #[.pointer (some ⟨d, 0, none⟩), .pointer (some ⟨s, 0, none⟩)], .func (.func 69) #[] #[], .func (.func 70) #[] #[], .func (.func 59) #[] #[], .func (.func 71) #[] #[], .func (.func 72) #[] #[]]
def nil18 : Array Value := #[.nilFunc, .nilFunc, .nilFunc, .nilFunc, .nilFunc, .nilFunc, .nilFunc, .nilFunc, .nilFunc, .nilFunc, .nilFunc, .nilFunc, .nilFunc, .nilFunc, .nilFunc, .nilFunc, .nilFunc, .nilFunc]
theorem parts_size : (Try.prog.info? 69).map (·.size) = some 18 := by kernel_rfl

set_option maxRecDepth 100000 in
set_option maxHeartbeats 1000000 in
theorem parts_any (w : World) : Calls Try.prog 40 #[] w fun x w' => ∃ s d, x = .returned (.agg (partsC s d)) ∧ w'.heap[s]? = some (.cells #[.func (.func 58) #[] #[]] 29) ∧ w'.heap[d]? = some (.cells #[.func (.func 59) #[] #[]] 29) ∧ w.heap.size ≤ s ∧ w.heap.size ≤ d ∧ s < w'.heap.size ∧ d < w'.heap.size ∧ Below w.heap.size w w' := by
  have hmf : ∀ (fn : Fn) (first cap : Array Value) (w : World), (Instr.makeFunc fn first cap).run Try.prog w = .ok (.func fn first cap) w := fun _ _ _ _ => rfl
  have b0 := ((Blk.new w 69 nil18).alloc (.cells #[.func (.func 58) #[] #[]] 29)).alloc (.cells #[.func (.func 59) #[] #[]] 29)
  have s0 : Blk ((w.alloc (.cells nil18 69)).alloc (.cells #[.func (.func 58) #[] #[]] 29)) (w.heap.size + 1) 29 #[.func (.func 58) #[] #[]] := by have := Blk.new (w.alloc (.cells nil18 69)) 29 #[.func (.func 58) #[] #[]]; simpa using this
  have s1 := s0.alloc (.cells #[.func (.func 59) #[] #[]] 29)
  have d1 : Blk (((w.alloc (.cells nil18 69)).alloc (.cells #[.func (.func 58) #[] #[]] 29)).alloc (.cells #[.func (.func 59) #[] #[]] 29)) (w.heap.size + 1 + 1) 29 #[.func (.func 59) #[] #[]] := by have := Blk.new ((w.alloc (.cells nil18 69)).alloc (.cells #[.func (.func 58) #[] #[]] 29)) 29 #[.func (.func 59) #[] #[]]; simpa using this
  have l1 : Below w.heap.size w (((w.alloc (.cells nil18 69)).alloc (.cells #[.func (.func 58) #[] #[]] 29)).alloc (.cells #[.func (.func 59) #[] #[]] 29)) := (((Below.refl _ w).alloc (Nat.le_refl _) _).alloc (by simp) _).alloc (by simp; omega) _
  have z1 : (((w.alloc (.cells nil18 69)).alloc (.cells #[.func (.func 58) #[] #[]] 29)).alloc (.cells #[.func (.func 59) #[] #[]] 29)).heap.size = w.heap.size + 1 + 1 + 1 := by simp
  have HB4 := Lib.hid b0
  have HS4 := Lib.hid s1
  have HD4 := Lib.hid d1
  have HL4 := Lib.hid l1
  have HZ4 := Lib.hid z1
  clear b0 s0 s1 d1 l1 z1
  go_enter Try.func40, Try.ntmps40
  go_wp2_with (refine wpList_store_row rfl 69 _ _ rfl w.heap.size (partsC (w.heap.size + 1) (w.heap.size + 1 + 1)) rfl rfl 69 nil18 HB4.out parts_size rfl (by kernel_rfl) ?_)
  have hsr : ∀ (W : World) (g k : Nat) (cs : Array Value), k ≠ g → (W.setRow g cs).heap[k]? = W.heap[k]? := fun W g k cs h => by simp only [World.setRow, Array.getElem?_modify]; rw [if_neg (Ne.symm h)]
  have hss : ∀ (W : World) (g : Nat) (cs : Array Value), (W.setRow g cs).heap.size = W.heap.size := fun W g cs => by simp [World.setRow]
  refine bodyPost_ret (v := .agg (partsC (w.heap.size + 1) (w.heap.size + 1 + 1))) ?_ rfl ?_
  · exact results_cell_row rfl _ _ w.heap.size 69 _ (0, 0) _ rfl (setRow_same HB4.out) Try.underlying69 rfl parts_size
  · refine ⟨_, _, rfl, (hsr _ _ _ _ (by omega)).trans HS4.out, (hsr _ _ _ _ (by omega)).trans HD4.out, by omega, by omega, ?_, ?_, below_setRow HL4.out (Nat.le_refl _) _⟩
    · rw [hss]; exact Nat.lt_of_lt_of_eq (by omega) HZ4.out.symm
    · rw [hss]; exact Nat.lt_of_lt_of_eq (by omega) HZ4.out.symm
end Go.Proofs.Ytdoidfnfhidgdaa
