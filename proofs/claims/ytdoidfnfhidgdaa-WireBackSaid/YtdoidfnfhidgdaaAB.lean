import Derived.Test.YtdoidfnfhidgdaaAA
import Derived.Test.YtdoidfnfhidgdaaU
namespace Go.Proofs.Ytdoidfnfhidgdaa
open Go.RowKit

def zeroE : Ent := ⟨0, 0, 0, 0, 0, 0⟩
theorem ent_size : (Try.prog.info? 24).map (·.size) = some 6 := by kernel_rfl
theorem setRow_far (W : World) (g k : Nat) (cs : Array Value) (h : k ≠ g) : (W.setRow g cs).heap[k]? = W.heap[k]? := by simp only [World.setRow, Array.getElem?_modify]; rw [if_neg (Ne.symm h)]
theorem setRow_size (W : World) (g : Nat) (cs : Array Value) : (W.setRow g cs).heap.size = W.heap.size := by simp [World.setRow]
theorem Two.setRow {X L : Nat} (a : World) (cs : Array Value) : Two X L a (a.setRow X cs) := ⟨rfl, rfl, rfl, by rw [setRow_size]; exact Nat.le_refl _, fun k _ hx _ => setRow_far a X k cs hx⟩
theorem Two.setL {X L : Nat} (a : World) (i : Nat) (v : Value) : Two X L a (a.setCell ⟨L, i, none⟩ v) := ⟨rfl, rfl, rfl, by simp [World.setCell], fun k _ _ hl => Below.heap_setCell a ⟨L, i, none⟩ v k hl⟩

set_option maxRecDepth 100000 in
set_option maxHeartbeats 1000000 in
theorem clear43 (X N : Nat) (w : World) (e0 : Ent) (n0 : Value) (hx : Blk w X 24 (entC e0)) (hn : Blk w N 3 #[n0]) (hne : X ≠ N) :
    Calls Try.prog 43 #[.pointer (some ⟨X, 0, none⟩), .pointer (some ⟨N, 0, none⟩)] w fun x w' => x = .returned (.tuple #[]) ∧ Blk w' X 24 (entC zeroE) ∧ Blk w' N 3 #[.int .i64 0] ∧ Two X N w w' := by
  have HX := Lib.hid hx
  have hn1 : Blk (w.setRow X (entC zeroE)) N 3 #[n0] := (setRow_far w X N _ (Ne.symm hne)).trans hn
  have HN := Lib.hid hn1
  have x1 := hn1.cell 0
  have x2 := hn1.frozen 0
  clear hx hn hn1
  go_enter Try.func43, Try.ntmps43
  go_wp2_with (refine wpList_store_row rfl 24 _ _ rfl X (entC zeroE) rfl rfl 24 (entC e0) HX.out ent_size rfl (by kernel_rfl) ?_)
  go_end0
  exact ⟨rfl, (setRow_same HX.out).other (a := ⟨N, 0, none⟩) hne _, HN.out.set_ 0 _, (Two.setRow w _).trans (Two.setL _ _ _)⟩

def ReadR (w : World) (r : Ent × Int × Int) (x : Ending) (w' : World) : Prop := x = .returned (.tuple #[entV r.1, .int .i64 r.2.1, .int .i64 r.2.2]) ∧ Below w.heap.size w w'

theorem read_results (Z : World) (tmps : Array Value) (e : Ent) (n f : Int) (X : Nat) (hx : Blk Z X 24 (entC e)) (hn : Blk Z (X + 1) 3 #[.int .i64 n]) (hf : Blk Z (X + 1 + 1) 26 #[.int .i64 f])
    (t2 : tmps.getD 2 undef = .pointer (some ⟨X, 0, none⟩)) (t3 : tmps.getD 3 undef = .pointer (some ⟨X + 1, 0, none⟩)) (t4 : tmps.getD 4 undef = .pointer (some ⟨X + 1 + 1, 0, none⟩)) :
    (results Try.f23 tmps).run Try.prog Z = .ok (.tuple #[entV e, .int .i64 n, .int .i64 f]) Z := by
  obtain ⟨⟨a0, a1, a2⟩, a3, a4, a5⟩ := ebox hx
  have c2 := hn.cell 0
  have c3 := hf.cell 0
  simp at c2 c3 t2 t3 t4
  unfold entV
  simp [results, Try.results23, go_sem, t2, t3, t4, a0, a1, a2, a3, a4, a5, c2, c3]

set_option maxRecDepth 100000 in
set_option maxHeartbeats 2000000 in
/-- a call that gives up: what Read's deferred call makes of it -/
theorem read_up (w W : World) (tmps : Array Value) (e : Int) (e0 : Ent) (n0 f0 : Value) (X : Nat) (hX : w.heap.size ≤ X) (hx : Blk W X 24 (entC e0)) (hn : Blk W (X + 1) 3 #[n0]) (hf : Blk W (X + 1 + 1) 26 #[f0]) (hb : Below w.heap.size w W)
    (t2 : tmps.getD 2 undef = .pointer (some ⟨X, 0, none⟩)) (t3 : tmps.getD 3 undef = .pointer (some ⟨X + 1, 0, none⟩)) (t4 : tmps.getD 4 undef = .pointer (some ⟨X + 1 + 1, 0, none⟩)) :
    Leaves Try.prog Try.f23 tmps (ReadR w (zeroE, 0, e)) [{ target := .fn (.func 42) #[], args := #[.pointer (some ⟨X + 1 + 1, 0, none⟩), .func (.func 43) #[] #[.pointer (some ⟨X, 0, none⟩), .pointer (some ⟨X + 1, 0, none⟩)]] }] (.panicking [{ v := .iface 92 (.agg #[.int .i64 e]), recovered := false }]) W := by
  have hsz := hf.lt
  have s4 := Blk.new W 92 #[.int .i64 e]
  have l4 : Below w.heap.size w (W.alloc (.cells #[.int .i64 e] 92)) := hb.alloc (by omega) _
  have hcl := clear43 X (X + 1) (W.alloc (.cells #[.int .i64 e] 92)) e0 n0 (hx.alloc _) (hn.alloc _) (by omega)
  have hfa := hf.alloc (.cells #[.int .i64 e] 92)
  obtain ⟨W7, hW7⟩ : ∃ W7, W.alloc (.cells #[.int .i64 e] 92) = W7 := ⟨_, rfl⟩
  rw [hW7] at s4 l4 hcl hfa
  refine leaves_cons (f := 42) (args := #[.pointer (some ⟨X + 1 + 1, 0, none⟩), .func (.func 43) #[] #[.pointer (some ⟨X, 0, none⟩), .pointer (some ⟨X + 1, 0, none⟩)]]) (by simp) (by simp [go_sem]) ?_
  refine (caught_up ⟨X + 1 + 1, 0, none⟩ 43 #[.pointer (some ⟨X, 0, none⟩), .pointer (some ⟨X + 1, 0, none⟩)] e [] W (fun V => Blk V X 24 (entC zeroE) ∧ Blk V (X + 1) 3 #[.int .i64 0] ∧ Two X (X + 1) W7 V) (enters_of Try.func43 (by kernel_rfl) rfl) (by rw [hW7]; exact hcl) ?_).mono ?_
  · rintro V ⟨v1, v2, v3⟩
    exact ⟨(v3.blk s4 (by omega) (by omega)).cell 0, ⟨_, (v3.blk hfa (by omega) (by omega)).cell 0⟩, (v3.blk hfa (by omega) (by omega)).frozen 0⟩
  rintro x u' w' ⟨rfl, rfl, V, ⟨v1, v2, v3⟩, rfl⟩
  have b1 : Blk (V.setCell ⟨X + 1 + 1, 0, none⟩ (.int .i64 e)) X 24 (entC zeroE) := v1.other (a := ⟨X + 1 + 1, 0, none⟩) (by show X ≠ X + 1 + 1; omega) _
  have b2 : Blk (V.setCell ⟨X + 1 + 1, 0, none⟩ (.int .i64 e)) (X + 1) 3 #[.int .i64 0] := v2.other (a := ⟨X + 1 + 1, 0, none⟩) (by show X + 1 ≠ X + 1 + 1; omega) _
  have b3 : Blk (V.setCell ⟨X + 1 + 1, 0, none⟩ (.int .i64 e)) (X + 1 + 1) 26 #[.int .i64 e] := (v3.blk hfa (by omega) (by omega)).set_ 0 _
  have hfin : Below w.heap.size w (V.setCell ⟨X + 1 + 1, 0, none⟩ (.int .i64 e)) := (v3.below l4 l4.size hX (by omega)).setCell (p := ⟨X + 1 + 1, 0, none⟩) (by show w.heap.size ≤ X + 1 + 1; omega) _
  obtain ⟨Z, hZ⟩ : ∃ Z, V.setCell ⟨X + 1 + 1, 0, none⟩ (.int .i64 e) = Z := ⟨_, rfl⟩
  rw [hZ] at b1 b2 b3 hfin ⊢
  exact ⟨.tuple #[entV zeroE, .int .i64 0, .int .i64 e], read_results Z tmps zeroE 0 e X b1 b2 b3 t2 t3 t4, rfl, hfin⟩
end Go.Proofs.Ytdoidfnfhidgdaa
