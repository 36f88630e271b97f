import Derived.Test.YtghhffcdfbehcaaC
import Derived.Maps.AppendAt
import Derived.Deep.AppendLies
namespace Go.Proofs.Ytghhffcdfbehcaa
open Go.RowKit

def Ints (w : World) (B : Nat) (A : Option Addr) (zs : List Int) : Prop :=
  zs ≠ [] → ∃ b off, A = some ⟨b, off, none⟩ ∧ b < B ∧ ∀ k x, zs[k]? = some x → w.cell? ⟨b, off + k, none⟩ = some (.int .i64 x)

theorem Ints.below {w w' : World} {B B' : Nat} {A : Option Addr} {l : List Int} (h : Ints w B A l) (hb : Below B' w w') (hB : B ≤ B') : Ints w' B A l := by
  intro hl
  obtain ⟨b, off, hA, hlt, hc⟩ := h hl
  exact ⟨b, off, hA, hlt, fun k e he => (hb.cell (p := ⟨b, off + k, none⟩) (by show b < B'; omega)).trans (hc k e he)⟩
theorem Ints.mono {w : World} {B B' : Nat} {A : Option Addr} {l : List Int} (h : Ints w B A l) (hB : B ≤ B') : Ints w B' A l := by
  intro hl
  obtain ⟨b, off, hA, hlt, hc⟩ := h hl
  exact ⟨b, off, hA, by omega, hc⟩
theorem Ints.at_ {w : World} {B : Nat} {A : Option Addr} {l : List Int} (h : Ints w B A l) {k : Nat} (hk : k < l.length) : ∃ b off, A = some ⟨b, off, none⟩ ∧ b < B ∧ w.cell? ⟨b, off + k, none⟩ = some (.int .i64 l[k]) := by
  obtain ⟨b, off, hA, hlt, hc⟩ := h (by intro e; subst e; simp at hk)
  exact ⟨b, off, hA, hlt, hc k _ (List.getElem?_eq_getElem hk)⟩

def Ent.cells (e : Ent) : List Value := [.int .i64 e.epoch, .int .i64 e.id, .int .i64 e.num, .int .i64 e.seq, .int .i64 e.kind, .int .i64 e.value]

theorem cells_at (l : List Ent) : ∀ (k j : Nat) (e : Ent), l[k]? = some e → j < 6 → (l.flatMap Ent.cells)[k * 6 + j]? = e.cells[j]? := by
  induction l with
  | nil => intro k j e h; simp at h
  | cons x r ih =>
    intro k j e h hj
    have h6 : x.cells.length = 6 := rfl
    cases k with
    | zero =>
      obtain rfl : x = e := by simpa using h
      rw [List.flatMap_cons, List.getElem?_append_left (by omega)]
      simp
    | succ k =>
      rw [List.flatMap_cons, List.getElem?_append_right (by omega), h6, show (k + 1) * 6 + j - 6 = k * 6 + j by omega]
      exact ih k j e (by simpa using h) hj

theorem addr_add (g j : Nat) : (⟨g, 0, none⟩ : Addr).add j = ⟨g, j, none⟩ := by
  unfold Addr.add; split <;> simp_all

/-- what a row of the call's own holds reads as entries -/
theorem Ents.of_own {w : World} {base n c : Nat} {A : Option Addr} {l : List Ent} (h : w.ownsRow base 54 6 (.slice A n c) n (l.flatMap Ent.cells)) : Ents w w.heap.size A l := by
  intro hl
  have h1 := h.1
  have h6 : ∀ l : List Ent, (l.flatMap Ent.cells).length = l.length * 6 := by
    intro l
    induction l with
    | nil => rfl
    | cons x r ih => rw [List.flatMap_cons, List.length_append, ih, List.length_cons]; show 6 + _ = _; omega
  rw [h6] at h1
  have hp : 0 < l.length := List.length_pos_iff.2 hl
  obtain ⟨g, cap, hv, _, hlt⟩ := h.form (by omega)
  have hA : A = some ⟨g, 0, none⟩ := by injection hv
  refine ⟨g, 0, hA, hlt, fun k e he => ?_⟩
  have hc := h.cells (g := g) (by rw [hA]; rfl)
  have hat : ∀ j u, e.cells[j]? = some u → j < 6 → w.cell? ⟨g, 0 + k * 6 + j, none⟩ = some u := by
    intro j u hu hj
    have := hc (k * 6 + j) u (by rw [cells_at l k j e he hj]; exact hu)
    rw [addr_add] at this
    rw [show 0 + k * 6 + j = k * 6 + j by omega]
    exact this
  exact ⟨hat 0 _ rfl (by omega), hat 1 _ rfl (by omega), hat 2 _ rfl (by omega), hat 3 _ rfl (by omega), hat 4 _ rfl (by omega), hat 5 _ rfl (by omega)⟩

def logAt (zs : List Int) (j : Nat) : Ent := ⟨zs.getD j 0, -1, 0, 0, 1, j⟩
def logE (zs : List Int) : List Ent := (List.range zs.length).map (logAt zs)
theorem logE_length (zs : List Int) : (logE zs).length = zs.length := by simp [logE]
theorem logE_get (zs : List Int) (k : Nat) (hk : k < (logE zs).length) : ((logE zs)[k]).epoch = zs.getD k 0 := by simp [logE, logAt]

/-- the cells of the first k -/
def logC (zs : List Int) (k : Nat) : List Value := (List.range k).flatMap fun j => (logAt zs j).cells
theorem logC_succ (zs : List Int) (k : Nat) : logC zs (k + 1) = logC zs k ++ (logAt zs k).cells := by simp [logC, List.range_succ]
theorem logC_all (zs : List Int) : logC zs zs.length = (logE zs).flatMap Ent.cells := by simp [logC, logE, List.flatMap_map]

theorem ent_info : (Try.prog.info? 54).map (fun i => (i.zero, i.size, i.bytes)) = some (some (.agg #[.int .i64 0, .int .i64 0, .int .i64 0, .int .i64 0, .int .i64 0, .int .i64 0]), 6, 48) := by kernel_rfl

theorem cells6_new (w : World) (a b c d e f : Value) (t : TypeId) : ∀ j u, [a, b, c, d, e, f][j]? = some u → (w.alloc (.cells #[a, b, c, d, e, f] t)).cell? ((⟨w.heap.size, 0, none⟩ : Addr).add j) = some u := by
  intro j u hu
  rw [addr_add, cell_of_row _ _ _ _ _ _ (heap_alloc_new w _)]
  simpa using hu

theorem one6 (a b c d e f : Int) : ∀ u ∈ [Value.int .i64 a, .int .i64 b, .int .i64 c, .int .i64 d, .int .i64 e, .int .i64 f], u.oneCell' = true := by
  intro u hu
  simp at hu
  rcases hu with rfl | rfl | rfl | rfl | rfl | rfl <;> rfl

def LogRes (w : World) (zs : List Int) (e : Ending) (w' : World) : Prop :=
  ∃ A c, e = .returned (.slice A zs.length c) ∧ zs.length ≤ c ∧ Ents w' w'.heap.size A (logE zs) ∧ Below w.heap.size w w'

set_option maxHeartbeats 1000000 in
theorem log_any (A : Option Addr) (zs : List Int) (c : Nat) (w : World) (hz : Ints w w.heap.size A zs) (hm : zs.length ≤ 1048576) :
    Calls Try.prog 9 #[.slice A zs.length c] w (LogRes w zs) := by
  obtain ⟨i0, hi, hz0, hz1, hz2⟩ := info_parts ent_info
  go_enter Try.func9, Try.ntmps9
  go_wp2
  go_loopw [3, 4] (fun v i wr => ∃ (k : Nat), k ≤ zs.length ∧ i = .int .i64 k ∧ wr.ownsRow w.heap.size 54 6 v k (logC zs k) ∧ Below w.heap.size w wr)
    (fun _ i _ => zs.length - (intOf i).toNat)
  case atStart => exact ⟨0, Nat.zero_le _, rfl, World.ownsRow_nil _ _ _ _, Below.refl _ _⟩
  case round =>
    obtain ⟨k, hk, rfl, hown, hb⟩ := hrel
    by_cases hlt : k < zs.length
    · obtain ⟨b, off, rfl, hbB, he⟩ := (hz.below hb (Nat.le_refl _)).at_ hlt
      have b2 : k + 1 ≤ maxLen := by unfold maxLen; omega
      have b3 : (k + 1) * 48 ≤ 140737488355328 := by omega
      have b4 := hb.size
      go_wp2_with (at_builtin; refine wpList_append_own _ rfl (.tmp 11) (.tmp 18) 23 rfl w.heap.size 54 i0 _ 6 48 Try.underlying23 hi hz0 hz1 hz2 rfl (by decide) u3 k (logC zs k) rfl (hown.alloc _) ⟨wr.heap.size, 0, none⟩ 1 1 [.int .i64 zs[k], .int .i64 (-1), .int .i64 0, .int .i64 0, .int .i64 1, .int .i64 k] rfl rfl (cells6_new _ _ _ _ _ _ _ _) (one6 _ _ _ _ _ _) b2 b3 (by simp; omega) ?_; intro v' w1 hown' hgrow _)
      have hb1 : Below w.heap.size w w1 := (hb.alloc hb.size _).grown hgrow (by simp; have := hb.size; omega) fun g hg => (hown.lt g hg).1
      go_roundw
      case rel => exact ⟨k + 1, by omega, by go_num, by rw [logC_succ]; simpa [logAt, Ent.cells, List.getD, hlt] using hown', hb1⟩
      case measure => simp [intOf]; omega
    · obtain rfl : k = zs.length := by omega
      have hfin : ∃ A c, u3 = .slice A zs.length c ∧ zs.length ≤ c ∧ Ents wr wr.heap.size A (logE zs) := by
        rcases hown.2 with ⟨rfl, h0⟩ | ⟨g, cap, cur, rfl, _, _, hc, _⟩
        · exact ⟨none, 0, by rw [h0], by omega, fun h => by
            have h2 : (logE zs).length = 0 := by rw [logE_length, h0]
            exact absurd (List.eq_nil_of_length_eq_zero h2) h⟩
        · exact ⟨_, _, rfl, hc, Ents.of_own (by rw [← logC_all]; exact hown)⟩
      obtain ⟨A1, c1, rfl, hc1, he1⟩ := hfin
      go_wp2
      go_ret
      exact ⟨A1, c1, rfl, hc1, he1, hb⟩
end Go.Proofs.Ytghhffcdfbehcaa
