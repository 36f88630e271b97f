import Derived.Test.YtdoidfnfhidgdaaAD
namespace Go.Proofs.Ytdoidfnfhidgdaa
open Go.RowKit



/-- a row of n bytes, whatever they are, in block g -/
def Row8 (w : World) (g n : Nat) : Prop := ∃ cs : Array Value, Blk w g 5 cs ∧ ∀ j, j < n → ∃ c : Nat, cs[j]? = some (.int .u8 c) ∧ c < 256
theorem Row8.at_ {w : World} {g n : Nat} (h : Row8 w g n) {k : Nat} (hk : k < n) : ∃ c : Nat, w.cell? ⟨g, k, none⟩ = some (.int .u8 c) ∧ c < 256 := by
  obtain ⟨cs, hb, hc⟩ := h
  obtain ⟨c, h1, h2⟩ := hc k hk
  exact ⟨c, by rw [hb.cell]; exact h1, h2⟩
theorem Row8.frozen {w : World} {g n : Nat} (h : Row8 w g n) (k : Nat) : w.frozen? ⟨g, k, none⟩ = false := by
  obtain ⟨cs, hb, _⟩ := h
  exact hb.frozen k
theorem Row8.set_ {w : World} {g n : Nat} (h : Row8 w g n) (k v : Nat) (hv : v < 256) : Row8 (w.setCell ⟨g, k, none⟩ (.int .u8 v)) g n := by
  obtain ⟨cs, hb, hc⟩ := h
  refine ⟨_, hb.set_ k _, fun j hj => ?_⟩
  obtain ⟨c, h1, h2⟩ := hc j hj
  rw [Array.getElem?_setIfInBounds]
  split
  · next e =>
    subst e
    have := (Array.getElem?_eq_some_iff.1 h1).1
    rw [if_pos this]
    exact ⟨v, rfl, hv⟩
  · exact ⟨c, h1, h2⟩
theorem Row8.drew {w : World} {g n : Nat} (h : Row8 w g n) : Row8 w.drew g n := h
theorem Row8.below {B : Nat} {w w' : World} {g n : Nat} (h : Row8 w g n) (hb : Below B w w') (hg : g < B) : Row8 w' g n := by
  obtain ⟨cs, h1, h2⟩ := h
  exact ⟨cs, h1.below hb hg, h2⟩
/-- own bytes, opened: none, or a block of the call's own -/
theorem Own.formG {w : World} {base : Nat} {v : Value} {bs : List Nat} (h : Own w base v bs) :
    (v = .slice none 0 0 ∧ bs = []) ∨ ∃ g c, v = .slice (some ⟨g, 0, none⟩) bs.length c ∧ bs.length ≤ c ∧ base ≤ g ∧ g < w.heap.size ∧ Row8 w g bs.length := by
  rcases h.1.2 with ⟨rfl, h0⟩ | ⟨g, cap, cur, rfl, hge, hg, hc, hr⟩
  · exact .inl ⟨rfl, List.eq_nil_of_length_eq_zero h0⟩
  · refine .inr ⟨g, _, rfl, hc, hge, (Array.getElem?_eq_some_iff.1 hg).1, cur, hg, fun j hj => ?_⟩
    have := h.1.cells (g := g) rfl j (B8 bs[j]) (by simp [hj])
    rw [addr_add, Blk.cell hg] at this
    exact ⟨bs[j], this, h.2 _ (List.getElem_mem hj)⟩
theorem Bys.set_ {w : World} {B g k v : Nat} {xs : List Nat} (h : Bys w B (some ⟨g, 0, none⟩) xs) (hk : k < xs.length) (hv : v < 256) : Bys (w.setCell ⟨g, k, none⟩ (.int .u8 v)) B (some ⟨g, 0, none⟩) (xs.set k v) := by
  refine ⟨fun c hc => ?_, fun _ => ?_⟩
  · rcases List.mem_or_eq_of_mem_set hc with h1 | rfl
    · exact h.1 c h1
    · exact hv
  · obtain ⟨b, off, e, hlt, hc⟩ := h.2 (by intro e; subst e; simp at hk)
    cases e
    refine ⟨g, 0, rfl, hlt, fun j c hj => ?_⟩
    rw [Nat.zero_add]
    rw [List.getElem?_set] at hj
    by_cases hjk : k = j
    · subst hjk
      rw [if_pos rfl, if_pos hk] at hj
      injection hj with hj
      subst hj
      refine World.cell?_setCell_same' w ⟨g, k, none⟩ _ ?_
      have h0 := hc k _ (List.getElem?_eq_getElem hk)
      rw [Nat.zero_add] at h0
      rw [h0]
      rfl
    · rw [if_neg hjk] at hj
      have h0 := hc j c hj
      rw [Nat.zero_add] at h0
      rw [World.cell?_setCell_other]
      · exact h0
      · intro e
        injection e with _ e2
        exact hjk e2
theorem Row8.other {w : World} {g n : Nat} (h : Row8 w g n) {a : Addr} (hne : g ≠ a.block) (v : Value) : Row8 (w.setCell a v) g n := by
  obtain ⟨cs, h1, h2⟩ := h
  exact ⟨cs, (Below.heap_setCell w a v g hne).trans h1, h2⟩

theorem fr0_6 : fr0[6]? = some 2 := by kernel_rfl

set_option maxRecDepth 100000 in
set_option maxHeartbeats 4000000 in
theorem works_any (w : World) : Calls Try.prog 18 #[] w fun x w' => x = .returned (.bool true) ∧ Below w.heap.size w w' := by
  obtain ⟨W1, h1⟩ : ∃ W1, w.alloc (.cells (entC ent0) 24) = W1 := ⟨_, rfl⟩
  have z1 : W1.heap.size = w.heap.size + 1 := by rw [← h1]; simp
  have l1 : Below w.heap.size w W1 := by rw [← h1]; exact (Below.refl _ w).alloc (Nat.le_refl _) _
  have b1 : Blk W1 w.heap.size 24 (entC ent0) := by rw [← h1]; exact Blk.new w 24 _
  have hf : Calls Try.prog 14 #[.agg #[.int .i64 2, .int .i64 3, .int .i64 300, .int .i64 1, .int .i64 1, .int .i64 (-5)]] W1 fun x w' => ∃ g c, x = .returned (.tuple #[.slice (some ⟨g, 0, none⟩) 12 c, .int .i64 0]) ∧ 12 ≤ c ∧ W1.heap.size ≤ g ∧ Row8 w' g 12 ∧ Bys w' w'.heap.size (some ⟨g, 0, none⟩) fr0 ∧ Below W1.heap.size W1 w' := by
    refine (Frame_any ent0 W1).mono ?_
    rintro x w' ⟨⟨_, v, rfl, ho⟩ | ⟨hn, _⟩, hb⟩
    · rw [frame0] at ho
      rcases ho.formG with ⟨rfl, h0⟩ | ⟨g, c, rfl, hc, hg, _, hr⟩
      · exact absurd h0 (by decide)
      · obtain ⟨A, c2, e, _, hby⟩ := ho.form
        injection e with e1
        subst e1
        rw [len0] at hc hr
        exact ⟨g, c, by rw [len0], hc, hg, hr, hby, hb⟩
    · exact absurd right0 hn
  have HF := Lib.hid hf
  have HL := Lib.hid l1
  have HB1 := Lib.hid b1
  have HZ1 := Lib.hid z1
  have hW : w.alloc (.cells #[.int .i64 2, .int .i64 3, .int .i64 300, .int .i64 1, .int .i64 1, .int .i64 (-5)] 24) = W1 := h1
  have HW := Lib.hid hW
  have a1 : (w.alloc (.cells #[.int .i64 2, .int .i64 3, .int .i64 300, .int .i64 1, .int .i64 1, .int .i64 (-5)] 24)).heap.size = w.heap.size + 1 := by simp
  clear hf l1 b1 z1 hW h1 a1
  go_enter Try.func18, Try.ntmps18
  go_wp2_with fail
  rw [HW.out]
  refine HF.out.mono ?_
  rintro x w2 ⟨g, c, rfl, hc, hg, hrow, hby, hb2⟩
  have hr0 := Read_any (some ⟨g, 0, none⟩) fr0 c w2 hby (by rw [len0]; exact hc) (by rw [len0]; omega)
  rw [len0, read0] at hr0
  have HR0 := Lib.hid hr0
  have HB2 : Hid (Below w.heap.size w w2) := HL.out.trans (hb2.mono HL.out.size)
  have HK1 : Hid (Blk w2 w.heap.size 24 (entC ent0)) := HB1.out.below hb2 HB1.out.lt
  have HG : Hid (w.heap.size < g) := Lib.hid (by have := HZ1.out; omega)
  have HBY := Lib.hid hby
  clear hr0 hb2 hby hg HB1 HF HW HL HZ1
  go_wp2_with fail
  refine HR0.out.mono ?_
  rintro x w3 ⟨rfl, hb3⟩
  have HB3 : Hid (Below w.heap.size w w3) := HB2.out.trans (hb3.mono HB2.out.size)
  have HK3 : Hid (Blk w3 w.heap.size 24 (entC ent0)) := HK1.out.below hb3 HK1.out.lt
  have hrow3 := hrow.below hb3 (by obtain ⟨cs, h1, _⟩ := hrow; exact h1.lt)
  have HBY3 := Lib.hid (HBY.out.grow hb3)
  have hbN : Below w3.heap.size w3 (w3.alloc (.cells (entC ent0) 24)) := (Below.refl _ w3).alloc (Nat.le_refl _) _
  have hk4 := HK3.out.alloc (.cells (entC ent0) 24)
  have hgl : g < w3.heap.size := by obtain ⟨cs, h1, _⟩ := hrow3; exact h1.lt
  have hrow4 := hrow3.below hbN hgl
  have HBY4 := Lib.hid (HBY3.out.grow hbN)
  have HB4 : Hid (Below w.heap.size w (w3.alloc (.cells (entC ent0) 24))) := HB3.out.alloc HB3.out.size _
  obtain ⟨W4, hW4⟩ : ∃ W4, w3.alloc (.cells (entC ent0) 24) = W4 := ⟨_, rfl⟩
  have hn4 : Blk W4 w3.heap.size 24 (entC ent0) := by rw [← hW4]; exact Blk.new w3 24 _
  rw [hW4] at hk4 hrow4 HBY4 HB4
  obtain ⟨⟨a0, a1, a2⟩, a3, a4, a5⟩ := ebox hk4
  obtain ⟨⟨d0, d1, d2⟩, d3, d4, d5⟩ := ebox hn4
  have hW4' : w3.alloc (.cells #[.int .i64 2, .int .i64 3, .int .i64 300, .int .i64 1, .int .i64 1, .int .i64 (-5)] 24) = W4 := hW4
  have HW4 := Lib.hid hW4'
  obtain ⟨cc, x6, _⟩ := hrow4.at_ (show 6 < 12 by omega)
  have x7 := hrow4.frozen 6
  have x6' : W4.cell? ⟨g, 6, none⟩ = some (.int .u8 2) := by
    obtain ⟨b', o', e', _, hcc⟩ := HBY4.out.2 (by intro h; exact absurd (congrArg List.length h) (by rw [len0]; decide))
    cases e'
    have := hcc 6 2 fr0_6
    rwa [Nat.zero_add] at this
  clear x6 hW4 hW4' hn4 hk4 hbN hrow hrow3 hb3 HK1 HR0 HBY HB2
  simp only [ent0, entV]
  go_wp2_with fail
  rw [HW4.out]
  refine (num_any _ _).mono ?_
  rintro x w5 ⟨rfl, rfl⟩
  go_wp2_with fail
  refine (num_any _ _).mono ?_
  rintro x w5 ⟨rfl, rfl⟩
  simp only [ent0] at a0 a1 a2 a3 a4 a5 d0 d1 d2 d3 d4 d5
  have hxor : bits BinOp.xor IntKind.u8 2 1 = 3 := by decide
  go_wp2_with fail
  have hby5 := HBY4.out.set_ (k := 6) (v := 3) (by rw [len0]; omega) (by omega)
  obtain ⟨W5, hW5⟩ : ∃ W5, W4.setCell ⟨g, 6, none⟩ (.int .u8 3) = W5 := ⟨_, rfl⟩
  have hb5 : Below w.heap.size w W5 := by rw [← hW5]; exact HB4.out.setCell (p := ⟨g, 6, none⟩) (Nat.le_of_lt HG.out) _
  have hz5 : W5.heap.size = W4.heap.size := by rw [← hW5]; simp [World.setCell]
  have hW5' : W4.setCell ⟨g, 6, none⟩ (.int .u8 ((3 : Nat) : Int)) = W5 := hW5
  rw [hW5', ← hz5] at hby5
  have hr1 := Read_any (some ⟨g, 0, none⟩) fr1 c W5 hby5 (by rw [fr1, List.length_set, len0]; exact hc) (by rw [fr1, List.length_set, len0]; omega)
  rw [show fr1.length = 12 by rw [fr1, List.length_set, len0], read1] at hr1
  have HR1 := Lib.hid hr1
  have HB5 := Lib.hid hb5
  rw [hW5]
  clear hr1 hb5 hz5 hby5 hW5 hW5' hrow4 a0 a1 a2 a3 a4 a5 d0 d1 d2 d3 d4 d5 x7 x6'
  refine HR1.out.mono ?_
  rintro x w6 ⟨rfl, hb6⟩
  have HB6 : Hid (Below w.heap.size w w6) := HB5.out.trans (hb6.mono HB5.out.size)
  clear hb6
  simp only [zeroE, entV]
  go_wp2_with fail
  refine (num_any _ _).mono ?_
  rintro x w7 ⟨rfl, rfl⟩
  go_wp2_with fail
  go_ret
  exact ⟨rfl, HB6.out.alloc HB6.out.size _⟩
end Go.Proofs.Ytdoidfnfhidgdaa
