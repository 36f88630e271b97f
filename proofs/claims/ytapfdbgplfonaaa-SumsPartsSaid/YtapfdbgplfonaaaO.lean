import Derived.Test.YtapfdbgplfonaaaM
namespace Go.Proofs.Ytapfdbgplfonaaa
open Go.RowKit

theorem bys_new (w : World) (bs : List Nat) (fr : Nat × Nat) (h : ∀ c ∈ bs, c < 256) :
    Bys (w.alloc (.cells (bs.map B8).toArray 5 fr)) (w.alloc (.cells (bs.map B8).toArray 5 fr)).heap.size (some ⟨w.heap.size, 0, none⟩) bs := by
  refine ⟨h, fun _ => ⟨w.heap.size, 0, rfl, by simp, fun k c hk => ?_⟩⟩
  rw [Nat.zero_add, cell_of_row _ _ _ _ _ _ (heap_alloc_new w _)]
  simp [hk, B8]

theorem Own.formN {w : World} {base : Nat} {v : Value} {bs : List Nat} {n : Nat} (h : Own w base v bs) (hn : bs.length = n) :
    ∃ A c, v = .slice A n c ∧ n ≤ c ∧ Bys w w.heap.size A bs := by
  subst hn
  exact h.form

/-- Open of at least four bytes -/
theorem Open_any (A : Option Addr) (t q : List Nat) (c n : Nat) (w : World) (ha : Bys w w.heap.size A (t ++ q)) (hn : t.length + 4 = n) (hq : q.length = 4) (hm : n ≤ 1099511627776) (hac : n ≤ c) :
    Calls Try.prog 18 #[.slice A n c] w (OpenRes w t (sealedB t q)) := by
  obtain ⟨b, off, rfl, _, _⟩ := ha.2 (by intro e; have := congrArg List.length e; simp only [List.length_append, List.length_nil] at this; omega)
  have h1 := ha.take t.length
  have h2 := ha.drop t.length
  rw [List.take_left'  rfl] at h1
  rw [List.drop_left' rfl] at h2
  subst hn
  exact Open_long b off t q c t.length w h1 h2 (by omega) (by omega) rfl hq

theorem sealedB_seal (t : List Nat) : sealedB t (Crc.le4 (Crc.sum t)) = true := by simp [sealedB]

theorem sum_ab : ¬ Crc.sum [97] = Crc.sum [98] := by decide +kernel
theorem sum_nil : Crc.sum [] = 0 := by decide +kernel

set_option maxRecDepth 100000 in
set_option maxHeartbeats 4000000 in
theorem works_any (w : World) : Calls Try.prog 11 #[] w fun e w' => e = .returned (.bool true) ∧ Below w.heap.size w w' := by
  have kc := fun (w : World) (C : Array Value) (n c : Nat) => Lib.run_convert_bytes_const (P := Try.prog) w 22 5 C n c Try.underlying22 Try.underlying5
  have hb0 : Below w.heap.size w (w.alloc (.cells #[.int .u8 104, .int .u8 105] 5 (2, 3))) := (Below.refl _ w).alloc (Nat.le_refl _) _
  have hy0 := bys_new w [104, 105] (2, 3) (by decide)
  have HY0 := Lib.hid hy0
  clear hy0
  go_enter Try.func11, Try.ntmps11
  go_wp2_with fail
  refine (Seal_any _ [104, 105] 2 _ HY0.out (by decide)).mono ?_
  rintro e w1 ⟨v, rfl, hown1, hb1⟩
  obtain ⟨A1, c1, rfl, hc1, hbys1⟩ := hown1.formN (n := 6) rfl
  have hbw1 : Below w.heap.size w w1 := hb0.trans (hb1.mono hb0.size)
  have ho := Open_any A1 [104, 105] (Crc.le4 (Crc.sum [104, 105])) c1 6 w1 hbys1 rfl rfl (by omega) hc1
  rw [sealedB_seal] at ho
  have HO := Lib.hid ho
  clear ho hb0 hb1 hown1 hbys1
  go_wp2_with fail
  refine HO.out.mono ?_
  rintro e w2 ⟨⟨v, rfl, hown2⟩, hb2⟩
  obtain ⟨A2, c2, rfl, hc2, hbys2⟩ := hown2.formN (n := 2) rfl
  have hbw2 : Below w.heap.size w w2 := hbw1.trans (hb2.mono hbw1.size)
  clear hown2 hb2 hbw1 HO HY0
  have hshort := Open_short (some ⟨w2.heap.size, 0, none⟩) [97, 98, 99] 3 (w2.alloc (.cells #[.int .u8 97, .int .u8 98, .int .u8 99] 5 (3, 4))) (by decide)
  have HSH := Lib.hid hshort
  clear hshort
  have hb3 : Below w2.heap.size w2 (w2.alloc (.cells #[.int .u8 97, .int .u8 98, .int .u8 99] 5 (3, 4))) := (Below.refl _ w2).alloc (Nat.le_refl _) _
  go_wp2_with fail
  refine HSH.out.mono ?_
  rintro e w3 ⟨rfl, hb3'⟩
  have hbw23 : Below w2.heap.size w2 w3 := hb3.trans (hb3'.mono hb3.size)
  have hbw3 : Below w.heap.size w w3 := hbw2.trans (hbw23.mono hbw2.size)
  have hbys3 := hbys2.grow hbw23
  clear hb3 hb3' HSH hbys2
  have hcv := conv_any w3 w3.heap.size A2 [104, 105] c2 hbys3
  have hcv2 : (convert 22 9 (.slice A2 2 c2)).run Try.prog w3 = .ok (.string (str [104, 105])) w3 := hcv
  clear hcv
  have hstr : (str [104, 105]).toList = [104, 105] := by rw [toList_data, str_list]; rfl
  go_wp2_with (go_at_call 20; refine (num_any _ _).mono ?_; rintro e w4 ⟨rfl, rfl⟩)
  have hsn := Sum_any none [] 0 w3 ⟨by simp, fun h => absurd rfl h⟩ (by decide)
  rw [sum_nil] at hsn
  refine hsn.mono ?_
  rintro e w4 ⟨rfl, hb4⟩
  have hbw4 : Below w.heap.size w w4 := hbw3.trans (hb4.mono hbw3.size)
  clear hsn hcv2 hstr hb4
  have hb5 : Below w4.heap.size w4 (w4.alloc (.cells #[.int .u8 97] 5 (1, 2))) := (Below.refl _ w4).alloc (Nat.le_refl _) _
  have hy5 := bys_new w4 [97] (1, 2) (by decide)
  have HY5 := Lib.hid hy5
  clear hy5
  go_wp2_with fail
  refine (Sum_any _ [97] 1 _ HY5.out (by decide)).mono ?_
  rintro e w5 ⟨rfl, hb5'⟩
  have hbw5 : Below w.heap.size w w5 := hbw4.trans ((hb5.trans (hb5'.mono hb5.size)).mono hbw4.size)
  clear hb5 hb5' HY5
  have hb6 : Below w5.heap.size w5 (w5.alloc (.cells #[.int .u8 98] 5 (1, 2))) := (Below.refl _ w5).alloc (Nat.le_refl _) _
  have hy6 := bys_new w5 [98] (1, 2) (by decide)
  have HY6 := Lib.hid hy6
  clear hy6
  have hne : (((Crc.sum [97] : Nat) : Int) != ((Crc.sum [98] : Nat) : Int)) = true := by
    rw [bne_iff_ne]
    intro h
    exact sum_ab (by omega)
  go_wp2_with fail
  refine (Sum_any _ [98] 1 _ HY6.out (by decide)).mono ?_
  rintro e w6 ⟨rfl, hb6'⟩
  have hbw6 : Below w.heap.size w w6 := hbw5.trans ((hb6.trans (hb6'.mono hb6.size)).mono hbw5.size)
  clear hb6 hb6' HY6
  go_wp2_with fail
  go_ret
  exact ⟨rfl, hbw6⟩
end Go.Proofs.Ytapfdbgplfonaaa
