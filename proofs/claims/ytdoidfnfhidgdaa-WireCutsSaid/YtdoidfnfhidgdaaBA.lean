import Derived.Test.YtdoidfnfhidgdaaAZ
import Derived.Test.YtdoidfnfhidgdaaAH
namespace Go.Proofs.Ytdoidfnfhidgdaa
open Go.RowKit

/-- a frame that is cut off ends too soon -/
theorem cut_read (e : Ent) (h : Right e) (k : Nat) (hk : k < (frameE e).length) : readF ((frameE e).take k) = (zeroE, 0, 120) := by
  obtain ⟨l1, l2⟩ := bodyE_len e h
  obtain ⟨B, hB⟩ : ∃ B, bodyE e = B := ⟨_, rfl⟩
  have hf : frameE e = Crc.le4 (Crc.sum B) ++ [B.length] ++ B := by rw [frameE, hB]
  rw [hB] at l1 l2
  obtain ⟨a, b, c, d, hq⟩ : ∃ a b c d, Crc.le4 (Crc.sum B) = [a, b, c, d] := ⟨_, _, _, _, rfl⟩
  rw [hq] at hf
  have hlist : frameE e = a :: b :: c :: d :: B.length :: B := by rw [hf]; rfl
  rw [hlist] at hk ⊢
  simp only [List.length_cons] at hk
  by_cases h5 : k < 5
  · rw [readF, if_pos (by rw [List.length_take]; omega)]
  · obtain ⟨m, rfl⟩ : ∃ m, k = m + 1 + 1 + 1 + 1 + 1 := ⟨k - 5, by omega⟩
    simp only [List.take_succ_cons]
    rw [readF, if_neg (by simp)]
    show (if B.length = 0 ∨ 35 < B.length then _ else _) = _
    rw [if_neg (by omega)]
    show (if _ < 5 + B.length then _ else _) = _
    rw [if_pos (by simp only [List.length_cons, List.length_take]; omega)]
theorem frameE_pos (e : Ent) (h : Right e) : 6 ≤ (frameE e).length := by
  obtain ⟨l1, l2⟩ := bodyE_len e h
  unfold frameE
  simp [Crc.le4]
  omega

/-- frames that are cut off end at their end, or too soon -/
theorem scan_cut : ∀ (l : List Ent), (∀ e ∈ l, Right e) → ∀ (k f at_ : Nat), ((l.flatMap frameE).take k).length ≤ f → (scanL f at_ ((l.flatMap frameE).take k)).2 = 0 ∨ (scanL f at_ ((l.flatMap frameE).take k)).2 = 120
  | [], _, k, f, at_, _ => by simp [scanL_nil]
  | e :: r, h, k, f, at_, hf => by
    have hR := h e (by simp)
    have hp := frameE_pos e hR
    rw [List.flatMap_cons] at hf ⊢
    by_cases hk : k < (frameE e).length
    · have ht : (frameE e ++ r.flatMap frameE).take k = (frameE e).take k := List.take_append_of_le_length (by omega)
      rw [ht] at hf ⊢
      by_cases hk0 : k = 0
      · subst hk0
        left
        rw [List.take_zero, scanL_nil]
      · right
        have hc := cut_read e hR k hk
        rw [scanL_no (by intro h; have h1 := congrArg List.length h; rw [List.length_take, List.length_nil] at h1; omega) hf (by rw [hc]; simp), hc]
    · have ht : (frameE e ++ r.flatMap frameE).take k = frameE e ++ (r.flatMap frameE).take (k - (frameE e).length) := by
        rw [List.take_append, List.take_of_length_le (by omega)]
      rw [ht] at hf ⊢
      have hrd := readF_frame e hR ((r.flatMap frameE).take (k - (frameE e).length))
      rw [List.length_append] at hf
      obtain ⟨g, rfl⟩ : ∃ g, f = g + 1 := ⟨f - 1, by omega⟩
      rw [scanL_yes (n := (frameE e).length) (by intro h; have h1 := congrArg List.length h; rw [List.length_append, List.length_nil] at h1; omega) (by rw [hrd]) (by rw [hrd])]
      rw [List.drop_left]
      exact scan_cut r (fun x hx => h x (List.mem_cons_of_mem _ hx)) (k - (frameE e).length) g _ (by omega)

set_option maxRecDepth 100000 in
set_option maxHeartbeats 4000000 in
theorem cuts_no (A : Option Addr) (l : List Ent) (c : Nat) (x : Int) (w : World) (ha : Ents w w.heap.size A l) (hm : l.length ≤ 40) (hno : ¬ ∀ e ∈ l, Right e) :
    Calls Try.prog 11 #[.slice A l.length c, .int .i64 x] w fun e w' => e = .returned (.bool true) ∧ Below w.heap.size w w' := by
  have hq : Calls Try.prog 20 #[.slice A l.length c] w fun x w' => x = .returned (.tuple #[.slice none 0 0, .int .i64 2]) ∧ Below w.heap.size w w' := by
    refine (Frames_any A l c w ha (by omega)).mono ?_
    rintro x w' ⟨⟨hn, _⟩ | ⟨_, hx⟩, hb⟩
    · exact absurd hn hno
    · exact ⟨hx, hb⟩
  have HQ := Lib.hid hq
  have h40 : ¬ ((40 : Int) < (l.length : Int)) := by omega
  clear hq hno ha
  go_enter Try.func11, Try.ntmps11
  go_wp2_with fail
  refine HQ.out.mono ?_
  rintro e w3 ⟨rfl, hb3⟩
  go_wp2_with fail
  refine (num_any _ _).mono ?_
  rintro x wn ⟨rfl, hwn⟩
  subst hwn
  go_wp2_with fail
  refine (num_any _ _).mono ?_
  rintro x wn ⟨rfl, hwn⟩
  subst hwn
  go_wp2_with fail
  refine (works_any _).mono ?_
  rintro e w4 ⟨rfl, hb4⟩
  go_wp2_with fail
  go_ret
  exact ⟨rfl, hb3.trans (hb4.mono hb3.size)⟩

set_option maxRecDepth 100000 in
set_option maxHeartbeats 4000000 in
theorem cuts_out (A : Option Addr) (l : List Ent) (c : Nat) (x : Int) (w : World) (ha : Ents w w.heap.size A l) (hm : l.length ≤ 40) (hall : ∀ e ∈ l, Right e) (hx : x < 0 ∨ ((l.flatMap frameE).length : Int) < x) :
    Calls Try.prog 11 #[.slice A l.length c, .int .i64 x] w fun e w' => e = .returned (.bool true) ∧ Below w.heap.size w w' := by
  have hq : Calls Try.prog 20 #[.slice A l.length c] w fun x w' => ∃ v, x = .returned (.tuple #[v, .int .i64 0]) ∧ Own w' w.heap.size v (l.flatMap frameE) ∧ Below w.heap.size w w' := by
    refine (Frames_any A l c w ha (by omega)).mono ?_
    rintro x w' ⟨⟨_, v, hx, ho⟩ | ⟨hn, _⟩, hb⟩
    · exact ⟨v, hx, ho, hb⟩
    · exact absurd hall hn
  have HQ := Lib.hid hq
  have h40 : ¬ ((40 : Int) < (l.length : Int)) := by omega
  obtain ⟨F, hF⟩ : ∃ F, l.flatMap frameE = F := ⟨_, rfl⟩
  rw [hF] at HQ hx
  obtain ⟨FL, hFL⟩ : ∃ N, F.length = N := ⟨_, rfl⟩
  rw [hFL] at hx
  have HFL := Lib.hid hFL
  clear hq hF ha hall hFL
  by_cases hneg : x < 0
  · go_enter Try.func11, Try.ntmps11
    go_wp2_with fail
    refine HQ.out.mono ?_
    rintro e w3 ⟨v3, rfl, ho3, hb3⟩
    obtain ⟨A3, c3, rfl, _, hy3⟩ := ho3.formN HFL.out
    clear ho3 hy3
    go_wp2_with fail
    refine (num_any _ _).mono ?_
    rintro x wn ⟨rfl, hwn⟩
    subst hwn
    go_wp2_with fail
    refine (num_any _ _).mono ?_
    rintro x wn ⟨rfl, hwn⟩
    subst hwn
    go_wp2_with fail
    refine (works_any _).mono ?_
    rintro e w4 ⟨rfl, hb4⟩
    go_wp2_with fail
    go_ret
    exact ⟨rfl, hb3.trans (hb4.mono hb3.size)⟩
  · have hgt : (FL : Int) < x := by omega
    clear hx
    go_enter Try.func11, Try.ntmps11
    go_wp2_with fail
    refine HQ.out.mono ?_
    rintro e w3 ⟨v3, rfl, ho3, hb3⟩
    obtain ⟨A3, c3, rfl, _, hy3⟩ := ho3.formN HFL.out
    clear ho3 hy3
    go_wp2_with fail
    refine (num_any _ _).mono ?_
    rintro x wn ⟨rfl, hwn⟩
    subst hwn
    go_wp2_with fail
    refine (num_any _ _).mono ?_
    rintro x wn ⟨rfl, hwn⟩
    subst hwn
    go_wp2_with fail
    refine (works_any _).mono ?_
    rintro e w4 ⟨rfl, hb4⟩
    go_wp2_with fail
    go_ret
    exact ⟨rfl, hb3.trans (hb4.mono hb3.size)⟩

set_option maxRecDepth 100000 in
set_option maxHeartbeats 4000000 in
theorem cuts_in (A : Option Addr) (l : List Ent) (c : Nat) (k : Nat) (w : World) (ha : Ents w w.heap.size A l) (hm : l.length ≤ 40) (hall : ∀ e ∈ l, Right e) (hx : k ≤ (l.flatMap frameE).length) :
    Calls Try.prog 11 #[.slice A l.length c, .int .i64 k] w fun e w' => e = .returned (.bool true) ∧ Below w.heap.size w w' := by
  have hq : Calls Try.prog 20 #[.slice A l.length c] w fun x w' => ∃ v, x = .returned (.tuple #[v, .int .i64 0]) ∧ Own w' w.heap.size v (l.flatMap frameE) ∧ Below w.heap.size w w' := by
    refine (Frames_any A l c w ha (by omega)).mono ?_
    rintro x w' ⟨⟨_, v, hx, ho⟩ | ⟨hn, _⟩, hb⟩
    · exact ⟨v, hx, ho, hb⟩
    · exact absurd hall hn
  have HQ := Lib.hid hq
  have h40 : ¬ ((40 : Int) < (l.length : Int)) := by omega
  have hfl := frames_len l hall
  obtain ⟨F, hF⟩ : ∃ F, l.flatMap frameE = F := ⟨_, rfl⟩
  have hcut := scan_cut l hall k ((l.flatMap frameE).take k).length 0 (Nat.le_refl _)
  rw [hF] at HQ hx hcut hfl
  obtain ⟨FL, hFL⟩ : ∃ N, F.length = N := ⟨_, rfl⟩
  rw [hFL] at hx hfl
  have HFL := Lib.hid hFL
  have htl : (F.take k).length = k := by rw [List.length_take]; omega
  have HTL := Lib.hid htl
  obtain ⟨L, hL⟩ : ∃ q, (scanL (F.take k).length 0 (F.take k)).1.map (·.2) = q := ⟨_, rfl⟩
  obtain ⟨G, hG⟩ : ∃ q, goodL (scanL (F.take k).length 0 (F.take k)).1 = q := ⟨_, rfl⟩
  obtain ⟨Y, hY⟩ : ∃ q, (scanL (F.take k).length 0 (F.take k)).2 = q := ⟨_, rfl⟩
  have hLl : L.length ≤ 2400 := by rw [← hL, List.length_map]; exact Nat.le_trans (scanL_len _ _ _) (by omega)
  rw [hY] at hcut
  have HL := Lib.hid hL
  have HG := Lib.hid hG
  have HY := Lib.hid hY
  obtain ⟨n3, hn3⟩ : ∃ n, L.length = n := ⟨_, rfl⟩
  have HN3 := Lib.hid hn3
  rw [hn3] at hLl
  have hk0 : ¬ ((k : Int) < 0) := by omega
  have hkf : ¬ ((FL : Int) < (k : Int)) := by omega
  have hkfi : (k : Int) ≤ (FL : Int) := by omega
  clear hq hF ha hall hFL htl hL hG hY hn3
  go_enter Try.func11, Try.ntmps11
  go_wp2_with fail
  refine HQ.out.mono ?_
  rintro e w2 ⟨v2, rfl, ho2, hb2⟩
  obtain ⟨A2, c2, rfl, hc2, hy2⟩ := ho2.formN HFL.out
  have HB2 := Lib.hid hb2
  have hQ1 := All_any A2 (F.take k) c2 w2 (hy2.take k) (by rw [HTL.out]; omega) (by rw [HTL.out]; omega)
  have HQ2 : Hid (∀ w', Below w2.heap.size w2 w' → _) := fun w' (h : Below w2.heap.size w2 w') => refAll_any A2 (F.take k) c2 w' ((hy2.take k).grow h) (by rw [HTL.out]; omega) (by rw [HTL.out]; omega)
  rw [HL.out, HG.out, HY.out, HTL.out] at hQ1
  simp only [HL.out, HG.out, HY.out] at HQ2
  simp only [HTL.out] at HQ2
  have HQ1 := Lib.hid hQ1
  have hkc : (k : Int) ≤ (c2 : Int) := by omega
  clear ho2 hb2 hy2 hQ1 HL HG HY HTL HQ
  go_wp2_with fail
  refine (num_any _ _).mono ?_
  rintro x wn ⟨rfl, hwn⟩
  subst hwn
  go_wp2_with fail
  refine HQ1.out.mono ?_
  rintro e w3 ⟨v3, rfl, ho3, hb3⟩
  obtain ⟨A3, c3, hv3, _, hen3⟩ := ho3.form
  rw [HN3.out] at hv3
  subst hv3
  have HB23 := Lib.hid hb3
  obtain ⟨W4, hW4⟩ : ∃ W4, w3.alloc (.cells (outC (.slice A3 n3 c3) G Y) 52) = W4 := ⟨_, rfl⟩
  have HW4 : Hid (w3.alloc (.cells #[.slice A3 n3 c3, .int .i64 G, .int .i64 Y] 52) = W4) := hW4
  have hb34 : Below w3.heap.size w3 W4 := by rw [← hW4]; exact (Below.refl _ _).alloc (Nat.le_refl _) _
  have HB24 : Hid (Below w2.heap.size w2 W4) := HB23.out.trans (hb34.mono HB23.out.size)
  have HK4 : Hid (Blk W4 w3.heap.size 52 (outC (.slice A3 n3 c3) G Y)) := by show Blk _ _ _ _; rw [← hW4]; exact Blk.new _ _ _
  have HE4 := Lib.hid (hen3.grow hb34)
  clear hb3 HQ1 ho3 hen3 hW4 hb34
  go_wp2_with fail
  rw [HW4.out]
  refine (HQ2.out _ HB24.out).mono ?_
  rintro e w5 ⟨v5, rfl, ho5, hb5⟩
  obtain ⟨A5, c5, hv5, _, hen5⟩ := ho5.form
  rw [HN3.out] at hv5
  subst hv5
  have HB25 : Hid (Below w2.heap.size w2 w5) := HB24.out.trans (hb5.mono HB24.out.size)
  have HK5 : Hid (Blk w5 w3.heap.size 52 (outC (.slice A3 n3 c3) G Y)) := HK4.out.below hb5 HK4.out.lt
  have hsm := Same_any A3 A5 L L c3 c5 w5 (HE4.out.grow hb5) hen5 (by have := HN3.out; omega) (by have := HN3.out; omega)
  rw [HN3.out, decide_eq_true rfl] at hsm
  have HSM := Lib.hid hsm
  have q0 : w5.cell? ⟨w3.heap.size, 0, none⟩ = some (.slice A3 n3 c3) := HK5.out.cell 0
  clear HQ2 hb5 ho5 hen5 hsm
  go_wp2_with fail
  refine HSM.out.mono ?_
  rintro e w6 ⟨rfl, hb6⟩
  have HB26 : Hid (Below w.heap.size w w6) := HB2.out.trans ((HB25.out.trans (hb6.mono HB25.out.size)).mono HB2.out.size)
  have HK6 : Hid (Blk w6 w3.heap.size 52 (outC (.slice A3 n3 c3) G Y)) := HK5.out.below hb6 HK5.out.lt
  have q1 : w6.cell? ⟨w3.heap.size, 1, none⟩ = some (.int .i64 G) := HK6.out.cell 1
  have q2 : w6.cell? ⟨w3.heap.size, 2, none⟩ = some (.int .i64 Y) := HK6.out.cell 2
  clear hb6 q0
  rcases hcut with rfl | rfl
  all_goals
    go_wp2_with fail
    refine (num_any _ _).mono ?_
    rintro e w7 ⟨rfl, rfl⟩
    go_wp2_with fail
    refine (works_any _).mono ?_
    rintro e w7 ⟨rfl, hb7⟩
    have hb8 := HB26.out.trans (hb7.mono HB26.out.size)
    clear hb7
    go_wp2_with fail
    go_ret
    exact ⟨rfl, hb8⟩

theorem cuts_walk (A : Option Addr) (l : List Ent) (c : Nat) (x : Int) (w : World) (ha : Ents w w.heap.size A l) :
    Calls Try.prog 11 #[.slice A l.length c, .int .i64 x] w fun e w' => e = .returned (.bool true) ∧ Below w.heap.size w w' := by
  by_cases h : 40 < l.length
  · have hi : (40 : Int) < (l.length : Int) := by omega
    go_enter Try.func11, Try.ntmps11
    go_wp2_with fail
    refine (works_any w).mono ?_
    rintro e w1 ⟨rfl, hb1⟩
    go_wp2_with fail
    go_ret
    exact ⟨rfl, hb1⟩
  · by_cases hall : ∀ e ∈ l, Right e
    · by_cases hx : x < 0 ∨ ((l.flatMap frameE).length : Int) < x
      · exact cuts_out A l c x w ha (by omega) hall hx
      · obtain ⟨k, rfl⟩ : ∃ k : Nat, x = (k : Int) := ⟨x.toNat, by omega⟩
        exact cuts_in A l c k w ha (by omega) hall (by omega)
    · exact cuts_no A l c x w ha (by omega) hall
end Go.Proofs.Ytdoidfnfhidgdaa
