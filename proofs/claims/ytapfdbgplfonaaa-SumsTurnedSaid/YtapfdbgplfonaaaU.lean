import Derived.Test.YtapfdbgplfonaaaT
namespace Go.Proofs.Ytapfdbgplfonaaa
open Go.RowKit

/-- what the opening of a answers: the bytes and the number -/
def opens (a : List Nat) : Bool := decide (4 ≤ a.length) && sealedB (a.take (a.length - 4)) (a.drop (a.length - 4))
def okAns (a : List Nat) : List Nat := if opens a then a.take (a.length - 4) else []
def okNo (a : List Nat) : Int := if opens a then 0 else 110
theorem opens_long (t q : List Nat) (hq : q.length = 4) : opens (t ++ q) = sealedB t q := by
  unfold opens
  rw [show (t ++ q).length - 4 = t.length by rw [List.length_append]; omega, List.take_left' rfl, List.drop_left' rfl]
  simp [hq]
theorem okAns_long (t q : List Nat) (hq : q.length = 4) : okAns (t ++ q) = if sealedB t q then t else [] := by
  unfold okAns
  rw [opens_long t q hq, show (t ++ q).length - 4 = t.length by rw [List.length_append]; omega, List.take_left' rfl]
theorem okNo_long (t q : List Nat) (hq : q.length = 4) : okNo (t ++ q) = if sealedB t q then 0 else 110 := by
  unfold okNo
  rw [opens_long t q hq]
theorem okAns_short (a : List Nat) (h : a.length < 4) : okAns a = [] := by
  have : opens a = false := by simp [opens]; omega
  simp [okAns, this]
theorem okNo_short (a : List Nat) (h : a.length < 4) : okNo a = 110 := by
  have : opens a = false := by simp [opens]; omega
  simp [okNo, this]
theorem okAns_le (a : List Nat) : (okAns a).length ≤ a.length := by
  unfold okAns
  split <;> simp
theorem parts4 (a : List Nat) (h : 4 ≤ a.length) : ∃ t q, a = t ++ q ∧ q.length = 4 := ⟨a.take (a.length - 4), a.drop (a.length - 4), (List.take_append_drop _ _).symm, by simp; omega⟩

/-- what both openings answer -/
def OpenAns (w : World) (a : List Nat) (e : Ending) (w' : World) : Prop :=
  ∃ v, e = .returned (.tuple #[v, .int .i64 (okNo a)]) ∧ Own w' w.heap.size v (okAns a) ∧ Below w.heap.size w w'

theorem OpenA_any (A : Option Addr) (a : List Nat) (c : Nat) (w : World) (ha : Bys w w.heap.size A a) (hm : a.length ≤ 1099511627776) (hac : a.length ≤ c) :
    Calls Try.prog 18 #[.slice A a.length c] w (OpenAns w a) := by
  by_cases h : a.length < 4
  · refine (Open_short A a c w h).mono ?_
    rintro e w1 ⟨rfl, hb⟩
    exact ⟨_, by rw [okNo_short a h], by rw [okAns_short a h]; exact own_nil _ _, hb⟩
  · obtain ⟨t, q, rfl, hq⟩ := parts4 a (by omega)
    refine (Open_any A t q c _ w ha (by rw [List.length_append]; omega) hq hm hac).mono ?_
    intro e w1 hr
    unfold OpenAns
    rw [okNo_long t q hq, okAns_long t q hq]
    unfold OpenRes at hr
    cases hs : sealedB t q with
    | true =>
      rw [hs] at hr
      obtain ⟨⟨v, rfl, hown⟩, hb⟩ := hr
      exact ⟨v, rfl, hown, hb⟩
    | false =>
      rw [hs] at hr
      obtain ⟨rfl, hb⟩ := hr
      exact ⟨_, rfl, own_nil _ _, hb⟩

theorem le4_lt (n : Nat) : ∀ c ∈ Crc.le4 n, c < 256 := by
  rw [← leN_four]
  exact leN_lt n 4

set_option maxRecDepth 100000 in
set_option maxHeartbeats 4000000 in
theorem refOpen_long (b off : Nat) (t q : List Nat) (c n : Nat) (w : World) (ha : Bys w w.heap.size (some ⟨b, off, none⟩) (t ++ q)) (hm : n ≤ 1099511627700) (hac : n + 4 ≤ c) (ht : t.length = n) (hql : q.length = 4) :
    Calls Try.prog 19 #[.slice (some ⟨b, off, none⟩) (n + 4) c] w fun e w' => ∃ v, e = .returned (.tuple #[v, .int .i64 (if sealedB t q then 0 else 110)]) ∧ Own w' w.heap.size v (if sealedB t q then t else []) ∧ Below w.heap.size w w' := by
  have hat : Bys w w.heap.size (some ⟨b, off, none⟩) t := by
    have := ha.take t.length
    rwa [List.take_left' rfl] at this
  have hlen : (t ++ q).length = n + 4 := by rw [List.length_append]; omega
  have hsl := fun W (h : Bys W W.heap.size (some ⟨b, off, none⟩) t) => refSeal_any (some ⟨b, off, none⟩) t c W h (by omega)
  rw [ht] at hsl
  have hk1 : ∀ w', Below w.heap.size w w' → (convert 22 9 (.slice (some ⟨b, off, none⟩) (n + 4) c)).run Try.prog w' = .ok (.string (str (t ++ q))) w' := by
    intro w' hb
    have h := conv_any w' w'.heap.size _ _ c (ha.grow hb)
    rw [hlen] at h
    exact h
  obtain ⟨ok, hok⟩ : ∃ s, sealedB t q = s := ⟨_, rfl⟩
  have heq : ((str (t ++ Crc.le4 (Crc.sum t))).toList == (str (t ++ q)).toList) = ok := by
    rw [str_eq (fun x hx => by
      rcases List.mem_append.1 hx with h | h
      · exact hat.1 x h
      · exact (le4_lt _) x h) ha.1, ← hok, sealedB]
    simp
  obtain ⟨S5, hS5⟩ : ∃ s, str (t ++ Crc.le4 (Crc.sum t)) = s := ⟨_, rfl⟩
  obtain ⟨S6, hS6⟩ : ∃ s, str (t ++ q) = s := ⟨_, rfl⟩
  rw [hS5, hS6] at heq
  rw [hS6] at hk1
  rw [hok]
  obtain ⟨nok, rfl⟩ : ∃ s, ok = !s := ⟨!ok, by simp⟩
  have HS := Lib.hid hsl
  have HT := Lib.hid ht
  have HA := Lib.hid ha
  have HAT := Lib.hid hat
  have HS5 := Lib.hid hS5
  have hcn : ¬ c = n := by omega
  have hnc : n ≤ c := by omega
  have hnci : (n : Int) ≤ (c : Int) := by omega
  have hn4 : (n : Int) ≤ (n : Int) + 4 := by omega
  have hn0 : (0 : Int) ≤ (n : Int) := by omega
  have h1 : decide ((n : Int) < 0) = false := by simp
  have hlt4 : decide ((n : Int) + 4 < 4) = false := by simp; omega
  have hg4 : (4 : Int) ≤ (n : Int) + 4 := by omega
  have hwn : IntKind.i64.wrap (n : Int) = (n : Int) := IntWalk.i64_in _ (by omega)
  clear hsl ht ha hat hlen hS5 hS6 hok
  go_enter Try.func19, Try.ntmps19
  go_wp2_with fail
  refine wp_region_noPanic ?_
  refine wp_region_held_drew (S := fun w' => Below w.heap.size w w') (by kernel_rfl) (below_drew (Below.refl _ _)) (fun hHeld => ?_)
  refine takeH (i := 0) (v := ?_) rfl (by kernel_rfl) (by kernel_rfl) (by kernel_rfl) (fun _ _ _ h => h) (Or.inl ⟨by rfl, ?_⟩) (by assumption) ?_
  rotate_left
  · first | (intro w hSw; (try dsimp only at hSw); go_simp; done) | (intro w hSw; (try dsimp only at hSw); go_simp; with_reducible rfl)
  try simp only [Act.put, List.setIfInBounds_toArray, List.set_cons_zero, List.set_cons_succ]
  refine takeH (i := 1) (v := ?_) rfl (by kernel_rfl) (by kernel_rfl) (by kernel_rfl) (fun _ _ _ h => h) (Or.inl ⟨by rfl, ?_⟩) (by assumption) ?_
  rotate_left
  · first | (intro w hSw; (try dsimp only at hSw); go_simp; done) | (intro w hSw; (try dsimp only at hSw); go_simp; with_reducible rfl)
  try simp only [Act.put, List.setIfInBounds_toArray, List.set_cons_zero, List.set_cons_succ]
  refine takeH (i := 2) (v := ?_) rfl (by kernel_rfl) (by kernel_rfl) (by kernel_rfl) (fun _ _ _ h => h) (Or.inl ⟨by rfl, ?_⟩) (by assumption) ?_
  rotate_left
  · first | (intro w hSw; (try dsimp only at hSw); go_simp; done) | (intro w hSw; (try dsimp only at hSw); go_simp; with_reducible rfl)
  try simp only [Act.put, List.setIfInBounds_toArray, List.set_cons_zero, List.set_cons_succ]
  refine takeH (i := 3) (v := ?_) rfl (by kernel_rfl) (by kernel_rfl) (by kernel_rfl) (fun _ _ _ h => h) (Or.inl ⟨by rfl, ?_⟩) (by assumption) ?_
  rotate_left
  · first | (intro w hSw; (try dsimp only at hSw); go_simp; done) | (intro w hSw; (try dsimp only at hSw); go_simp; with_reducible rfl)
  try simp only [Act.put, List.setIfInBounds_toArray, List.set_cons_zero, List.set_cons_succ]
  refine takeH (i := 4) (v := ?_) rfl (by kernel_rfl) (by kernel_rfl) (by kernel_rfl) (fun _ _ _ h => h) (Or.inl ⟨by rfl, ?_⟩) (by assumption) ?_
  rotate_left
  · first | (intro w hSw; (try dsimp only at hSw); go_simp; done) | (intro w hSw; (try dsimp only at hSw); go_simp; with_reducible rfl)
  try simp only [Act.put, List.setIfInBounds_toArray, List.set_cons_zero, List.set_cons_succ]
  refine takeH (i := 5) (v := ?_) rfl (by kernel_rfl) (by kernel_rfl) (by kernel_rfl) (fun _ _ _ h => h) (Or.inl ⟨by rfl, ?_⟩) (by assumption) ?_
  rotate_left
  · first | (intro w hSw; (try dsimp only at hSw); go_simp; done) | (intro w hSw; (try dsimp only at hSw); go_simp; with_reducible rfl)
  try simp only [Act.put, List.setIfInBounds_toArray, List.set_cons_zero, List.set_cons_succ]
  refine takeH (i := 6) (v := ?_) rfl (by kernel_rfl) (by kernel_rfl) (by kernel_rfl) (fun _ _ _ h => h) (Or.inl ⟨by rfl, ?_⟩) (by assumption) ?_
  rotate_left
  · first | (intro w hSw; (try dsimp only at hSw); go_simp; done) | (intro w hSw; (try dsimp only at hSw); go_simp; with_reducible rfl)
  try simp only [Act.put, List.setIfInBounds_toArray, List.set_cons_zero, List.set_cons_succ]
  refine takeH (i := 7) (v := ?_) rfl (by kernel_rfl) (by kernel_rfl) (by kernel_rfl) (fun _ _ _ h => h) (Or.inl ⟨by rfl, ?_⟩) (by assumption) ?_
  rotate_left
  · first | (intro w hSw; (try dsimp only at hSw); go_simp; done) | (intro w hSw; (try dsimp only at hSw); go_simp; with_reducible rfl)
  try simp only [Act.put, List.setIfInBounds_toArray, List.set_cons_zero, List.set_cons_succ]
  refine takeH (i := 11) (v := ?_) rfl (by kernel_rfl) (by kernel_rfl) (by kernel_rfl) (fun _ _ _ h => h) (Or.inl ⟨by rfl, ?_⟩) (by assumption) ?_
  rotate_left
  · first | (intro w hSw; (try dsimp only at hSw); go_simp; done) | (intro w hSw; (try dsimp only at hSw); go_simp; with_reducible rfl)
  try simp only [Act.put, List.setIfInBounds_toArray, List.set_cons_zero, List.set_cons_succ]
  refine takeH (i := 12) (v := ?_) rfl (by kernel_rfl) (by kernel_rfl) (by kernel_rfl) (fun _ _ _ h => h) (Or.inl ⟨by rfl, ?_⟩) (by assumption) ?_
  rotate_left
  · first | (intro w hSw; (try dsimp only at hSw); go_simp; done) | (intro w hSw; (try dsimp only at hSw); go_simp; with_reducible rfl)
  try simp only [Act.put, List.setIfInBounds_toArray, List.set_cons_zero, List.set_cons_succ]
  refine takeH (i := 8) (v := ?_) rfl (by kernel_rfl) (by kernel_rfl) (by kernel_rfl) (fun _ _ _ h => h) (Or.inl ⟨by rfl, ?_⟩) (by assumption) ?_
  rotate_left
  · first | (intro w hSw; (try dsimp only at hSw); go_simp; done) | (intro w hSw; (try dsimp only at hSw); go_simp; with_reducible rfl)
  try simp only [Act.put, List.setIfInBounds_toArray, List.set_cons_zero, List.set_cons_succ]
  refine wpAnyH_ready (rs := [9]) (by kernel_rfl) (by simp) ?_
  refine consH (i := 9) rfl (fun K hK => ?_) AllReadyH.nil
  go_simp
  refine (HS.out _ (HAT.out.grow (by assumption))).mono ?_
  rintro e w4 ⟨v4, rfl, hown4, hb4⟩
  obtain ⟨A4, c4, rfl, hc4, hbys4⟩ := hown4.formN (n := n + 4) (by simp [Crc.le4, HT.out])
  have hk5 : (convert 22 9 (.slice A4 (n + 4) c4)).run Try.prog w4 = .ok (.string S5) w4 := by
    have h := conv_any w4 w4.heap.size A4 _ c4 hbys4
    rw [show (t ++ Crc.le4 (Crc.sum t)).length = n + 4 by simp [Crc.le4, HT.out], HS5.out] at h
    exact h
  go_wp2_with fail
  refine hK.out _ _ (ext (by assumption) hb4) (fun hHeld => ?_)
  clear hK K
  try simp only [Act.put, List.setIfInBounds_toArray, List.set_cons_zero, List.set_cons_succ]
  refine wpAnyH_ready (rs := [10]) (by kernel_rfl) (by simp) ?_
  refine consH (i := 10) rfl (fun K hK => ?_) AllReadyH.nil
  go_simp
  refine hK.out _ _ (by assumption) (fun hHeld => ?_)
  clear hK K
  try simp only [Act.put, List.setIfInBounds_toArray, List.set_cons_zero, List.set_cons_succ]
  refine takeH (i := 13) (v := ?_) rfl (by kernel_rfl) (by kernel_rfl) (by kernel_rfl) (fun _ _ _ h => h) (Or.inl ⟨by rfl, ?_⟩) (by assumption) ?_
  rotate_left
  · first | (intro w hSw; (try dsimp only at hSw); go_simp; done) | (intro w hSw; (try dsimp only at hSw); go_simp; with_reducible rfl)
  try simp only [Act.put, List.setIfInBounds_toArray, List.set_cons_zero, List.set_cons_succ]
  refine takeH (i := 14) (v := ?_) rfl (by kernel_rfl) (by kernel_rfl) (by kernel_rfl) (fun _ _ _ h => h) (Or.inl ⟨by rfl, ?_⟩) (by assumption) ?_
  rotate_left
  · first | (intro w hSw; (try dsimp only at hSw); go_simp; done) | (intro w hSw; (try dsimp only at hSw); go_simp; with_reducible rfl)
  try simp only [Act.put, List.setIfInBounds_toArray, List.set_cons_zero, List.set_cons_succ]
  refine wpAnyH_done (by kernel_rfl) ?_ _
  refine NoPanic.normal ?_
  obtain ⟨v0, w0, hr0, ho0, hb0⟩ := copy_run w4 (some ⟨b, off, none⟩) t c (HAT.out.grow (by assumption)) (by have := HT.out; omega)
  rw [HT.out] at hr0
  have HR0 := Lib.hid hr0
  clear hr0
  cases nok with
  | true =>
    go_wp2_with fail
    go_ret2
    exact ⟨_, rfl, own_nil _ _, by assumption⟩
  | false =>
    go_wp2_with (at_builtin; refine Lib.wpList_append_run _ rfl _ _ _ _ rfl _ _ rfl rfl _ _ HR0.out ?_)
    go_ret2
    exact ⟨_, rfl, ho0.mono (Below.size hHeld), ext hHeld hb0⟩

set_option maxRecDepth 100000 in
theorem refOpen_short (A : Option Addr) (a : List Nat) (c : Nat) (w : World) (hm : a.length < 4) :
    Calls Try.prog 19 #[.slice A a.length c] w fun e w' => e = .returned (.tuple #[.slice none 0 0, .int .i64 110]) ∧ Below w.heap.size w w' := by
  have hlt : ((a.length : Int)) < 4 := by omega
  go_enter Try.func19, Try.ntmps19
  go_wp2_with fail
  refine wp_region_noPanic ?_
  refine wp_region_held_drew (S := fun w' => Below w.heap.size w w') (by kernel_rfl) (below_drew (Below.refl _ _)) (fun hHeld => ?_)
  refine takeH (i := 0) (v := ?_) rfl (by kernel_rfl) (by kernel_rfl) (by kernel_rfl) (fun _ _ _ h => h) (Or.inl ⟨by rfl, ?_⟩) (by assumption) ?_
  rotate_left
  · first | (intro w hSw; (try dsimp only at hSw); go_simp; done) | (intro w hSw; (try dsimp only at hSw); go_simp; with_reducible rfl)
  try simp only [Act.put, List.setIfInBounds_toArray, List.set_cons_zero, List.set_cons_succ]
  refine takeH (i := 1) (v := ?_) rfl (by kernel_rfl) (by kernel_rfl) (by kernel_rfl) (fun _ _ _ h => h) (Or.inl ⟨by rfl, ?_⟩) (by assumption) ?_
  rotate_left
  · first | (intro w hSw; (try dsimp only at hSw); go_simp; done) | (intro w hSw; (try dsimp only at hSw); go_simp; with_reducible rfl)
  try simp only [Act.put, List.setIfInBounds_toArray, List.set_cons_zero, List.set_cons_succ]
  refine takeH (i := 2) (v := ?_) rfl (by kernel_rfl) (by kernel_rfl) (by kernel_rfl) (fun _ _ _ h => h) (Or.inl ⟨by rfl, ?_⟩) (by assumption) ?_
  rotate_left
  · first | (intro w hSw; (try dsimp only at hSw); go_simp; done) | (intro w hSw; (try dsimp only at hSw); go_simp; with_reducible rfl)
  try simp only [Act.put, List.setIfInBounds_toArray, List.set_cons_zero, List.set_cons_succ]
  refine takeH (i := 3) (v := ?_) rfl (by kernel_rfl) (by kernel_rfl) (by kernel_rfl) (fun _ _ _ h => h) (Or.inl ⟨by rfl, ?_⟩) (by assumption) ?_
  rotate_left
  · first | (intro w hSw; (try dsimp only at hSw); go_simp; done) | (intro w hSw; (try dsimp only at hSw); go_simp; with_reducible rfl)
  try simp only [Act.put, List.setIfInBounds_toArray, List.set_cons_zero, List.set_cons_succ]
  refine takeH (i := 4) (v := undef) rfl (by kernel_rfl) (by kernel_rfl) (by kernel_rfl) (fun _ _ _ h => h) (Or.inr ⟨by rfl, rfl⟩) (by assumption) ?_
  try simp only [Act.put, List.setIfInBounds_toArray, List.set_cons_zero, List.set_cons_succ]
  refine takeH (i := 5) (v := undef) rfl (by kernel_rfl) (by kernel_rfl) (by kernel_rfl) (fun _ _ _ h => h) (Or.inr ⟨by rfl, rfl⟩) (by assumption) ?_
  try simp only [Act.put, List.setIfInBounds_toArray, List.set_cons_zero, List.set_cons_succ]
  refine takeH (i := 6) (v := undef) rfl (by kernel_rfl) (by kernel_rfl) (by kernel_rfl) (fun _ _ _ h => h) (Or.inr ⟨by rfl, rfl⟩) (by assumption) ?_
  try simp only [Act.put, List.setIfInBounds_toArray, List.set_cons_zero, List.set_cons_succ]
  refine takeH (i := 7) (v := undef) rfl (by kernel_rfl) (by kernel_rfl) (by kernel_rfl) (fun _ _ _ h => h) (Or.inr ⟨by rfl, rfl⟩) (by assumption) ?_
  try simp only [Act.put, List.setIfInBounds_toArray, List.set_cons_zero, List.set_cons_succ]
  refine takeH (i := 8) (v := undef) rfl (by kernel_rfl) (by kernel_rfl) (by kernel_rfl) (fun _ _ _ h => h) (Or.inr ⟨by rfl, rfl⟩) (by assumption) ?_
  try simp only [Act.put, List.setIfInBounds_toArray, List.set_cons_zero, List.set_cons_succ]
  refine takeH (i := 9) (v := undef) rfl (by kernel_rfl) (by kernel_rfl) (by kernel_rfl) (fun _ _ _ h => h) (Or.inr ⟨by rfl, rfl⟩) (by assumption) ?_
  try simp only [Act.put, List.setIfInBounds_toArray, List.set_cons_zero, List.set_cons_succ]
  refine takeH (i := 10) (v := undef) rfl (by kernel_rfl) (by kernel_rfl) (by kernel_rfl) (fun _ _ _ h => h) (Or.inr ⟨by rfl, rfl⟩) (by assumption) ?_
  try simp only [Act.put, List.setIfInBounds_toArray, List.set_cons_zero, List.set_cons_succ]
  refine takeH (i := 11) (v := undef) rfl (by kernel_rfl) (by kernel_rfl) (by kernel_rfl) (fun _ _ _ h => h) (Or.inr ⟨by rfl, rfl⟩) (by assumption) ?_
  try simp only [Act.put, List.setIfInBounds_toArray, List.set_cons_zero, List.set_cons_succ]
  refine takeH (i := 12) (v := undef) rfl (by kernel_rfl) (by kernel_rfl) (by kernel_rfl) (fun _ _ _ h => h) (Or.inr ⟨by rfl, rfl⟩) (by assumption) ?_
  try simp only [Act.put, List.setIfInBounds_toArray, List.set_cons_zero, List.set_cons_succ]
  refine takeH (i := 13) (v := undef) rfl (by kernel_rfl) (by kernel_rfl) (by kernel_rfl) (fun _ _ _ h => h) (Or.inr ⟨by rfl, rfl⟩) (by assumption) ?_
  try simp only [Act.put, List.setIfInBounds_toArray, List.set_cons_zero, List.set_cons_succ]
  refine takeH (i := 14) (v := ?_) rfl (by kernel_rfl) (by kernel_rfl) (by kernel_rfl) (fun _ _ _ h => h) (Or.inl ⟨by rfl, ?_⟩) (by assumption) ?_
  rotate_left
  · first | (intro w hSw; (try dsimp only at hSw); go_simp; done) | (intro w hSw; (try dsimp only at hSw); go_simp; with_reducible rfl)
  try simp only [Act.put, List.setIfInBounds_toArray, List.set_cons_zero, List.set_cons_succ]
  refine wpAnyH_done (by kernel_rfl) ?_ _
  refine NoPanic.normal ?_
  go_wp2_with fail
  go_ret2
  exact ⟨rfl, by assumption⟩

theorem refOpenA_any (A : Option Addr) (a : List Nat) (c : Nat) (w : World) (ha : Bys w w.heap.size A a) (hm : a.length ≤ 1099511627700) (hac : a.length ≤ c) :
    Calls Try.prog 19 #[.slice A a.length c] w (OpenAns w a) := by
  by_cases h : a.length < 4
  · refine (refOpen_short A a c w h).mono ?_
    rintro e w1 ⟨rfl, hb⟩
    exact ⟨_, by rw [okNo_short a h], by rw [okAns_short a h]; exact own_nil _ _, hb⟩
  · obtain ⟨t, q, rfl, hq⟩ := parts4 a (by omega)
    obtain ⟨b, off, rfl, _, _⟩ := ha.2 (by intro e; have := congrArg List.length e; simp only [List.length_append, List.length_nil] at this; omega)
    rw [List.length_append] at hm hac
    have hr := refOpen_long b off t q c t.length w ha (by omega) (by omega) rfl hq
    rw [show (t ++ q).length = t.length + 4 by rw [List.length_append, hq]]
    refine hr.mono ?_
    rintro e w1 ⟨v, rfl, hown, hb⟩
    unfold OpenAns
    rw [okNo_long t q hq, okAns_long t q hq]
    exact ⟨v, rfl, hown, hb⟩
end Go.Proofs.Ytapfdbgplfonaaa
