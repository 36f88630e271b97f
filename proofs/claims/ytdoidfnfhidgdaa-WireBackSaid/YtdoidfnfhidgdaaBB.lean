import Derived.Test.YtdoidfnfhidgdaaAZ
import Derived.Test.YtdoidfnfhidgdaaAH
import Derived.WalkLawsBesides
namespace Go.Proofs.Ytdoidfnfhidgdaa
open Go.RowKit

theorem xor8 (x p : Nat) (hx : x < 256) : bits BinOp.xor IntKind.u8 (x : Int) (2 ^ (p % 8) % 256) = ((x ^^^ 2 ^ (p % 8) : Nat) : Int) := by
  have hp : 2 ^ (p % 8) < 2 ^ 8 := Nat.pow_lt_pow_right (by omega) (by omega)
  have hp256 : (2 : Nat) ^ 8 = 256 := rfl
  rw [hp256] at hp
  have key : ∀ j : Nat, j < 8 → ((2 : Int) ^ j % 256) = ((2 ^ j : Nat) : Int) := by decide
  have h2 := key (p % 8) (by omega)
  rw [h2]
  exact u8_xor_nat x (2 ^ (p % 8)) hx hp
theorem Bys.flip {w : World} {B g p x n : Nat} {xs : List Nat} (h : Bys w B (some ⟨g, 0, none⟩) xs) (hl : xs.length = n) (hp : p / 8 < n) (hx : w.cell? ⟨g, p / 8, none⟩ = some (.int .u8 x)) : Bys (w.setCell ⟨g, p / 8, none⟩ (.int .u8 (x ^^^ 2 ^ (p % 8) : Nat))) B (some ⟨g, 0, none⟩) (Crc.flip xs p) := by
  subst hl
  obtain ⟨b, off, e, _, hc⟩ := h.at_ hp
  cases e
  rw [Nat.zero_add, hx] at hc
  have he : x = xs[p / 8] := by injection hc with hc; injection hc with _ hc; omega
  have hd : xs.getD (p / 8) 0 = x := by rw [List.getD_eq_getElem?_getD, List.getElem?_eq_getElem hp, he]; rfl
  have hlt : x < 256 := by rw [he]; exact h.1 _ (List.getElem_mem hp)
  unfold Crc.flip
  rw [hd]
  refine h.set_ hp (Nat.xor_lt_two_pow (n := 8) hlt (Nat.pow_lt_pow_right (by omega) (by omega)))

/-! ### a frame of which bits are turned -/
/-- a frame's body, and its sum behind -/
def perm (L : List Nat) : List Nat := L.drop 5 ++ L.take 4
/-- the place of a bit of a frame there -/
def permP (n p : Nat) : Nat := if p / 8 < 4 then 8 * n + p else p - 40
theorem perm_flip (L : List Nat) (n p : Nat) (hL : L.length = n + 5) (hp : p < 8 * L.length) (h4 : p / 8 ≠ 4) : perm (Crc.flip L p) = Crc.flip (perm L) (permP n p) := by
  have hd : (L.drop 5).length = n := by rw [List.length_drop]; omega
  unfold perm permP Crc.flip
  by_cases h : p / 8 < 4
  · rw [if_pos h, List.drop_set, if_pos (by omega)]
    have e1 : (8 * n + p) / 8 = n + p / 8 := by omega
    have e2 : (8 * n + p) % 8 = p % 8 := by omega
    rw [e1, e2, List.set_append, if_neg (by omega), hd, Nat.add_sub_cancel_left, List.take_set]
    congr 2
    rw [List.getD_eq_getElem?_getD, List.getD_eq_getElem?_getD, List.getElem?_append_right (by omega), hd, Nat.add_sub_cancel_left, List.getElem?_take, if_pos h]
  · rw [if_neg h, List.drop_set, if_neg (by omega)]
    have e1 : (p - 40) / 8 = p / 8 - 5 := by omega
    have e2 : (p - 40) % 8 = p % 8 := by omega
    rw [e1, e2, List.set_append, if_pos (by omega), List.take_set_of_le (by omega)]
    congr 2
    rw [List.getD_eq_getElem?_getD, List.getD_eq_getElem?_getD, List.getElem?_append_left (by omega), List.getElem?_drop]
    rw [show 5 + (p / 8 - 5) = p / 8 by omega]
theorem perm_flips (n : Nat) : ∀ (ps L : List Nat), L.length = n + 5 → (∀ p ∈ ps, p < 8 * (n + 5) ∧ p / 8 ≠ 4) → perm (ps.foldl Crc.flip L) = (ps.map (permP n)).foldl Crc.flip (perm L)
  | [], _, _, _ => rfl
  | p :: r, L, hL, h => by
    have hp := h p (by simp)
    rw [List.foldl_cons, List.map_cons, List.foldl_cons, ← perm_flip L n p hL (by omega) hp.2]
    exact perm_flips n r _ (by rw [Crc.flip_length]; exact hL) fun q hq => h q (List.mem_cons_of_mem _ hq)
theorem flips_four (n : Nat) : ∀ (ps L : List Nat), (∀ p ∈ ps, p < 8 * (n + 5) ∧ p / 8 ≠ 4) → (ps.foldl Crc.flip L)[4]? = L[4]? ∧ (ps.foldl Crc.flip L).length = L.length
  | [], _, _ => ⟨rfl, rfl⟩
  | p :: r, L, h => by
    have hp := h p (by simp)
    obtain ⟨h1, h2⟩ := flips_four n r (Crc.flip L p) fun q hq => h q (List.mem_cons_of_mem _ hq)
    rw [List.foldl_cons, h1, h2, Crc.flip_length]
    refine ⟨?_, rfl⟩
    unfold Crc.flip
    rw [List.getElem?_set, if_neg hp.2]

/-- a frame of which up to three bits are turned, but of the byte that says how many, is not read -/
theorem turned_read (e : Ent) (h : Right e) (ps : List Nat) (h3 : ps.length ≤ 3) (hb : ∀ c ∈ frameE e, c < 256) (hp : ∀ p ∈ ps, p < 8 * (frameE e).length ∧ p / 8 ≠ 4) (D : List Nat) (hD : D = ps.foldl Crc.flip (frameE e)) (hDb : ∀ c ∈ D, c < 256) (hne : D ≠ frameE e) :
    readF D = (zeroE, 0, 110) := by
  obtain ⟨l1, l2⟩ := bodyE_len e h
  obtain ⟨B, hB⟩ : ∃ B, bodyE e = B := ⟨_, rfl⟩
  have hf : frameE e = Crc.le4 (Crc.sum B) ++ [B.length] ++ B := by rw [frameE, hB]
  rw [hB] at l1 l2
  obtain ⟨n, hn⟩ : ∃ n, B.length = n := ⟨_, rfl⟩
  have hlen : (frameE e).length = n + 5 := by rw [hf]; simp [Crc.le4, hn]
  rw [hlen] at hp
  obtain ⟨q4, ql⟩ := flips_four n ps (frameE e) hp
  rw [← hD, hlen] at ql
  rw [← hD] at q4
  have h4 : (frameE e)[4]? = some n := by rw [hf]; simp [Crc.le4, hn]
  rw [h4] at q4
  have hpf : perm (frameE e) = B ++ Crc.le4 (Crc.sum B) := by
    rw [hf]
    simp [perm, Crc.le4]
  have hpd : perm D = (ps.map (permP n)).foldl Crc.flip (perm (frameE e)) := by rw [hD]; exact perm_flips n ps _ hlen hp
  have hBb : ∀ c ∈ B, c < 256 := fun c hc => hb c (by rw [hf]; simp [hc])
  have hlp : (B ++ Crc.le4 (Crc.sum B)).length = n + 4 := by simp [Crc.le4, hn]
  have hpne : perm D ≠ perm (frameE e) := by
    intro e1
    apply hne
    have s1 : (D.drop 5).length = ((frameE e).drop 5).length := by rw [List.length_drop, List.length_drop, ql, hlen]
    obtain ⟨e2, e3⟩ := List.append_inj e1 s1
    have t4 : ∀ L : List Nat, L[4]? = some n → L = L.take 4 ++ n :: L.drop 5 := by
      intro L hL
      have hl : 4 < L.length := (List.getElem?_eq_some_iff.1 hL).1
      have hg : L[4] = n := by rw [List.getElem?_eq_getElem hl] at hL; exact Option.some.inj hL
      conv => lhs; rw [← List.take_append_drop 4 L, List.drop_eq_getElem_cons hl, hg]
    rw [t4 D q4, t4 (frameE e) h4, e2, e3]
  have hsl : sealedB (D.drop 5) (D.take 4) = false := by
    cases hs : sealedB (D.drop 5) (D.take 4) with
    | false => rfl
    | true =>
      exfalso
      have hq : Crc.le4 (Crc.sum (D.drop 5)) = D.take 4 := by simpa [sealedB] using hs
      refine Crc.turned (d' := D.drop 5) hBb (fun c hc => hDb c (List.mem_of_mem_drop hc)) (s := perm (frameE e)) (t := perm D) hpf (ps.map (permP n)) (by rw [List.length_map]; exact h3) ?_ ?_ hpd hpne ?_
      · intro p' hp'
        obtain ⟨p, hpm, rfl⟩ := List.mem_map.1 hp'
        obtain ⟨a1, a2⟩ := hp p hpm
        rw [hpf, hlp]
        unfold permP
        split <;> omega
      · rw [hpf, hlp]; omega
      · rw [hq]; rfl
  have hg : D.getD 4 0 = n := by rw [List.getD_eq_getElem?_getD, q4]; rfl
  rw [readF, if_neg (by rw [ql]; omega), hg, if_neg (by omega), if_neg (by rw [ql]; omega)]
  have htk : (D.drop 5).take n = D.drop 5 := List.take_of_length_le (by rw [List.length_drop, ql]; omega)
  rw [htk, hsl, if_pos rfl]

/-! ### frames, and what stands behind -/
theorem scanL_from : ∀ (f at_ : Nat) (b : List Nat), ∀ x ∈ (scanL f at_ b).1, at_ ≤ x.1
  | 0, _, _ => by simp [scanL]
  | f + 1, at_, b => by
    by_cases hb : b = []
    · rw [hb, scanL_nil]; simp
    by_cases h : (readF b).2.2 = 0
    · obtain ⟨n, hn, h6, hl⟩ := readF_ok h
      rw [scanL_yes hb h hn]
      intro x hx
      rcases List.mem_cons.1 hx with rfl | hx
      · show at_ ≤ at_ + n; omega
      · have := scanL_from f (at_ + n) (b.drop n) x hx
        omega
    · rw [scanL, if_neg hb, if_neg h]; simp
theorem scan_frames : ∀ (l : List Ent), (∀ e ∈ l, Right e) → ∀ (r : List Nat) (f at_ : Nat), ((l.flatMap frameE) ++ r).length ≤ f →
    ∃ (ps : List (Nat × Ent)) (f' : Nat), ps.map (·.2) = l ∧ r.length ≤ f' ∧ (l = [] ∨ ∃ qs e, ps = qs ++ [(at_ + (l.flatMap frameE).length, e)]) ∧
      scanL f at_ ((l.flatMap frameE) ++ r) = (ps ++ (scanL f' (at_ + (l.flatMap frameE).length) r).1, (scanL f' (at_ + (l.flatMap frameE).length) r).2)
  | [], _, r, f, at_, hf => ⟨[], f, rfl, by simpa using hf, .inl rfl, by simp⟩
  | e :: l, h, r, f, at_, hf => by
    have hR := h e (by simp)
    obtain ⟨l1, _⟩ := bodyE_len e hR
    have hp : 6 ≤ (frameE e).length := by unfold frameE; simp [Crc.le4]; omega
    rw [List.flatMap_cons, List.append_assoc] at hf ⊢
    have hrd := readF_frame e hR ((l.flatMap frameE) ++ r)
    rw [List.length_append] at hf
    obtain ⟨g, rfl⟩ : ∃ g, f = g + 1 := ⟨f - 1, by omega⟩
    obtain ⟨ps, f', hm, hf', hlast, hs⟩ := scan_frames l (fun x hx => h x (List.mem_cons_of_mem _ hx)) r g (at_ + (frameE e).length) (by omega)
    refine ⟨(at_ + (frameE e).length, e) :: ps, f', by rw [List.map_cons, hm], hf', .inr ?_, ?_⟩
    · rcases hlast with rfl | ⟨qs, e', rfl⟩
      · have : ps = [] := by simpa using hm
        subst this
        exact ⟨[], e, by simp⟩
      · exact ⟨(at_ + (frameE e).length, e) :: qs, e', by rw [List.length_append, Nat.add_assoc]; rfl⟩
    · rw [scanL_yes (n := (frameE e).length) (by intro h; have h1 := congrArg List.length h; rw [List.length_append, List.length_nil] at h1; omega) (by rw [hrd]) (by rw [hrd]), List.drop_left, hrd, hs, List.length_append, Nat.add_assoc]
      rfl

/-- what is read of frames -/
theorem scan_all (l : List Ent) (h : ∀ e ∈ l, Right e) : (scanL (l.flatMap frameE).length 0 (l.flatMap frameE)).1.map (·.2) = l ∧ goodL (scanL (l.flatMap frameE).length 0 (l.flatMap frameE)).1 = ((l.flatMap frameE).length : Int) ∧ (scanL (l.flatMap frameE).length 0 (l.flatMap frameE)).2 = 0 := by
  obtain ⟨ps, f', hm, _, hlast, hs⟩ := scan_frames l h [] (l.flatMap frameE).length 0 (by simp)
  rw [List.append_nil, scanL_nil] at hs
  rw [hs]
  refine ⟨by simpa using hm, ?_, rfl⟩
  simp only [List.append_nil]
  rcases hlast with rfl | ⟨qs, e, rfl⟩
  · have : ps = [] := by simpa using hm
    subst this
    rfl
  · rw [goodL_snoc, Nat.zero_add]
/-- what is read of frames with something behind -/
theorem scan_behind (l : List Ent) (h : ∀ e ∈ l, Right e) (r : List Nat) (F : Nat) (hF : (l.flatMap frameE).length = F) : ∃ t, (scanL ((l.flatMap frameE) ++ r).length 0 ((l.flatMap frameE) ++ r)).1.map (·.2) = l ++ t ∧ (F : Int) ≤ goodL (scanL ((l.flatMap frameE) ++ r).length 0 ((l.flatMap frameE) ++ r)).1 := by
  obtain ⟨ps, f', hm, _, hlast, hs⟩ := scan_frames l h r ((l.flatMap frameE) ++ r).length 0 (Nat.le_refl _)
  rw [hs]
  refine ⟨_, by rw [List.map_append, hm], ?_⟩
  rw [Nat.zero_add, hF]
  simp only
  obtain ⟨q, hq⟩ : ∃ q, (scanL f' F r).1 = q := ⟨_, rfl⟩
  have hfr := scanL_from f' F r
  rw [hq] at hfr ⊢
  by_cases hq0 : q = []
  · subst hq0
    rw [List.append_nil]
    rcases hlast with rfl | ⟨qs, e, rfl⟩
    · have : ps = [] := by simpa using hm
      subst this
      simp at hF
      subst hF
      exact Int.le_refl _
    · rw [goodL_snoc, Nat.zero_add, hF]
      exact Int.le_refl _
  · obtain ⟨q', x, rfl⟩ : ∃ q' x, q = q' ++ [x] := ⟨q.dropLast, q.getLast hq0, (List.dropLast_concat_getLast hq0).symm⟩
    rw [← List.append_assoc, goodL_snoc]
    have := hfr x (by simp)
    omega
end Go.Proofs.Ytdoidfnfhidgdaa
