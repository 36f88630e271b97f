import Derived.Test.YtdoidfnfhidgdaaAG
import Derived.Test.YtdoidfnfhidgdaaQ
import Derived.Test.YtdoidfnfhidgdaaU
namespace Go.Proofs.Ytdoidfnfhidgdaa
open Go.RowKit

theorem Ent.eq_iff (a b : Ent) : a = b ↔ a.epoch = b.epoch ∧ a.id = b.id ∧ a.num = b.num ∧ a.seq = b.seq ∧ a.kind = b.kind ∧ a.value = b.value := by
  constructor
  · rintro rfl; exact ⟨rfl, rfl, rfl, rfl, rfl, rfl⟩
  · obtain ⟨a1, a2, a3, a4, a5, a6⟩ := a
    obtain ⟨b1, b2, b3, b4, b5, b6⟩ := b
    rintro ⟨h1, h2, h3, h4, h5, h6⟩
    simp only at h1 h2 h3 h4 h5 h6
    subst h1 h2 h3 h4 h5 h6
    rfl
instance (a b : Ent) : Decidable (a = b) := decidable_of_iff _ (Ent.eq_iff a b).symm

theorem eq_of_dropE {a b : List Ent} (hl : a.length = b.length) {k : Nat} (hk : k < a.length) (hpre : a.take k = b.take k) (he : a[k] = b[k]'(by omega)) : a.take (k + 1) = b.take (k + 1) := by
  rw [List.take_succ_eq_append_getElem hk, List.take_succ_eq_append_getElem (by omega), hpre, he]

set_option maxRecDepth 100000 in
set_option maxHeartbeats 1000000 in
theorem Same_any (A1 A2 : Option Addr) (a b : List Ent) (c1 c2 : Nat) (w : World) (ha : Ents w w.heap.size A1 a) (hb : Ents w w.heap.size A2 b) (hm : a.length ≤ 1099511627000) (hm2 : b.length ≤ 1099511627000) :
    Calls Try.prog 22 #[.slice A1 a.length c1, .slice A2 b.length c2] w fun e w' => e = .returned (.bool (decide (a = b))) ∧ Below w.heap.size w w' := by
  by_cases hl : a.length = b.length
  · have hne : ((a.length : Int) != (b.length : Int)) = false := by rw [hl]; exact bne_self_eq_false _
    have HL := Lib.hid hl
    clear hl
    go_enter Try.func22, Try.ntmps22
    go_wp2_with fail
    go_loopw [5] (fun i wr => ∃ k : Nat, k ≤ a.length ∧ i = .int .i64 k ∧ a.take k = b.take k ∧ Below w.heap.size w wr) (fun i _ => a.length - (intOf i).toNat)
    case atStart => exact ⟨0, Nat.zero_le _, rfl, rfl, Below.refl _ _⟩
    case round =>
      obtain ⟨k, hk, rfl, hpre, hbl⟩ := hrel
      have HP := Lib.hid hpre
      clear hpre
      by_cases hlt : k < a.length
      · have hl := HL.out
        have hlt2 : k < b.length := by omega
        obtain ⟨b1, o1, rfl, _, hc1⟩ := (ha.below hbl (Nat.le_refl _)).at_ hlt
        obtain ⟨b2, o2, rfl, _, hc2⟩ := (hb.below hbl (Nat.le_refl _)).at_ hlt2
        obtain ⟨p0, p1, p2, p3, p4, p5⟩ := hc1
        obtain ⟨q0, q1, q2, q3, q4, q5⟩ := hc2
        clear hl
        by_cases he : a[k] = b[k]
        · have HE := Lib.hid he
          rw [← he] at q0 q1 q2 q3 q4 q5
          clear he
          go_wp2_with fail
          go_quiet (fail)
          go_wp2_with fail
          go_roundw
          case rel => exact ⟨k + 1, by omega, by go_num, eq_of_dropE HL.out hlt HP.out HE.out, below_drewN hbl _⟩
          case measure => simp [intOf]; omega
        · have HD : Hid (decide (a = b) = false) := by
            show _ = _
            rw [decide_eq_false_iff_not]
            intro e
            subst e
            exact he rfl
          have hd : ((a[k].epoch == b[k].epoch) = false) ∨ ((a[k].epoch == b[k].epoch) = true ∧ ((a[k].id == b[k].id) = false ∨ ((a[k].id == b[k].id) = true ∧ ((a[k].num == b[k].num) = false ∨ ((a[k].num == b[k].num) = true ∧ ((a[k].seq == b[k].seq) = false ∨ ((a[k].seq == b[k].seq) = true ∧ ((a[k].kind == b[k].kind) = false ∨ ((a[k].kind == b[k].kind) = true ∧ (a[k].value == b[k].value) = false))))))))) := by
            simp only [beq_eq_false_iff_ne, beq_iff_eq]
            have := fun h => he ((Ent.eq_iff _ _).2 h)
            clear hm hm2
            by_cases t1 : a[k].epoch = b[k].epoch <;> by_cases t2 : a[k].id = b[k].id <;> by_cases t3 : a[k].num = b[k].num <;> by_cases t4 : a[k].seq = b[k].seq <;> by_cases t5 : a[k].kind = b[k].kind <;> simp_all
          clear he
          rcases hd with d1 | ⟨d1, d2 | ⟨d2, d3 | ⟨d3, d4 | ⟨d4, d5 | ⟨d5, d6⟩⟩⟩⟩⟩
          all_goals
            go_wp2_with fail
            go_quiet (fail)
            go_wp2_with fail
            go_ret
            exact ⟨by rw [HD.out]; rfl, below_drewN hbl _⟩
      · obtain rfl : k = a.length := by omega
        have HD : Hid (decide (a = b) = true) := by
          show _ = _
          rw [decide_eq_true_iff]
          have := HP.out
          rwa [List.take_length, HL.out, List.take_length] at this
        go_wp2_with fail
        go_ret
        exact ⟨by rw [HD.out]; rfl, hbl⟩
  · have hne : ((a.length : Int) != (b.length : Int)) = true := by rw [bne_iff_ne]; omega
    have HD : Hid (decide (a = b) = false) := by
      show _ = _
      rw [decide_eq_false_iff_not]
      intro e
      subst e
      exact hl rfl
    clear hl
    go_enter Try.func22, Try.ntmps22
    go_wp2_with fail
    go_ret
    exact ⟨by rw [HD.out]; rfl, Below.refl _ _⟩

set_option maxRecDepth 100000 in
set_option maxHeartbeats 1000000 in
theorem refFrames_any' (HF : ∀ (e : Ent) (_ : Right e) (w : World), Calls Try.prog 19 #[entV e] w fun x w' => ∃ v, x = .returned v ∧ Own w' w.heap.size v (frameE e) ∧ Below w.heap.size w w')
    (A : Option Addr) (l : List Ent) (c : Nat) (w : World) (hl : Ents w w.heap.size A l) (hR : ∀ e ∈ l, Right e) (hm : l.length ≤ 100000) :
    Calls Try.prog 21 #[.slice A l.length c] w fun x w' => ∃ v, x = .returned v ∧ Own w' w.heap.size v (l.flatMap frameE) ∧ Below w.heap.size w w' := by
  have HRT := Lib.hid hR
  have HFH := Lib.hid HF
  clear hR HF
  go_enter Try.func21, Try.ntmps21
  go_wp2_with fail
  go_loopw [3, 4] (fun v i wr => ∃ (k : Nat), k ≤ l.length ∧ i = .int .i64 k ∧ Own wr w.heap.size v ((l.take k).flatMap frameE) ∧ Below w.heap.size w wr)
    (fun _ i _ => l.length - (intOf i).toNat)
  case atStart => exact ⟨0, Nat.zero_le _, rfl, by simpa using Own.nil _ _, Below.refl _ _⟩
  case round =>
    obtain ⟨k, hk, rfl, hown, hb⟩ := hrel
    by_cases hlt : k < l.length
    · obtain ⟨b, off, rfl, hbB, he⟩ := (hl.below hb (Nat.le_refl _)).at_ hlt
      obtain ⟨c0, c1, c2, c3, c4, c5⟩ := he
      have HLK : Hid ((l.take (k + 1)).flatMap frameE = (l.take k).flatMap frameE ++ frameE l[k]) := by show _ = _; rw [List.take_succ_eq_append_getElem hlt, List.flatMap_append]; simp
      obtain ⟨e, hee⟩ : ∃ e, l[k] = e := ⟨_, rfl⟩
      rw [hee] at c0 c1 c2 c3 c4 c5 HLK
      have hRe : Right e := by rw [← hee]; exact HRT.out _ (List.getElem_mem hlt)
      have HQ := Lib.hid (HFH.out e hRe wr)
      unfold entV at HQ
      have HFL : Hid (((l.take k).flatMap frameE).length ≤ 59 * k) := by
        have := frames_len (l.take k) (fun x hx => HRT.out x (List.take_subset _ _ hx))
        rw [List.length_take] at this
        show _ ≤ _
        omega
      have hfe := frameE_len e hRe
      have HOW := Lib.hid hown
      have HBW := Lib.hid hb
      clear hown hb hee hl
      go_wp2_with fail
      refine HQ.out.mono ?_
      rintro x w2 ⟨v2, rfl, ho2, hb2⟩
      obtain ⟨A2, c2, rfl, _, hby2⟩ := ho2.formN rfl
      have hown2 := HOW.out.below hb2 (Nat.le_refl _)
      have HB2 := HBW.out.trans (hb2.mono HBW.out.size)
      obtain ⟨v3, w3, hr3, ho3, hg3⟩ := run_append_bys w2 w.heap.size _ _ _ _ hown2 A2 c2 hby2 (by have := HFL.out; omega) HB2.size
      have HR3 := Lib.hid hr3
      rw [← HLK.out] at ho3
      have HB3 : Hid (Below w.heap.size w w3) := HB2.grown hg3 HB2.size (fun g hg => (hown2.1.lt g hg).1)
      have HO3 := Lib.hid ho3
      clear hr3 ho3 hg3 hby2 ho2 hb2 hown2 HB2
      go_wp2_with (at_builtin; refine Lib.wpList_append_run _ rfl _ _ _ _ rfl _ _ rfl rfl _ _ HR3.out ?_)
      go_roundw
      case rel => exact ⟨k + 1, by omega, by go_num, HO3.out, HB3.out⟩
      case measure => simp [intOf]; omega
    · obtain rfl : k = l.length := by omega
      rw [List.take_length] at hown
      go_wp2_with fail
      go_ret
      exact ⟨_, rfl, hown, hb⟩
end Go.Proofs.Ytdoidfnfhidgdaa
