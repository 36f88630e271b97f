import Derived.Test.YtapfdbgplfonaaaW
import Derived.Test.YtapfdbgplfonaaaQ
import Derived.StillTailTactics
namespace Go.Proofs.Ytapfdbgplfonaaa
open Go.RowKit

def sealOf (d : List Nat) : List Nat := d ++ Crc.le4 (Crc.sum d)
theorem sealOf_len (d : List Nat) : (sealOf d).length = d.length + 4 := by simp [sealOf, Crc.le4]
theorem opens_seal (d : List Nat) : opens (sealOf d) = true := by
  unfold sealOf
  rw [opens_long _ _ (by simp [Crc.le4]), sealedB_seal]
theorem okNo_seal (d : List Nat) : okNo (sealOf d) = 0 := by simp [okNo, opens_seal]
theorem okAns_seal (d : List Nat) : okAns (sealOf d) = d := by
  unfold sealOf
  rw [okAns_long _ _ (by simp [Crc.le4]), sealedB_seal, if_pos rfl]
theorem opens_form (t : List Nat) (h : opens t = true) : t = t.take (t.length - 4) ++ Crc.le4 (Crc.sum (t.take (t.length - 4))) := by
  unfold opens sealedB at h
  simp at h
  rw [h.2, List.take_append_drop]
theorem okNo_turned (d : List Nat) (hd : ∀ c ∈ d, c < 256) (hl : d.length ≤ 400) (ps : List Nat) (h3 : ps.length ≤ 3) (hp : ∀ p ∈ ps, p < 8 * (sealOf d).length) (t : List Nat) (ht : t = ps.foldl Crc.flip (sealOf d)) (htb : ∀ c ∈ t, c < 256) (hne : t ≠ sealOf d) : okNo t = 110 := by
  cases ho : opens t with
  | false => simp [okNo, ho]
  | true =>
    have hf := opens_form t ho
    exact absurd hf (Crc.turned (d' := t.take (t.length - 4)) hd (fun c hc => htb c (List.mem_of_mem_take hc)) rfl ps h3 hp (by have := sealOf_len d; unfold sealOf at this; omega) ht hne)

set_option maxRecDepth 100000 in
set_option maxHeartbeats 4000000 in
theorem turned_ok (A1 A2 : Option Addr) (a b : List Nat) (c1 c2 : Nat) (x0 x1 x2 : Int) (w : World) (ha : Bys w w.heap.size A1 a) (hb : Bys w w.heap.size A2 b) (hl : a.length + b.length ≤ 400)
    (hx0 : -9223372036854775808 ≤ x0 ∧ x0 ≤ 9223372036854775807) (hx1 : -9223372036854775808 ≤ x1 ∧ x1 ≤ 9223372036854775807) (hx2 : -9223372036854775808 ≤ x2 ∧ x2 ≤ 9223372036854775807) :
    Calls Try.prog 9 #[.slice A1 a.length c1, .slice A2 b.length c2, .agg #[.int .i64 x0, .int .i64 x1, .int .i64 x2]] w fun e w' => e = .returned (.bool true) ∧ Below w.heap.size w w' := by
  obtain ⟨w0, hw0⟩ : ∃ w0, w.alloc (.cells #[.int .i64 x0, .int .i64 x1, .int .i64 x2] 40) = w0 := ⟨_, rfl⟩
  have hbox : Blk w0 w.heap.size 40 #[.int .i64 x0, .int .i64 x1, .int .i64 x2] := by rw [← hw0]; exact Blk.new w 40 _
  have hbw0 : Below w.heap.size w w0 := by rw [← hw0]; exact (Below.refl _ w).alloc (Nat.le_refl _) _
  have hsz0 : w0.heap.size = w.heap.size + 1 := by rw [← hw0]; simp
  obtain ⟨v1, w1, v2, w2, hr1, hr2, hown2, hbw2⟩ := copy2_run w0 A1 A2 a b c1 c2 (ha.grow hbw0) (hb.grow hbw0) (by omega)
  obtain ⟨d, hd⟩ : ∃ d, a ++ b = d := ⟨_, rfl⟩
  have hdl : d.length = a.length + b.length := by rw [← hd, List.length_append]
  rw [hd] at hown2
  obtain ⟨n, hn⟩ : ∃ n, d.length = n := ⟨_, rfl⟩
  obtain ⟨A3, c3, rfl, hc3, hbys2⟩ := hown2.formN hn
  have hli : (a.length : Int) + (b.length : Int) ≤ 400 := by omega
  have hla : a.length ≤ 400 := by omega
  have hlb : b.length ≤ 400 := by omega
  have hdn : n ≤ 400 := by omega
  subst hw0
  rw [World.size_alloc] at hr1
  have HR1 := Lib.hid hr1
  have HR2 := Lib.hid hr2
  have HN := Lib.hid hn
  have HD := Lib.hid hd
  clear hr1 hr2 hd hdl hn hown2 hl
  go_enter Try.func9, Try.ntmps9
  go_wp2_with (first | (at_builtin; refine Lib.wpList_append_run _ rfl _ _ _ _ rfl _ _ rfl rfl _ _ HR1.out ?_; clear HR1) | (at_builtin; refine Lib.wpList_append_run _ rfl _ _ _ _ rfl _ _ rfl rfl _ _ HR2.out ?_; clear HR2))
  have hbw2' : Below w.heap.size w w2 := ext hbw0 hbw2
  have hbox2 := hbox.below hbw2 hbox.lt
  refine (Sum_any A1 a c1 w2 (ha.grow hbw2') (by omega)).mono ?_
  rintro e w3 ⟨rfl, hb3⟩
  have hbw3 : Below w.heap.size w w3 := ext hbw2' hb3
  have hbox3 := hbox2.below hb3 hbox2.lt
  have hbys3 := hbys2.grow hb3
  have hsa := sum_lt a
  have hmo := more_sum a b ha.1
  rw [HD.out] at hmo
  go_wp2_with fail
  refine (More_any (Crc.sum a) A2 b c2 w3 hsa (hb.grow hbw3) (by omega)).mono ?_
  rintro e w4 ⟨rfl, hb4⟩
  have hbw4 : Below w.heap.size w w4 := ext hbw3 hb4
  have hbox4 := hbox3.below hb4 hbox3.lt
  have hbys4 := hbys3.grow hb4
  rw [hmo]
  have hsd := Sum_any A3 d c3 w4 hbys4 (by rw [HN.out]; omega)
  rw [HN.out] at hsd
  obtain ⟨s0, hs0⟩ : ∃ s, Crc.sum d = s := ⟨_, rfl⟩
  rw [hs0] at hsd ⊢
  clear hmo hs0 hbox hbox2 hbox3 hbys2 hbys3 hbw2 hbw2' hb3 hb4 hsz0 hbw0
  go_wp2_with fail
  refine hsd.mono ?_
  rintro e w5 ⟨rfl, hb5⟩
  have hbw5 : Below w.heap.size w w5 := ext hbw4 hb5
  have hbox5 := hbox4.below hb5 hbox4.lt
  have hbys5 := hbys4.grow hb5
  have hse := Seal_any A3 d c3 w5 hbys5 (by rw [HN.out]; omega)
  rw [HN.out] at hse
  have HSE := Lib.hid hse
  clear hse hsd hbox4 hbys4 hb5
  go_wp2_with fail
  refine HSE.out.mono ?_
  rintro e w6 ⟨vs, rfl, hown6, hb6⟩
  have hbw6 : Below w.heap.size w w6 := ext hbw5 hb6
  have hbox6 := hbox5.below hb6 hbox5.lt
  have hbys6 := hbys5.grow hb6
  obtain ⟨As, cs, rfl, hcs, hbyss6⟩ := hown6.formN (n := n + 4) (by simp [Crc.le4, HN.out])
  have hop := OpenA_any As (sealOf d) cs w6 hbyss6 (by rw [sealOf_len, HN.out]; omega) (by rw [sealOf_len, HN.out]; exact hcs)
  unfold OpenAns at hop
  rw [okNo_seal, okAns_seal, sealOf_len, HN.out] at hop
  have HOP := Lib.hid hop
  clear hop HSE hbox5 hbys5 hown6 hb6
  go_wp2_with fail
  refine HOP.out.mono ?_
  rintro e w7 ⟨vx, rfl, hown7, hb7⟩
  have hbw7 : Below w.heap.size w w7 := ext hbw6 hb7
  have hbox7 := hbox6.below hb7 hbox6.lt
  have hbys7 := hbys6.grow hb7
  have hbyss7 := hbyss6.grow hb7
  obtain ⟨Ax, cx, rfl, hcx, hbysx7⟩ := hown7.formN HN.out
  have hcv1 := conv_any w7 w7.heap.size Ax d cx hbysx7
  have hcv2 := conv_any w7 w7.heap.size A3 d c3 hbys7
  rw [HN.out] at hcv1 hcv2
  clear HOP hbox6 hbys6 hbyss6 hown7 hb7
  obtain ⟨vt, w8, hr8, hown8, hb8⟩ := copy_run w7 As (sealOf d) cs hbyss7 (by rw [sealOf_len, HN.out]; omega)
  rw [sealOf_len, HN.out] at hr8
  have HR8 := Lib.hid hr8
  clear hr8
  go_wp2_with (first | (go_at_call 20; refine (num_any _ _).mono ?_; rintro e w8 ⟨rfl, rfl⟩) | (at_builtin; refine Lib.wpList_append_run _ rfl _ _ _ _ rfl _ _ rfl rfl _ _ HR8.out ?_; clear HR8))
  obtain ⟨S, hS⟩ : ∃ S, sealOf d = S := ⟨_, rfl⟩
  have hSl : S.length = n + 4 := by rw [← hS, sealOf_len, HN.out]
  have hSb : ∀ c ∈ S, c < 256 := by rw [← hS]; exact hbyss7.1
  have hSq : d ++ Crc.le4 (Crc.sum d) = S := hS
  rw [hSq] at hbyss7
  rw [hS] at hown8
  have HTU : Hid (∀ ps : List Nat, ps.length ≤ 3 → (∀ p ∈ ps, p < 8 * (n + 4)) → ∀ t, t = ps.foldl Crc.flip S → (∀ c ∈ t, c < 256) → (t = S ∧ okNo t = 0) ∨ (t ≠ S ∧ okNo t = 110)) := by
    intro ps h3 hp t ht htb
    by_cases e : t = S
    · exact .inl ⟨e, by rw [e, ← hS, okNo_seal]⟩
    · refine .inr ⟨e, okNo_turned d hbys7.1 (by rw [HN.out]; omega) ps h3 (by rw [sealOf_len, HN.out]; exact hp) t (by rw [hS]; exact ht) htb (by rw [hS]; exact e)⟩
  clear hS hSq
  obtain ⟨bs, offs, rfl, hlts, _⟩ := hbyss7.2 (by intro e; subst e; simp at hSl)
  rcases hown8.formG with ⟨h, h0⟩ | ⟨g, ct, rfl, hct, hgb, hgl, hrow8⟩
  · subst h0; simp at hSl
  have hne1 : g ≠ w.heap.size := by have := hbox7.lt; omega
  have hne2 : bs ≠ g := by omega
  have hgw : w.heap.size ≤ g := by have := hbox7.lt; omega
  have hbyt8 := hown8.bysS
  have hbw8 : Below w.heap.size w w8 := ext hbw7 hb8
  have hbox8 := hbox7.below hb8 hbox7.lt
  have hbyss8 := hbyss7.grow hb8
  rw [hSl] at hct hrow8 ⊢
  have HSL := Lib.hid hSl
  clear hbw3 hbw4 hbw5 hbw6 hbw7 hbox7 hbys7 hbyss7 hbysx7 hcv1 hcv2 hown8 hb8 hSl
  go_loopw [12] (fun i wr => ∃ (k : Nat) (ps T : List Nat), k ≤ 3 ∧ i = .int .i64 k ∧ ps.length ≤ k ∧ (∀ p ∈ ps, p < 8 * (n + 4)) ∧ T = ps.foldl Crc.flip S ∧ T.length = n + 4 ∧ Below w.heap.size w wr ∧ Bys wr wr.heap.size (some ⟨g, 0, none⟩) T ∧ Row8 wr g (n + 4) ∧ Blk wr w.heap.size 40 #[.int .i64 x0, .int .i64 x1, .int .i64 x2] ∧ Bys wr wr.heap.size (some ⟨bs, offs, none⟩) S)
    (fun i _ => 3 - (intOf i).toNat)
  case atStart => exact ⟨0, [], S, Nat.zero_le _, rfl, Nat.le_refl _, by simp, rfl, HSL.out, hbw8, hbyt8, hrow8, hbox8, hbyss8⟩
  case round =>
    obtain ⟨k, ps, T, hk, rfl, hpl, hps, hT, hTl, hbr, hbyt, hrow, hbox, hbyss⟩ := hrel
    by_cases hlt : k < 3
    · obtain ⟨x, hx, hxr1, hxr2⟩ : ∃ x : Int, wr.cell? ⟨w.heap.size, k, none⟩ = some (.int .i64 x) ∧ -9223372036854775808 ≤ x ∧ x ≤ 9223372036854775807 := by
        rw [hbox.cell]
        rcases k with _ | _ | _ | k
        · exact ⟨x0, rfl, hx0⟩
        · exact ⟨x1, rfl, hx1⟩
        · exact ⟨x2, rfl, hx2⟩
        · omega
      clear hx0 hx1 hx2
      by_cases hneg : x < 0
      · go_wp2_with fail
        go_roundw
        case rel => exact ⟨k + 1, ps, T, by omega, by go_num, by omega, hps, hT, hTl, hbr, hbyt, hrow, hbox, hbyss⟩
        case measure => simp [intOf]; omega
      · by_cases hbig : 8 * ((n : Int) + 4) ≤ x
        · go_wp2_with fail
          go_roundw
          case rel => exact ⟨k + 1, ps, T, by omega, by go_num, by omega, hps, hT, hTl, hbr, hbyt, hrow, hbox, hbyss⟩
          case measure => simp [intOf]; omega
        · obtain ⟨p, rfl⟩ : ∃ p : Nat, x = p := ⟨x.toNat, by omega⟩
          obtain ⟨q, hq⟩ : ∃ q, p / 8 = q := ⟨_, rfl⟩
          obtain ⟨r, hr⟩ : ∃ r, p % 8 = r := ⟨_, rfl⟩
          have hq1 : IntKind.i64.wrap ((p : Int) / 8) = (q : Int) := by rw [IntWalk.i64_in _ (by omega)]; omega
          have hr1 : IntKind.i64.wrap ((p : Int) % 8) = (r : Int) := by rw [IntWalk.i64_in _ (by omega)]; omega
          have hmin : min (p % 8) 8 = p % 8 := by omega
          have HM := Lib.hid hmin
          clear hmin
          have hk8 : q < n + 4 := by omega
          have hk8i : (q : Int) < (n : Int) + 4 := by omega
          have hr8' : r < 8 := by omega
          have hp8 : p < 8 * (n + 4) := by omega
          obtain ⟨y, hy, hyb⟩ := hrow.at_ hk8
          have hfy := hrow.frozen q
          have HQ := Lib.hid hq
          have HR := Lib.hid hr
          have HQ1 := Lib.hid hq1
          have HR1 := Lib.hid hr1
          clear hq hr hq1 hr1
          go_wp2_with fail
          have hq1 := HQ1.out
          have hr1 := HR1.out
          go_still_tail 20, (by kernel_rfl)
          change wpList _ _ _ _ _ wr.drew
          have hrowd : Row8 wr.drew g (n + 4) := hrow
          have hyd : wr.drew.cell? ⟨g, q, none⟩ = some (.int .u8 y) := hy
          have hfyd : wr.drew.frozen? ⟨g, q, none⟩ = false := hfy
          obtain ⟨wd, hwd⟩ : ∃ wd, wr.drew = wd := ⟨_, rfl⟩
          rw [hwd] at hyd hfyd ⊢
          clear hq1 hr1
          go_wp2_with fail
          rw [HM.out]
          go_roundw
          case rel =>
            rw [xor8 y p hyb]
            have hbyd : Bys wd wd.heap.size (some ⟨g, 0, none⟩) T := by rw [← hwd]; exact hbyt
            have hbsd : Bys wd wd.heap.size (some ⟨bs, offs, none⟩) S := by rw [← hwd]; exact hbyss
            have hrd : Row8 wd g (n + 4) := by rw [← hwd]; exact hrow
            have hbd : Blk wd w.heap.size 40 #[.int .i64 x0, .int .i64 x1, .int .i64 x2] := by rw [← hwd]; exact hbox
            have hlt2 : y ^^^ 2 ^ (p % 8) < 256 := Nat.xor_lt_two_pow (n := 8) hyb (Nat.pow_lt_pow_right (by omega) (by omega))
            have hqe := HQ.out
            subst hqe
            refine ⟨k + 1, ps ++ [p], Crc.flip T p, by omega, by go_num, by simp; omega, ?_, by rw [List.foldl_append, ← hT]; rfl, by rw [Crc.flip_length]; exact hTl, ?_, ?_, hrd.set_ _ _ hlt2, ?_, ?_⟩
            · intro p' hp'
              rcases List.mem_append.1 hp' with h | h
              · exact hps p' h
              · rw [List.mem_singleton.1 h]; exact hp8
            · refine Below.setCell (p := ⟨g, p / 8, none⟩) ?_ hgw _
              rw [← hwd]
              exact below_drew hbr
            · exact (hbyd.flip hTl hk8 hyd).mono (by simp [World.setCell])
            · exact (Below.heap_setCell wd ⟨g, p / 8, none⟩ _ w.heap.size (Ne.symm hne1)).trans hbd
            · exact (hbsd.setCell_other (a := ⟨g, p / 8, none⟩) (fun b o e => by injection e with e; injection e with e; subst e; exact hne2) _).mono (by simp [World.setCell])
          case measure => simp [intOf]; omega
    · obtain rfl : k = 3 := by omega
      clear hx0 hx1 hx2 hbox hrow
      have htu := HTU.out ps hpl hps T hT hbyt.1
      have hopT := OpenA_any (some ⟨g, 0, none⟩) T ct wr hbyt (by rw [hTl]; omega) (by rw [hTl]; exact hct)
      unfold OpenAns at hopT
      rw [hTl] at hopT
      obtain ⟨no, hno⟩ : ∃ no, okNo T = no := ⟨_, rfl⟩
      rw [hno] at hopT htu
      have HOT := Lib.hid hopT
      have HTL := Lib.hid hTl
      have HT := Lib.hid hT
      clear hopT hTl hT hno
      go_wp2_with fail
      refine HOT.out.mono ?_
      rintro e w9 ⟨vy, rfl, _, hb9⟩
      have hbyt9 := hbyt.grow hb9
      have hbyss9 := hbyss.grow hb9
      have hbw9 : Below w.heap.size w w9 := ext hbr hb9
      have hcv1 := conv_any w9.drew w9.heap.size _ T ct hbyt9
      have hcv2 := conv_any w9.drew w9.heap.size _ S cs hbyss9
      rw [HTL.out] at hcv1
      rw [HSL.out] at hcv2
      have hse := str_eq hbyt.1 hSb
      clear HOT hb9
      rcases htu with ⟨rfl, rfl⟩ | ⟨hne, rfl⟩
      · skip
        go_wp2_with fail
        go_still_tail 10, (by kernel_rfl)
        still_call ((num_any _ _).mono (fun e w'' h => ⟨h.1, h.2.symm⟩))
        repeat still_step
        refine wpStill_nil ?_
        change wpList _ _ _ _ _ w9.drew
        go_wp2_with fail
        refine (works_any _).mono ?_
        rintro e w10 ⟨rfl, hb10⟩
        go_wp2_with fail
        go_ret
        exact ⟨rfl, ext (below_drew hbw9) hb10⟩
      · rw [decide_eq_false hne] at hse
        go_wp2_with fail
        go_still_tail 10, (by kernel_rfl)
        still_call ((num_any _ _).mono (fun e w'' h => ⟨h.1, h.2.symm⟩))
        repeat still_step
        refine wpStill_nil ?_
        change wpList _ _ _ _ _ w9.drew
        go_wp2_with fail
        refine (works_any _).mono ?_
        rintro e w10 ⟨rfl, hb10⟩
        go_wp2_with fail
        go_ret
        exact ⟨rfl, ext (below_drew hbw9) hb10⟩
end Go.Proofs.Ytapfdbgplfonaaa
