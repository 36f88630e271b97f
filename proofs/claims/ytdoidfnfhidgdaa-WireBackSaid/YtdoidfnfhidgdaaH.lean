import Derived.Test.YtdoidfnfhidgdaaG
namespace Go.Proofs.Ytdoidfnfhidgdaa
open Go.RowKit

set_option maxRecDepth 100000 in
set_option maxHeartbeats 2000000 in
theorem Concat_any (g off : Nat) (ps : List Part) (c : Nat) (w : World) (hg : g < w.heap.size) (hp : PartsAt w w.heap.size g off ps) (ht : total ps ≤ 1099511627776) (hl : ps.length ≤ 1099511627776) :
    Calls Try.prog 46 #[.slice (some ⟨g, off, none⟩) ps.length c] w fun e w' => ∃ v, e = .returned v ∧ Own w' w.heap.size v (joined ps) ∧ Below w.heap.size w w' := by
  go_enter Try.func46, Try.ntmps46
  go_wp2_with fail
  go_loop [3, 11] (fun s i => ∃ k : Nat, k ≤ ps.length ∧ i = .int .i64 k ∧ s = .int .i64 (tot ps k : Nat)) (fun _ i => ps.length - (intOf i).toNat)
  case atStart => exact ⟨0, Nat.zero_le _, rfl, by rw [tot_zero]; rfl⟩
  case round =>
    obtain ⟨k, hk, rfl, rfl⟩ := hrel
    have hle := tot_le ps k
    by_cases hlt : k < ps.length
    · obtain ⟨hc, hbk⟩ := hp k _ (List.getElem?_eq_getElem hlt)
      have hle2 := tot_le ps (k + 1)
      have hts := tot_succ hlt
      have hle3 : tot ps k + ps[k].bs.length ≤ 1099511627776 := by omega
      have HT := Lib.hid hts
      clear hts
      generalize hpk : ps[k] = p at *
      have HP := Lib.hid hpk
      clear hpk hbk
      go_wp2_with fail
      go_round
      case rel => exact ⟨k + 1, by omega, by go_num, by rw [HT.out]; go_num⟩
      case measure => simp [intOf]; omega
    · obtain rfl : k = ps.length := by omega
      have HPA := Lib.hid hp
      clear hp
      go_wp2_with fail
      refine (Grow_any (tot ps ps.length) w (by omega)).mono ?_
      rintro e w1 ⟨v, rfl, hown, hb1⟩
      go_wp2_with fail
      go_loopw [6, 27] (fun v i wr => ∃ k : Nat, k ≤ ps.length ∧ i = .int .i64 k ∧ Own wr w.heap.size v (joi ps k) ∧ Below w.heap.size w wr) (fun _ i _ => ps.length - (intOf i).toNat)
      case atStart => exact ⟨0, Nat.zero_le _, rfl, by rw [joi_zero]; exact hown, hb1⟩
      case round =>
        obtain ⟨k, hk2, rfl, hown, hb⟩ := hrel
        by_cases hlt2 : k < ps.length
        · obtain ⟨hc, hbk⟩ := HPA.out k _ (List.getElem?_eq_getElem hlt2)
          have hlen := joi_length ps k
          have hle4 := tot_le ps (k + 1)
          have hts := tot_succ hlt2
          obtain ⟨v', w2, hrun, hown2, hgr⟩ := run_append_bys wr w.heap.size w.heap.size _ _ _ hown ps[k].A ps[k].c (hbk.below hb (Nat.le_refl _)) (by omega) hb.size
          have hb2 : Below w.heap.size w w2 := hb.grown hgr hb.size fun g hg => (hown.1.lt g hg).1
          have hcw : wr.cell? ⟨g, off + k, none⟩ = some (.slice ps[k].A ps[k].bs.length ps[k].c) := (hb.cell (p := ⟨g, off + k, none⟩) hg).trans hc
          rw [← joi_succ hlt2] at hown2
          have HR := Lib.hid hrun
          clear hrun hc hbk hlen hts hle4
          go_wp2_with (at_builtin; refine Lib.wpList_append_run _ rfl _ _ _ _ rfl _ _ rfl rfl _ _ HR.out ?_)
          go_roundw
          case rel => exact ⟨k + 1, by omega, by go_num, hown2, hb2⟩
          case measure => simp [intOf]; omega
        · obtain rfl : k = ps.length := by omega
          go_wp2_with fail
          go_ret
          exact ⟨_, rfl, by rw [← joi_all]; exact hown, hb⟩
end Go.Proofs.Ytdoidfnfhidgdaa
