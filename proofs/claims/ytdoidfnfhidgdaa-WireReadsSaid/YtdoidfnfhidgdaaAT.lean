import Derived.Test.YtdoidfnfhidgdaaAP
import Derived.Test.YtdoidfnfhidgdaaAE
namespace Go.Proofs.Ytdoidfnfhidgdaa
open Go.RowKit

set_option maxRecDepth 100000 in
set_option maxHeartbeats 4000000 in
theorem reads_walk (A : Option Addr) (b : List Nat) (c : Nat) (w : World) (hb : Bys w w.heap.size A b) (hc : b.length ≤ c) :
    Calls Try.prog 5 #[.slice A b.length c] w fun x w' => x = .returned (.bool true) ∧ Below w.heap.size w w' := by
  by_cases h : 3000 < b.length
  · have hi : (3000 : Int) < (b.length : Int) := by omega
    go_enter Try.func5, Try.ntmps5
    go_wp2_with fail
    refine (works_any _).mono ?_
    rintro x w2 ⟨rfl, hb2⟩
    go_wp2_with fail
    go_ret
    exact ⟨rfl, hb2⟩
  have hi : ¬ ((3000 : Int) < (b.length : Int)) := by omega
  have HQ := Lib.hid (Read_any A b c w hb hc (by omega))
  have HV := Lib.hid (fun W (h : Below w.heap.size w W) => refRead_any A b c W (hb.grow h) hc (by omega))
  obtain ⟨R, hR⟩ : ∃ R, readF b = R := ⟨_, rfl⟩
  rw [hR] at HQ HV
  obtain ⟨E, N, F⟩ := R
  have HE : Hid (entV E = .agg #[.int .i64 E.epoch, .int .i64 E.id, .int .i64 E.num, .int .i64 E.seq, .int .i64 E.kind, .int .i64 E.value]) := rfl
  clear hR hb
  go_enter Try.func5, Try.ntmps5
  go_wp2_with fail
  refine HQ.out.mono ?_
  rintro x w1 ⟨hx, hb1⟩
  simp only [HE.out] at hx
  subst hx
  have HB1 := Lib.hid hb1
  clear hb1 HQ
  obtain ⟨W2, hW2⟩ : ∃ W2, w1.alloc (.cells (entC E) 24) = W2 := ⟨_, rfl⟩
  have HW2 : Hid (w1.alloc (.cells #[.int .i64 E.epoch, .int .i64 E.id, .int .i64 E.num, .int .i64 E.seq, .int .i64 E.kind, .int .i64 E.value] 24) = W2) := hW2
  have HB2 : Hid (Below w.heap.size w W2) := by show Below _ _ _; rw [← hW2]; exact HB1.out.alloc HB1.out.size _
  have HK2 : Hid (Blk W2 w1.heap.size 24 (entC E)) := by show Blk _ _ _ _; rw [← hW2]; exact Blk.new _ _ _
  clear hW2
  go_wp2_with fail
  rw [HW2.out]
  refine (HV.out W2 HB2.out).mono ?_
  rintro x w3 ⟨hx, hb3⟩
  simp only [HE.out] at hx
  subst hx
  have HB3 : Hid (Below w.heap.size w w3) := HB2.out.trans (hb3.mono HB2.out.size)
  have HK3 : Hid (Blk w3 w1.heap.size 24 (entC E)) := HK2.out.below hb3 HK2.out.lt
  obtain ⟨⟨a0, a1, a2⟩, a3, a4, a5⟩ := ebox HK3.out
  have hlt3 : w1.heap.size < w3.heap.size := HK3.out.lt
  clear hb3
  go_wp2_with fail
  refine (num_any _ _).mono ?_
  rintro x wn ⟨rfl, hwn⟩
  subst hwn
  go_wp2_with fail
  refine (works_any _).mono ?_
  rintro x w9 ⟨rfl, hb9⟩
  go_wp2_with fail
  go_ret
  exact ⟨rfl, (HB3.out.alloc HB3.out.size _).trans (hb9.mono (HB3.out.alloc HB3.out.size _).size)⟩

set_option maxRecDepth 100000 in
set_option maxHeartbeats 4000000 in
theorem bodies_walk (A1 A2 : Option Addr) (a b : List Nat) (c1 c2 : Nat) (w : World) (ha : Bys w w.heap.size A1 a) (hb : Bys w w.heap.size A2 b) :
    Calls Try.prog 6 #[.slice A1 a.length c1, .slice A2 b.length c2] w fun x w' => x = .returned (.bool true) ∧ Below w.heap.size w w' := by
  by_cases h : 60 < a.length
  · have hi : (60 : Int) < (a.length : Int) := by omega
    go_enter Try.func6, Try.ntmps6
    go_wp2_with fail
    refine (works_any _).mono ?_
    rintro x w2 ⟨rfl, hb2⟩
    go_wp2_with fail
    go_ret
    exact ⟨rfl, hb2⟩
  have hi : ¬ ((60 : Int) < (a.length : Int)) := by omega
  by_cases h2 : 100 < b.length
  · have hi2 : (100 : Int) < (b.length : Int) := by omega
    go_enter Try.func6, Try.ntmps6
    go_wp2_with fail
    refine (works_any _).mono ?_
    rintro x w2 ⟨rfl, hb2⟩
    go_wp2_with fail
    go_ret
    exact ⟨rfl, hb2⟩
  have hi2 : ¬ ((100 : Int) < (b.length : Int)) := by omega
  have HFr := Lib.hid (refFramed_any A1 a c1 w ha (by omega))
  have HB := Lib.hid hb
  clear ha hb
  go_enter Try.func6, Try.ntmps6
  go_wp2_with fail
  refine HFr.out.mono ?_
  rintro x w0 ⟨v0, rfl, ho0, hb0⟩
  obtain ⟨v', w', hrun, hown, hgr⟩ := run_append_bys w0 w.heap.size w0.heap.size v0 _ b ho0 A2 c2 (HB.out.grow hb0) (by simp [Crc.le4]; omega) hb0.size
  have hb' : Below w.heap.size w w' := hb0.grown hgr hb0.size fun g hg => (ho0.1.lt g hg).1
  obtain ⟨l, hl⟩ : ∃ l, Crc.le4 (Crc.sum a) ++ [a.length] ++ a ++ b = l := ⟨_, rfl⟩
  have hll : l.length ≤ 200 := by rw [← hl]; simp [Crc.le4]; omega
  rw [hl] at hown
  obtain ⟨Z, hZ⟩ : ∃ Z, l.length = Z := ⟨_, rfl⟩
  obtain ⟨A, c, rfl, hc, hy⟩ := hown.formN hZ
  have HQ := Lib.hid (Read_any A l c w' hy (by omega) (by omega))
  have HV := Lib.hid (fun W (h : Below w'.heap.size w' W) => refRead_any A l c W (hy.grow h) (by omega) (by omega))
  obtain ⟨R, hR⟩ : ∃ R, readF l = R := ⟨_, rfl⟩
  rw [hR, hZ] at HQ HV
  obtain ⟨E, N, F⟩ := R
  have HE : Hid (entV E = .agg #[.int .i64 E.epoch, .int .i64 E.id, .int .i64 E.num, .int .i64 E.seq, .int .i64 E.kind, .int .i64 E.value]) := rfl
  have HR0 := Lib.hid hrun
  have HB0 := Lib.hid hb'
  clear hR hrun hb' hown hgr hl hll hZ hc hy ho0 hb0
  go_wp2_with (at_builtin; refine Lib.wpList_append_run _ rfl _ _ _ _ rfl _ _ rfl rfl _ _ HR0.out ?_)
  refine HQ.out.mono ?_
  rintro x w1 ⟨hx, hb1⟩
  simp only [HE.out] at hx
  subst hx
  have HB1 := Lib.hid hb1
  clear hb1 HQ
  obtain ⟨W2, hW2⟩ : ∃ W2, w1.alloc (.cells (entC E) 24) = W2 := ⟨_, rfl⟩
  have HW2 : Hid (w1.alloc (.cells #[.int .i64 E.epoch, .int .i64 E.id, .int .i64 E.num, .int .i64 E.seq, .int .i64 E.kind, .int .i64 E.value] 24) = W2) := hW2
  have HB2 : Hid (Below w'.heap.size w' W2) := by show Below _ _ _; rw [← hW2]; exact HB1.out.alloc HB1.out.size _
  have HK2 : Hid (Blk W2 w1.heap.size 24 (entC E)) := by show Blk _ _ _ _; rw [← hW2]; exact Blk.new _ _ _
  clear hW2
  go_wp2_with fail
  rw [HW2.out]
  refine (HV.out W2 HB2.out).mono ?_
  rintro x w3 ⟨hx, hb3⟩
  simp only [HE.out] at hx
  subst hx
  have HB3 : Hid (Below w'.heap.size w' w3) := HB2.out.trans (hb3.mono HB2.out.size)
  have HK3 : Hid (Blk w3 w1.heap.size 24 (entC E)) := HK2.out.below hb3 HK2.out.lt
  obtain ⟨⟨a0, a1, a2⟩, a3, a4, a5⟩ := ebox HK3.out
  have hlt3 : w1.heap.size < w3.heap.size := HK3.out.lt
  clear hb3
  go_wp2_with fail
  refine (num_any _ _).mono ?_
  rintro x wn ⟨rfl, hwn⟩
  subst hwn
  go_wp2_with fail
  refine (works_any _).mono ?_
  rintro x w9 ⟨rfl, hb9⟩
  go_wp2_with fail
  go_ret
  exact ⟨rfl, HB0.out.trans (((HB3.out.alloc HB3.out.size _).trans (hb9.mono (HB3.out.alloc HB3.out.size _).size)).mono HB0.out.size)⟩
end Go.Proofs.Ytdoidfnfhidgdaa
