import Derived.Test.YtapfdbgplfonaaaU
namespace Go.Proofs.Ytapfdbgplfonaaa
open Go.RowKit

/-- a row of n bytes, whatever they are, in block g -/
def Row8 (w : World) (g n : Nat) : Prop := ∃ cs : Array Value, Blk w g 5 cs ∧ ∀ j, j < n → ∃ c : Nat, cs[j]? = some (.int .u8 c) ∧ c < 256
theorem Row8.at_ {w : World} {g n : Nat} (h : Row8 w g n) {k : Nat} (hk : k < n) : ∃ c : Nat, w.cell? ⟨g, k, none⟩ = some (.int .u8 c) ∧ c < 256 := by
  obtain ⟨cs, hb, hc⟩ := h
  obtain ⟨c, h1, h2⟩ := hc k hk
  exact ⟨c, by rw [hb.cell]; exact h1, h2⟩
theorem Row8.frozen {w : World} {g n : Nat} (h : Row8 w g n) (k : Nat) : w.frozen? ⟨g, k, none⟩ = false := by
  obtain ⟨cs, hb, _⟩ := h
  exact hb.frozen k
theorem Row8.set_ {w : World} {g n : Nat} (h : Row8 w g n) (k v : Nat) (hv : v < 256) : Row8 (w.setCell ⟨g, k, none⟩ (.int .u8 v)) g n := by
  obtain ⟨cs, hb, hc⟩ := h
  refine ⟨_, hb.set_ k _, fun j hj => ?_⟩
  obtain ⟨c, h1, h2⟩ := hc j hj
  rw [Array.getElem?_setIfInBounds]
  split
  · next e =>
    subst e
    have := (Array.getElem?_eq_some_iff.1 h1).1
    rw [if_pos this]
    exact ⟨v, rfl, hv⟩
  · exact ⟨c, h1, h2⟩
theorem Row8.drew {w : World} {g n : Nat} (h : Row8 w g n) : Row8 w.drew g n := h
theorem Row8.below {B : Nat} {w w' : World} {g n : Nat} (h : Row8 w g n) (hb : Below B w w') (hg : g < B) : Row8 w' g n := by
  obtain ⟨cs, h1, h2⟩ := h
  exact ⟨cs, h1.below hb hg, h2⟩

/-- own bytes, opened: none, or a block of the call's own -/
theorem Own.formG {w : World} {base : Nat} {v : Value} {bs : List Nat} (h : Own w base v bs) :
    (v = .slice none 0 0 ∧ bs = []) ∨ ∃ g c, v = .slice (some ⟨g, 0, none⟩) bs.length c ∧ bs.length ≤ c ∧ base ≤ g ∧ g < w.heap.size ∧ Row8 w g bs.length := by
  rcases h.1.2 with ⟨rfl, h0⟩ | ⟨g, cap, cur, rfl, hge, hg, hc, hr⟩
  · exact .inl ⟨rfl, List.eq_nil_of_length_eq_zero h0⟩
  · refine .inr ⟨g, _, rfl, hc, hge, (Array.getElem?_eq_some_iff.1 hg).1, cur, hg, fun j hj => ?_⟩
    have := h.1.cells (g := g) rfl j (B8 bs[j]) (by simp [hj])
    rw [addr_add, Blk.cell hg] at this
    exact ⟨bs[j], this, h.2 _ (List.getElem_mem hj)⟩

theorem Own.formX {w : World} {base : Nat} {v : Value} {bs : List Nat} {n : Nat} (h : Own w base v bs) (hn : bs.length = n) :
    ∃ X cx, v = .slice X n cx ∧ n ≤ cx ∧ (n = 0 ∨ ∃ g, X = some ⟨g, 0, none⟩ ∧ base ≤ g ∧ g < w.heap.size ∧ Row8 w g n) := by
  subst hn
  rcases h.formG with ⟨rfl, rfl⟩ | ⟨g, c, rfl, hc, h1, h2, h3⟩
  · exact ⟨none, 0, rfl, Nat.le_refl _, .inl rfl⟩
  · exact ⟨_, c, rfl, hc, .inr ⟨g, rfl, h1, h2, h3⟩⟩

theorem Bys.setCell_other {w : World} {B : Nat} {A : Option Addr} {l : List Nat} {a : Addr} (h : Bys w B A l) (ha : ∀ b o, A = some ⟨b, o, none⟩ → b ≠ a.block) (v : Value) : Bys (w.setCell a v) B A l := by
  refine ⟨h.1, fun h0 => ?_⟩
  obtain ⟨b, off, rfl, hlt, hc⟩ := h.2 h0
  refine ⟨b, off, rfl, hlt, fun k e he => ?_⟩
  rw [World.cell?_of_block (Below.heap_setCell w a v b (ha b off rfl))]
  exact hc k e he

set_option maxRecDepth 100000 in
set_option maxHeartbeats 4000000 in
theorem opens_ok (A : Option Addr) (a : List Nat) (c : Nat) (w : World) (ha : Bys w w.heap.size A a) (hm : a.length ≤ 2000) (hac : a.length ≤ c) :
    Calls Try.prog 6 #[.slice A a.length c] w fun e w' => e = .returned (.bool true) ∧ Below w.heap.size w w' := by
  obtain ⟨v1, w1, hr1, ho1, hb1⟩ := copy_run w A a c ha (by omega)
  obtain ⟨A1, c1, rfl, hc1, hm1⟩ := ho1.form
  have HR1 := Lib.hid hr1
  clear hr1 ho1
  obtain ⟨no, hno⟩ : ∃ s, okNo a = s := ⟨_, rfl⟩
  obtain ⟨ans, hans⟩ : ∃ s, okAns a = s := ⟨_, rfl⟩
  have hal := okAns_le a
  rw [hans] at hal
  have HO := fun A c w h1 h2 h3 => (OpenA_any A a c w h1 h2 h3)
  have HR := fun A c w h1 h2 h3 => (refOpenA_any A a c w h1 h2 h3)
  unfold OpenAns at HO HR
  rw [hno, hans] at HO HR
  clear hno hans
  have HO1 := Lib.hid HO
  have HR2 := Lib.hid HR
  clear HO HR
  go_enter Try.func6, Try.ntmps6
  go_wp2_with (at_builtin; refine Lib.wpList_append_run _ rfl _ _ _ _ rfl _ _ rfl rfl _ _ HR1.out ?_)
  refine (HO1.out A1 c1 w1 hm1 (by omega) hc1).mono ?_
  rintro e w2 ⟨vx, rfl, hown2, hb2⟩
  have hbw2 : Below w.heap.size w w2 := ext hb1 hb2
  go_wp2_with fail
  refine (HR2.out A c w2 (ha.grow hbw2) (by omega) hac).mono ?_
  rintro e w3 ⟨vw, rfl, hown3, hb3⟩
  have hbw3 : Below w.heap.size w w3 := ext hbw2 hb3
  have hb13 : Below w1.heap.size w1 w3 := ext hb2 hb3
  obtain ⟨Aw, cw, rfl, hcw, hbysw⟩ := hown3.form
  have hwb : ∀ b o, Aw = some ⟨b, o, none⟩ → w2.heap.size ≤ b := fun b o e => by subst e; exact (hown3.1.lt b rfl).1
  obtain ⟨X, cx, rfl, hcx, hX⟩ := hown2.formX (n := ans.length) rfl
  have hX3 : ans.length = 0 ∨ ∃ g, X = some ⟨g, 0, none⟩ ∧ w1.heap.size ≤ g ∧ g < w2.heap.size ∧ Row8 w3 g ans.length := by
    rcases hX with h | ⟨g, e, h1, h2, h3⟩
    · exact .inl h
    · exact .inr ⟨g, e, h1, h2, h3.below hb3 h2⟩
  have hnl : ans.length ≤ 2000 := by omega
  clear hX hown2 hown3 hb2 hb3 hbw3 HR2 HR1
  obtain ⟨n, hn⟩ : ∃ n, ans.length = n := ⟨_, rfl⟩
  have HN := Lib.hid hn
  rw [hn] at hX3 hnl hcx hcw hal ⊢
  clear hn
  go_wp2_with fail
  go_loopw [8] (fun i wr => ∃ (k : Nat), k ≤ n ∧ i = .int .i64 k ∧ Below w1.heap.size w1 wr ∧ Bys wr wr.heap.size Aw ans ∧ (n = 0 ∨ ∃ g, X = some ⟨g, 0, none⟩ ∧ w1.heap.size ≤ g ∧ g < w2.heap.size ∧ Row8 wr g n))
    (fun i _ => n - (intOf i).toNat)
  case atStart => exact ⟨0, Nat.zero_le _, rfl, hb13, hbysw, hX3⟩
  case round =>
    obtain ⟨k, hk, rfl, hbr, hbysr, hXr⟩ := hrel
    by_cases hlt : k < n
    · obtain ⟨g, rfl, hg1, hg2, hrow⟩ : ∃ g, X = some ⟨g, 0, none⟩ ∧ w1.heap.size ≤ g ∧ g < w2.heap.size ∧ Row8 wr g n := by
        rcases hXr with h | h
        · omega
        · exact h
      obtain ⟨c0, hcell, hc0⟩ := hrow.at_ hlt
      have hfr := hrow.frozen k
      clear hXr hX3
      go_wp2_with fail
      go_roundw
      case rel =>
        refine ⟨k + 1, by omega, by go_num, hbr.setCell hg1 _, ((hbysr.setCell_other (a := ⟨g, k, none⟩) (fun b o e => by have := hwb b o e; show b ≠ g; omega) _).mono (by simp [World.setCell])), .inr ⟨g, rfl, hg1, hg2, ?_⟩⟩
        have h2 := hrow.set_ k ((c0 + 1) % 256) (by omega)
        rw [show (((c0 + 1) % 256 : Nat) : Int) = ((c0 : Int) + 1) % 256 by omega] at h2
        exact h2
      case measure => simp [intOf]; omega
    · obtain rfl : k = n := by omega
      go_wp2_with fail
      refine (HO1.out A1 c1 _ (hm1.grow hbr) (by omega) hc1).mono ?_
      rintro e w5 ⟨vy, rfl, hown5, hb5⟩
      obtain ⟨Ay, cy, rfl, hcy, hbysy⟩ := hown5.formN HN.out
      have hbr5 : Below w1.heap.size w1 w5 := ext hbr hb5
      have hbysw5 := hbysr.grow hb5
      have hbysm5 := hm1.grow hbr5
      have hbw5 : Below w.heap.size w w5 := ext hb1 hbr5
      have hbysa5 := ha.grow hbw5
      have hcv1 := conv_any w5 w5.heap.size Ay ans cy hbysy
      have hcv2 := conv_any w5 w5.heap.size Aw ans cw hbysw5
      rw [HN.out] at hcv1 hcv2
      have hcv3 := conv_any w5 w5.heap.size A1 a c1 hbysm5
      have hcv4 := conv_any w5 w5.heap.size A a c hbysa5
      clear hbysw5 hbysm5 hbysa5 hbysy hown5 hb5 hbysr hbr hXr hX3 hbysw
      go_wp2_with (go_at_call 20; refine (num_any _ _).mono ?_; rintro e w6 ⟨rfl, rfl⟩)
      refine (works_any w5).mono ?_
      rintro e w6 ⟨rfl, hb6⟩
      go_wp2_with fail
      go_ret
      exact ⟨rfl, ext hbw5 hb6⟩
end Go.Proofs.Ytapfdbgplfonaaa
