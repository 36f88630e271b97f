import Derived.Test.YtghhffcdfbehcaaG
namespace Go.Proofs.Ytghhffcdfbehcaa
open Go.RowKit

/-- how things stand where the call is refused -/
def Refused (w : World) (a : Act) (w' : World) : Prop := Below w.heap.size w w' ∧ ∃ u0 u1 u2 u3 u4 u5 u6 u7 u8 u9 u10 u11 u12 u13 u14 u15 u16 u17 u18 u19 u20 u21 u22 : Value, a = { tmps := #[u0, u1, u2, u3, u4, u5, u6, u7, u8, u9, u10, u11, u12, u13, u14, u15, u16, u17, u18, u19, u20, u21, u22], defers := [] }

theorem refused_mk {w w' : World} {a : Act} (hb : Below w.heap.size w w') (u0 u1 u2 u3 u4 u5 u6 u7 u8 u9 u10 u11 u12 u13 u14 u15 u16 u17 u18 u19 u20 u21 u22 : Value) (h : a = { tmps := #[u0, u1, u2, u3, u4, u5, u6, u7, u8, u9, u10, u11, u12, u13, u14, u15, u16, u17, u18, u19, u20, u21, u22], defers := [] }) : Refused w a w' :=
  ⟨hb, u0, u1, u2, u3, u4, u5, u6, u7, u8, u9, u10, u11, u12, u13, u14, u15, u16, u17, u18, u19, u20, u21, u22, h⟩

theorem Fits_no (A : Option Addr) (l : List Ent) (c : Nat) (n x : Int) (w : World) (hl : Ents w w.heap.size A l) (hm : l.length ≤ 9223372036854775807) (h : n < 0 ∨ x < 0 ∨ may l = false) :
    Calls Try.prog 13 #[.slice A l.length c, .int .i64 n, .int .i64 x] w fun e w' => e = .returned (.tuple #[.bool false, .int .i64 2]) ∧ Below w.heap.size w w' := by
  have H := Lib.hid h
  clear h
  go_enter Try.func13, Try.ntmps13
  go_wp2_with fail
  refine wp_scope_jumps 0 (Refused w) (fun _ _ => 0) rfl ?_ ?_
  · by_cases hn : n < 0
    · go_wp2_with fail
      go_step3
      exact ⟨rfl, refused_mk (Below.refl _ _) _ _ _ _ _ _ _ _ _ _ _ _ _ _ _ _ _ _ _ _ _ _ _ rfl⟩
    · by_cases hx : x < 0
      · go_wp2_with fail
        go_step3
        exact ⟨rfl, refused_mk (Below.refl _ _) _ _ _ _ _ _ _ _ _ _ _ _ _ _ _ _ _ _ _ _ _ _ _ rfl⟩
      · have H1 := Lib.hid ((H.out.resolve_left hn).resolve_left hx)
        go_wp2_with fail
        refine (May_any A l c _ hl hm).mono ?_
        rintro e w1 ⟨rfl, hb1⟩
        rw [H1.out]
        go_wp2_with fail
        go_step3
        exact ⟨rfl, refused_mk hb1 _ _ _ _ _ _ _ _ _ _ _ _ _ _ _ _ _ _ _ _ _ _ _ rfl⟩
  · rintro a' w' ⟨hb, u0, u1, u2, u3, u4, u5, u6, u7, u8, u9, u10, u11, u12, u13, u14, u15, u16, u17, u18, u19, u20, u21, u22, rfl⟩
    go_wp2_with fail
    simp only [Exit.jump]
    go_ret2
    exact ⟨rfl, hb⟩

def fitsOk (l : List Ent) (n x : Int) : Bool := decide (0 ≤ n) && decide (0 ≤ x) && may l
def fitsV (l : List Ent) (n x : Int) : Bool := fitsOk l n x && fitsB l n.toNat x
def fitsE (l : List Ent) (n x : Int) : Int := if fitsOk l n x = true then 0 else 2

theorem Fits_any (A : Option Addr) (l : List Ent) (c : Nat) (n x : Int) (w : World) (hl : Ents w w.heap.size A l) (hm : l.length ≤ 9223372036854775807) (hlc : l.length ≤ c) :
    Calls Try.prog 13 #[.slice A l.length c, .int .i64 n, .int .i64 x] w fun e w' => e = .returned (.tuple #[.bool (fitsV l n x), .int .i64 (fitsE l n x)]) ∧ Below w.heap.size w w' := by
  unfold fitsV fitsE
  cases h : fitsOk l n x with
  | true =>
    have h2 := h
    simp [fitsOk] at h2
    obtain ⟨m, rfl⟩ := Int.eq_ofNat_of_zero_le h2.1.1
    simpa using Fits_yes A l c m x w hl hm hlc h2.1.2 h2.2
  | false =>
    have := Fits_no A l c n x w hl hm (by
      simp [fitsOk] at h
      by_cases hn : n < 0
      · exact .inl hn
      · by_cases hx : x < 0
        · exact .inr (.inl hx)
        · exact .inr (.inr (h (by omega) (by omega))))
    simpa using this
end Go.Proofs.Ytghhffcdfbehcaa
