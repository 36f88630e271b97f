import Derived.Test.YtdoidfnfhidgdaaK
import Derived.Lib.SlBytesConst
namespace Go.Proofs.Ytdoidfnfhidgdaa
open Go.RowKit

/-! ### strings of bytes -/
def str (bs : List Nat) : ByteArray := strOfNums (bs.map fun (c : Nat) => (c : Int))
set_option maxRecDepth 100000 in
theorem str_list (bs : List Nat) : (str bs).data.toList = bs.map UInt8.ofNat := by simp [str, strOfNums]
set_option maxRecDepth 100000 in
theorem toList_data (b : ByteArray) : b.toList = b.data.toList := by
  exact ByteArray.toList_eq b
set_option maxRecDepth 100000 in
theorem str_inj {a b : List Nat} (ha : ∀ c ∈ a, c < 256) (hb : ∀ c ∈ b, c < 256) (h : (str a).data.toList = (str b).data.toList) : a = b := by
  rw [str_list, str_list] at h
  have h2 := congrArg (List.map UInt8.toNat) h
  simp only [List.map_map] at h2
  have key : ∀ l : List Nat, (∀ c ∈ l, c < 256) → l.map (UInt8.toNat ∘ UInt8.ofNat) = l := by
    intro l hl
    induction l with
    | nil => rfl
    | cons x r ih =>
      rw [List.map_cons, ih (fun c hc => hl c (List.mem_cons_of_mem _ hc))]
      congr 1
      simp only [Function.comp, UInt8.toNat_ofNat']
      exact Nat.mod_eq_of_lt (hl x (by simp))
  rw [key a ha, key b hb] at h2
  exact h2
set_option maxRecDepth 100000 in
theorem str_eq {a b : List Nat} (ha : ∀ c ∈ a, c < 256) (hb : ∀ c ∈ b, c < 256) : ((str a).toList == (str b).toList) = decide (a = b) := by
  rw [toList_data, toList_data, Bool.eq_iff_iff, beq_iff_eq, decide_eq_true_iff]
  exact ⟨str_inj ha hb, fun h => by rw [h]⟩

set_option maxRecDepth 100000 in
theorem conv_any (w : World) (B : Nat) (A : Option Addr) (bs : List Nat) (c : Nat) (h : Bys w B A bs) :
    (convert 25 9 (.slice A bs.length c)).run Try.prog w = .ok (.string (str bs)) w := by
  rcases bs with _ | ⟨x, r⟩
  · rcases A with _ | a
    · exact run_convert_bytes_nil w 25 5 Try.underlying25 Try.underlying5 0 c 9 Try.underlying9
    · rw [run_convert_bytes_string w 25 9 5 _ _ c Try.underlying25 Try.underlying5 Try.underlying9]
      have := run_bytesToString (P := Try.prog) w a 0 c [] (run_loadCells_list (P := Try.prog) w a [] (fun j v hj => by simp at hj))
      exact this
  · obtain ⟨b, off, rfl, _, hc⟩ := h.2 (by simp)
    refine run_convert_bytes_arg w 25 5 Try.underlying25 Try.underlying5 b off _ c _ (by simp) ?_ 9 Try.underlying9
    intro i hi
    rw [hc i _ (List.getElem?_eq_getElem hi)]
    have e : ((x :: r).map fun (c : Nat) => (c : Int)).getD i 0 = (((x :: r)[i] : Nat) : Int) := by
      rw [List.getD_eq_getElem?_getD, List.getElem?_map, List.getElem?_eq_getElem hi]; rfl
    rw [e]

set_option maxRecDepth 100000 in
theorem num_any (n : Int) (w : World) : Calls Try.prog 16 #[.int .i64 n] w fun e w' => e = .returned (.int .i64 n) ∧ w = w' := by
  go_enter Try.func16, Try.ntmps16
  go_wp2
  go_ret
  exact ⟨rfl, rfl⟩

/-! ### the reference -/
theorem xor_any (a b : Nat) (ha : a < 4294967296) (hb : b < 4294967296) (w : World) : Calls Try.prog 85 #[.int .u32 a, .int .u32 b] w fun e w' => e = .returned (.int .u32 (a ^^^ b : Nat)) ∧ w = w' := by
  have h := u32_xor_nat a b ha hb
  go_enter Try.func85, Try.ntmps85
  go_wp2
  go_ret
  exact ⟨rfl, rfl⟩
end Go.Proofs.Ytdoidfnfhidgdaa
