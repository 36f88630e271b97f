/-
  No cell of these rows narrows 'for every input' (looked for: loops, veiled, ifaces, maps, wideKeys, modest, calm, conditions, laid).
  DERIVED. THE GIVEN ROWS OF THIS SEAT. 8 by the template 'for every input the law returns true; each argument reads behind the call as it read before'; 0 by the template 'total and deterministic' (their statements: YtapfdbgplfonaaaTotals.lean).
  GIVEN WITH THE SEED: the statements are not yours to turn. If you find one false, say at which input.
  Laid BY PROGRAM, IN A SANDBOX (cutbox-rows.mjs): the forced cells as the released guide's own fill.sh prints them over the translation 97e2085da6e31c37… (all of the seat's roots in one cut). By AI agents, Wed Nov 11 2026. No macro, syntax, notation, axiom, sorry.
-/
import Derived.Test.YtapfdbgplfonaaaChecked
import GoSem.Claim
import GoSem.ClaimJoined
import GoSem.ClaimMapViews
import Derived.JoinedTies
import Derived.KernelRfl
namespace Go.Proofs.Ytapfdbgplfonaaa
/- THE CELL 'sum', in the pinned program and in every row, IS THE sha256 OF THE DUMP (.gsa) THAT YtapfdbgplfonaaaProg.lean LOADS. Nothing in Lean hashes anything: it is a label: what it is worth is what the hold of that sum in a sandbox is worth. -/
noncomputable def Try.pinned : Pinned := { name := "ytapfdbgplfonaaa", sum := "97e2085da6e31c377486d06583544a0e17509db6cdfc48d7bf7944c6876c005b", checked := Try.checked }
namespace Rows
def none {H : Type} : Left H := { results := [], args := [] }

/-- 'waystationlaw01.SumsSums': WHATEVER THE INPUT: true; the input reads as it did. -/
def sumsSumsSpec : ChangeSpec := { name := "sumsSums", fn := fun _ => fun
  | [d1, d2] => { results := [.lit (.bool true)], args := [d1, d2] }
  | _ => none }
def sumsSumsRow : OpenClaim := { program := "ytapfdbgplfonaaa", sum := "97e2085da6e31c377486d06583544a0e17509db6cdfc48d7bf7944c6876c005b", func := "waystation/waystationlaw01.SumsSums", spec := "sumsSums", unfollowed := true, recurses := true, apart := false }
def SumsSumsSaid : Prop := sumsSumsRow.holds Try.pinned (OpenSpec.ofChange sumsSumsSpec)

/-- ITS FALSE NEIGHBOUR: 'it returns false'. Refute it at one input. -/
def sumsSumsWrong : ChangeSpec := { name := "sumsSums", fn := fun _ => fun
  | [d1, d2] => { results := [.lit (.bool false)], args := [d1, d2] }
  | _ => none }
def SumsSumsWrongFalsely : Prop := sumsSumsRow.holds Try.pinned (OpenSpec.ofChange sumsSumsWrong)

/-- 'waystationlaw01.SumsMore': WHATEVER THE INPUT: true; the input reads as it did. -/
def sumsMoreSpec : ChangeSpec := { name := "sumsMore", fn := fun _ => fun
  | [d1, d2] => { results := [.lit (.bool true)], args := [d1, d2] }
  | _ => none }
def sumsMoreRow : OpenClaim := { program := "ytapfdbgplfonaaa", sum := "97e2085da6e31c377486d06583544a0e17509db6cdfc48d7bf7944c6876c005b", func := "waystation/waystationlaw01.SumsMore", spec := "sumsMore", unfollowed := true, recurses := true, apart := false }
def SumsMoreSaid : Prop := sumsMoreRow.holds Try.pinned (OpenSpec.ofChange sumsMoreSpec)

/-- ITS FALSE NEIGHBOUR: 'it returns false'. Refute it at one input. -/
def sumsMoreWrong : ChangeSpec := { name := "sumsMore", fn := fun _ => fun
  | [d1, d2] => { results := [.lit (.bool false)], args := [d1, d2] }
  | _ => none }
def SumsMoreWrongFalsely : Prop := sumsMoreRow.holds Try.pinned (OpenSpec.ofChange sumsMoreWrong)

/-- 'waystationlaw01.SumsSeals': WHATEVER THE INPUT: true; the input reads as it did. -/
def sumsSealsSpec : ChangeSpec := { name := "sumsSeals", fn := fun _ => fun
  | [d] => { results := [.lit (.bool true)], args := [d] }
  | _ => none }
def sumsSealsRow : OpenClaim := { program := "ytapfdbgplfonaaa", sum := "97e2085da6e31c377486d06583544a0e17509db6cdfc48d7bf7944c6876c005b", func := "waystation/waystationlaw01.SumsSeals", spec := "sumsSeals", unfollowed := true, recurses := true, apart := false }
def SumsSealsSaid : Prop := sumsSealsRow.holds Try.pinned (OpenSpec.ofChange sumsSealsSpec)

/-- ITS FALSE NEIGHBOUR: 'it returns false'. Refute it at one input. -/
def sumsSealsWrong : ChangeSpec := { name := "sumsSeals", fn := fun _ => fun
  | [d] => { results := [.lit (.bool false)], args := [d] }
  | _ => none }
def SumsSealsWrongFalsely : Prop := sumsSealsRow.holds Try.pinned (OpenSpec.ofChange sumsSealsWrong)

/-- 'waystationlaw01.SumsOpens': WHATEVER THE INPUT: true; the input reads as it did. -/
def sumsOpensSpec : ChangeSpec := { name := "sumsOpens", fn := fun _ => fun
  | [d] => { results := [.lit (.bool true)], args := [d] }
  | _ => none }
def sumsOpensRow : OpenClaim := { program := "ytapfdbgplfonaaa", sum := "97e2085da6e31c377486d06583544a0e17509db6cdfc48d7bf7944c6876c005b", func := "waystation/waystationlaw01.SumsOpens", spec := "sumsOpens", unfollowed := true, recurses := true, apart := false }
def SumsOpensSaid : Prop := sumsOpensRow.holds Try.pinned (OpenSpec.ofChange sumsOpensSpec)

/-- ITS FALSE NEIGHBOUR: 'it returns false'. Refute it at one input. -/
def sumsOpensWrong : ChangeSpec := { name := "sumsOpens", fn := fun _ => fun
  | [d] => { results := [.lit (.bool false)], args := [d] }
  | _ => none }
def SumsOpensWrongFalsely : Prop := sumsOpensRow.holds Try.pinned (OpenSpec.ofChange sumsOpensWrong)

/-- 'waystationlaw01.SumsBits': WHATEVER THE INPUT: true; the input reads as it did. -/
def sumsBitsSpec : ChangeSpec := { name := "sumsBits", fn := fun _ => fun
  | [d1, d2, d3] => { results := [.lit (.bool true)], args := [d1, d2, d3] }
  | _ => none }
def sumsBitsRow : OpenClaim := { program := "ytapfdbgplfonaaa", sum := "97e2085da6e31c377486d06583544a0e17509db6cdfc48d7bf7944c6876c005b", func := "waystation/waystationlaw01.SumsBits", spec := "sumsBits", unfollowed := true, recurses := true, apart := false }
def SumsBitsSaid : Prop := sumsBitsRow.holds Try.pinned (OpenSpec.ofChange sumsBitsSpec)

/-- ITS FALSE NEIGHBOUR: 'it returns false'. Refute it at one input. -/
def sumsBitsWrong : ChangeSpec := { name := "sumsBits", fn := fun _ => fun
  | [d1, d2, d3] => { results := [.lit (.bool false)], args := [d1, d2, d3] }
  | _ => none }
def SumsBitsWrongFalsely : Prop := sumsBitsRow.holds Try.pinned (OpenSpec.ofChange sumsBitsWrong)

/-- 'waystationlaw01.SumsNoughts': WHATEVER THE INPUT: true; the input reads as it did. -/
def sumsNoughtsSpec : ChangeSpec := { name := "sumsNoughts", fn := fun _ => fun
  | [d1, d2] => { results := [.lit (.bool true)], args := [d1, d2] }
  | _ => none }
def sumsNoughtsRow : OpenClaim := { program := "ytapfdbgplfonaaa", sum := "97e2085da6e31c377486d06583544a0e17509db6cdfc48d7bf7944c6876c005b", func := "waystation/waystationlaw01.SumsNoughts", spec := "sumsNoughts", unfollowed := true, recurses := true, apart := false }
def SumsNoughtsSaid : Prop := sumsNoughtsRow.holds Try.pinned (OpenSpec.ofChange sumsNoughtsSpec)

/-- ITS FALSE NEIGHBOUR: 'it returns false'. Refute it at one input. -/
def sumsNoughtsWrong : ChangeSpec := { name := "sumsNoughts", fn := fun _ => fun
  | [d1, d2] => { results := [.lit (.bool false)], args := [d1, d2] }
  | _ => none }
def SumsNoughtsWrongFalsely : Prop := sumsNoughtsRow.holds Try.pinned (OpenSpec.ofChange sumsNoughtsWrong)

/-- 'waystationlaw01.SumsTurned': WHATEVER THE INPUT: true; the input reads as it did. -/
def sumsTurnedSpec : ChangeSpec := { name := "sumsTurned", fn := fun _ => fun
  | [d1, d2, d3] => { results := [.lit (.bool true)], args := [d1, d2, d3] }
  | _ => none }
def sumsTurnedRow : OpenClaim := { program := "ytapfdbgplfonaaa", sum := "97e2085da6e31c377486d06583544a0e17509db6cdfc48d7bf7944c6876c005b", func := "waystation/waystationlaw01.SumsTurned", spec := "sumsTurned", unfollowed := true, recurses := true, apart := false }
def SumsTurnedSaid : Prop := sumsTurnedRow.holds Try.pinned (OpenSpec.ofChange sumsTurnedSpec)

/-- ITS FALSE NEIGHBOUR: 'it returns false'. Refute it at one input. -/
def sumsTurnedWrong : ChangeSpec := { name := "sumsTurned", fn := fun _ => fun
  | [d1, d2, d3] => { results := [.lit (.bool false)], args := [d1, d2, d3] }
  | _ => none }
def SumsTurnedWrongFalsely : Prop := sumsTurnedRow.holds Try.pinned (OpenSpec.ofChange sumsTurnedWrong)

/-- 'waystationlaw01.SumsParts': WHATEVER THE INPUT: true; the input reads as it did. -/
def sumsPartsSpec : ChangeSpec := { name := "sumsParts", fn := fun _ => fun
  | [d] => { results := [.lit (.bool true)], args := [d] }
  | _ => none }
def sumsPartsRow : OpenClaim := { program := "ytapfdbgplfonaaa", sum := "97e2085da6e31c377486d06583544a0e17509db6cdfc48d7bf7944c6876c005b", func := "waystation/waystationlaw01.SumsParts", spec := "sumsParts", unfollowed := true, recurses := true, apart := false }
def SumsPartsSaid : Prop := sumsPartsRow.holds Try.pinned (OpenSpec.ofChange sumsPartsSpec)

/-- ITS FALSE NEIGHBOUR: 'it returns false'. Refute it at one input. -/
def sumsPartsWrong : ChangeSpec := { name := "sumsParts", fn := fun _ => fun
  | [d] => { results := [.lit (.bool false)], args := [d] }
  | _ => none }
def SumsPartsWrongFalsely : Prop := sumsPartsRow.holds Try.pinned (OpenSpec.ofChange sumsPartsWrong)

/- THE SECOND FORM. 'bulk': how many values and letters a reading holds, each counted each time it is reached (what is shared counts as often as it is met; a slice's spare places count too). A statement '..UptoSaid' is the law's where the arguments, and the package variables that the reading takes, are together of bulk at most 1048576: NARROWER than '..Said'. Prove '..Said' where nothing that the law and all that it calls make is longer than what came in: it says more and counts as full. Else prove '..UptoSaid'. A law counts once. -/
mutual
def uptoBulk {H : Type} : DataW H → Nat
  | .lit (.string bytes) => bytes.length + 1
  | .lit _ => 1
  | .nil => 1
  | .ptr d => uptoBulk d + 1
  | .slice elems spare => uptoBulkAll elems + uptoBulkAll spare + 1
  | .agg parts => uptoBulkAll parts + 1
  | .iface _ d => uptoBulk d + 1
  | .map entries => uptoBulkEntries entries + 1
  | .held _ => 1
def uptoBulkAll {H : Type} : List (DataW H) → Nat
  | [] => 0
  | d :: r => uptoBulk d + uptoBulkAll r
def uptoBulkEntries {H : Type} : List (Lit × DataW H) → Nat
  | [] => 0
  | x :: r => uptoBulkEntry x + uptoBulkEntries r
def uptoBulkEntry {H : Type} : Lit × DataW H → Nat
  | (.string bytes, d) => bytes.length + uptoBulk d + 1
  | (_, d) => uptoBulk d + 1
 end
def uptoSmall : (H : Type) → List (DataW H) → Bool := fun _ ds => decide (uptoBulkAll ds ≤ 1048576)
def OpenSpec.upto (s : _root_.Go.ChangeSpec) : _root_.Go.OpenSpec := { _root_.Go.OpenSpec.ofChange s with cond := some uptoSmall }

/-- 'waystationlaw01.SumsSums', WHERE WHAT IT READS IS OF BULK AT MOST 1048576: true; the input reads as it did. -/
def sumsSumsUptoRow : OpenClaim := { program := "ytapfdbgplfonaaa", sum := "97e2085da6e31c377486d06583544a0e17509db6cdfc48d7bf7944c6876c005b", func := "waystation/waystationlaw01.SumsSums", spec := "sumsSums", unfollowed := true, recurses := true, apart := false, narrowed := true }
def SumsSumsUptoSaid : Prop := sumsSumsUptoRow.holds Try.pinned (OpenSpec.upto sumsSumsSpec)

/-- 'waystationlaw01.SumsMore', WHERE WHAT IT READS IS OF BULK AT MOST 1048576: true; the input reads as it did. -/
def sumsMoreUptoRow : OpenClaim := { program := "ytapfdbgplfonaaa", sum := "97e2085da6e31c377486d06583544a0e17509db6cdfc48d7bf7944c6876c005b", func := "waystation/waystationlaw01.SumsMore", spec := "sumsMore", unfollowed := true, recurses := true, apart := false, narrowed := true }
def SumsMoreUptoSaid : Prop := sumsMoreUptoRow.holds Try.pinned (OpenSpec.upto sumsMoreSpec)

/-- 'waystationlaw01.SumsSeals', WHERE WHAT IT READS IS OF BULK AT MOST 1048576: true; the input reads as it did. -/
def sumsSealsUptoRow : OpenClaim := { program := "ytapfdbgplfonaaa", sum := "97e2085da6e31c377486d06583544a0e17509db6cdfc48d7bf7944c6876c005b", func := "waystation/waystationlaw01.SumsSeals", spec := "sumsSeals", unfollowed := true, recurses := true, apart := false, narrowed := true }
def SumsSealsUptoSaid : Prop := sumsSealsUptoRow.holds Try.pinned (OpenSpec.upto sumsSealsSpec)

/-- 'waystationlaw01.SumsOpens', WHERE WHAT IT READS IS OF BULK AT MOST 1048576: true; the input reads as it did. -/
def sumsOpensUptoRow : OpenClaim := { program := "ytapfdbgplfonaaa", sum := "97e2085da6e31c377486d06583544a0e17509db6cdfc48d7bf7944c6876c005b", func := "waystation/waystationlaw01.SumsOpens", spec := "sumsOpens", unfollowed := true, recurses := true, apart := false, narrowed := true }
def SumsOpensUptoSaid : Prop := sumsOpensUptoRow.holds Try.pinned (OpenSpec.upto sumsOpensSpec)

/-- 'waystationlaw01.SumsBits', WHERE WHAT IT READS IS OF BULK AT MOST 1048576: true; the input reads as it did. -/
def sumsBitsUptoRow : OpenClaim := { program := "ytapfdbgplfonaaa", sum := "97e2085da6e31c377486d06583544a0e17509db6cdfc48d7bf7944c6876c005b", func := "waystation/waystationlaw01.SumsBits", spec := "sumsBits", unfollowed := true, recurses := true, apart := false, narrowed := true }
def SumsBitsUptoSaid : Prop := sumsBitsUptoRow.holds Try.pinned (OpenSpec.upto sumsBitsSpec)

/-- 'waystationlaw01.SumsNoughts', WHERE WHAT IT READS IS OF BULK AT MOST 1048576: true; the input reads as it did. -/
def sumsNoughtsUptoRow : OpenClaim := { program := "ytapfdbgplfonaaa", sum := "97e2085da6e31c377486d06583544a0e17509db6cdfc48d7bf7944c6876c005b", func := "waystation/waystationlaw01.SumsNoughts", spec := "sumsNoughts", unfollowed := true, recurses := true, apart := false, narrowed := true }
def SumsNoughtsUptoSaid : Prop := sumsNoughtsUptoRow.holds Try.pinned (OpenSpec.upto sumsNoughtsSpec)

/-- 'waystationlaw01.SumsTurned', WHERE WHAT IT READS IS OF BULK AT MOST 1048576: true; the input reads as it did. -/
def sumsTurnedUptoRow : OpenClaim := { program := "ytapfdbgplfonaaa", sum := "97e2085da6e31c377486d06583544a0e17509db6cdfc48d7bf7944c6876c005b", func := "waystation/waystationlaw01.SumsTurned", spec := "sumsTurned", unfollowed := true, recurses := true, apart := false, narrowed := true }
def SumsTurnedUptoSaid : Prop := sumsTurnedUptoRow.holds Try.pinned (OpenSpec.upto sumsTurnedSpec)

/-- 'waystationlaw01.SumsParts', WHERE WHAT IT READS IS OF BULK AT MOST 1048576: true; the input reads as it did. -/
def sumsPartsUptoRow : OpenClaim := { program := "ytapfdbgplfonaaa", sum := "97e2085da6e31c377486d06583544a0e17509db6cdfc48d7bf7944c6876c005b", func := "waystation/waystationlaw01.SumsParts", spec := "sumsParts", unfollowed := true, recurses := true, apart := false, narrowed := true }
def SumsPartsUptoSaid : Prop := sumsPartsUptoRow.holds Try.pinned (OpenSpec.upto sumsPartsSpec)

end Rows
end Go.Proofs.Ytapfdbgplfonaaa
