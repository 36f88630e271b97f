/-
  No cell of these rows narrows 'for every input' (looked for: loops, veiled, ifaces, maps, wideKeys, modest, calm, conditions, laid).
  DERIVED. THE GIVEN ROWS OF THIS SEAT. 6 by the template 'for every input the law returns true; each argument reads behind the call as it read before'; 0 by the template 'total and deterministic' (their statements: YtghhffcdfbehcaaTotals.lean).
  GIVEN WITH THE SEED: the statements are not yours to turn. If you find one false, say at which input.
  Laid BY PROGRAM, IN A SANDBOX (cutbox-rows.mjs): the forced cells as the released guide's own fill.sh prints them over the translation fc99012687d5c2e7… (all of the seat's roots in one cut). By AI agents, Wed Nov 11 2026. No macro, syntax, notation, axiom, sorry.
-/
import Derived.Test.YtghhffcdfbehcaaChecked
import GoSem.Claim
import GoSem.ClaimJoined
import GoSem.ClaimMapViews
import Derived.JoinedTies
import Derived.KernelRfl
namespace Go.Proofs.Ytghhffcdfbehcaa
/- THE CELL 'sum', in the pinned program and in every row, IS THE sha256 OF THE DUMP (.gsa) THAT YtghhffcdfbehcaaProg.lean LOADS. Nothing in Lean hashes anything: it is a label: what it is worth is what the hold of that sum in a sandbox is worth. -/
noncomputable def Try.pinned : Pinned := { name := "ytghhffcdfbehcaa", sum := "fc99012687d5c2e78845788d72e84d9a75d6b15ab6b965827622da1352017dd5", checked := Try.checked }
namespace Rows
def none {H : Type} : Left H := { results := [], args := [] }

/-- 'waystationlaw07.EpochsEnds': WHATEVER THE INPUT: true; the input reads as it did. -/
def epochsEndsSpec : ChangeSpec := { name := "epochsEnds", fn := fun _ => fun
  | [d1, d2, d3] => { results := [.lit (.bool true)], args := [d1, d2, d3] }
  | _ => none }
def epochsEndsRow : OpenClaim := { program := "ytghhffcdfbehcaa", sum := "fc99012687d5c2e78845788d72e84d9a75d6b15ab6b965827622da1352017dd5", func := "waystation/waystationlaw07.EpochsEnds", spec := "epochsEnds", unfollowed := true, recurses := true, apart := false }
def EpochsEndsSaid : Prop := epochsEndsRow.holds Try.pinned (OpenSpec.ofChange epochsEndsSpec)

/-- ITS FALSE NEIGHBOUR: 'it returns false'. Refute it at one input. -/
def epochsEndsWrong : ChangeSpec := { name := "epochsEnds", fn := fun _ => fun
  | [d1, d2, d3] => { results := [.lit (.bool false)], args := [d1, d2, d3] }
  | _ => none }
def EpochsEndsWrongFalsely : Prop := epochsEndsRow.holds Try.pinned (OpenSpec.ofChange epochsEndsWrong)

/-- 'waystationlaw07.EpochsFits': WHATEVER THE INPUT: true; the input reads as it did. -/
def epochsFitsSpec : ChangeSpec := { name := "epochsFits", fn := fun _ => fun
  | [d1, d2, d3] => { results := [.lit (.bool true)], args := [d1, d2, d3] }
  | _ => none }
def epochsFitsRow : OpenClaim := { program := "ytghhffcdfbehcaa", sum := "fc99012687d5c2e78845788d72e84d9a75d6b15ab6b965827622da1352017dd5", func := "waystation/waystationlaw07.EpochsFits", spec := "epochsFits", unfollowed := true, recurses := true, apart := false }
def EpochsFitsSaid : Prop := epochsFitsRow.holds Try.pinned (OpenSpec.ofChange epochsFitsSpec)

/-- ITS FALSE NEIGHBOUR: 'it returns false'. Refute it at one input. -/
def epochsFitsWrong : ChangeSpec := { name := "epochsFits", fn := fun _ => fun
  | [d1, d2, d3] => { results := [.lit (.bool false)], args := [d1, d2, d3] }
  | _ => none }
def EpochsFitsWrongFalsely : Prop := epochsFitsRow.holds Try.pinned (OpenSpec.ofChange epochsFitsWrong)

/-- 'waystationlaw07.EpochsStarts': WHATEVER THE INPUT: true; the input reads as it did. -/
def epochsStartsSpec : ChangeSpec := { name := "epochsStarts", fn := fun _ => fun
  | [d] => { results := [.lit (.bool true)], args := [d] }
  | _ => none }
def epochsStartsRow : OpenClaim := { program := "ytghhffcdfbehcaa", sum := "fc99012687d5c2e78845788d72e84d9a75d6b15ab6b965827622da1352017dd5", func := "waystation/waystationlaw07.EpochsStarts", spec := "epochsStarts", unfollowed := true, recurses := true, apart := false }
def EpochsStartsSaid : Prop := epochsStartsRow.holds Try.pinned (OpenSpec.ofChange epochsStartsSpec)

/-- ITS FALSE NEIGHBOUR: 'it returns false'. Refute it at one input. -/
def epochsStartsWrong : ChangeSpec := { name := "epochsStarts", fn := fun _ => fun
  | [d] => { results := [.lit (.bool false)], args := [d] }
  | _ => none }
def EpochsStartsWrongFalsely : Prop := epochsStartsRow.holds Try.pinned (OpenSpec.ofChange epochsStartsWrong)

/-- 'waystationlaw07.EpochsMeet': WHATEVER THE INPUT: true; the input reads as it did. -/
def epochsMeetSpec : ChangeSpec := { name := "epochsMeet", fn := fun _ => fun
  | [d1, d2] => { results := [.lit (.bool true)], args := [d1, d2] }
  | _ => none }
def epochsMeetRow : OpenClaim := { program := "ytghhffcdfbehcaa", sum := "fc99012687d5c2e78845788d72e84d9a75d6b15ab6b965827622da1352017dd5", func := "waystation/waystationlaw07.EpochsMeet", spec := "epochsMeet", unfollowed := true, recurses := true, apart := false }
def EpochsMeetSaid : Prop := epochsMeetRow.holds Try.pinned (OpenSpec.ofChange epochsMeetSpec)

/-- ITS FALSE NEIGHBOUR: 'it returns false'. Refute it at one input. -/
def epochsMeetWrong : ChangeSpec := { name := "epochsMeet", fn := fun _ => fun
  | [d1, d2] => { results := [.lit (.bool false)], args := [d1, d2] }
  | _ => none }
def EpochsMeetWrongFalsely : Prop := epochsMeetRow.holds Try.pinned (OpenSpec.ofChange epochsMeetWrong)

/-- 'waystationlaw07.EpochsBranches': WHATEVER THE INPUT: true; the input reads as it did. -/
def epochsBranchesSpec : ChangeSpec := { name := "epochsBranches", fn := fun _ => fun
  | [d1, d2] => { results := [.lit (.bool true)], args := [d1, d2] }
  | _ => none }
def epochsBranchesRow : OpenClaim := { program := "ytghhffcdfbehcaa", sum := "fc99012687d5c2e78845788d72e84d9a75d6b15ab6b965827622da1352017dd5", func := "waystation/waystationlaw07.EpochsBranches", spec := "epochsBranches", unfollowed := true, recurses := true, apart := false }
def EpochsBranchesSaid : Prop := epochsBranchesRow.holds Try.pinned (OpenSpec.ofChange epochsBranchesSpec)

/-- ITS FALSE NEIGHBOUR: 'it returns false'. Refute it at one input. -/
def epochsBranchesWrong : ChangeSpec := { name := "epochsBranches", fn := fun _ => fun
  | [d1, d2] => { results := [.lit (.bool false)], args := [d1, d2] }
  | _ => none }
def EpochsBranchesWrongFalsely : Prop := epochsBranchesRow.holds Try.pinned (OpenSpec.ofChange epochsBranchesWrong)

/-- 'waystationlaw07.EpochsAsks': WHATEVER THE INPUT: true; the input reads as it did. -/
def epochsAsksSpec : ChangeSpec := { name := "epochsAsks", fn := fun _ => fun
  | [d1, d2, d3] => { results := [.lit (.bool true)], args := [d1, d2, d3] }
  | _ => none }
def epochsAsksRow : OpenClaim := { program := "ytghhffcdfbehcaa", sum := "fc99012687d5c2e78845788d72e84d9a75d6b15ab6b965827622da1352017dd5", func := "waystation/waystationlaw07.EpochsAsks", spec := "epochsAsks", unfollowed := true, recurses := true, apart := false }
def EpochsAsksSaid : Prop := epochsAsksRow.holds Try.pinned (OpenSpec.ofChange epochsAsksSpec)

/-- ITS FALSE NEIGHBOUR: 'it returns false'. Refute it at one input. -/
def epochsAsksWrong : ChangeSpec := { name := "epochsAsks", fn := fun _ => fun
  | [d1, d2, d3] => { results := [.lit (.bool false)], args := [d1, d2, d3] }
  | _ => none }
def EpochsAsksWrongFalsely : Prop := epochsAsksRow.holds Try.pinned (OpenSpec.ofChange epochsAsksWrong)

/- THE SECOND FORM. 'bulk': how many values and letters a reading holds, each counted each time it is reached (what is shared counts as often as it is met; a slice's spare places count too). A statement '..UptoSaid' is the law's where the arguments, and the package variables that the reading takes, are together of bulk at most 1048576: NARROWER than '..Said'. Prove '..Said' where nothing that the law and all that it calls make is longer than what came in: it says more and counts as full. Else prove '..UptoSaid'. A law counts once. -/
mutual
def uptoBulk {H : Type} : DataW H → Nat
  | .lit (.string bytes) => bytes.length + 1
  | .lit _ => 1
  | .nil => 1
  | .ptr d => uptoBulk d + 1
  | .slice elems spare => uptoBulkAll elems + uptoBulkAll spare + 1
  | .agg parts => uptoBulkAll parts + 1
  | .iface _ d => uptoBulk d + 1
  | .map entries => uptoBulkEntries entries + 1
  | .held _ => 1
def uptoBulkAll {H : Type} : List (DataW H) → Nat
  | [] => 0
  | d :: r => uptoBulk d + uptoBulkAll r
def uptoBulkEntries {H : Type} : List (Lit × DataW H) → Nat
  | [] => 0
  | x :: r => uptoBulkEntry x + uptoBulkEntries r
def uptoBulkEntry {H : Type} : Lit × DataW H → Nat
  | (.string bytes, d) => bytes.length + uptoBulk d + 1
  | (_, d) => uptoBulk d + 1
 end
def uptoSmall : (H : Type) → List (DataW H) → Bool := fun _ ds => decide (uptoBulkAll ds ≤ 1048576)
def OpenSpec.upto (s : _root_.Go.ChangeSpec) : _root_.Go.OpenSpec := { _root_.Go.OpenSpec.ofChange s with cond := some uptoSmall }

/-- 'waystationlaw07.EpochsEnds', WHERE WHAT IT READS IS OF BULK AT MOST 1048576: true; the input reads as it did. -/
def epochsEndsUptoRow : OpenClaim := { program := "ytghhffcdfbehcaa", sum := "fc99012687d5c2e78845788d72e84d9a75d6b15ab6b965827622da1352017dd5", func := "waystation/waystationlaw07.EpochsEnds", spec := "epochsEnds", unfollowed := true, recurses := true, apart := false, narrowed := true }
def EpochsEndsUptoSaid : Prop := epochsEndsUptoRow.holds Try.pinned (OpenSpec.upto epochsEndsSpec)

/-- 'waystationlaw07.EpochsFits', WHERE WHAT IT READS IS OF BULK AT MOST 1048576: true; the input reads as it did. -/
def epochsFitsUptoRow : OpenClaim := { program := "ytghhffcdfbehcaa", sum := "fc99012687d5c2e78845788d72e84d9a75d6b15ab6b965827622da1352017dd5", func := "waystation/waystationlaw07.EpochsFits", spec := "epochsFits", unfollowed := true, recurses := true, apart := false, narrowed := true }
def EpochsFitsUptoSaid : Prop := epochsFitsUptoRow.holds Try.pinned (OpenSpec.upto epochsFitsSpec)

/-- 'waystationlaw07.EpochsStarts', WHERE WHAT IT READS IS OF BULK AT MOST 1048576: true; the input reads as it did. -/
def epochsStartsUptoRow : OpenClaim := { program := "ytghhffcdfbehcaa", sum := "fc99012687d5c2e78845788d72e84d9a75d6b15ab6b965827622da1352017dd5", func := "waystation/waystationlaw07.EpochsStarts", spec := "epochsStarts", unfollowed := true, recurses := true, apart := false, narrowed := true }
def EpochsStartsUptoSaid : Prop := epochsStartsUptoRow.holds Try.pinned (OpenSpec.upto epochsStartsSpec)

/-- 'waystationlaw07.EpochsMeet', WHERE WHAT IT READS IS OF BULK AT MOST 1048576: true; the input reads as it did. -/
def epochsMeetUptoRow : OpenClaim := { program := "ytghhffcdfbehcaa", sum := "fc99012687d5c2e78845788d72e84d9a75d6b15ab6b965827622da1352017dd5", func := "waystation/waystationlaw07.EpochsMeet", spec := "epochsMeet", unfollowed := true, recurses := true, apart := false, narrowed := true }
def EpochsMeetUptoSaid : Prop := epochsMeetUptoRow.holds Try.pinned (OpenSpec.upto epochsMeetSpec)

/-- 'waystationlaw07.EpochsBranches', WHERE WHAT IT READS IS OF BULK AT MOST 1048576: true; the input reads as it did. -/
def epochsBranchesUptoRow : OpenClaim := { program := "ytghhffcdfbehcaa", sum := "fc99012687d5c2e78845788d72e84d9a75d6b15ab6b965827622da1352017dd5", func := "waystation/waystationlaw07.EpochsBranches", spec := "epochsBranches", unfollowed := true, recurses := true, apart := false, narrowed := true }
def EpochsBranchesUptoSaid : Prop := epochsBranchesUptoRow.holds Try.pinned (OpenSpec.upto epochsBranchesSpec)

/-- 'waystationlaw07.EpochsAsks', WHERE WHAT IT READS IS OF BULK AT MOST 1048576: true; the input reads as it did. -/
def epochsAsksUptoRow : OpenClaim := { program := "ytghhffcdfbehcaa", sum := "fc99012687d5c2e78845788d72e84d9a75d6b15ab6b965827622da1352017dd5", func := "waystation/waystationlaw07.EpochsAsks", spec := "epochsAsks", unfollowed := true, recurses := true, apart := false, narrowed := true }
def EpochsAsksUptoSaid : Prop := epochsAsksUptoRow.holds Try.pinned (OpenSpec.upto epochsAsksSpec)

end Rows
end Go.Proofs.Ytghhffcdfbehcaa
