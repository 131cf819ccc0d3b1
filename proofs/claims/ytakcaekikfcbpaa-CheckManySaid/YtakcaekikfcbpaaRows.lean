/-
  NARROWER THAN 'FOR EVERY INPUT', by the rows' own cells (each row's printed sentence says how): CheckSays: loops · CheckAhead: loops · CheckRenames: loops.
  DERIVED. THE GIVEN ROWS OF THIS SEAT. 5 by the template 'for every input the law returns true; each argument reads behind the call as it read before'; 0 by the template 'total and deterministic' (their statements: YtakcaekikfcbpaaTotals.lean).
  GIVEN WITH THE SEED: the statements are not yours to turn. If you find one false, say at which input.
  Laid BY PROGRAM, IN A SANDBOX (cutbox-rows.mjs): the forced cells as the released guide's own fill.sh prints them over the translation 3f23217309d8f71d… (all of the seat's roots in one cut). By AI agents, Wed Nov 11 2026. No macro, syntax, notation, axiom, sorry.
-/
import Derived.Test.YtakcaekikfcbpaaChecked
import GoSem.Claim
import GoSem.ClaimJoined
import GoSem.ClaimMapViews
import Derived.JoinedTies
import Derived.KernelRfl
namespace Go.Proofs.Ytakcaekikfcbpaa
/- THE CELL 'sum', in the pinned program and in every row, IS THE sha256 OF THE DUMP (.gsa) THAT YtakcaekikfcbpaaProg.lean LOADS. Nothing in Lean hashes anything: it is a label: what it is worth is what the hold of that sum in a sandbox is worth. -/
noncomputable def Try.pinned : Pinned := { name := "ytakcaekikfcbpaa", sum := "3f23217309d8f71d8ea75fef3be5d32dc422ad6a209f84a4135e0ba328d16e1f", checked := Try.checked }
namespace Rows
def none {H : Type} : Left H := { results := [], args := [] }

/-- 'theodolitelaw13.CheckSays': WHATEVER THE INPUT: true; the input reads as it did. -/
def checkSaysSpec : ChangeSpec := { name := "checkSays", fn := fun _ => fun
  | [d1, d2, d3, d4] => { results := [.lit (.bool true)], args := [d1, d2, d3, d4] }
  | _ => none }
def checkSaysRow : OpenClaim := { program := "ytakcaekikfcbpaa", sum := "3f23217309d8f71d8ea75fef3be5d32dc422ad6a209f84a4135e0ba328d16e1f", func := "theodolite/theodolitelaw13.CheckSays", spec := "checkSays", unfollowed := true, recurses := true, loops := true, apart := false }
def CheckSaysSaid : Prop := checkSaysRow.holds Try.pinned (OpenSpec.ofChange checkSaysSpec)

/-- ITS FALSE NEIGHBOUR: 'it returns false'. Refute it at one input. -/
def checkSaysWrong : ChangeSpec := { name := "checkSays", fn := fun _ => fun
  | [d1, d2, d3, d4] => { results := [.lit (.bool false)], args := [d1, d2, d3, d4] }
  | _ => none }
def CheckSaysWrongFalsely : Prop := checkSaysRow.holds Try.pinned (OpenSpec.ofChange checkSaysWrong)

/-- 'theodolitelaw13.CheckAhead': WHATEVER THE INPUT: true; the input reads as it did. -/
def checkAheadSpec : ChangeSpec := { name := "checkAhead", fn := fun _ => fun
  | [d1, d2] => { results := [.lit (.bool true)], args := [d1, d2] }
  | _ => none }
def checkAheadRow : OpenClaim := { program := "ytakcaekikfcbpaa", sum := "3f23217309d8f71d8ea75fef3be5d32dc422ad6a209f84a4135e0ba328d16e1f", func := "theodolite/theodolitelaw13.CheckAhead", spec := "checkAhead", unfollowed := true, recurses := true, loops := true, apart := false }
def CheckAheadSaid : Prop := checkAheadRow.holds Try.pinned (OpenSpec.ofChange checkAheadSpec)

/-- ITS FALSE NEIGHBOUR: 'it returns false'. Refute it at one input. -/
def checkAheadWrong : ChangeSpec := { name := "checkAhead", fn := fun _ => fun
  | [d1, d2] => { results := [.lit (.bool false)], args := [d1, d2] }
  | _ => none }
def CheckAheadWrongFalsely : Prop := checkAheadRow.holds Try.pinned (OpenSpec.ofChange checkAheadWrong)

/-- 'theodolitelaw13.CheckFlow': WHATEVER THE INPUT: true; the input reads as it did. -/
def checkFlowSpec : ChangeSpec := { name := "checkFlow", fn := fun _ => fun
  | [d1, d2] => { results := [.lit (.bool true)], args := [d1, d2] }
  | _ => none }
def checkFlowRow : OpenClaim := { program := "ytakcaekikfcbpaa", sum := "3f23217309d8f71d8ea75fef3be5d32dc422ad6a209f84a4135e0ba328d16e1f", func := "theodolite/theodolitelaw13.CheckFlow", spec := "checkFlow", unfollowed := true, recurses := true, apart := false }
def CheckFlowSaid : Prop := checkFlowRow.holds Try.pinned (OpenSpec.ofChange checkFlowSpec)

/-- ITS FALSE NEIGHBOUR: 'it returns false'. Refute it at one input. -/
def checkFlowWrong : ChangeSpec := { name := "checkFlow", fn := fun _ => fun
  | [d1, d2] => { results := [.lit (.bool false)], args := [d1, d2] }
  | _ => none }
def CheckFlowWrongFalsely : Prop := checkFlowRow.holds Try.pinned (OpenSpec.ofChange checkFlowWrong)

/-- 'theodolitelaw13.CheckMany': WHATEVER THE INPUT: true; the input reads as it did. -/
def checkManySpec : ChangeSpec := { name := "checkMany", fn := fun _ => fun
  | [d1, d2] => { results := [.lit (.bool true)], args := [d1, d2] }
  | _ => none }
def checkManyRow : OpenClaim := { program := "ytakcaekikfcbpaa", sum := "3f23217309d8f71d8ea75fef3be5d32dc422ad6a209f84a4135e0ba328d16e1f", func := "theodolite/theodolitelaw13.CheckMany", spec := "checkMany", unfollowed := true, recurses := true, apart := false }
def CheckManySaid : Prop := checkManyRow.holds Try.pinned (OpenSpec.ofChange checkManySpec)

/-- ITS FALSE NEIGHBOUR: 'it returns false'. Refute it at one input. -/
def checkManyWrong : ChangeSpec := { name := "checkMany", fn := fun _ => fun
  | [d1, d2] => { results := [.lit (.bool false)], args := [d1, d2] }
  | _ => none }
def CheckManyWrongFalsely : Prop := checkManyRow.holds Try.pinned (OpenSpec.ofChange checkManyWrong)

/-- 'theodolitelaw13.CheckRenames': WHATEVER THE INPUT: true; the input reads as it did. -/
def checkRenamesSpec : ChangeSpec := { name := "checkRenames", fn := fun _ => fun
  | [d] => { results := [.lit (.bool true)], args := [d] }
  | _ => none }
def checkRenamesRow : OpenClaim := { program := "ytakcaekikfcbpaa", sum := "3f23217309d8f71d8ea75fef3be5d32dc422ad6a209f84a4135e0ba328d16e1f", func := "theodolite/theodolitelaw13.CheckRenames", spec := "checkRenames", unfollowed := true, recurses := true, loops := true, apart := false }
def CheckRenamesSaid : Prop := checkRenamesRow.holds Try.pinned (OpenSpec.ofChange checkRenamesSpec)

/-- ITS FALSE NEIGHBOUR: 'it returns false'. Refute it at one input. -/
def checkRenamesWrong : ChangeSpec := { name := "checkRenames", fn := fun _ => fun
  | [d] => { results := [.lit (.bool false)], args := [d] }
  | _ => none }
def CheckRenamesWrongFalsely : Prop := checkRenamesRow.holds Try.pinned (OpenSpec.ofChange checkRenamesWrong)

/- THE SECOND FORM. 'bulk': how many values and letters a reading holds, each counted each time it is reached (what is shared counts as often as it is met; a slice's spare places count too). A statement '..UptoSaid' is the law's where the arguments, and the package variables that the reading takes, are together of bulk at most 1048576: NARROWER than '..Said'. Prove '..Said' where nothing that the law and all that it calls make is longer than what came in: it says more and counts as full. Else prove '..UptoSaid'. A law counts once. -/
mutual
def uptoBulk {H : Type} : DataW H → Nat
  | .lit (.string bytes) => bytes.length + 1
  | .lit _ => 1
  | .nil => 1
  | .ptr d => uptoBulk d + 1
  | .slice elems spare => uptoBulkAll elems + uptoBulkAll spare + 1
  | .agg parts => uptoBulkAll parts + 1
  | .iface _ d => uptoBulk d + 1
  | .map entries => uptoBulkEntries entries + 1
  | .held _ => 1
def uptoBulkAll {H : Type} : List (DataW H) → Nat
  | [] => 0
  | d :: r => uptoBulk d + uptoBulkAll r
def uptoBulkEntries {H : Type} : List (Lit × DataW H) → Nat
  | [] => 0
  | x :: r => uptoBulkEntry x + uptoBulkEntries r
def uptoBulkEntry {H : Type} : Lit × DataW H → Nat
  | (.string bytes, d) => bytes.length + uptoBulk d + 1
  | (_, d) => uptoBulk d + 1
 end
def uptoSmall : (H : Type) → List (DataW H) → Bool := fun _ ds => decide (uptoBulkAll ds ≤ 1048576)
def OpenSpec.upto (s : _root_.Go.ChangeSpec) : _root_.Go.OpenSpec := { _root_.Go.OpenSpec.ofChange s with cond := some uptoSmall }

/-- 'theodolitelaw13.CheckSays', WHERE WHAT IT READS IS OF BULK AT MOST 1048576: true; the input reads as it did. -/
def checkSaysUptoRow : OpenClaim := { program := "ytakcaekikfcbpaa", sum := "3f23217309d8f71d8ea75fef3be5d32dc422ad6a209f84a4135e0ba328d16e1f", func := "theodolite/theodolitelaw13.CheckSays", spec := "checkSays", unfollowed := true, recurses := true, loops := true, apart := false, narrowed := true }
def CheckSaysUptoSaid : Prop := checkSaysUptoRow.holds Try.pinned (OpenSpec.upto checkSaysSpec)

/-- 'theodolitelaw13.CheckAhead', WHERE WHAT IT READS IS OF BULK AT MOST 1048576: true; the input reads as it did. -/
def checkAheadUptoRow : OpenClaim := { program := "ytakcaekikfcbpaa", sum := "3f23217309d8f71d8ea75fef3be5d32dc422ad6a209f84a4135e0ba328d16e1f", func := "theodolite/theodolitelaw13.CheckAhead", spec := "checkAhead", unfollowed := true, recurses := true, loops := true, apart := false, narrowed := true }
def CheckAheadUptoSaid : Prop := checkAheadUptoRow.holds Try.pinned (OpenSpec.upto checkAheadSpec)

/-- 'theodolitelaw13.CheckFlow', WHERE WHAT IT READS IS OF BULK AT MOST 1048576: true; the input reads as it did. -/
def checkFlowUptoRow : OpenClaim := { program := "ytakcaekikfcbpaa", sum := "3f23217309d8f71d8ea75fef3be5d32dc422ad6a209f84a4135e0ba328d16e1f", func := "theodolite/theodolitelaw13.CheckFlow", spec := "checkFlow", unfollowed := true, recurses := true, apart := false, narrowed := true }
def CheckFlowUptoSaid : Prop := checkFlowUptoRow.holds Try.pinned (OpenSpec.upto checkFlowSpec)

/-- 'theodolitelaw13.CheckMany', WHERE WHAT IT READS IS OF BULK AT MOST 1048576: true; the input reads as it did. -/
def checkManyUptoRow : OpenClaim := { program := "ytakcaekikfcbpaa", sum := "3f23217309d8f71d8ea75fef3be5d32dc422ad6a209f84a4135e0ba328d16e1f", func := "theodolite/theodolitelaw13.CheckMany", spec := "checkMany", unfollowed := true, recurses := true, apart := false, narrowed := true }
def CheckManyUptoSaid : Prop := checkManyUptoRow.holds Try.pinned (OpenSpec.upto checkManySpec)

/-- 'theodolitelaw13.CheckRenames', WHERE WHAT IT READS IS OF BULK AT MOST 1048576: true; the input reads as it did. -/
def checkRenamesUptoRow : OpenClaim := { program := "ytakcaekikfcbpaa", sum := "3f23217309d8f71d8ea75fef3be5d32dc422ad6a209f84a4135e0ba328d16e1f", func := "theodolite/theodolitelaw13.CheckRenames", spec := "checkRenames", unfollowed := true, recurses := true, loops := true, apart := false, narrowed := true }
def CheckRenamesUptoSaid : Prop := checkRenamesUptoRow.holds Try.pinned (OpenSpec.upto checkRenamesSpec)

end Rows
end Go.Proofs.Ytakcaekikfcbpaa
