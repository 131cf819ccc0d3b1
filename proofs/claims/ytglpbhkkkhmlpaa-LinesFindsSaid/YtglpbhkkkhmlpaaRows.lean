/-
  No cell of these rows narrows 'for every input' (looked for: loops, veiled, ifaces, maps, wideKeys, modest, calm, conditions, laid).
  DERIVED. THE GIVEN ROWS OF THIS SEAT. 4 by the template 'for every input the law returns true; each argument reads behind the call as it read before'; 0 by the template 'total and deterministic' (their statements: YtglpbhkkkhmlpaaTotals.lean).
  GIVEN WITH THE SEED: the statements are not yours to turn. If you find one false, say at which input.
  Laid BY PROGRAM, IN A SANDBOX (cutbox-rows.mjs): the forced cells as the released guide's own fill.sh prints them over the translation 7f93237a247463e8… (all of the seat's roots in one cut). By AI agents, Wed Nov 11 2026. No macro, syntax, notation, axiom, sorry.
-/
import Derived.Test.YtglpbhkkkhmlpaaChecked
import GoSem.Claim
import GoSem.ClaimJoined
import GoSem.ClaimMapViews
import Derived.JoinedTies
import Derived.KernelRfl
namespace Go.Proofs.Ytglpbhkkkhmlpaa
/- THE CELL 'sum', in the pinned program and in every row, IS THE sha256 OF THE DUMP (.gsa) THAT YtglpbhkkkhmlpaaProg.lean LOADS. Nothing in Lean hashes anything: it is a label: what it is worth is what the hold of that sum in a sandbox is worth. -/
noncomputable def Try.pinned : Pinned := { name := "ytglpbhkkkhmlpaa", sum := "7f93237a247463e85adf4d4ba36075e9017bdc44a5b172c41f96499053f29274", checked := Try.checked }
namespace Rows
def none {H : Type} : Left H := { results := [], args := [] }

/-- 'theodolitelaw05.LinesWrites': WHATEVER THE INPUT: true; the input reads as it did. -/
def linesWritesSpec : ChangeSpec := { name := "linesWrites", fn := fun _ => fun
  | [d] => { results := [.lit (.bool true)], args := [d] }
  | _ => none }
def linesWritesRow : OpenClaim := { program := "ytglpbhkkkhmlpaa", sum := "7f93237a247463e85adf4d4ba36075e9017bdc44a5b172c41f96499053f29274", func := "theodolite/theodolitelaw05.LinesWrites", spec := "linesWrites", unfollowed := true, recurses := true, apart := false }
def LinesWritesSaid : Prop := linesWritesRow.holds Try.pinned (OpenSpec.ofChange linesWritesSpec)

/-- ITS FALSE NEIGHBOUR: 'it returns false'. Refute it at one input. -/
def linesWritesWrong : ChangeSpec := { name := "linesWrites", fn := fun _ => fun
  | [d] => { results := [.lit (.bool false)], args := [d] }
  | _ => none }
def LinesWritesWrongFalsely : Prop := linesWritesRow.holds Try.pinned (OpenSpec.ofChange linesWritesWrong)

/-- 'theodolitelaw05.LinesReads': WHATEVER THE INPUT: true; the input reads as it did. -/
def linesReadsSpec : ChangeSpec := { name := "linesReads", fn := fun _ => fun
  | [d] => { results := [.lit (.bool true)], args := [d] }
  | _ => none }
def linesReadsRow : OpenClaim := { program := "ytglpbhkkkhmlpaa", sum := "7f93237a247463e85adf4d4ba36075e9017bdc44a5b172c41f96499053f29274", func := "theodolite/theodolitelaw05.LinesReads", spec := "linesReads", unfollowed := true, recurses := true, apart := false }
def LinesReadsSaid : Prop := linesReadsRow.holds Try.pinned (OpenSpec.ofChange linesReadsSpec)

/-- ITS FALSE NEIGHBOUR: 'it returns false'. Refute it at one input. -/
def linesReadsWrong : ChangeSpec := { name := "linesReads", fn := fun _ => fun
  | [d] => { results := [.lit (.bool false)], args := [d] }
  | _ => none }
def LinesReadsWrongFalsely : Prop := linesReadsRow.holds Try.pinned (OpenSpec.ofChange linesReadsWrong)

/-- 'theodolitelaw05.LinesBack': WHATEVER THE INPUT: true; the input reads as it did. -/
def linesBackSpec : ChangeSpec := { name := "linesBack", fn := fun _ => fun
  | [d1, d2] => { results := [.lit (.bool true)], args := [d1, d2] }
  | _ => none }
def linesBackRow : OpenClaim := { program := "ytglpbhkkkhmlpaa", sum := "7f93237a247463e85adf4d4ba36075e9017bdc44a5b172c41f96499053f29274", func := "theodolite/theodolitelaw05.LinesBack", spec := "linesBack", unfollowed := true, recurses := true, apart := false }
def LinesBackSaid : Prop := linesBackRow.holds Try.pinned (OpenSpec.ofChange linesBackSpec)

/-- ITS FALSE NEIGHBOUR: 'it returns false'. Refute it at one input. -/
def linesBackWrong : ChangeSpec := { name := "linesBack", fn := fun _ => fun
  | [d1, d2] => { results := [.lit (.bool false)], args := [d1, d2] }
  | _ => none }
def LinesBackWrongFalsely : Prop := linesBackRow.holds Try.pinned (OpenSpec.ofChange linesBackWrong)

/-- 'theodolitelaw05.LinesFinds': WHATEVER THE INPUT: true; the input reads as it did. -/
def linesFindsSpec : ChangeSpec := { name := "linesFinds", fn := fun _ => fun
  | [d1, d2, d3] => { results := [.lit (.bool true)], args := [d1, d2, d3] }
  | _ => none }
def linesFindsRow : OpenClaim := { program := "ytglpbhkkkhmlpaa", sum := "7f93237a247463e85adf4d4ba36075e9017bdc44a5b172c41f96499053f29274", func := "theodolite/theodolitelaw05.LinesFinds", spec := "linesFinds", unfollowed := true, recurses := true, apart := false }
def LinesFindsSaid : Prop := linesFindsRow.holds Try.pinned (OpenSpec.ofChange linesFindsSpec)

/-- ITS FALSE NEIGHBOUR: 'it returns false'. Refute it at one input. -/
def linesFindsWrong : ChangeSpec := { name := "linesFinds", fn := fun _ => fun
  | [d1, d2, d3] => { results := [.lit (.bool false)], args := [d1, d2, d3] }
  | _ => none }
def LinesFindsWrongFalsely : Prop := linesFindsRow.holds Try.pinned (OpenSpec.ofChange linesFindsWrong)

/- THE SECOND FORM. 'bulk': how many values and letters a reading holds, each counted each time it is reached (what is shared counts as often as it is met; a slice's spare places count too). A statement '..UptoSaid' is the law's where the arguments, and the package variables that the reading takes, are together of bulk at most 1048576: NARROWER than '..Said'. Prove '..Said' where nothing that the law and all that it calls make is longer than what came in: it says more and counts as full. Else prove '..UptoSaid'. A law counts once. -/
mutual
def uptoBulk {H : Type} : DataW H → Nat
  | .lit (.string bytes) => bytes.length + 1
  | .lit _ => 1
  | .nil => 1
  | .ptr d => uptoBulk d + 1
  | .slice elems spare => uptoBulkAll elems + uptoBulkAll spare + 1
  | .agg parts => uptoBulkAll parts + 1
  | .iface _ d => uptoBulk d + 1
  | .map entries => uptoBulkEntries entries + 1
  | .held _ => 1
def uptoBulkAll {H : Type} : List (DataW H) → Nat
  | [] => 0
  | d :: r => uptoBulk d + uptoBulkAll r
def uptoBulkEntries {H : Type} : List (Lit × DataW H) → Nat
  | [] => 0
  | x :: r => uptoBulkEntry x + uptoBulkEntries r
def uptoBulkEntry {H : Type} : Lit × DataW H → Nat
  | (.string bytes, d) => bytes.length + uptoBulk d + 1
  | (_, d) => uptoBulk d + 1
 end
def uptoSmall : (H : Type) → List (DataW H) → Bool := fun _ ds => decide (uptoBulkAll ds ≤ 1048576)
def OpenSpec.upto (s : _root_.Go.ChangeSpec) : _root_.Go.OpenSpec := { _root_.Go.OpenSpec.ofChange s with cond := some uptoSmall }

/-- 'theodolitelaw05.LinesWrites', WHERE WHAT IT READS IS OF BULK AT MOST 1048576: true; the input reads as it did. -/
def linesWritesUptoRow : OpenClaim := { program := "ytglpbhkkkhmlpaa", sum := "7f93237a247463e85adf4d4ba36075e9017bdc44a5b172c41f96499053f29274", func := "theodolite/theodolitelaw05.LinesWrites", spec := "linesWrites", unfollowed := true, recurses := true, apart := false, narrowed := true }
def LinesWritesUptoSaid : Prop := linesWritesUptoRow.holds Try.pinned (OpenSpec.upto linesWritesSpec)

/-- 'theodolitelaw05.LinesReads', WHERE WHAT IT READS IS OF BULK AT MOST 1048576: true; the input reads as it did. -/
def linesReadsUptoRow : OpenClaim := { program := "ytglpbhkkkhmlpaa", sum := "7f93237a247463e85adf4d4ba36075e9017bdc44a5b172c41f96499053f29274", func := "theodolite/theodolitelaw05.LinesReads", spec := "linesReads", unfollowed := true, recurses := true, apart := false, narrowed := true }
def LinesReadsUptoSaid : Prop := linesReadsUptoRow.holds Try.pinned (OpenSpec.upto linesReadsSpec)

/-- 'theodolitelaw05.LinesBack', WHERE WHAT IT READS IS OF BULK AT MOST 1048576: true; the input reads as it did. -/
def linesBackUptoRow : OpenClaim := { program := "ytglpbhkkkhmlpaa", sum := "7f93237a247463e85adf4d4ba36075e9017bdc44a5b172c41f96499053f29274", func := "theodolite/theodolitelaw05.LinesBack", spec := "linesBack", unfollowed := true, recurses := true, apart := false, narrowed := true }
def LinesBackUptoSaid : Prop := linesBackUptoRow.holds Try.pinned (OpenSpec.upto linesBackSpec)

/-- 'theodolitelaw05.LinesFinds', WHERE WHAT IT READS IS OF BULK AT MOST 1048576: true; the input reads as it did. -/
def linesFindsUptoRow : OpenClaim := { program := "ytglpbhkkkhmlpaa", sum := "7f93237a247463e85adf4d4ba36075e9017bdc44a5b172c41f96499053f29274", func := "theodolite/theodolitelaw05.LinesFinds", spec := "linesFinds", unfollowed := true, recurses := true, apart := false, narrowed := true }
def LinesFindsUptoSaid : Prop := linesFindsUptoRow.holds Try.pinned (OpenSpec.upto linesFindsSpec)

end Rows
end Go.Proofs.Ytglpbhkkkhmlpaa
