/-
  NARROWER THAN 'FOR EVERY INPUT', by the rows' own cells (each row's printed sentence says how): SyntaxBack: loops.
  DERIVED. THE GIVEN ROWS OF THIS SEAT. 5 by the template 'for every input the law returns true; each argument reads behind the call as it read before'; 0 by the template 'total and deterministic' (their statements: YtnhboaaikehpoaaTotals.lean).
  GIVEN WITH THE SEED: the statements are not yours to turn. If you find one false, say at which input.
  Laid BY PROGRAM, IN A SANDBOX (cutbox-rows.mjs): the forced cells as the released guide's own fill.sh prints them over the translation cea4c884c30cda9e… (all of the seat's roots in one cut). By AI agents, Wed Nov 11 2026. No macro, syntax, notation, axiom, sorry.
-/
import Derived.Test.YtnhboaaikehpoaaChecked
import GoSem.Claim
import GoSem.ClaimJoined
import GoSem.ClaimMapViews
import Derived.JoinedTies
import Derived.KernelRfl
namespace Go.Proofs.Ytnhboaaikehpoaa
/- THE CELL 'sum', in the pinned program and in every row, IS THE sha256 OF THE DUMP (.gsa) THAT YtnhboaaikehpoaaProg.lean LOADS. Nothing in Lean hashes anything: it is a label: what it is worth is what the hold of that sum in a sandbox is worth. -/
noncomputable def Try.pinned : Pinned := { name := "ytnhboaaikehpoaa", sum := "cea4c884c30cda9e29909483a08e701ecb28d96f490b3bdf57b62bffcf6c1af6", checked := Try.checked }
namespace Rows
def none {H : Type} : Left H := { results := [], args := [] }

/-- 'theodolitelaw12.SyntaxParses': WHATEVER THE INPUT: true; the input reads as it did. -/
def syntaxParsesSpec : ChangeSpec := { name := "syntaxParses", fn := fun _ => fun
  | [d] => { results := [.lit (.bool true)], args := [d] }
  | _ => none }
def syntaxParsesRow : OpenClaim := { program := "ytnhboaaikehpoaa", sum := "cea4c884c30cda9e29909483a08e701ecb28d96f490b3bdf57b62bffcf6c1af6", func := "theodolite/theodolitelaw12.SyntaxParses", spec := "syntaxParses", unfollowed := true, recurses := true, apart := false }
def SyntaxParsesSaid : Prop := syntaxParsesRow.holds Try.pinned (OpenSpec.ofChange syntaxParsesSpec)

/-- ITS FALSE NEIGHBOUR: 'it returns false'. Refute it at one input. -/
def syntaxParsesWrong : ChangeSpec := { name := "syntaxParses", fn := fun _ => fun
  | [d] => { results := [.lit (.bool false)], args := [d] }
  | _ => none }
def SyntaxParsesWrongFalsely : Prop := syntaxParsesRow.holds Try.pinned (OpenSpec.ofChange syntaxParsesWrong)

/-- 'theodolitelaw12.SyntaxSources': WHATEVER THE INPUT: true; the input reads as it did. -/
def syntaxSourcesSpec : ChangeSpec := { name := "syntaxSources", fn := fun _ => fun
  | [d] => { results := [.lit (.bool true)], args := [d] }
  | _ => none }
def syntaxSourcesRow : OpenClaim := { program := "ytnhboaaikehpoaa", sum := "cea4c884c30cda9e29909483a08e701ecb28d96f490b3bdf57b62bffcf6c1af6", func := "theodolite/theodolitelaw12.SyntaxSources", spec := "syntaxSources", unfollowed := true, recurses := true, apart := false }
def SyntaxSourcesSaid : Prop := syntaxSourcesRow.holds Try.pinned (OpenSpec.ofChange syntaxSourcesSpec)

/-- ITS FALSE NEIGHBOUR: 'it returns false'. Refute it at one input. -/
def syntaxSourcesWrong : ChangeSpec := { name := "syntaxSources", fn := fun _ => fun
  | [d] => { results := [.lit (.bool false)], args := [d] }
  | _ => none }
def SyntaxSourcesWrongFalsely : Prop := syntaxSourcesRow.holds Try.pinned (OpenSpec.ofChange syntaxSourcesWrong)

/-- 'theodolitelaw12.SyntaxBack': WHATEVER THE INPUT: true; the input reads as it did. -/
def syntaxBackSpec : ChangeSpec := { name := "syntaxBack", fn := fun _ => fun
  | [d1, d2] => { results := [.lit (.bool true)], args := [d1, d2] }
  | _ => none }
def syntaxBackRow : OpenClaim := { program := "ytnhboaaikehpoaa", sum := "cea4c884c30cda9e29909483a08e701ecb28d96f490b3bdf57b62bffcf6c1af6", func := "theodolite/theodolitelaw12.SyntaxBack", spec := "syntaxBack", unfollowed := true, recurses := true, loops := true, apart := false }
def SyntaxBackSaid : Prop := syntaxBackRow.holds Try.pinned (OpenSpec.ofChange syntaxBackSpec)

/-- ITS FALSE NEIGHBOUR: 'it returns false'. Refute it at one input. -/
def syntaxBackWrong : ChangeSpec := { name := "syntaxBack", fn := fun _ => fun
  | [d1, d2] => { results := [.lit (.bool false)], args := [d1, d2] }
  | _ => none }
def SyntaxBackWrongFalsely : Prop := syntaxBackRow.holds Try.pinned (OpenSpec.ofChange syntaxBackWrong)

/-- 'theodolitelaw12.SyntaxStops': WHATEVER THE INPUT: true; the input reads as it did. -/
def syntaxStopsSpec : ChangeSpec := { name := "syntaxStops", fn := fun _ => fun
  | [d1, d2, d3] => { results := [.lit (.bool true)], args := [d1, d2, d3] }
  | _ => none }
def syntaxStopsRow : OpenClaim := { program := "ytnhboaaikehpoaa", sum := "cea4c884c30cda9e29909483a08e701ecb28d96f490b3bdf57b62bffcf6c1af6", func := "theodolite/theodolitelaw12.SyntaxStops", spec := "syntaxStops", unfollowed := true, recurses := true, apart := false }
def SyntaxStopsSaid : Prop := syntaxStopsRow.holds Try.pinned (OpenSpec.ofChange syntaxStopsSpec)

/-- ITS FALSE NEIGHBOUR: 'it returns false'. Refute it at one input. -/
def syntaxStopsWrong : ChangeSpec := { name := "syntaxStops", fn := fun _ => fun
  | [d1, d2, d3] => { results := [.lit (.bool false)], args := [d1, d2, d3] }
  | _ => none }
def SyntaxStopsWrongFalsely : Prop := syntaxStopsRow.holds Try.pinned (OpenSpec.ofChange syntaxStopsWrong)

/-- 'theodolitelaw12.SyntaxJoins': WHATEVER THE INPUT: true; the input reads as it did. -/
def syntaxJoinsSpec : ChangeSpec := { name := "syntaxJoins", fn := fun _ => fun
  | [d1, d2] => { results := [.lit (.bool true)], args := [d1, d2] }
  | _ => none }
def syntaxJoinsRow : OpenClaim := { program := "ytnhboaaikehpoaa", sum := "cea4c884c30cda9e29909483a08e701ecb28d96f490b3bdf57b62bffcf6c1af6", func := "theodolite/theodolitelaw12.SyntaxJoins", spec := "syntaxJoins", unfollowed := true, recurses := true, apart := false }
def SyntaxJoinsSaid : Prop := syntaxJoinsRow.holds Try.pinned (OpenSpec.ofChange syntaxJoinsSpec)

/-- ITS FALSE NEIGHBOUR: 'it returns false'. Refute it at one input. -/
def syntaxJoinsWrong : ChangeSpec := { name := "syntaxJoins", fn := fun _ => fun
  | [d1, d2] => { results := [.lit (.bool false)], args := [d1, d2] }
  | _ => none }
def SyntaxJoinsWrongFalsely : Prop := syntaxJoinsRow.holds Try.pinned (OpenSpec.ofChange syntaxJoinsWrong)

/- THE SECOND FORM. 'bulk': how many values and letters a reading holds, each counted each time it is reached (what is shared counts as often as it is met; a slice's spare places count too). A statement '..UptoSaid' is the law's where the arguments, and the package variables that the reading takes, are together of bulk at most 1048576: NARROWER than '..Said'. Prove '..Said' where nothing that the law and all that it calls make is longer than what came in: it says more and counts as full. Else prove '..UptoSaid'. A law counts once. -/
mutual
def uptoBulk {H : Type} : DataW H → Nat
  | .lit (.string bytes) => bytes.length + 1
  | .lit _ => 1
  | .nil => 1
  | .ptr d => uptoBulk d + 1
  | .slice elems spare => uptoBulkAll elems + uptoBulkAll spare + 1
  | .agg parts => uptoBulkAll parts + 1
  | .iface _ d => uptoBulk d + 1
  | .map entries => uptoBulkEntries entries + 1
  | .held _ => 1
def uptoBulkAll {H : Type} : List (DataW H) → Nat
  | [] => 0
  | d :: r => uptoBulk d + uptoBulkAll r
def uptoBulkEntries {H : Type} : List (Lit × DataW H) → Nat
  | [] => 0
  | x :: r => uptoBulkEntry x + uptoBulkEntries r
def uptoBulkEntry {H : Type} : Lit × DataW H → Nat
  | (.string bytes, d) => bytes.length + uptoBulk d + 1
  | (_, d) => uptoBulk d + 1
 end
def uptoSmall : (H : Type) → List (DataW H) → Bool := fun _ ds => decide (uptoBulkAll ds ≤ 1048576)
def OpenSpec.upto (s : _root_.Go.ChangeSpec) : _root_.Go.OpenSpec := { _root_.Go.OpenSpec.ofChange s with cond := some uptoSmall }

/-- 'theodolitelaw12.SyntaxParses', WHERE WHAT IT READS IS OF BULK AT MOST 1048576: true; the input reads as it did. -/
def syntaxParsesUptoRow : OpenClaim := { program := "ytnhboaaikehpoaa", sum := "cea4c884c30cda9e29909483a08e701ecb28d96f490b3bdf57b62bffcf6c1af6", func := "theodolite/theodolitelaw12.SyntaxParses", spec := "syntaxParses", unfollowed := true, recurses := true, apart := false, narrowed := true }
def SyntaxParsesUptoSaid : Prop := syntaxParsesUptoRow.holds Try.pinned (OpenSpec.upto syntaxParsesSpec)

/-- 'theodolitelaw12.SyntaxSources', WHERE WHAT IT READS IS OF BULK AT MOST 1048576: true; the input reads as it did. -/
def syntaxSourcesUptoRow : OpenClaim := { program := "ytnhboaaikehpoaa", sum := "cea4c884c30cda9e29909483a08e701ecb28d96f490b3bdf57b62bffcf6c1af6", func := "theodolite/theodolitelaw12.SyntaxSources", spec := "syntaxSources", unfollowed := true, recurses := true, apart := false, narrowed := true }
def SyntaxSourcesUptoSaid : Prop := syntaxSourcesUptoRow.holds Try.pinned (OpenSpec.upto syntaxSourcesSpec)

/-- 'theodolitelaw12.SyntaxBack', WHERE WHAT IT READS IS OF BULK AT MOST 1048576: true; the input reads as it did. -/
def syntaxBackUptoRow : OpenClaim := { program := "ytnhboaaikehpoaa", sum := "cea4c884c30cda9e29909483a08e701ecb28d96f490b3bdf57b62bffcf6c1af6", func := "theodolite/theodolitelaw12.SyntaxBack", spec := "syntaxBack", unfollowed := true, recurses := true, loops := true, apart := false, narrowed := true }
def SyntaxBackUptoSaid : Prop := syntaxBackUptoRow.holds Try.pinned (OpenSpec.upto syntaxBackSpec)

/-- 'theodolitelaw12.SyntaxStops', WHERE WHAT IT READS IS OF BULK AT MOST 1048576: true; the input reads as it did. -/
def syntaxStopsUptoRow : OpenClaim := { program := "ytnhboaaikehpoaa", sum := "cea4c884c30cda9e29909483a08e701ecb28d96f490b3bdf57b62bffcf6c1af6", func := "theodolite/theodolitelaw12.SyntaxStops", spec := "syntaxStops", unfollowed := true, recurses := true, apart := false, narrowed := true }
def SyntaxStopsUptoSaid : Prop := syntaxStopsUptoRow.holds Try.pinned (OpenSpec.upto syntaxStopsSpec)

/-- 'theodolitelaw12.SyntaxJoins', WHERE WHAT IT READS IS OF BULK AT MOST 1048576: true; the input reads as it did. -/
def syntaxJoinsUptoRow : OpenClaim := { program := "ytnhboaaikehpoaa", sum := "cea4c884c30cda9e29909483a08e701ecb28d96f490b3bdf57b62bffcf6c1af6", func := "theodolite/theodolitelaw12.SyntaxJoins", spec := "syntaxJoins", unfollowed := true, recurses := true, apart := false, narrowed := true }
def SyntaxJoinsUptoSaid : Prop := syntaxJoinsUptoRow.holds Try.pinned (OpenSpec.upto syntaxJoinsSpec)

end Rows
end Go.Proofs.Ytnhboaaikehpoaa
