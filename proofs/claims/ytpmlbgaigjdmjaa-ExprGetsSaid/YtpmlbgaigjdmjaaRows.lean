/-
  No cell of these rows narrows 'for every input' (looked for: loops, veiled, ifaces, maps, wideKeys, modest, calm, conditions, laid).
  DERIVED. THE GIVEN ROWS OF THIS SEAT. 4 by the template 'for every input the law returns true; each argument reads behind the call as it read before'; 0 by the template 'total and deterministic' (their statements: YtpmlbgaigjdmjaaTotals.lean).
  GIVEN WITH THE SEED: the statements are not yours to turn. If you find one false, say at which input.
  Laid BY PROGRAM, IN A SANDBOX (cutbox-rows.mjs): the forced cells as the released guide's own fill.sh prints them over the translation 881b7b15d537a364… (all of the seat's roots in one cut). By AI agents, Wed Nov 11 2026. No macro, syntax, notation, axiom, sorry.
-/
import Derived.Test.YtpmlbgaigjdmjaaChecked
import GoSem.Claim
import GoSem.ClaimJoined
import GoSem.ClaimMapViews
import Derived.JoinedTies
import Derived.KernelRfl
namespace Go.Proofs.Ytpmlbgaigjdmjaa
/- THE CELL 'sum', in the pinned program and in every row, IS THE sha256 OF THE DUMP (.gsa) THAT YtpmlbgaigjdmjaaProg.lean LOADS. Nothing in Lean hashes anything: it is a label: what it is worth is what the hold of that sum in a sandbox is worth. -/
noncomputable def Try.pinned : Pinned := { name := "ytpmlbgaigjdmjaa", sum := "881b7b15d537a36496a468aadee13ef1b5a0caa0e9b7345ab2a9cd210dc39142", checked := Try.checked }
namespace Rows
def none {H : Type} : Left H := { results := [], args := [] }

/-- 'theodolitelaw06.ExprPuts': WHATEVER THE INPUT: true; the input reads as it did. -/
def exprPutsSpec : ChangeSpec := { name := "exprPuts", fn := fun _ => fun
  | [d1, d2] => { results := [.lit (.bool true)], args := [d1, d2] }
  | _ => none }
def exprPutsRow : OpenClaim := { program := "ytpmlbgaigjdmjaa", sum := "881b7b15d537a36496a468aadee13ef1b5a0caa0e9b7345ab2a9cd210dc39142", func := "theodolite/theodolitelaw06.ExprPuts", spec := "exprPuts", unfollowed := true, recurses := true, apart := false }
def ExprPutsSaid : Prop := exprPutsRow.holds Try.pinned (OpenSpec.ofChange exprPutsSpec)

/-- ITS FALSE NEIGHBOUR: 'it returns false'. Refute it at one input. -/
def exprPutsWrong : ChangeSpec := { name := "exprPuts", fn := fun _ => fun
  | [d1, d2] => { results := [.lit (.bool false)], args := [d1, d2] }
  | _ => none }
def ExprPutsWrongFalsely : Prop := exprPutsRow.holds Try.pinned (OpenSpec.ofChange exprPutsWrong)

/-- 'theodolitelaw06.ExprGets': WHATEVER THE INPUT: true; the input reads as it did. -/
def exprGetsSpec : ChangeSpec := { name := "exprGets", fn := fun _ => fun
  | [d1, d2] => { results := [.lit (.bool true)], args := [d1, d2] }
  | _ => none }
def exprGetsRow : OpenClaim := { program := "ytpmlbgaigjdmjaa", sum := "881b7b15d537a36496a468aadee13ef1b5a0caa0e9b7345ab2a9cd210dc39142", func := "theodolite/theodolitelaw06.ExprGets", spec := "exprGets", unfollowed := true, recurses := true, apart := false }
def ExprGetsSaid : Prop := exprGetsRow.holds Try.pinned (OpenSpec.ofChange exprGetsSpec)

/-- ITS FALSE NEIGHBOUR: 'it returns false'. Refute it at one input. -/
def exprGetsWrong : ChangeSpec := { name := "exprGets", fn := fun _ => fun
  | [d1, d2] => { results := [.lit (.bool false)], args := [d1, d2] }
  | _ => none }
def ExprGetsWrongFalsely : Prop := exprGetsRow.holds Try.pinned (OpenSpec.ofChange exprGetsWrong)

/-- 'theodolitelaw06.ExprBack': WHATEVER THE INPUT: true; the input reads as it did. -/
def exprBackSpec : ChangeSpec := { name := "exprBack", fn := fun _ => fun
  | [d1, d2, d3, d4] => { results := [.lit (.bool true)], args := [d1, d2, d3, d4] }
  | _ => none }
def exprBackRow : OpenClaim := { program := "ytpmlbgaigjdmjaa", sum := "881b7b15d537a36496a468aadee13ef1b5a0caa0e9b7345ab2a9cd210dc39142", func := "theodolite/theodolitelaw06.ExprBack", spec := "exprBack", unfollowed := true, recurses := true, apart := false }
def ExprBackSaid : Prop := exprBackRow.holds Try.pinned (OpenSpec.ofChange exprBackSpec)

/-- ITS FALSE NEIGHBOUR: 'it returns false'. Refute it at one input. -/
def exprBackWrong : ChangeSpec := { name := "exprBack", fn := fun _ => fun
  | [d1, d2, d3, d4] => { results := [.lit (.bool false)], args := [d1, d2, d3, d4] }
  | _ => none }
def ExprBackWrongFalsely : Prop := exprBackRow.holds Try.pinned (OpenSpec.ofChange exprBackWrong)

/-- 'theodolitelaw06.ExprParts': WHATEVER THE INPUT: true; the input reads as it did. -/
def exprPartsSpec : ChangeSpec := { name := "exprParts", fn := fun _ => fun
  | [d1, d2, d3] => { results := [.lit (.bool true)], args := [d1, d2, d3] }
  | _ => none }
def exprPartsRow : OpenClaim := { program := "ytpmlbgaigjdmjaa", sum := "881b7b15d537a36496a468aadee13ef1b5a0caa0e9b7345ab2a9cd210dc39142", func := "theodolite/theodolitelaw06.ExprParts", spec := "exprParts", unfollowed := true, recurses := true, apart := false }
def ExprPartsSaid : Prop := exprPartsRow.holds Try.pinned (OpenSpec.ofChange exprPartsSpec)

/-- ITS FALSE NEIGHBOUR: 'it returns false'. Refute it at one input. -/
def exprPartsWrong : ChangeSpec := { name := "exprParts", fn := fun _ => fun
  | [d1, d2, d3] => { results := [.lit (.bool false)], args := [d1, d2, d3] }
  | _ => none }
def ExprPartsWrongFalsely : Prop := exprPartsRow.holds Try.pinned (OpenSpec.ofChange exprPartsWrong)

/- THE SECOND FORM. 'bulk': how many values and letters a reading holds, each counted each time it is reached (what is shared counts as often as it is met; a slice's spare places count too). A statement '..UptoSaid' is the law's where the arguments, and the package variables that the reading takes, are together of bulk at most 1048576: NARROWER than '..Said'. Prove '..Said' where nothing that the law and all that it calls make is longer than what came in: it says more and counts as full. Else prove '..UptoSaid'. A law counts once. -/
mutual
def uptoBulk {H : Type} : DataW H → Nat
  | .lit (.string bytes) => bytes.length + 1
  | .lit _ => 1
  | .nil => 1
  | .ptr d => uptoBulk d + 1
  | .slice elems spare => uptoBulkAll elems + uptoBulkAll spare + 1
  | .agg parts => uptoBulkAll parts + 1
  | .iface _ d => uptoBulk d + 1
  | .map entries => uptoBulkEntries entries + 1
  | .held _ => 1
def uptoBulkAll {H : Type} : List (DataW H) → Nat
  | [] => 0
  | d :: r => uptoBulk d + uptoBulkAll r
def uptoBulkEntries {H : Type} : List (Lit × DataW H) → Nat
  | [] => 0
  | x :: r => uptoBulkEntry x + uptoBulkEntries r
def uptoBulkEntry {H : Type} : Lit × DataW H → Nat
  | (.string bytes, d) => bytes.length + uptoBulk d + 1
  | (_, d) => uptoBulk d + 1
 end
def uptoSmall : (H : Type) → List (DataW H) → Bool := fun _ ds => decide (uptoBulkAll ds ≤ 1048576)
def OpenSpec.upto (s : _root_.Go.ChangeSpec) : _root_.Go.OpenSpec := { _root_.Go.OpenSpec.ofChange s with cond := some uptoSmall }

/-- 'theodolitelaw06.ExprPuts', WHERE WHAT IT READS IS OF BULK AT MOST 1048576: true; the input reads as it did. -/
def exprPutsUptoRow : OpenClaim := { program := "ytpmlbgaigjdmjaa", sum := "881b7b15d537a36496a468aadee13ef1b5a0caa0e9b7345ab2a9cd210dc39142", func := "theodolite/theodolitelaw06.ExprPuts", spec := "exprPuts", unfollowed := true, recurses := true, apart := false, narrowed := true }
def ExprPutsUptoSaid : Prop := exprPutsUptoRow.holds Try.pinned (OpenSpec.upto exprPutsSpec)

/-- 'theodolitelaw06.ExprGets', WHERE WHAT IT READS IS OF BULK AT MOST 1048576: true; the input reads as it did. -/
def exprGetsUptoRow : OpenClaim := { program := "ytpmlbgaigjdmjaa", sum := "881b7b15d537a36496a468aadee13ef1b5a0caa0e9b7345ab2a9cd210dc39142", func := "theodolite/theodolitelaw06.ExprGets", spec := "exprGets", unfollowed := true, recurses := true, apart := false, narrowed := true }
def ExprGetsUptoSaid : Prop := exprGetsUptoRow.holds Try.pinned (OpenSpec.upto exprGetsSpec)

/-- 'theodolitelaw06.ExprBack', WHERE WHAT IT READS IS OF BULK AT MOST 1048576: true; the input reads as it did. -/
def exprBackUptoRow : OpenClaim := { program := "ytpmlbgaigjdmjaa", sum := "881b7b15d537a36496a468aadee13ef1b5a0caa0e9b7345ab2a9cd210dc39142", func := "theodolite/theodolitelaw06.ExprBack", spec := "exprBack", unfollowed := true, recurses := true, apart := false, narrowed := true }
def ExprBackUptoSaid : Prop := exprBackUptoRow.holds Try.pinned (OpenSpec.upto exprBackSpec)

/-- 'theodolitelaw06.ExprParts', WHERE WHAT IT READS IS OF BULK AT MOST 1048576: true; the input reads as it did. -/
def exprPartsUptoRow : OpenClaim := { program := "ytpmlbgaigjdmjaa", sum := "881b7b15d537a36496a468aadee13ef1b5a0caa0e9b7345ab2a9cd210dc39142", func := "theodolite/theodolitelaw06.ExprParts", spec := "exprParts", unfollowed := true, recurses := true, apart := false, narrowed := true }
def ExprPartsUptoSaid : Prop := exprPartsUptoRow.holds Try.pinned (OpenSpec.upto exprPartsSpec)

end Rows
end Go.Proofs.Ytpmlbgaigjdmjaa
