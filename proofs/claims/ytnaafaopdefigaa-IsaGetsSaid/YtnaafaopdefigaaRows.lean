/-
  No cell of these rows narrows 'for every input' (looked for: loops, veiled, ifaces, maps, wideKeys, modest, calm, conditions, laid).
  DERIVED. THE GIVEN ROWS OF THIS SEAT. 5 by the template 'for every input the law returns true; each argument reads behind the call as it read before'; 0 by the template 'total and deterministic' (their statements: YtnaafaopdefigaaTotals.lean).
  GIVEN WITH THE SEED: the statements are not yours to turn. If you find one false, say at which input.
  Laid BY PROGRAM, IN A SANDBOX (cutbox-rows.mjs): the forced cells as the released guide's own fill.sh prints them over the translation 7cd54bbf98221a6b… (all of the seat's roots in one cut). By AI agents, Wed Nov 11 2026. No macro, syntax, notation, axiom, sorry.
-/
import Derived.Test.YtnaafaopdefigaaChecked
import GoSem.Claim
import GoSem.ClaimJoined
import GoSem.ClaimMapViews
import Derived.JoinedTies
import Derived.KernelRfl
namespace Go.Proofs.Ytnaafaopdefigaa
/- THE CELL 'sum', in the pinned program and in every row, IS THE sha256 OF THE DUMP (.gsa) THAT YtnaafaopdefigaaProg.lean LOADS. Nothing in Lean hashes anything: it is a label: what it is worth is what the hold of that sum in a sandbox is worth. -/
noncomputable def Try.pinned : Pinned := { name := "ytnaafaopdefigaa", sum := "7cd54bbf98221a6ba2b99e18f8eeb84ce94c180665928fba909a7351b425c6f3", checked := Try.checked }
namespace Rows
def none {H : Type} : Left H := { results := [], args := [] }

/-- 'theodolitelaw03.IsaPuts': WHATEVER THE INPUT: true; the input reads as it did. -/
def isaPutsSpec : ChangeSpec := { name := "isaPuts", fn := fun _ => fun
  | [d1, d2] => { results := [.lit (.bool true)], args := [d1, d2] }
  | _ => none }
def isaPutsRow : OpenClaim := { program := "ytnaafaopdefigaa", sum := "7cd54bbf98221a6ba2b99e18f8eeb84ce94c180665928fba909a7351b425c6f3", func := "theodolite/theodolitelaw03.IsaPuts", spec := "isaPuts", unfollowed := true, recurses := true, apart := false }
def IsaPutsSaid : Prop := isaPutsRow.holds Try.pinned (OpenSpec.ofChange isaPutsSpec)

/-- ITS FALSE NEIGHBOUR: 'it returns false'. Refute it at one input. -/
def isaPutsWrong : ChangeSpec := { name := "isaPuts", fn := fun _ => fun
  | [d1, d2] => { results := [.lit (.bool false)], args := [d1, d2] }
  | _ => none }
def IsaPutsWrongFalsely : Prop := isaPutsRow.holds Try.pinned (OpenSpec.ofChange isaPutsWrong)

/-- 'theodolitelaw03.IsaGets': WHATEVER THE INPUT: true; the input reads as it did. -/
def isaGetsSpec : ChangeSpec := { name := "isaGets", fn := fun _ => fun
  | [d1, d2] => { results := [.lit (.bool true)], args := [d1, d2] }
  | _ => none }
def isaGetsRow : OpenClaim := { program := "ytnaafaopdefigaa", sum := "7cd54bbf98221a6ba2b99e18f8eeb84ce94c180665928fba909a7351b425c6f3", func := "theodolite/theodolitelaw03.IsaGets", spec := "isaGets", unfollowed := true, recurses := true, apart := false }
def IsaGetsSaid : Prop := isaGetsRow.holds Try.pinned (OpenSpec.ofChange isaGetsSpec)

/-- ITS FALSE NEIGHBOUR: 'it returns false'. Refute it at one input. -/
def isaGetsWrong : ChangeSpec := { name := "isaGets", fn := fun _ => fun
  | [d1, d2] => { results := [.lit (.bool false)], args := [d1, d2] }
  | _ => none }
def IsaGetsWrongFalsely : Prop := isaGetsRow.holds Try.pinned (OpenSpec.ofChange isaGetsWrong)

/-- 'theodolitelaw03.IsaBack': WHATEVER THE INPUT: true; the input reads as it did. -/
def isaBackSpec : ChangeSpec := { name := "isaBack", fn := fun _ => fun
  | [d1, d2, d3] => { results := [.lit (.bool true)], args := [d1, d2, d3] }
  | _ => none }
def isaBackRow : OpenClaim := { program := "ytnaafaopdefigaa", sum := "7cd54bbf98221a6ba2b99e18f8eeb84ce94c180665928fba909a7351b425c6f3", func := "theodolite/theodolitelaw03.IsaBack", spec := "isaBack", unfollowed := true, recurses := true, apart := false }
def IsaBackSaid : Prop := isaBackRow.holds Try.pinned (OpenSpec.ofChange isaBackSpec)

/-- ITS FALSE NEIGHBOUR: 'it returns false'. Refute it at one input. -/
def isaBackWrong : ChangeSpec := { name := "isaBack", fn := fun _ => fun
  | [d1, d2, d3] => { results := [.lit (.bool false)], args := [d1, d2, d3] }
  | _ => none }
def IsaBackWrongFalsely : Prop := isaBackRow.holds Try.pinned (OpenSpec.ofChange isaBackWrong)

/-- 'theodolitelaw03.IsaRow': WHATEVER THE INPUT: true; the input reads as it did. -/
def isaRowSpec : ChangeSpec := { name := "isaRow", fn := fun _ => fun
  | [d] => { results := [.lit (.bool true)], args := [d] }
  | _ => none }
def isaRowRow : OpenClaim := { program := "ytnaafaopdefigaa", sum := "7cd54bbf98221a6ba2b99e18f8eeb84ce94c180665928fba909a7351b425c6f3", func := "theodolite/theodolitelaw03.IsaRow", spec := "isaRow", unfollowed := true, recurses := true, apart := false }
def IsaRowSaid : Prop := isaRowRow.holds Try.pinned (OpenSpec.ofChange isaRowSpec)

/-- ITS FALSE NEIGHBOUR: 'it returns false'. Refute it at one input. -/
def isaRowWrong : ChangeSpec := { name := "isaRow", fn := fun _ => fun
  | [d] => { results := [.lit (.bool false)], args := [d] }
  | _ => none }
def IsaRowWrongFalsely : Prop := isaRowRow.holds Try.pinned (OpenSpec.ofChange isaRowWrong)

/-- 'theodolitelaw03.IsaJumps': WHATEVER THE INPUT: true; the input reads as it did. -/
def isaJumpsSpec : ChangeSpec := { name := "isaJumps", fn := fun _ => fun
  | [d1, d2, d3] => { results := [.lit (.bool true)], args := [d1, d2, d3] }
  | _ => none }
def isaJumpsRow : OpenClaim := { program := "ytnaafaopdefigaa", sum := "7cd54bbf98221a6ba2b99e18f8eeb84ce94c180665928fba909a7351b425c6f3", func := "theodolite/theodolitelaw03.IsaJumps", spec := "isaJumps", unfollowed := true, recurses := true, apart := false }
def IsaJumpsSaid : Prop := isaJumpsRow.holds Try.pinned (OpenSpec.ofChange isaJumpsSpec)

/-- ITS FALSE NEIGHBOUR: 'it returns false'. Refute it at one input. -/
def isaJumpsWrong : ChangeSpec := { name := "isaJumps", fn := fun _ => fun
  | [d1, d2, d3] => { results := [.lit (.bool false)], args := [d1, d2, d3] }
  | _ => none }
def IsaJumpsWrongFalsely : Prop := isaJumpsRow.holds Try.pinned (OpenSpec.ofChange isaJumpsWrong)

/- THE SECOND FORM. 'bulk': how many values and letters a reading holds, each counted each time it is reached (what is shared counts as often as it is met; a slice's spare places count too). A statement '..UptoSaid' is the law's where the arguments, and the package variables that the reading takes, are together of bulk at most 1048576: NARROWER than '..Said'. Prove '..Said' where nothing that the law and all that it calls make is longer than what came in: it says more and counts as full. Else prove '..UptoSaid'. A law counts once. -/
mutual
def uptoBulk {H : Type} : DataW H → Nat
  | .lit (.string bytes) => bytes.length + 1
  | .lit _ => 1
  | .nil => 1
  | .ptr d => uptoBulk d + 1
  | .slice elems spare => uptoBulkAll elems + uptoBulkAll spare + 1
  | .agg parts => uptoBulkAll parts + 1
  | .iface _ d => uptoBulk d + 1
  | .map entries => uptoBulkEntries entries + 1
  | .held _ => 1
def uptoBulkAll {H : Type} : List (DataW H) → Nat
  | [] => 0
  | d :: r => uptoBulk d + uptoBulkAll r
def uptoBulkEntries {H : Type} : List (Lit × DataW H) → Nat
  | [] => 0
  | x :: r => uptoBulkEntry x + uptoBulkEntries r
def uptoBulkEntry {H : Type} : Lit × DataW H → Nat
  | (.string bytes, d) => bytes.length + uptoBulk d + 1
  | (_, d) => uptoBulk d + 1
 end
def uptoSmall : (H : Type) → List (DataW H) → Bool := fun _ ds => decide (uptoBulkAll ds ≤ 1048576)
def OpenSpec.upto (s : _root_.Go.ChangeSpec) : _root_.Go.OpenSpec := { _root_.Go.OpenSpec.ofChange s with cond := some uptoSmall }

/-- 'theodolitelaw03.IsaPuts', WHERE WHAT IT READS IS OF BULK AT MOST 1048576: true; the input reads as it did. -/
def isaPutsUptoRow : OpenClaim := { program := "ytnaafaopdefigaa", sum := "7cd54bbf98221a6ba2b99e18f8eeb84ce94c180665928fba909a7351b425c6f3", func := "theodolite/theodolitelaw03.IsaPuts", spec := "isaPuts", unfollowed := true, recurses := true, apart := false, narrowed := true }
def IsaPutsUptoSaid : Prop := isaPutsUptoRow.holds Try.pinned (OpenSpec.upto isaPutsSpec)

/-- 'theodolitelaw03.IsaGets', WHERE WHAT IT READS IS OF BULK AT MOST 1048576: true; the input reads as it did. -/
def isaGetsUptoRow : OpenClaim := { program := "ytnaafaopdefigaa", sum := "7cd54bbf98221a6ba2b99e18f8eeb84ce94c180665928fba909a7351b425c6f3", func := "theodolite/theodolitelaw03.IsaGets", spec := "isaGets", unfollowed := true, recurses := true, apart := false, narrowed := true }
def IsaGetsUptoSaid : Prop := isaGetsUptoRow.holds Try.pinned (OpenSpec.upto isaGetsSpec)

/-- 'theodolitelaw03.IsaBack', WHERE WHAT IT READS IS OF BULK AT MOST 1048576: true; the input reads as it did. -/
def isaBackUptoRow : OpenClaim := { program := "ytnaafaopdefigaa", sum := "7cd54bbf98221a6ba2b99e18f8eeb84ce94c180665928fba909a7351b425c6f3", func := "theodolite/theodolitelaw03.IsaBack", spec := "isaBack", unfollowed := true, recurses := true, apart := false, narrowed := true }
def IsaBackUptoSaid : Prop := isaBackUptoRow.holds Try.pinned (OpenSpec.upto isaBackSpec)

/-- 'theodolitelaw03.IsaRow', WHERE WHAT IT READS IS OF BULK AT MOST 1048576: true; the input reads as it did. -/
def isaRowUptoRow : OpenClaim := { program := "ytnaafaopdefigaa", sum := "7cd54bbf98221a6ba2b99e18f8eeb84ce94c180665928fba909a7351b425c6f3", func := "theodolite/theodolitelaw03.IsaRow", spec := "isaRow", unfollowed := true, recurses := true, apart := false, narrowed := true }
def IsaRowUptoSaid : Prop := isaRowUptoRow.holds Try.pinned (OpenSpec.upto isaRowSpec)

/-- 'theodolitelaw03.IsaJumps', WHERE WHAT IT READS IS OF BULK AT MOST 1048576: true; the input reads as it did. -/
def isaJumpsUptoRow : OpenClaim := { program := "ytnaafaopdefigaa", sum := "7cd54bbf98221a6ba2b99e18f8eeb84ce94c180665928fba909a7351b425c6f3", func := "theodolite/theodolitelaw03.IsaJumps", spec := "isaJumps", unfollowed := true, recurses := true, apart := false, narrowed := true }
def IsaJumpsUptoSaid : Prop := isaJumpsUptoRow.holds Try.pinned (OpenSpec.upto isaJumpsSpec)

end Rows
end Go.Proofs.Ytnaafaopdefigaa
