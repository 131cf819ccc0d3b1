/-
  No cell of these rows narrows 'for every input' (looked for: loops, veiled, ifaces, maps, wideKeys, modest, calm, conditions, laid).
  DERIVED. THE GIVEN ROWS OF THIS SEAT. 3 by the template 'for every input the law returns true; each argument reads behind the call as it read before'; 0 by the template 'total and deterministic' (their statements: YtckcngkkofemjaaTotals.lean).
  GIVEN WITH THE SEED: the statements are not yours to turn. If you find one false, say at which input.
  Laid BY PROGRAM, IN A SANDBOX (cutbox-rows.mjs): the forced cells as the released guide's own fill.sh prints them over the translation 13b8c8aac0e66f1d… (all of the seat's roots in one cut). By AI agents, Wed Nov 11 2026. No macro, syntax, notation, axiom, sorry.
-/
import Derived.Test.YtckcngkkofemjaaChecked
import GoSem.Claim
import GoSem.ClaimJoined
import GoSem.ClaimMapViews
import Derived.JoinedTies
import Derived.KernelRfl
namespace Go.Proofs.Ytckcngkkofemjaa
/- THE CELL 'sum', in the pinned program and in every row, IS THE sha256 OF THE DUMP (.gsa) THAT YtckcngkkofemjaaProg.lean LOADS. Nothing in Lean hashes anything: it is a label: what it is worth is what the hold of that sum in a sandbox is worth. -/
noncomputable def Try.pinned : Pinned := { name := "ytckcngkkofemjaa", sum := "13b8c8aac0e66f1d9b16571713a5f03b67d13e9725d7943b329b558a5b7fc9bc", checked := Try.checked }
namespace Rows
def none {H : Type} : Left H := { results := [], args := [] }

/-- 'theodolitelaw09.ScopesFinds': WHATEVER THE INPUT: true; the input reads as it did. -/
def scopesFindsSpec : ChangeSpec := { name := "scopesFinds", fn := fun _ => fun
  | [d1, d2, d3, d4] => { results := [.lit (.bool true)], args := [d1, d2, d3, d4] }
  | _ => none }
def scopesFindsRow : OpenClaim := { program := "ytckcngkkofemjaa", sum := "13b8c8aac0e66f1d9b16571713a5f03b67d13e9725d7943b329b558a5b7fc9bc", func := "theodolite/theodolitelaw09.ScopesFinds", spec := "scopesFinds", unfollowed := true, recurses := true, apart := false }
def ScopesFindsSaid : Prop := scopesFindsRow.holds Try.pinned (OpenSpec.ofChange scopesFindsSpec)

/-- ITS FALSE NEIGHBOUR: 'it returns false'. Refute it at one input. -/
def scopesFindsWrong : ChangeSpec := { name := "scopesFinds", fn := fun _ => fun
  | [d1, d2, d3, d4] => { results := [.lit (.bool false)], args := [d1, d2, d3, d4] }
  | _ => none }
def ScopesFindsWrongFalsely : Prop := scopesFindsRow.holds Try.pinned (OpenSpec.ofChange scopesFindsWrong)

/-- 'theodolitelaw09.ScopesBack': WHATEVER THE INPUT: true; the input reads as it did. -/
def scopesBackSpec : ChangeSpec := { name := "scopesBack", fn := fun _ => fun
  | [d1, d2, d3] => { results := [.lit (.bool true)], args := [d1, d2, d3] }
  | _ => none }
def scopesBackRow : OpenClaim := { program := "ytckcngkkofemjaa", sum := "13b8c8aac0e66f1d9b16571713a5f03b67d13e9725d7943b329b558a5b7fc9bc", func := "theodolite/theodolitelaw09.ScopesBack", spec := "scopesBack", unfollowed := true, recurses := true, apart := false }
def ScopesBackSaid : Prop := scopesBackRow.holds Try.pinned (OpenSpec.ofChange scopesBackSpec)

/-- ITS FALSE NEIGHBOUR: 'it returns false'. Refute it at one input. -/
def scopesBackWrong : ChangeSpec := { name := "scopesBack", fn := fun _ => fun
  | [d1, d2, d3] => { results := [.lit (.bool false)], args := [d1, d2, d3] }
  | _ => none }
def ScopesBackWrongFalsely : Prop := scopesBackRow.holds Try.pinned (OpenSpec.ofChange scopesBackWrong)

/-- 'theodolitelaw09.ScopesWrong': WHATEVER THE INPUT: true; the input reads as it did. -/
def scopesWrongSpec : ChangeSpec := { name := "scopesWrong", fn := fun _ => fun
  | [d1, d2] => { results := [.lit (.bool true)], args := [d1, d2] }
  | _ => none }
def scopesWrongRow : OpenClaim := { program := "ytckcngkkofemjaa", sum := "13b8c8aac0e66f1d9b16571713a5f03b67d13e9725d7943b329b558a5b7fc9bc", func := "theodolite/theodolitelaw09.ScopesWrong", spec := "scopesWrong", unfollowed := true, recurses := true, apart := false }
def ScopesWrongSaid : Prop := scopesWrongRow.holds Try.pinned (OpenSpec.ofChange scopesWrongSpec)

/-- ITS FALSE NEIGHBOUR: 'it returns false'. Refute it at one input. -/
def scopesWrongWrong : ChangeSpec := { name := "scopesWrong", fn := fun _ => fun
  | [d1, d2] => { results := [.lit (.bool false)], args := [d1, d2] }
  | _ => none }
def ScopesWrongWrongFalsely : Prop := scopesWrongRow.holds Try.pinned (OpenSpec.ofChange scopesWrongWrong)

/- THE SECOND FORM. 'bulk': how many values and letters a reading holds, each counted each time it is reached (what is shared counts as often as it is met; a slice's spare places count too). A statement '..UptoSaid' is the law's where the arguments, and the package variables that the reading takes, are together of bulk at most 1048576: NARROWER than '..Said'. Prove '..Said' where nothing that the law and all that it calls make is longer than what came in: it says more and counts as full. Else prove '..UptoSaid'. A law counts once. -/
mutual
def uptoBulk {H : Type} : DataW H → Nat
  | .lit (.string bytes) => bytes.length + 1
  | .lit _ => 1
  | .nil => 1
  | .ptr d => uptoBulk d + 1
  | .slice elems spare => uptoBulkAll elems + uptoBulkAll spare + 1
  | .agg parts => uptoBulkAll parts + 1
  | .iface _ d => uptoBulk d + 1
  | .map entries => uptoBulkEntries entries + 1
  | .held _ => 1
def uptoBulkAll {H : Type} : List (DataW H) → Nat
  | [] => 0
  | d :: r => uptoBulk d + uptoBulkAll r
def uptoBulkEntries {H : Type} : List (Lit × DataW H) → Nat
  | [] => 0
  | x :: r => uptoBulkEntry x + uptoBulkEntries r
def uptoBulkEntry {H : Type} : Lit × DataW H → Nat
  | (.string bytes, d) => bytes.length + uptoBulk d + 1
  | (_, d) => uptoBulk d + 1
 end
def uptoSmall : (H : Type) → List (DataW H) → Bool := fun _ ds => decide (uptoBulkAll ds ≤ 1048576)
def OpenSpec.upto (s : _root_.Go.ChangeSpec) : _root_.Go.OpenSpec := { _root_.Go.OpenSpec.ofChange s with cond := some uptoSmall }

/-- 'theodolitelaw09.ScopesFinds', WHERE WHAT IT READS IS OF BULK AT MOST 1048576: true; the input reads as it did. -/
def scopesFindsUptoRow : OpenClaim := { program := "ytckcngkkofemjaa", sum := "13b8c8aac0e66f1d9b16571713a5f03b67d13e9725d7943b329b558a5b7fc9bc", func := "theodolite/theodolitelaw09.ScopesFinds", spec := "scopesFinds", unfollowed := true, recurses := true, apart := false, narrowed := true }
def ScopesFindsUptoSaid : Prop := scopesFindsUptoRow.holds Try.pinned (OpenSpec.upto scopesFindsSpec)

/-- 'theodolitelaw09.ScopesBack', WHERE WHAT IT READS IS OF BULK AT MOST 1048576: true; the input reads as it did. -/
def scopesBackUptoRow : OpenClaim := { program := "ytckcngkkofemjaa", sum := "13b8c8aac0e66f1d9b16571713a5f03b67d13e9725d7943b329b558a5b7fc9bc", func := "theodolite/theodolitelaw09.ScopesBack", spec := "scopesBack", unfollowed := true, recurses := true, apart := false, narrowed := true }
def ScopesBackUptoSaid : Prop := scopesBackUptoRow.holds Try.pinned (OpenSpec.upto scopesBackSpec)

/-- 'theodolitelaw09.ScopesWrong', WHERE WHAT IT READS IS OF BULK AT MOST 1048576: true; the input reads as it did. -/
def scopesWrongUptoRow : OpenClaim := { program := "ytckcngkkofemjaa", sum := "13b8c8aac0e66f1d9b16571713a5f03b67d13e9725d7943b329b558a5b7fc9bc", func := "theodolite/theodolitelaw09.ScopesWrong", spec := "scopesWrong", unfollowed := true, recurses := true, apart := false, narrowed := true }
def ScopesWrongUptoSaid : Prop := scopesWrongUptoRow.holds Try.pinned (OpenSpec.upto scopesWrongSpec)

end Rows
end Go.Proofs.Ytckcngkkofemjaa
