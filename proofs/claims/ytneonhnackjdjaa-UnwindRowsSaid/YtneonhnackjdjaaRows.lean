/-
  No cell of these rows narrows 'for every input' (looked for: loops, veiled, ifaces, maps, wideKeys, modest, calm, conditions, laid).
  DERIVED. THE GIVEN ROWS OF THIS SEAT. 4 by the template 'for every input the law returns true; each argument reads behind the call as it read before'; 0 by the template 'total and deterministic' (their statements: YtneonhnackjdjaaTotals.lean).
  GIVEN WITH THE SEED: the statements are not yours to turn. If you find one false, say at which input.
  Laid BY PROGRAM, IN A SANDBOX (cutbox-rows.mjs): the forced cells as the released guide's own fill.sh prints them over the translation 65a4d0a9036331a7… (all of the seat's roots in one cut). By AI agents, Wed Nov 11 2026. No macro, syntax, notation, axiom, sorry.
-/
import Derived.Test.YtneonhnackjdjaaChecked
import GoSem.Claim
import GoSem.ClaimJoined
import GoSem.ClaimMapViews
import Derived.JoinedTies
import Derived.KernelRfl
namespace Go.Proofs.Ytneonhnackjdjaa
/- THE CELL 'sum', in the pinned program and in every row, IS THE sha256 OF THE DUMP (.gsa) THAT YtneonhnackjdjaaProg.lean LOADS. Nothing in Lean hashes anything: it is a label: what it is worth is what the hold of that sum in a sandbox is worth. -/
noncomputable def Try.pinned : Pinned := { name := "ytneonhnackjdjaa", sum := "65a4d0a9036331a751598e306da243f232631cd725de78e6c2d99a5e756fea03", checked := Try.checked }
namespace Rows
def none {H : Type} : Left H := { results := [], args := [] }

/-- 'theodolitelaw08.UnwindPuts': WHATEVER THE INPUT: true; the input reads as it did. -/
def unwindPutsSpec : ChangeSpec := { name := "unwindPuts", fn := fun _ => fun
  | [d1, d2] => { results := [.lit (.bool true)], args := [d1, d2] }
  | _ => none }
def unwindPutsRow : OpenClaim := { program := "ytneonhnackjdjaa", sum := "65a4d0a9036331a751598e306da243f232631cd725de78e6c2d99a5e756fea03", func := "theodolite/theodolitelaw08.UnwindPuts", spec := "unwindPuts", unfollowed := true, recurses := true, apart := false }
def UnwindPutsSaid : Prop := unwindPutsRow.holds Try.pinned (OpenSpec.ofChange unwindPutsSpec)

/-- ITS FALSE NEIGHBOUR: 'it returns false'. Refute it at one input. -/
def unwindPutsWrong : ChangeSpec := { name := "unwindPuts", fn := fun _ => fun
  | [d1, d2] => { results := [.lit (.bool false)], args := [d1, d2] }
  | _ => none }
def UnwindPutsWrongFalsely : Prop := unwindPutsRow.holds Try.pinned (OpenSpec.ofChange unwindPutsWrong)

/-- 'theodolitelaw08.UnwindGets': WHATEVER THE INPUT: true; the input reads as it did. -/
def unwindGetsSpec : ChangeSpec := { name := "unwindGets", fn := fun _ => fun
  | [d1, d2] => { results := [.lit (.bool true)], args := [d1, d2] }
  | _ => none }
def unwindGetsRow : OpenClaim := { program := "ytneonhnackjdjaa", sum := "65a4d0a9036331a751598e306da243f232631cd725de78e6c2d99a5e756fea03", func := "theodolite/theodolitelaw08.UnwindGets", spec := "unwindGets", unfollowed := true, recurses := true, apart := false }
def UnwindGetsSaid : Prop := unwindGetsRow.holds Try.pinned (OpenSpec.ofChange unwindGetsSpec)

/-- ITS FALSE NEIGHBOUR: 'it returns false'. Refute it at one input. -/
def unwindGetsWrong : ChangeSpec := { name := "unwindGets", fn := fun _ => fun
  | [d1, d2] => { results := [.lit (.bool false)], args := [d1, d2] }
  | _ => none }
def UnwindGetsWrongFalsely : Prop := unwindGetsRow.holds Try.pinned (OpenSpec.ofChange unwindGetsWrong)

/-- 'theodolitelaw08.UnwindBack': WHATEVER THE INPUT: true; the input reads as it did. -/
def unwindBackSpec : ChangeSpec := { name := "unwindBack", fn := fun _ => fun
  | [d1, d2, d3] => { results := [.lit (.bool true)], args := [d1, d2, d3] }
  | _ => none }
def unwindBackRow : OpenClaim := { program := "ytneonhnackjdjaa", sum := "65a4d0a9036331a751598e306da243f232631cd725de78e6c2d99a5e756fea03", func := "theodolite/theodolitelaw08.UnwindBack", spec := "unwindBack", unfollowed := true, recurses := true, apart := false }
def UnwindBackSaid : Prop := unwindBackRow.holds Try.pinned (OpenSpec.ofChange unwindBackSpec)

/-- ITS FALSE NEIGHBOUR: 'it returns false'. Refute it at one input. -/
def unwindBackWrong : ChangeSpec := { name := "unwindBack", fn := fun _ => fun
  | [d1, d2, d3] => { results := [.lit (.bool false)], args := [d1, d2, d3] }
  | _ => none }
def UnwindBackWrongFalsely : Prop := unwindBackRow.holds Try.pinned (OpenSpec.ofChange unwindBackWrong)

/-- 'theodolitelaw08.UnwindRows': WHATEVER THE INPUT: true; the input reads as it did. -/
def unwindRowsSpec : ChangeSpec := { name := "unwindRows", fn := fun _ => fun
  | [d1, d2, d3] => { results := [.lit (.bool true)], args := [d1, d2, d3] }
  | _ => none }
def unwindRowsRow : OpenClaim := { program := "ytneonhnackjdjaa", sum := "65a4d0a9036331a751598e306da243f232631cd725de78e6c2d99a5e756fea03", func := "theodolite/theodolitelaw08.UnwindRows", spec := "unwindRows", unfollowed := true, recurses := true, apart := false }
def UnwindRowsSaid : Prop := unwindRowsRow.holds Try.pinned (OpenSpec.ofChange unwindRowsSpec)

/-- ITS FALSE NEIGHBOUR: 'it returns false'. Refute it at one input. -/
def unwindRowsWrong : ChangeSpec := { name := "unwindRows", fn := fun _ => fun
  | [d1, d2, d3] => { results := [.lit (.bool false)], args := [d1, d2, d3] }
  | _ => none }
def UnwindRowsWrongFalsely : Prop := unwindRowsRow.holds Try.pinned (OpenSpec.ofChange unwindRowsWrong)

/- THE SECOND FORM. 'bulk': how many values and letters a reading holds, each counted each time it is reached (what is shared counts as often as it is met; a slice's spare places count too). A statement '..UptoSaid' is the law's where the arguments, and the package variables that the reading takes, are together of bulk at most 1048576: NARROWER than '..Said'. Prove '..Said' where nothing that the law and all that it calls make is longer than what came in: it says more and counts as full. Else prove '..UptoSaid'. A law counts once. -/
mutual
def uptoBulk {H : Type} : DataW H → Nat
  | .lit (.string bytes) => bytes.length + 1
  | .lit _ => 1
  | .nil => 1
  | .ptr d => uptoBulk d + 1
  | .slice elems spare => uptoBulkAll elems + uptoBulkAll spare + 1
  | .agg parts => uptoBulkAll parts + 1
  | .iface _ d => uptoBulk d + 1
  | .map entries => uptoBulkEntries entries + 1
  | .held _ => 1
def uptoBulkAll {H : Type} : List (DataW H) → Nat
  | [] => 0
  | d :: r => uptoBulk d + uptoBulkAll r
def uptoBulkEntries {H : Type} : List (Lit × DataW H) → Nat
  | [] => 0
  | x :: r => uptoBulkEntry x + uptoBulkEntries r
def uptoBulkEntry {H : Type} : Lit × DataW H → Nat
  | (.string bytes, d) => bytes.length + uptoBulk d + 1
  | (_, d) => uptoBulk d + 1
 end
def uptoSmall : (H : Type) → List (DataW H) → Bool := fun _ ds => decide (uptoBulkAll ds ≤ 1048576)
def OpenSpec.upto (s : _root_.Go.ChangeSpec) : _root_.Go.OpenSpec := { _root_.Go.OpenSpec.ofChange s with cond := some uptoSmall }

/-- 'theodolitelaw08.UnwindPuts', WHERE WHAT IT READS IS OF BULK AT MOST 1048576: true; the input reads as it did. -/
def unwindPutsUptoRow : OpenClaim := { program := "ytneonhnackjdjaa", sum := "65a4d0a9036331a751598e306da243f232631cd725de78e6c2d99a5e756fea03", func := "theodolite/theodolitelaw08.UnwindPuts", spec := "unwindPuts", unfollowed := true, recurses := true, apart := false, narrowed := true }
def UnwindPutsUptoSaid : Prop := unwindPutsUptoRow.holds Try.pinned (OpenSpec.upto unwindPutsSpec)

/-- 'theodolitelaw08.UnwindGets', WHERE WHAT IT READS IS OF BULK AT MOST 1048576: true; the input reads as it did. -/
def unwindGetsUptoRow : OpenClaim := { program := "ytneonhnackjdjaa", sum := "65a4d0a9036331a751598e306da243f232631cd725de78e6c2d99a5e756fea03", func := "theodolite/theodolitelaw08.UnwindGets", spec := "unwindGets", unfollowed := true, recurses := true, apart := false, narrowed := true }
def UnwindGetsUptoSaid : Prop := unwindGetsUptoRow.holds Try.pinned (OpenSpec.upto unwindGetsSpec)

/-- 'theodolitelaw08.UnwindBack', WHERE WHAT IT READS IS OF BULK AT MOST 1048576: true; the input reads as it did. -/
def unwindBackUptoRow : OpenClaim := { program := "ytneonhnackjdjaa", sum := "65a4d0a9036331a751598e306da243f232631cd725de78e6c2d99a5e756fea03", func := "theodolite/theodolitelaw08.UnwindBack", spec := "unwindBack", unfollowed := true, recurses := true, apart := false, narrowed := true }
def UnwindBackUptoSaid : Prop := unwindBackUptoRow.holds Try.pinned (OpenSpec.upto unwindBackSpec)

/-- 'theodolitelaw08.UnwindRows', WHERE WHAT IT READS IS OF BULK AT MOST 1048576: true; the input reads as it did. -/
def unwindRowsUptoRow : OpenClaim := { program := "ytneonhnackjdjaa", sum := "65a4d0a9036331a751598e306da243f232631cd725de78e6c2d99a5e756fea03", func := "theodolite/theodolitelaw08.UnwindRows", spec := "unwindRows", unfollowed := true, recurses := true, apart := false, narrowed := true }
def UnwindRowsUptoSaid : Prop := unwindRowsUptoRow.holds Try.pinned (OpenSpec.upto unwindRowsSpec)

end Rows
end Go.Proofs.Ytneonhnackjdjaa
