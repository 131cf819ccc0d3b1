/-
  No cell of these rows narrows 'for every input' (looked for: loops, veiled, ifaces, maps, wideKeys, modest, calm, conditions, laid).
  DERIVED. THE GIVEN ROWS OF THIS SEAT. 3 by the template 'for every input the law returns true; each argument reads behind the call as it read before'; 0 by the template 'total and deterministic' (their statements: YtgkllgoelpfdkaaGreatTotals.lean).
  GIVEN WITH THE SEED: the statements are not yours to turn. If you find one false, say at which input.
  Laid BY PROGRAM, IN A SANDBOX (cutbox-rows.mjs): the forced cells as the released guide's own fill.sh prints them over the translation 495a423480ea05a8… (all of the seat's roots in one cut). By AI agents, Wed Nov 11 2026. No macro, syntax, notation, axiom, sorry.
-/
import Derived.Test.YtgkllgoelpfdkaaGreatChecked
import GoSem.Claim
import GoSem.ClaimJoined
import GoSem.ClaimMapViews
import Derived.JoinedTies
import Derived.KernelRfl
namespace Go.Proofs.YtgkllgoelpfdkaaGreat
/- THE CELL 'sum', in the pinned program and in every row, IS THE sha256 OF THE DUMP (.gsa) THAT YtgkllgoelpfdkaaGreatProg.lean LOADS. Nothing in Lean hashes anything: it is a label: what it is worth is what the hold of that sum in a sandbox is worth. -/
noncomputable def Tryz.pinned : Pinned := { name := "ytgkllgoelpfdkaagreat", sum := "495a423480ea05a82f413616f4c65a1257a490d725e68e37c1334618a8d5e842", checked := Tryz.checked }
namespace Rows
def none {H : Type} : Left H := { results := [], args := [] }

/-- 'theodolitelaw04.CpuFuels': WHATEVER THE INPUT: true; the input reads as it did. -/
def cpuFuelsSpec : ChangeSpec := { name := "cpuFuels", fn := fun _ => fun
  | [d1, d2, d3] => { results := [.lit (.bool true)], args := [d1, d2, d3] }
  | _ => none }
def cpuFuelsRow : OpenClaim := { program := "ytgkllgoelpfdkaagreat", sum := "495a423480ea05a82f413616f4c65a1257a490d725e68e37c1334618a8d5e842", func := "theodolite/theodolitelaw04.CpuFuels", spec := "cpuFuels", unfollowed := true, recurses := true, apart := false }
def CpuFuelsSaid : Prop := cpuFuelsRow.holds Tryz.pinned (OpenSpec.ofChange cpuFuelsSpec)

/-- ITS FALSE NEIGHBOUR: 'it returns false'. Refute it at one input. -/
def cpuFuelsWrong : ChangeSpec := { name := "cpuFuels", fn := fun _ => fun
  | [d1, d2, d3] => { results := [.lit (.bool false)], args := [d1, d2, d3] }
  | _ => none }
def CpuFuelsWrongFalsely : Prop := cpuFuelsRow.holds Tryz.pinned (OpenSpec.ofChange cpuFuelsWrong)

/-- 'theodolitelaw04.CpuEnds': WHATEVER THE INPUT: true; the input reads as it did. -/
def cpuEndsSpec : ChangeSpec := { name := "cpuEnds", fn := fun _ => fun
  | [d] => { results := [.lit (.bool true)], args := [d] }
  | _ => none }
def cpuEndsRow : OpenClaim := { program := "ytgkllgoelpfdkaagreat", sum := "495a423480ea05a82f413616f4c65a1257a490d725e68e37c1334618a8d5e842", func := "theodolite/theodolitelaw04.CpuEnds", spec := "cpuEnds", unfollowed := true, recurses := true, apart := false }
def CpuEndsSaid : Prop := cpuEndsRow.holds Tryz.pinned (OpenSpec.ofChange cpuEndsSpec)

/-- ITS FALSE NEIGHBOUR: 'it returns false'. Refute it at one input. -/
def cpuEndsWrong : ChangeSpec := { name := "cpuEnds", fn := fun _ => fun
  | [d] => { results := [.lit (.bool false)], args := [d] }
  | _ => none }
def CpuEndsWrongFalsely : Prop := cpuEndsRow.holds Tryz.pinned (OpenSpec.ofChange cpuEndsWrong)

/-- 'theodolitelaw04.CpuRuns': WHATEVER THE INPUT: true; the input reads as it did. -/
def cpuRunsSpec : ChangeSpec := { name := "cpuRuns", fn := fun _ => fun
  | [d] => { results := [.lit (.bool true)], args := [d] }
  | _ => none }
def cpuRunsRow : OpenClaim := { program := "ytgkllgoelpfdkaagreat", sum := "495a423480ea05a82f413616f4c65a1257a490d725e68e37c1334618a8d5e842", func := "theodolite/theodolitelaw04.CpuRuns", spec := "cpuRuns", unfollowed := true, recurses := true, apart := false }
def CpuRunsSaid : Prop := cpuRunsRow.holds Tryz.pinned (OpenSpec.ofChange cpuRunsSpec)

/-- ITS FALSE NEIGHBOUR: 'it returns false'. Refute it at one input. -/
def cpuRunsWrong : ChangeSpec := { name := "cpuRuns", fn := fun _ => fun
  | [d] => { results := [.lit (.bool false)], args := [d] }
  | _ => none }
def CpuRunsWrongFalsely : Prop := cpuRunsRow.holds Tryz.pinned (OpenSpec.ofChange cpuRunsWrong)

/- THE SECOND FORM. 'bulk': how many values and letters a reading holds, each counted each time it is reached (what is shared counts as often as it is met; a slice's spare places count too). A statement '..UptoSaid' is the law's where the arguments, and the package variables that the reading takes, are together of bulk at most 1048576: NARROWER than '..Said'. Prove '..Said' where nothing that the law and all that it calls make is longer than what came in: it says more and counts as full. Else prove '..UptoSaid'. A law counts once. -/
mutual
def uptoBulk {H : Type} : DataW H → Nat
  | .lit (.string bytes) => bytes.length + 1
  | .lit _ => 1
  | .nil => 1
  | .ptr d => uptoBulk d + 1
  | .slice elems spare => uptoBulkAll elems + uptoBulkAll spare + 1
  | .agg parts => uptoBulkAll parts + 1
  | .iface _ d => uptoBulk d + 1
  | .map entries => uptoBulkEntries entries + 1
  | .held _ => 1
def uptoBulkAll {H : Type} : List (DataW H) → Nat
  | [] => 0
  | d :: r => uptoBulk d + uptoBulkAll r
def uptoBulkEntries {H : Type} : List (Lit × DataW H) → Nat
  | [] => 0
  | x :: r => uptoBulkEntry x + uptoBulkEntries r
def uptoBulkEntry {H : Type} : Lit × DataW H → Nat
  | (.string bytes, d) => bytes.length + uptoBulk d + 1
  | (_, d) => uptoBulk d + 1
 end
def uptoSmall : (H : Type) → List (DataW H) → Bool := fun _ ds => decide (uptoBulkAll ds ≤ 1048576)
def OpenSpec.upto (s : _root_.Go.ChangeSpec) : _root_.Go.OpenSpec := { _root_.Go.OpenSpec.ofChange s with cond := some uptoSmall }

/-- 'theodolitelaw04.CpuFuels', WHERE WHAT IT READS IS OF BULK AT MOST 1048576: true; the input reads as it did. -/
def cpuFuelsUptoRow : OpenClaim := { program := "ytgkllgoelpfdkaagreat", sum := "495a423480ea05a82f413616f4c65a1257a490d725e68e37c1334618a8d5e842", func := "theodolite/theodolitelaw04.CpuFuels", spec := "cpuFuels", unfollowed := true, recurses := true, apart := false, narrowed := true }
def CpuFuelsUptoSaid : Prop := cpuFuelsUptoRow.holds Tryz.pinned (OpenSpec.upto cpuFuelsSpec)

/-- 'theodolitelaw04.CpuEnds', WHERE WHAT IT READS IS OF BULK AT MOST 1048576: true; the input reads as it did. -/
def cpuEndsUptoRow : OpenClaim := { program := "ytgkllgoelpfdkaagreat", sum := "495a423480ea05a82f413616f4c65a1257a490d725e68e37c1334618a8d5e842", func := "theodolite/theodolitelaw04.CpuEnds", spec := "cpuEnds", unfollowed := true, recurses := true, apart := false, narrowed := true }
def CpuEndsUptoSaid : Prop := cpuEndsUptoRow.holds Tryz.pinned (OpenSpec.upto cpuEndsSpec)

/-- 'theodolitelaw04.CpuRuns', WHERE WHAT IT READS IS OF BULK AT MOST 1048576: true; the input reads as it did. -/
def cpuRunsUptoRow : OpenClaim := { program := "ytgkllgoelpfdkaagreat", sum := "495a423480ea05a82f413616f4c65a1257a490d725e68e37c1334618a8d5e842", func := "theodolite/theodolitelaw04.CpuRuns", spec := "cpuRuns", unfollowed := true, recurses := true, apart := false, narrowed := true }
def CpuRunsUptoSaid : Prop := cpuRunsUptoRow.holds Tryz.pinned (OpenSpec.upto cpuRunsSpec)

end Rows
end Go.Proofs.YtgkllgoelpfdkaaGreat
