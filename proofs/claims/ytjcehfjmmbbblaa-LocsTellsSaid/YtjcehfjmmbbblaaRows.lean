/-
  No cell of these rows narrows 'for every input' (looked for: loops, veiled, ifaces, maps, wideKeys, modest, calm, conditions, laid).
  DERIVED. THE GIVEN ROWS OF THIS SEAT. 5 by the template 'for every input the law returns true; each argument reads behind the call as it read before'; 0 by the template 'total and deterministic' (their statements: YtjcehfjmmbbblaaTotals.lean).
  GIVEN WITH THE SEED: the statements are not yours to turn. If you find one false, say at which input.
  Laid BY PROGRAM, IN A SANDBOX (cutbox-rows.mjs): the forced cells as the released guide's own fill.sh prints them over the translation fe4c3929bb619d88… (all of the seat's roots in one cut). By AI agents, Wed Nov 11 2026. No macro, syntax, notation, axiom, sorry.
-/
import Derived.Test.YtjcehfjmmbbblaaChecked
import GoSem.Claim
import GoSem.ClaimJoined
import GoSem.ClaimMapViews
import Derived.JoinedTies
import Derived.KernelRfl
namespace Go.Proofs.Ytjcehfjmmbbblaa
/- THE CELL 'sum', in the pinned program and in every row, IS THE sha256 OF THE DUMP (.gsa) THAT YtjcehfjmmbbblaaProg.lean LOADS. Nothing in Lean hashes anything: it is a label: what it is worth is what the hold of that sum in a sandbox is worth. -/
noncomputable def Try.pinned : Pinned := { name := "ytjcehfjmmbbblaa", sum := "fe4c3929bb619d885b21f16a8be25ac58d9a401c8dea6d83ef9e2c1e372574c6", checked := Try.checked }
namespace Rows
def none {H : Type} : Left H := { results := [], args := [] }

/-- 'theodolitelaw07.LocsPuts': WHATEVER THE INPUT: true; the input reads as it did. -/
def locsPutsSpec : ChangeSpec := { name := "locsPuts", fn := fun _ => fun
  | [d1, d2] => { results := [.lit (.bool true)], args := [d1, d2] }
  | _ => none }
def locsPutsRow : OpenClaim := { program := "ytjcehfjmmbbblaa", sum := "fe4c3929bb619d885b21f16a8be25ac58d9a401c8dea6d83ef9e2c1e372574c6", func := "theodolite/theodolitelaw07.LocsPuts", spec := "locsPuts", unfollowed := true, recurses := true, apart := false }
def LocsPutsSaid : Prop := locsPutsRow.holds Try.pinned (OpenSpec.ofChange locsPutsSpec)

/-- ITS FALSE NEIGHBOUR: 'it returns false'. Refute it at one input. -/
def locsPutsWrong : ChangeSpec := { name := "locsPuts", fn := fun _ => fun
  | [d1, d2] => { results := [.lit (.bool false)], args := [d1, d2] }
  | _ => none }
def LocsPutsWrongFalsely : Prop := locsPutsRow.holds Try.pinned (OpenSpec.ofChange locsPutsWrong)

/-- 'theodolitelaw07.LocsGets': WHATEVER THE INPUT: true; the input reads as it did. -/
def locsGetsSpec : ChangeSpec := { name := "locsGets", fn := fun _ => fun
  | [d1, d2] => { results := [.lit (.bool true)], args := [d1, d2] }
  | _ => none }
def locsGetsRow : OpenClaim := { program := "ytjcehfjmmbbblaa", sum := "fe4c3929bb619d885b21f16a8be25ac58d9a401c8dea6d83ef9e2c1e372574c6", func := "theodolite/theodolitelaw07.LocsGets", spec := "locsGets", unfollowed := true, recurses := true, apart := false }
def LocsGetsSaid : Prop := locsGetsRow.holds Try.pinned (OpenSpec.ofChange locsGetsSpec)

/-- ITS FALSE NEIGHBOUR: 'it returns false'. Refute it at one input. -/
def locsGetsWrong : ChangeSpec := { name := "locsGets", fn := fun _ => fun
  | [d1, d2] => { results := [.lit (.bool false)], args := [d1, d2] }
  | _ => none }
def LocsGetsWrongFalsely : Prop := locsGetsRow.holds Try.pinned (OpenSpec.ofChange locsGetsWrong)

/-- 'theodolitelaw07.LocsTells': WHATEVER THE INPUT: true; the input reads as it did. -/
def locsTellsSpec : ChangeSpec := { name := "locsTells", fn := fun _ => fun
  | [d1, d2, d3, d4] => { results := [.lit (.bool true)], args := [d1, d2, d3, d4] }
  | _ => none }
def locsTellsRow : OpenClaim := { program := "ytjcehfjmmbbblaa", sum := "fe4c3929bb619d885b21f16a8be25ac58d9a401c8dea6d83ef9e2c1e372574c6", func := "theodolite/theodolitelaw07.LocsTells", spec := "locsTells", unfollowed := true, recurses := true, apart := false }
def LocsTellsSaid : Prop := locsTellsRow.holds Try.pinned (OpenSpec.ofChange locsTellsSpec)

/-- ITS FALSE NEIGHBOUR: 'it returns false'. Refute it at one input. -/
def locsTellsWrong : ChangeSpec := { name := "locsTells", fn := fun _ => fun
  | [d1, d2, d3, d4] => { results := [.lit (.bool false)], args := [d1, d2, d3, d4] }
  | _ => none }
def LocsTellsWrongFalsely : Prop := locsTellsRow.holds Try.pinned (OpenSpec.ofChange locsTellsWrong)

/-- 'theodolitelaw07.LocsBack': WHATEVER THE INPUT: true; the input reads as it did. -/
def locsBackSpec : ChangeSpec := { name := "locsBack", fn := fun _ => fun
  | [d1, d2, d3] => { results := [.lit (.bool true)], args := [d1, d2, d3] }
  | _ => none }
def locsBackRow : OpenClaim := { program := "ytjcehfjmmbbblaa", sum := "fe4c3929bb619d885b21f16a8be25ac58d9a401c8dea6d83ef9e2c1e372574c6", func := "theodolite/theodolitelaw07.LocsBack", spec := "locsBack", unfollowed := true, recurses := true, apart := false }
def LocsBackSaid : Prop := locsBackRow.holds Try.pinned (OpenSpec.ofChange locsBackSpec)

/-- ITS FALSE NEIGHBOUR: 'it returns false'. Refute it at one input. -/
def locsBackWrong : ChangeSpec := { name := "locsBack", fn := fun _ => fun
  | [d1, d2, d3] => { results := [.lit (.bool false)], args := [d1, d2, d3] }
  | _ => none }
def LocsBackWrongFalsely : Prop := locsBackRow.holds Try.pinned (OpenSpec.ofChange locsBackWrong)

/-- 'theodolitelaw07.LocsCuts': WHATEVER THE INPUT: true; the input reads as it did. -/
def locsCutsSpec : ChangeSpec := { name := "locsCuts", fn := fun _ => fun
  | [d1, d2, d3, d4] => { results := [.lit (.bool true)], args := [d1, d2, d3, d4] }
  | _ => none }
def locsCutsRow : OpenClaim := { program := "ytjcehfjmmbbblaa", sum := "fe4c3929bb619d885b21f16a8be25ac58d9a401c8dea6d83ef9e2c1e372574c6", func := "theodolite/theodolitelaw07.LocsCuts", spec := "locsCuts", unfollowed := true, recurses := true, apart := false }
def LocsCutsSaid : Prop := locsCutsRow.holds Try.pinned (OpenSpec.ofChange locsCutsSpec)

/-- ITS FALSE NEIGHBOUR: 'it returns false'. Refute it at one input. -/
def locsCutsWrong : ChangeSpec := { name := "locsCuts", fn := fun _ => fun
  | [d1, d2, d3, d4] => { results := [.lit (.bool false)], args := [d1, d2, d3, d4] }
  | _ => none }
def LocsCutsWrongFalsely : Prop := locsCutsRow.holds Try.pinned (OpenSpec.ofChange locsCutsWrong)

/- THE SECOND FORM. 'bulk': how many values and letters a reading holds, each counted each time it is reached (what is shared counts as often as it is met; a slice's spare places count too). A statement '..UptoSaid' is the law's where the arguments, and the package variables that the reading takes, are together of bulk at most 1048576: NARROWER than '..Said'. Prove '..Said' where nothing that the law and all that it calls make is longer than what came in: it says more and counts as full. Else prove '..UptoSaid'. A law counts once. -/
mutual
def uptoBulk {H : Type} : DataW H → Nat
  | .lit (.string bytes) => bytes.length + 1
  | .lit _ => 1
  | .nil => 1
  | .ptr d => uptoBulk d + 1
  | .slice elems spare => uptoBulkAll elems + uptoBulkAll spare + 1
  | .agg parts => uptoBulkAll parts + 1
  | .iface _ d => uptoBulk d + 1
  | .map entries => uptoBulkEntries entries + 1
  | .held _ => 1
def uptoBulkAll {H : Type} : List (DataW H) → Nat
  | [] => 0
  | d :: r => uptoBulk d + uptoBulkAll r
def uptoBulkEntries {H : Type} : List (Lit × DataW H) → Nat
  | [] => 0
  | x :: r => uptoBulkEntry x + uptoBulkEntries r
def uptoBulkEntry {H : Type} : Lit × DataW H → Nat
  | (.string bytes, d) => bytes.length + uptoBulk d + 1
  | (_, d) => uptoBulk d + 1
 end
def uptoSmall : (H : Type) → List (DataW H) → Bool := fun _ ds => decide (uptoBulkAll ds ≤ 1048576)
def OpenSpec.upto (s : _root_.Go.ChangeSpec) : _root_.Go.OpenSpec := { _root_.Go.OpenSpec.ofChange s with cond := some uptoSmall }

/-- 'theodolitelaw07.LocsPuts', WHERE WHAT IT READS IS OF BULK AT MOST 1048576: true; the input reads as it did. -/
def locsPutsUptoRow : OpenClaim := { program := "ytjcehfjmmbbblaa", sum := "fe4c3929bb619d885b21f16a8be25ac58d9a401c8dea6d83ef9e2c1e372574c6", func := "theodolite/theodolitelaw07.LocsPuts", spec := "locsPuts", unfollowed := true, recurses := true, apart := false, narrowed := true }
def LocsPutsUptoSaid : Prop := locsPutsUptoRow.holds Try.pinned (OpenSpec.upto locsPutsSpec)

/-- 'theodolitelaw07.LocsGets', WHERE WHAT IT READS IS OF BULK AT MOST 1048576: true; the input reads as it did. -/
def locsGetsUptoRow : OpenClaim := { program := "ytjcehfjmmbbblaa", sum := "fe4c3929bb619d885b21f16a8be25ac58d9a401c8dea6d83ef9e2c1e372574c6", func := "theodolite/theodolitelaw07.LocsGets", spec := "locsGets", unfollowed := true, recurses := true, apart := false, narrowed := true }
def LocsGetsUptoSaid : Prop := locsGetsUptoRow.holds Try.pinned (OpenSpec.upto locsGetsSpec)

/-- 'theodolitelaw07.LocsTells', WHERE WHAT IT READS IS OF BULK AT MOST 1048576: true; the input reads as it did. -/
def locsTellsUptoRow : OpenClaim := { program := "ytjcehfjmmbbblaa", sum := "fe4c3929bb619d885b21f16a8be25ac58d9a401c8dea6d83ef9e2c1e372574c6", func := "theodolite/theodolitelaw07.LocsTells", spec := "locsTells", unfollowed := true, recurses := true, apart := false, narrowed := true }
def LocsTellsUptoSaid : Prop := locsTellsUptoRow.holds Try.pinned (OpenSpec.upto locsTellsSpec)

/-- 'theodolitelaw07.LocsBack', WHERE WHAT IT READS IS OF BULK AT MOST 1048576: true; the input reads as it did. -/
def locsBackUptoRow : OpenClaim := { program := "ytjcehfjmmbbblaa", sum := "fe4c3929bb619d885b21f16a8be25ac58d9a401c8dea6d83ef9e2c1e372574c6", func := "theodolite/theodolitelaw07.LocsBack", spec := "locsBack", unfollowed := true, recurses := true, apart := false, narrowed := true }
def LocsBackUptoSaid : Prop := locsBackUptoRow.holds Try.pinned (OpenSpec.upto locsBackSpec)

/-- 'theodolitelaw07.LocsCuts', WHERE WHAT IT READS IS OF BULK AT MOST 1048576: true; the input reads as it did. -/
def locsCutsUptoRow : OpenClaim := { program := "ytjcehfjmmbbblaa", sum := "fe4c3929bb619d885b21f16a8be25ac58d9a401c8dea6d83ef9e2c1e372574c6", func := "theodolite/theodolitelaw07.LocsCuts", spec := "locsCuts", unfollowed := true, recurses := true, apart := false, narrowed := true }
def LocsCutsUptoSaid : Prop := locsCutsUptoRow.holds Try.pinned (OpenSpec.upto locsCutsSpec)

end Rows
end Go.Proofs.Ytjcehfjmmbbblaa
