/-
  No cell of these rows narrows 'for every input' (looked for: loops, veiled, ifaces, maps, wideKeys, modest, calm, conditions, laid).
  DERIVED. THE GIVEN ROWS OF THIS SEAT. 10 by the template 'for every input the law returns true; each argument reads behind the call as it read before'; 0 by the template 'total and deterministic' (their statements: YtmcfgapknoiohaaTotals.lean).
  GIVEN WITH THE SEED: the statements are not yours to turn. If you find one false, say at which input.
  Laid BY PROGRAM, IN A SANDBOX (cutbox-rows.mjs): the forced cells as the released guide's own fill.sh prints them over the translation 06161c6781545904… (all of the seat's roots in one cut). By AI agents, Wed Nov 11 2026. No macro, syntax, notation, axiom, sorry.
-/
import Derived.Test.YtmcfgapknoiohaaChecked
import GoSem.Claim
import GoSem.ClaimJoined
import GoSem.ClaimMapViews
import Derived.JoinedTies
import Derived.KernelRfl
namespace Go.Proofs.Ytmcfgapknoiohaa
/- THE CELL 'sum', in the pinned program and in every row, IS THE sha256 OF THE DUMP (.gsa) THAT YtmcfgapknoiohaaProg.lean LOADS. Nothing in Lean hashes anything: it is a label: what it is worth is what the hold of that sum in a sandbox is worth. -/
noncomputable def Try.pinned : Pinned := { name := "ytmcfgapknoiohaa", sum := "06161c67815459047754cc3c465497cd706f8005aac86a230d643860af3a493c", checked := Try.checked }
namespace Rows
def none {H : Type} : Left H := { results := [], args := [] }

/-- 'theodolitelaw02.LebPuts': WHATEVER THE INPUT: true; the input reads as it did. -/
def lebPutsSpec : ChangeSpec := { name := "lebPuts", fn := fun _ => fun
  | [d1, d2] => { results := [.lit (.bool true)], args := [d1, d2] }
  | _ => none }
def lebPutsRow : OpenClaim := { program := "ytmcfgapknoiohaa", sum := "06161c67815459047754cc3c465497cd706f8005aac86a230d643860af3a493c", func := "theodolite/theodolitelaw02.LebPuts", spec := "lebPuts", unfollowed := true, recurses := true, apart := false }
def LebPutsSaid : Prop := lebPutsRow.holds Try.pinned (OpenSpec.ofChange lebPutsSpec)

/-- ITS FALSE NEIGHBOUR: 'it returns false'. Refute it at one input. -/
def lebPutsWrong : ChangeSpec := { name := "lebPuts", fn := fun _ => fun
  | [d1, d2] => { results := [.lit (.bool false)], args := [d1, d2] }
  | _ => none }
def LebPutsWrongFalsely : Prop := lebPutsRow.holds Try.pinned (OpenSpec.ofChange lebPutsWrong)

/-- 'theodolitelaw02.LebReads': WHATEVER THE INPUT: true; the input reads as it did. -/
def lebReadsSpec : ChangeSpec := { name := "lebReads", fn := fun _ => fun
  | [d1, d2] => { results := [.lit (.bool true)], args := [d1, d2] }
  | _ => none }
def lebReadsRow : OpenClaim := { program := "ytmcfgapknoiohaa", sum := "06161c67815459047754cc3c465497cd706f8005aac86a230d643860af3a493c", func := "theodolite/theodolitelaw02.LebReads", spec := "lebReads", unfollowed := true, recurses := true, apart := false }
def LebReadsSaid : Prop := lebReadsRow.holds Try.pinned (OpenSpec.ofChange lebReadsSpec)

/-- ITS FALSE NEIGHBOUR: 'it returns false'. Refute it at one input. -/
def lebReadsWrong : ChangeSpec := { name := "lebReads", fn := fun _ => fun
  | [d1, d2] => { results := [.lit (.bool false)], args := [d1, d2] }
  | _ => none }
def LebReadsWrongFalsely : Prop := lebReadsRow.holds Try.pinned (OpenSpec.ofChange lebReadsWrong)

/-- 'theodolitelaw02.LebBack': WHATEVER THE INPUT: true; the input reads as it did. -/
def lebBackSpec : ChangeSpec := { name := "lebBack", fn := fun _ => fun
  | [d1, d2, d3] => { results := [.lit (.bool true)], args := [d1, d2, d3] }
  | _ => none }
def lebBackRow : OpenClaim := { program := "ytmcfgapknoiohaa", sum := "06161c67815459047754cc3c465497cd706f8005aac86a230d643860af3a493c", func := "theodolite/theodolitelaw02.LebBack", spec := "lebBack", unfollowed := true, recurses := true, apart := false }
def LebBackSaid : Prop := lebBackRow.holds Try.pinned (OpenSpec.ofChange lebBackSpec)

/-- ITS FALSE NEIGHBOUR: 'it returns false'. Refute it at one input. -/
def lebBackWrong : ChangeSpec := { name := "lebBack", fn := fun _ => fun
  | [d1, d2, d3] => { results := [.lit (.bool false)], args := [d1, d2, d3] }
  | _ => none }
def LebBackWrongFalsely : Prop := lebBackRow.holds Try.pinned (OpenSpec.ofChange lebBackWrong)

/-- 'theodolitelaw02.LebOne': WHATEVER THE INPUT: true; the input reads as it did. -/
def lebOneSpec : ChangeSpec := { name := "lebOne", fn := fun _ => fun
  | [d1, d2] => { results := [.lit (.bool true)], args := [d1, d2] }
  | _ => none }
def lebOneRow : OpenClaim := { program := "ytmcfgapknoiohaa", sum := "06161c67815459047754cc3c465497cd706f8005aac86a230d643860af3a493c", func := "theodolite/theodolitelaw02.LebOne", spec := "lebOne", unfollowed := true, recurses := true, apart := false }
def LebOneSaid : Prop := lebOneRow.holds Try.pinned (OpenSpec.ofChange lebOneSpec)

/-- ITS FALSE NEIGHBOUR: 'it returns false'. Refute it at one input. -/
def lebOneWrong : ChangeSpec := { name := "lebOne", fn := fun _ => fun
  | [d1, d2] => { results := [.lit (.bool false)], args := [d1, d2] }
  | _ => none }
def LebOneWrongFalsely : Prop := lebOneRow.holds Try.pinned (OpenSpec.ofChange lebOneWrong)

/-- 'theodolitelaw02.LebLong': WHATEVER THE INPUT: true; the input reads as it did. -/
def lebLongSpec : ChangeSpec := { name := "lebLong", fn := fun _ => fun
  | [d1, d2] => { results := [.lit (.bool true)], args := [d1, d2] }
  | _ => none }
def lebLongRow : OpenClaim := { program := "ytmcfgapknoiohaa", sum := "06161c67815459047754cc3c465497cd706f8005aac86a230d643860af3a493c", func := "theodolite/theodolitelaw02.LebLong", spec := "lebLong", unfollowed := true, recurses := true, apart := false }
def LebLongSaid : Prop := lebLongRow.holds Try.pinned (OpenSpec.ofChange lebLongSpec)

/-- ITS FALSE NEIGHBOUR: 'it returns false'. Refute it at one input. -/
def lebLongWrong : ChangeSpec := { name := "lebLong", fn := fun _ => fun
  | [d1, d2] => { results := [.lit (.bool false)], args := [d1, d2] }
  | _ => none }
def LebLongWrongFalsely : Prop := lebLongRow.holds Try.pinned (OpenSpec.ofChange lebLongWrong)

/-- 'theodolitelaw01.OctetHalves': WHATEVER THE INPUT: true; the input reads as it did. -/
def octetHalvesSpec : ChangeSpec := { name := "octetHalves", fn := fun _ => fun
  | [d1, d2, d3] => { results := [.lit (.bool true)], args := [d1, d2, d3] }
  | _ => none }
def octetHalvesRow : OpenClaim := { program := "ytmcfgapknoiohaa", sum := "06161c67815459047754cc3c465497cd706f8005aac86a230d643860af3a493c", func := "theodolite/theodolitelaw01.OctetHalves", spec := "octetHalves", apart := false }
def OctetHalvesSaid : Prop := octetHalvesRow.holds Try.pinned (OpenSpec.ofChange octetHalvesSpec)

/-- ITS FALSE NEIGHBOUR: 'it returns false'. Refute it at one input. -/
def octetHalvesWrong : ChangeSpec := { name := "octetHalves", fn := fun _ => fun
  | [d1, d2, d3] => { results := [.lit (.bool false)], args := [d1, d2, d3] }
  | _ => none }
def OctetHalvesWrongFalsely : Prop := octetHalvesRow.holds Try.pinned (OpenSpec.ofChange octetHalvesWrong)

/-- 'theodolitelaw01.OctetReads': WHATEVER THE INPUT: true; the input reads as it did. -/
def octetReadsSpec : ChangeSpec := { name := "octetReads", fn := fun _ => fun
  | [d1, d2] => { results := [.lit (.bool true)], args := [d1, d2] }
  | _ => none }
def octetReadsRow : OpenClaim := { program := "ytmcfgapknoiohaa", sum := "06161c67815459047754cc3c465497cd706f8005aac86a230d643860af3a493c", func := "theodolite/theodolitelaw01.OctetReads", spec := "octetReads", apart := false }
def OctetReadsSaid : Prop := octetReadsRow.holds Try.pinned (OpenSpec.ofChange octetReadsSpec)

/-- ITS FALSE NEIGHBOUR: 'it returns false'. Refute it at one input. -/
def octetReadsWrong : ChangeSpec := { name := "octetReads", fn := fun _ => fun
  | [d1, d2] => { results := [.lit (.bool false)], args := [d1, d2] }
  | _ => none }
def OctetReadsWrongFalsely : Prop := octetReadsRow.holds Try.pinned (OpenSpec.ofChange octetReadsWrong)

/-- 'theodolitelaw01.OctetPuts': WHATEVER THE INPUT: true; the input reads as it did. -/
def octetPutsSpec : ChangeSpec := { name := "octetPuts", fn := fun _ => fun
  | [d1, d2, d3] => { results := [.lit (.bool true)], args := [d1, d2, d3] }
  | _ => none }
def octetPutsRow : OpenClaim := { program := "ytmcfgapknoiohaa", sum := "06161c67815459047754cc3c465497cd706f8005aac86a230d643860af3a493c", func := "theodolite/theodolitelaw01.OctetPuts", spec := "octetPuts", apart := false }
def OctetPutsSaid : Prop := octetPutsRow.holds Try.pinned (OpenSpec.ofChange octetPutsSpec)

/-- ITS FALSE NEIGHBOUR: 'it returns false'. Refute it at one input. -/
def octetPutsWrong : ChangeSpec := { name := "octetPuts", fn := fun _ => fun
  | [d1, d2, d3] => { results := [.lit (.bool false)], args := [d1, d2, d3] }
  | _ => none }
def OctetPutsWrongFalsely : Prop := octetPutsRow.holds Try.pinned (OpenSpec.ofChange octetPutsWrong)

/-- 'theodolitelaw01.OctetRow': WHATEVER THE INPUT: true; the input reads as it did. -/
def octetRowSpec : ChangeSpec := { name := "octetRow", fn := fun _ => fun
  | [d] => { results := [.lit (.bool true)], args := [d] }
  | _ => none }
def octetRowRow : OpenClaim := { program := "ytmcfgapknoiohaa", sum := "06161c67815459047754cc3c465497cd706f8005aac86a230d643860af3a493c", func := "theodolite/theodolitelaw01.OctetRow", spec := "octetRow", apart := false }
def OctetRowSaid : Prop := octetRowRow.holds Try.pinned (OpenSpec.ofChange octetRowSpec)

/-- ITS FALSE NEIGHBOUR: 'it returns false'. Refute it at one input. -/
def octetRowWrong : ChangeSpec := { name := "octetRow", fn := fun _ => fun
  | [d] => { results := [.lit (.bool false)], args := [d] }
  | _ => none }
def OctetRowWrongFalsely : Prop := octetRowRow.holds Try.pinned (OpenSpec.ofChange octetRowWrong)

/-- 'theodolitelaw01.OctetOrder': WHATEVER THE INPUT: true; the input reads as it did. -/
def octetOrderSpec : ChangeSpec := { name := "octetOrder", fn := fun _ => fun
  | [d1, d2] => { results := [.lit (.bool true)], args := [d1, d2] }
  | _ => none }
def octetOrderRow : OpenClaim := { program := "ytmcfgapknoiohaa", sum := "06161c67815459047754cc3c465497cd706f8005aac86a230d643860af3a493c", func := "theodolite/theodolitelaw01.OctetOrder", spec := "octetOrder", apart := false }
def OctetOrderSaid : Prop := octetOrderRow.holds Try.pinned (OpenSpec.ofChange octetOrderSpec)

/-- ITS FALSE NEIGHBOUR: 'it returns false'. Refute it at one input. -/
def octetOrderWrong : ChangeSpec := { name := "octetOrder", fn := fun _ => fun
  | [d1, d2] => { results := [.lit (.bool false)], args := [d1, d2] }
  | _ => none }
def OctetOrderWrongFalsely : Prop := octetOrderRow.holds Try.pinned (OpenSpec.ofChange octetOrderWrong)

/- THE SECOND FORM. 'bulk': how many values and letters a reading holds, each counted each time it is reached (what is shared counts as often as it is met; a slice's spare places count too). A statement '..UptoSaid' is the law's where the arguments, and the package variables that the reading takes, are together of bulk at most 1048576: NARROWER than '..Said'. Prove '..Said' where nothing that the law and all that it calls make is longer than what came in: it says more and counts as full. Else prove '..UptoSaid'. A law counts once. -/
mutual
def uptoBulk {H : Type} : DataW H → Nat
  | .lit (.string bytes) => bytes.length + 1
  | .lit _ => 1
  | .nil => 1
  | .ptr d => uptoBulk d + 1
  | .slice elems spare => uptoBulkAll elems + uptoBulkAll spare + 1
  | .agg parts => uptoBulkAll parts + 1
  | .iface _ d => uptoBulk d + 1
  | .map entries => uptoBulkEntries entries + 1
  | .held _ => 1
def uptoBulkAll {H : Type} : List (DataW H) → Nat
  | [] => 0
  | d :: r => uptoBulk d + uptoBulkAll r
def uptoBulkEntries {H : Type} : List (Lit × DataW H) → Nat
  | [] => 0
  | x :: r => uptoBulkEntry x + uptoBulkEntries r
def uptoBulkEntry {H : Type} : Lit × DataW H → Nat
  | (.string bytes, d) => bytes.length + uptoBulk d + 1
  | (_, d) => uptoBulk d + 1
 end
def uptoSmall : (H : Type) → List (DataW H) → Bool := fun _ ds => decide (uptoBulkAll ds ≤ 1048576)
def OpenSpec.upto (s : _root_.Go.ChangeSpec) : _root_.Go.OpenSpec := { _root_.Go.OpenSpec.ofChange s with cond := some uptoSmall }

/-- 'theodolitelaw02.LebPuts', WHERE WHAT IT READS IS OF BULK AT MOST 1048576: true; the input reads as it did. -/
def lebPutsUptoRow : OpenClaim := { program := "ytmcfgapknoiohaa", sum := "06161c67815459047754cc3c465497cd706f8005aac86a230d643860af3a493c", func := "theodolite/theodolitelaw02.LebPuts", spec := "lebPuts", unfollowed := true, recurses := true, apart := false, narrowed := true }
def LebPutsUptoSaid : Prop := lebPutsUptoRow.holds Try.pinned (OpenSpec.upto lebPutsSpec)

/-- 'theodolitelaw02.LebReads', WHERE WHAT IT READS IS OF BULK AT MOST 1048576: true; the input reads as it did. -/
def lebReadsUptoRow : OpenClaim := { program := "ytmcfgapknoiohaa", sum := "06161c67815459047754cc3c465497cd706f8005aac86a230d643860af3a493c", func := "theodolite/theodolitelaw02.LebReads", spec := "lebReads", unfollowed := true, recurses := true, apart := false, narrowed := true }
def LebReadsUptoSaid : Prop := lebReadsUptoRow.holds Try.pinned (OpenSpec.upto lebReadsSpec)

/-- 'theodolitelaw02.LebBack', WHERE WHAT IT READS IS OF BULK AT MOST 1048576: true; the input reads as it did. -/
def lebBackUptoRow : OpenClaim := { program := "ytmcfgapknoiohaa", sum := "06161c67815459047754cc3c465497cd706f8005aac86a230d643860af3a493c", func := "theodolite/theodolitelaw02.LebBack", spec := "lebBack", unfollowed := true, recurses := true, apart := false, narrowed := true }
def LebBackUptoSaid : Prop := lebBackUptoRow.holds Try.pinned (OpenSpec.upto lebBackSpec)

/-- 'theodolitelaw02.LebOne', WHERE WHAT IT READS IS OF BULK AT MOST 1048576: true; the input reads as it did. -/
def lebOneUptoRow : OpenClaim := { program := "ytmcfgapknoiohaa", sum := "06161c67815459047754cc3c465497cd706f8005aac86a230d643860af3a493c", func := "theodolite/theodolitelaw02.LebOne", spec := "lebOne", unfollowed := true, recurses := true, apart := false, narrowed := true }
def LebOneUptoSaid : Prop := lebOneUptoRow.holds Try.pinned (OpenSpec.upto lebOneSpec)

/-- 'theodolitelaw02.LebLong', WHERE WHAT IT READS IS OF BULK AT MOST 1048576: true; the input reads as it did. -/
def lebLongUptoRow : OpenClaim := { program := "ytmcfgapknoiohaa", sum := "06161c67815459047754cc3c465497cd706f8005aac86a230d643860af3a493c", func := "theodolite/theodolitelaw02.LebLong", spec := "lebLong", unfollowed := true, recurses := true, apart := false, narrowed := true }
def LebLongUptoSaid : Prop := lebLongUptoRow.holds Try.pinned (OpenSpec.upto lebLongSpec)

/-- 'theodolitelaw01.OctetHalves', WHERE WHAT IT READS IS OF BULK AT MOST 1048576: true; the input reads as it did. -/
def octetHalvesUptoRow : OpenClaim := { program := "ytmcfgapknoiohaa", sum := "06161c67815459047754cc3c465497cd706f8005aac86a230d643860af3a493c", func := "theodolite/theodolitelaw01.OctetHalves", spec := "octetHalves", apart := false, narrowed := true }
def OctetHalvesUptoSaid : Prop := octetHalvesUptoRow.holds Try.pinned (OpenSpec.upto octetHalvesSpec)

/-- 'theodolitelaw01.OctetReads', WHERE WHAT IT READS IS OF BULK AT MOST 1048576: true; the input reads as it did. -/
def octetReadsUptoRow : OpenClaim := { program := "ytmcfgapknoiohaa", sum := "06161c67815459047754cc3c465497cd706f8005aac86a230d643860af3a493c", func := "theodolite/theodolitelaw01.OctetReads", spec := "octetReads", apart := false, narrowed := true }
def OctetReadsUptoSaid : Prop := octetReadsUptoRow.holds Try.pinned (OpenSpec.upto octetReadsSpec)

/-- 'theodolitelaw01.OctetPuts', WHERE WHAT IT READS IS OF BULK AT MOST 1048576: true; the input reads as it did. -/
def octetPutsUptoRow : OpenClaim := { program := "ytmcfgapknoiohaa", sum := "06161c67815459047754cc3c465497cd706f8005aac86a230d643860af3a493c", func := "theodolite/theodolitelaw01.OctetPuts", spec := "octetPuts", apart := false, narrowed := true }
def OctetPutsUptoSaid : Prop := octetPutsUptoRow.holds Try.pinned (OpenSpec.upto octetPutsSpec)

/-- 'theodolitelaw01.OctetRow', WHERE WHAT IT READS IS OF BULK AT MOST 1048576: true; the input reads as it did. -/
def octetRowUptoRow : OpenClaim := { program := "ytmcfgapknoiohaa", sum := "06161c67815459047754cc3c465497cd706f8005aac86a230d643860af3a493c", func := "theodolite/theodolitelaw01.OctetRow", spec := "octetRow", apart := false, narrowed := true }
def OctetRowUptoSaid : Prop := octetRowUptoRow.holds Try.pinned (OpenSpec.upto octetRowSpec)

/-- 'theodolitelaw01.OctetOrder', WHERE WHAT IT READS IS OF BULK AT MOST 1048576: true; the input reads as it did. -/
def octetOrderUptoRow : OpenClaim := { program := "ytmcfgapknoiohaa", sum := "06161c67815459047754cc3c465497cd706f8005aac86a230d643860af3a493c", func := "theodolite/theodolitelaw01.OctetOrder", spec := "octetOrder", apart := false, narrowed := true }
def OctetOrderUptoSaid : Prop := octetOrderUptoRow.holds Try.pinned (OpenSpec.upto octetOrderSpec)

end Rows
end Go.Proofs.Ytmcfgapknoiohaa
