import Derived.Test.YtakcaekikfcbpaaP_13e
import Derived.KernelRfl
namespace Go.Proofs.Ytakcaekikfcbpaa
open Go.Ab Go.RowKit
set_option linter.unusedVariables false
set_option linter.unusedSimpArgs false
def nB : BA := znS
def stm (kd : UInt8) (ks : List zc) (b e : List Stm) : Stm := ⟨kd, 0, nB, nB, nB, ⟨0, 0, nB⟩, ks, b, e⟩
def pl1 : List zB := match zdf 1 with
 | some p => p.Funcs
 | none => []
def zkU : zB := match pl1 with
 | d :: _ => d
 | [] => ⟨nB, 0, [], noT, []⟩
end Go.Proofs.Ytakcaekikfcbpaa
