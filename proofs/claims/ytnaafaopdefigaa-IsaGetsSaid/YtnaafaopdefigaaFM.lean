import Derived.Test.YtnaafaopdefigaaAd
import Derived.Test.YtnaafaopdefigaaP02
namespace Go.Proofs.Ytnaafaopdefigaa
open Go.Ab Go.RowKit
set_option linter.unusedVariables false
set_option linter.unusedSimpArgs false
def zcL (p0 : List UInt8) : Option (List UInt8 × List UInt8) := if p0.length ≤ 1099511000000 then some (p0, p0 ++ [8, 7, 6, 5, 4, 3, 2, 1]) else none
def zcp (p0 p1 : List UInt8) : Option Bool := if p0.length ≤ 1099511627776 ∧ p1.length ≤ 1099511627776 then some (decide (p0 = p1)) else none
end Go.Proofs.Ytnaafaopdefigaa
