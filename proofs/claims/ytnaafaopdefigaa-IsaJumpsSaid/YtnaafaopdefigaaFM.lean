import Derived.Test.YtnaafaopdefigaaAd
import Derived.Test.YtnaafaopdefigaaP02
namespace Go.Proofs.Ytnaafaopdefigaa
open Go.Ab Go.RowKit
set_option linter.unusedVariables false
set_option linter.unusedSimpArgs false
def F_leb_PutU (p0 : List UInt8) (p1 : Int) : Option (List UInt8) := if p0.length ≤ 1099511627776 ∧ 0 ≤ p1 ∧ p1 < 18446744073709551616 then some (p0 ++ encU p1.toNat) else none
def F_leb_PutS (p0 : List UInt8) (p1 : Int) : Option (List UInt8) := if p0.length ≤ 1099511627776 ∧ -9223372036854775808 ≤ p1 ∧ p1 ≤ 9223372036854775807 then some (p0 ++ encS p1) else none
def F_leb_U (p0 : List UInt8) (p1 : Int) : Option (Int × Int × Int) := if p0.length ≤ 1099511627776 ∧ -9223372036854775808 ≤ p1 ∧ p1 ≤ 9223372036854775807 then some ((rdU p0 p1).1, (rdU p0 p1).2.1, (rdU p0 p1).2.2) else none
def F_leb_S (p0 : List UInt8) (p1 : Int) : Option (Int × Int × Int) := if p0.length ≤ 1099511627776 ∧ -9223372036854775808 ≤ p1 ∧ p1 ≤ 9223372036854775807 then some ((rdS p0 p1).1, (rdS p0 p1).2.1, (rdS p0 p1).2.2) else none
end Go.Proofs.Ytnaafaopdefigaa
