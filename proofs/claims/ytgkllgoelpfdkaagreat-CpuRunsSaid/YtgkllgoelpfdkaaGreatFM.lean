import Derived.Test.YtgkllgoelpfdkaaGreatP02
namespace Go.Proofs.YtgkllgoelpfdkaaGreat
open Go.Ab Go.RowKit
set_option linter.unusedVariables false
set_option linter.unusedSimpArgs false
def zep (p0 p1 : List UInt8) : Option Bool := if p0.length ≤ 1099511627776 ∧ p1.length ≤ 1099511627776 then some (decide (p0 = p1)) else none
end Go.Proofs.YtgkllgoelpfdkaaGreat
