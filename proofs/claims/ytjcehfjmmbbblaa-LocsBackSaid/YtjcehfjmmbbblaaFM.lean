import Derived.Test.YtjcehfjmmbbblaaAd
import Derived.Test.YtjcehfjmmbbblaaP02
namespace Go.Proofs.Ytjcehfjmmbbblaa
open Go.Ab Go.RowKit
set_option linter.unusedVariables false
set_option linter.unusedSimpArgs false
def z1 (p0 p1 : List UInt8) : Option Bool := if p0.length ≤ 1099511627776 ∧ p1.length ≤ 1099511627776 then some (decide (p0 = p1)) else none
end Go.Proofs.Ytjcehfjmmbbblaa
