import Derived.Test.YtckcngkkofemjaaAd
import Derived.Test.YtckcngkkofemjaaF
import Derived.Test.YtckcngkkofemjaaPL
import Derived.Test.YtckcngkkofemjaaP_02
import Derived.KernelRfl
namespace Go.Proofs.Ytckcngkkofemjaa
open Go.Ab Go.RowKit
set_option linter.unusedVariables false
set_option linter.unusedSimpArgs false
abbrev Lc := zd
def fin (l : List Lc) (d : Nat) : Bool := decide (l.length ≤ 16 ∧ (l.length = 0 ∨ d = 1))
end Go.Proofs.Ytckcngkkofemjaa
