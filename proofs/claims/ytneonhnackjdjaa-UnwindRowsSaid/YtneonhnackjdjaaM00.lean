import Derived.Test.YtneonhnackjdjaaAd
import Derived.Test.YtneonhnackjdjaaAc0
import Derived.Test.YtneonhnackjdjaaFM
namespace Go.Proofs.Ytneonhnackjdjaa
open Go.Ab Go.RowKit
set_option linter.unusedVariables false
set_option linter.unusedSimpArgs false
end Go.Proofs.Ytneonhnackjdjaa
