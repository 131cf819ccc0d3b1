import Derived.Test.YtckcngkkofemjaaAd
import Derived.Test.YtckcngkkofemjaaAc0
import Derived.Test.YtckcngkkofemjaaFM
namespace Go.Proofs.Ytckcngkkofemjaa
open Go.Ab Go.RowKit
set_option linter.unusedVariables false
set_option linter.unusedSimpArgs false
end Go.Proofs.Ytckcngkkofemjaa
