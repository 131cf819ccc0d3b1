import Derived.Test.YtckcngkkofemjaaGreatFM
import Derived.Test.YtckcngkkofemjaaGreatR00
namespace Go.Proofs.YtckcngkkofemjaaGreat
open Go.Ab Go.RowKit
set_option linter.unusedVariables false
set_option linter.unusedSimpArgs false
end Go.Proofs.YtckcngkkofemjaaGreat
