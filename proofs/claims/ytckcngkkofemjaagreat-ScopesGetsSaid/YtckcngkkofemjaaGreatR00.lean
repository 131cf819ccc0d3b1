import Derived.Test.YtckcngkkofemjaaGreatAc0
import Derived.Test.YtckcngkkofemjaaGreatAc1
namespace Go.Proofs.YtckcngkkofemjaaGreat
open Go.Ab Go.RowKit
set_option linter.unusedVariables false
set_option linter.unusedSimpArgs false
end Go.Proofs.YtckcngkkofemjaaGreat
