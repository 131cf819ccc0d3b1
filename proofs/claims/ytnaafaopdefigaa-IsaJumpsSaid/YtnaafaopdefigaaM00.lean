import Derived.Test.YtnaafaopdefigaaAd
import Derived.Test.YtnaafaopdefigaaAc0
import Derived.Test.YtnaafaopdefigaaFM
namespace Go.Proofs.Ytnaafaopdefigaa
open Go.Ab Go.RowKit
set_option linter.unusedVariables false
set_option linter.unusedSimpArgs false
end Go.Proofs.Ytnaafaopdefigaa
