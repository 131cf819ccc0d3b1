import Derived.Test.YtnaafaopdefigaaAd
import Derived.Test.YtnaafaopdefigaaAc0
import Derived.Test.YtnaafaopdefigaaP02
import Derived.Test.YtnaafaopdefigaaL02
import Derived.Test.YtnaafaopdefigaaR00
import Derived.Test.YtnaafaopdefigaaR02
namespace Go.Proofs.Ytnaafaopdefigaa
open Go.Ab Go.RowKit
set_option linter.unusedVariables false
set_option linter.unusedSimpArgs false
end Go.Proofs.Ytnaafaopdefigaa
