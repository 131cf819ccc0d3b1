import Derived.Test.YtnaafaopdefigaaAd
import Derived.Test.YtnaafaopdefigaaF
import Derived.Test.YtnaafaopdefigaaPL
import Derived.Test.YtnaafaopdefigaaP_02
import Derived.Test.YtnaafaopdefigaaP_01
import Derived.Test.YtnaafaopdefigaaP_03
import Derived.KernelRfl
namespace Go.Proofs.Ytnaafaopdefigaa
open Go.Ab Go.RowKit
set_option linter.unusedVariables false
set_option linter.unusedSimpArgs false
end Go.Proofs.Ytnaafaopdefigaa
