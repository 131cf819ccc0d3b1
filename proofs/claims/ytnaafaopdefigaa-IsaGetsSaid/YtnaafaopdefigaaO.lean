import Derived.Test.YtnaafaopdefigaaF
import Derived.Test.YtnaafaopdefigaaProg
import Derived.KernelRfl
namespace Go.Proofs.Ytnaafaopdefigaa
open Go.Ab Go.RowKit
set_option linter.unusedVariables false
set_option linter.unusedSimpArgs false
set_option maxRecDepth 10000
end Go.Proofs.Ytnaafaopdefigaa
