import Derived.Test.YtneonhnackjdjaaF
import Derived.Test.YtneonhnackjdjaaProg
import Derived.KernelRfl
namespace Go.Proofs.Ytneonhnackjdjaa
open Go.Ab Go.RowKit
set_option linter.unusedVariables false
set_option linter.unusedSimpArgs false
set_option maxRecDepth 10000
end Go.Proofs.Ytneonhnackjdjaa
