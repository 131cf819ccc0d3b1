import Derived.Test.YtneonhnackjdjaaF
import Derived.Test.YtneonhnackjdjaaAc0
import Derived.Test.YtneonhnackjdjaaM00
import Derived.Test.YtneonhnackjdjaaM01
import Derived.Test.YtneonhnackjdjaaG1
namespace Go.Proofs.Ytneonhnackjdjaa
open Go.Ab Go.RowKit
set_option linter.unusedVariables false
set_option linter.unusedSimpArgs false
set_option maxRecDepth 10000
end Go.Proofs.Ytneonhnackjdjaa
