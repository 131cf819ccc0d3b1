import Derived.Test.YtnhboaaikehpoaaAc0
import Derived.Test.YtnhboaaikehpoaaAc1
import Derived.Test.YtnhboaaikehpoaaFM
namespace Go.Proofs.Ytnhboaaikehpoaa
open Go.Ab Go.RowKit
set_option linter.unusedVariables false
set_option linter.unusedSimpArgs false
end Go.Proofs.Ytnhboaaikehpoaa
