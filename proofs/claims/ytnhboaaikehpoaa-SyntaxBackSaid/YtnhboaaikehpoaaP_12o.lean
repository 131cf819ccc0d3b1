import Derived.Test.YtnhboaaikehpoaaP_12n
import Derived.KernelRfl
namespace Go.Proofs.Ytnhboaaikehpoaa
open Go.Ab Go.RowKit
set_option linter.unusedVariables false
set_option linter.unusedSimpArgs false
theorem zqo : ze7 = some true := by kernel_rfl
end Go.Proofs.Ytnhboaaikehpoaa
