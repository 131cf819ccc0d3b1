import Derived.Test.YtgkllgoelpfdkaaFM
import Derived.Test.YtgkllgoelpfdkaaR00
namespace Go.Proofs.Ytgkllgoelpfdkaa
open Go.Ab Go.RowKit
set_option linter.unusedVariables false
set_option linter.unusedSimpArgs false
end Go.Proofs.Ytgkllgoelpfdkaa
