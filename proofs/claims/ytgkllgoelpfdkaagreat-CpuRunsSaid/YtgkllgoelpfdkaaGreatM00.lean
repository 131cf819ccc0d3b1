import Derived.Test.YtgkllgoelpfdkaaGreatAc0
import Derived.Test.YtgkllgoelpfdkaaGreatAc1
import Derived.Test.YtgkllgoelpfdkaaGreatFM
namespace Go.Proofs.YtgkllgoelpfdkaaGreat
open Go.Ab Go.RowKit
set_option linter.unusedVariables false
set_option linter.unusedSimpArgs false
end Go.Proofs.YtgkllgoelpfdkaaGreat
