import Derived.Test.YtjcehfjmmbbblaaP_07b
namespace Go.Proofs.Ytjcehfjmmbbblaa
open Go.Ab Go.RowKit
set_option linter.unusedVariables false
set_option linter.unusedSimpArgs false
end Go.Proofs.Ytjcehfjmmbbblaa
