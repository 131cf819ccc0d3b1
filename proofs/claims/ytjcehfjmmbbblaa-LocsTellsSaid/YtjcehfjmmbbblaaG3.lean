import Derived.Test.YtjcehfjmmbbblaaG2
namespace Go.Proofs.Ytjcehfjmmbbblaa
open Go.Ab Go.RowKit
set_option linter.unusedVariables false
set_option linter.unusedSimpArgs false
set_option maxRecDepth 10000
set_option maxHeartbeats 1000000
end Go.Proofs.Ytjcehfjmmbbblaa
