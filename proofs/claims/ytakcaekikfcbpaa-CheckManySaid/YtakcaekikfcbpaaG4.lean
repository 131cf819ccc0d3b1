import Derived.Test.YtakcaekikfcbpaaG3
namespace Go.Proofs.Ytakcaekikfcbpaa
open Go.Ab Go.RowKit
set_option linter.unusedVariables false
set_option linter.unusedSimpArgs false
set_option maxRecDepth 10000
set_option maxHeartbeats 1000000
end Go.Proofs.Ytakcaekikfcbpaa
