import Derived.Test.YtckcngkkofemjaaGreatP02
namespace Go.Proofs.YtckcngkkofemjaaGreat
open Go.Ab Go.RowKit
set_option linter.unusedVariables false
set_option linter.unusedSimpArgs false
def zhL (p0 : List UInt8) : Option (List UInt8 × List UInt8) := if p0.length ≤ 1099511000000 then some (p0, p0 ++ [8, 7, 6, 5, 4, 3, 2, 1]) else none
end Go.Proofs.YtckcngkkofemjaaGreat
