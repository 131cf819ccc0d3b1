import Derived.Test.YtmcfgapknoiohaaF
import Derived.Test.YtmcfgapknoiohaaAc0
import Derived.Test.YtmcfgapknoiohaaM00
import Derived.Test.YtmcfgapknoiohaaM01
namespace Go.Proofs.Ytmcfgapknoiohaa
open Go.Ab Go.RowKit
set_option linter.unusedVariables false
set_option linter.unusedSimpArgs false
set_option maxRecDepth 10000
end Go.Proofs.Ytmcfgapknoiohaa
