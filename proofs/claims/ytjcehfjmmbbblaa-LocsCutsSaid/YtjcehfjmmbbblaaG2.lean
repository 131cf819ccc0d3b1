import Derived.Test.YtjcehfjmmbbblaaF
import Derived.Test.YtjcehfjmmbbblaaAc0
import Derived.Test.YtjcehfjmmbbblaaM00
import Derived.Test.YtjcehfjmmbbblaaM01
import Derived.Test.YtjcehfjmmbbblaaG1
namespace Go.Proofs.Ytjcehfjmmbbblaa
open Go.Ab Go.RowKit
set_option linter.unusedVariables false
set_option linter.unusedSimpArgs false
set_option maxRecDepth 10000
end Go.Proofs.Ytjcehfjmmbbblaa
