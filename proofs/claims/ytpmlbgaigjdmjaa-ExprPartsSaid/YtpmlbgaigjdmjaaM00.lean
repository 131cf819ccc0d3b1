import Derived.Test.YtpmlbgaigjdmjaaAd
import Derived.Test.YtpmlbgaigjdmjaaAc0
import Derived.Test.YtpmlbgaigjdmjaaFM
namespace Go.Proofs.Ytpmlbgaigjdmjaa
open Go.Ab Go.RowKit
set_option linter.unusedVariables false
set_option linter.unusedSimpArgs false
end Go.Proofs.Ytpmlbgaigjdmjaa
