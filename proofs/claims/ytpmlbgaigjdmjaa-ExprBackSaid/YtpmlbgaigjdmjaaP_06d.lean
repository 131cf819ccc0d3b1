import Derived.Test.YtpmlbgaigjdmjaaAd
import Derived.Test.YtpmlbgaigjdmjaaF
import Derived.Test.YtpmlbgaigjdmjaaPL
import Derived.Test.YtpmlbgaigjdmjaaP_02
import Derived.Test.YtpmlbgaigjdmjaaP_06
import Derived.Test.YtpmlbgaigjdmjaaP_06b
import Derived.Test.YtpmlbgaigjdmjaaP_06c
namespace Go.Proofs.Ytpmlbgaigjdmjaa
open Go.Ab Go.RowKit
set_option linter.unusedVariables false
set_option linter.unusedSimpArgs false
end Go.Proofs.Ytpmlbgaigjdmjaa
