import Derived.Test.YtpmlbgaigjdmjaaAd
import Derived.Test.YtpmlbgaigjdmjaaAc0
import Derived.Test.YtpmlbgaigjdmjaaP02
import Derived.Test.YtpmlbgaigjdmjaaL02
import Derived.Test.YtpmlbgaigjdmjaaR00
import Derived.Test.YtpmlbgaigjdmjaaR02
import Derived.Test.YtpmlbgaigjdmjaaR02b
namespace Go.Proofs.Ytpmlbgaigjdmjaa
open Go.Ab Go.RowKit
set_option linter.unusedVariables false
set_option linter.unusedSimpArgs false
end Go.Proofs.Ytpmlbgaigjdmjaa
