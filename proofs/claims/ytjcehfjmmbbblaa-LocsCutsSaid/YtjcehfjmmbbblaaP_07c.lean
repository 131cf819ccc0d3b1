import Derived.Test.YtjcehfjmmbbblaaAd
import Derived.Test.YtjcehfjmmbbblaaF
import Derived.Test.YtjcehfjmmbbblaaPL
import Derived.Test.YtjcehfjmmbbblaaP_02
import Derived.Test.YtjcehfjmmbbblaaP_06
import Derived.Test.YtjcehfjmmbbblaaP_06b
import Derived.Test.YtjcehfjmmbbblaaP_06c
import Derived.Test.YtjcehfjmmbbblaaP_07
import Derived.Test.YtjcehfjmmbbblaaP_07b
namespace Go.Proofs.Ytjcehfjmmbbblaa
open Go.Ab Go.RowKit
set_option linter.unusedVariables false
set_option linter.unusedSimpArgs false
theorem rtS_Rt : ∀ {l : List Sp} {last : Int}, rtS last l = true → ∀ x ∈ l, Rt x.At = true
  | [], _, _, _, h => (nomatch h)
  | y :: l, last, h, x, hx => by
    obtain ⟨h1, h2, h3⟩ := rtS_cons h
    rcases List.mem_cons.1 hx with rfl | hx
    · exact h2
    · exact rtS_Rt h3 x hx
end Go.Proofs.Ytjcehfjmmbbblaa
