import Derived.Test.YtneonhnackjdjaaAd
import Derived.Test.YtneonhnackjdjaaF
import Derived.Test.YtneonhnackjdjaaPL
import Derived.Test.YtneonhnackjdjaaP_02
import Derived.Test.YtneonhnackjdjaaP_08
namespace Go.Proofs.Ytneonhnackjdjaa
open Go.Ab Go.RowKit
set_option linter.unusedVariables false
set_option linter.unusedSimpArgs false
theorem rtR_reg : ∀ {l : List Sv} {r : Int}, rtR r l = true → 5 ≤ r → ∀ x ∈ l, (6 ≤ x.Reg ∧ x.Reg ≤ 11) ∧ x.At ≤ -2 ∧ -65536 ≤ x.At
  | [], _, _, _, _, h => (nomatch h)
  | y :: l, r, h, h5, x, hx => by
    simp only [rtR, Bool.and_eq_true, decide_eq_true_eq] at h
    have h2 := h.1
    unfold okR at h2
    rcases List.mem_cons.1 hx with rfl | hx
    · omega
    · exact rtR_reg h.2 (by omega) x hx
end Go.Proofs.Ytneonhnackjdjaa
