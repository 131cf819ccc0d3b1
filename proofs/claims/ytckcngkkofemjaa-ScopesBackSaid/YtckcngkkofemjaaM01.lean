import Derived.Test.YtckcngkkofemjaaAd
import Derived.Test.YtckcngkkofemjaaAc0
import Derived.Test.YtckcngkkofemjaaFM
import Derived.Test.YtckcngkkofemjaaP02
import Derived.Test.YtckcngkkofemjaaR00
namespace Go.Proofs.Ytckcngkkofemjaa
open Go.Ab Go.RowKit
set_option linter.unusedVariables false
set_option linter.unusedSimpArgs false
theorem ze3 {τ : Hp} {v0 v1 : Value} {p0 p1 : List UInt8} (r0 : RdT Ty.u8 τ v0 p0) (r1 : RdT Ty.u8 τ v1 p1) {rr : Bool} (hF : zck p0 p1 = some rr) :
    Ctr Try.prog 20 #[v0, v1] τ [] (fun v τ' vs' => v = .bool rr ∧ vs' = []) := by
  unfold zck at hF
  split at hF
  · rename_i hc
    injection hF with hF
    subst hF
    exact Ctr.ofVal fun w0 σ hle => (EqBytes_ok (r0.le hle) (r1.le hle) hc.1 hc.2).mono (fun r σ' hr => ⟨hr.1, by rw [hr.2]; exact Hp.le.refl _⟩) (fun _ _ h => h)
  · cases hF
end Go.Proofs.Ytckcngkkofemjaa
