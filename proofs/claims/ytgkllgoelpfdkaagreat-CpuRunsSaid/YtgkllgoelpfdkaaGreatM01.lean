import Derived.Test.YtgkllgoelpfdkaaGreatFM
import Derived.Test.YtgkllgoelpfdkaaGreatR00
namespace Go.Proofs.YtgkllgoelpfdkaaGreat
open Go.Ab Go.RowKit
set_option linter.unusedVariables false
set_option linter.unusedSimpArgs false
theorem zk3 {τ : Hp} {v0 v1 : Value} {p0 p1 : List UInt8} (r0 : RdT Ty.u8 τ v0 p0) (r1 : RdT Ty.u8 τ v1 p1) {rr : Bool} (hF : zep p0 p1 = some rr) :
  Ctr Tryz.prog 21 #[v0, v1] τ [] (fun v τ' vs' => v = .bool rr ∧ vs' = []) := by
 unfold zep at hF
 split at hF
 ·rename_i hc
  injection hF with hF
  subst hF
  exact Ctr.ofVal fun w0 σ hle => (zn4 (r0.le hle) (r1.le hle) hc.1 hc.2).mono (fun r σ' hr => ⟨hr.1, by rw [hr.2]; exact Hp.le.refl _⟩) (fun _ _ h => h)
 ·cases hF
end Go.Proofs.YtgkllgoelpfdkaaGreat
