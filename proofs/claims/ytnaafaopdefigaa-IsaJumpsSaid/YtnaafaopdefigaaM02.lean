import Derived.Test.YtnaafaopdefigaaAd
import Derived.Test.YtnaafaopdefigaaAc0
import Derived.Test.YtnaafaopdefigaaFM
import Derived.Test.YtnaafaopdefigaaP02
import Derived.Test.YtnaafaopdefigaaL02
import Derived.Test.YtnaafaopdefigaaL02b
import Derived.Test.YtnaafaopdefigaaR00
import Derived.Test.YtnaafaopdefigaaR02
import Derived.Test.YtnaafaopdefigaaR02b
import Derived.Test.YtnaafaopdefigaaR02c
import Derived.Test.YtnaafaopdefigaaR02d
namespace Go.Proofs.Ytnaafaopdefigaa
open Go.Ab Go.RowKit
set_option linter.unusedVariables false
set_option linter.unusedSimpArgs false
theorem w_leb_PutU {τ : Hp} {v0 : Value} {p0 : List UInt8} {p1 : Int} (r0 : RdT Ty.u8 τ v0 p0) {rr : List UInt8} (hF : F_leb_PutU p0 p1 = some rr) :
    Ctr Try.prog 78 #[v0, .int .u64 p1] τ [] (fun v τ' vs' => ∃ (v0 : Value) (o0 : Ob), v = v0 ∧ vs' = [o0] ∧ OwnO Ty.u8 5 τ' v0 rr o0) := by
  unfold F_leb_PutU at hF
  split at hF
  · rename_i hc
    injection hF with hF
    subst hF
    obtain ⟨x, rfl⟩ : ∃ x : Nat, p1 = x := ⟨p1.toNat, by omega⟩
    exact Ctr.ofOwn fun w0 σ hle => PutU_ok (r0.le hle) hc.1 (by omega)
  · cases hF
theorem w_leb_PutS {τ : Hp} {v0 : Value} {p0 : List UInt8} {p1 : Int} (r0 : RdT Ty.u8 τ v0 p0) {rr : List UInt8} (hF : F_leb_PutS p0 p1 = some rr) :
    Ctr Try.prog 62 #[v0, .int .i64 p1] τ [] (fun v τ' vs' => ∃ (v0 : Value) (o0 : Ob), v = v0 ∧ vs' = [o0] ∧ OwnO Ty.u8 5 τ' v0 rr o0) := by
  unfold F_leb_PutS at hF
  split at hF
  · rename_i hc
    injection hF with hF
    subst hF
    exact Ctr.ofOwn fun w0 σ hle => PutS_ok (r0.le hle) hc.1 hc.2
  · cases hF
theorem w_leb_U {τ : Hp} {v0 : Value} {p0 : List UInt8} {p1 : Int} (r0 : RdT Ty.u8 τ v0 p0) {rr : Int × Int × Int} (hF : F_leb_U p0 p1 = some rr) :
    Ctr Try.prog 80 #[v0, .int .i64 p1] τ [] (fun v τ' vs' => v = .tuple #[.int .u64 rr.1, .int .i64 rr.2.1, .int .i64 rr.2.2] ∧ vs' = []) := by
  unfold F_leb_U at hF
  split at hF
  · rename_i hc
    injection hF with hF
    subst hF
    exact Ctr.ofVal fun w0 σ hle => U_ok (r0.le hle) hc.1 hc.2
  · cases hF
theorem w_leb_S {τ : Hp} {v0 : Value} {p0 : List UInt8} {p1 : Int} (r0 : RdT Ty.u8 τ v0 p0) {rr : Int × Int × Int} (hF : F_leb_S p0 p1 = some rr) :
    Ctr Try.prog 64 #[v0, .int .i64 p1] τ [] (fun v τ' vs' => v = .tuple #[.int .i64 rr.1, .int .i64 rr.2.1, .int .i64 rr.2.2] ∧ vs' = []) := by
  unfold F_leb_S at hF
  split at hF
  · rename_i hc
    injection hF with hF
    subst hF
    exact Ctr.ofVal fun w0 σ hle => S_ok (r0.le hle) hc.1 hc.2
  · cases hF
end Go.Proofs.Ytnaafaopdefigaa
