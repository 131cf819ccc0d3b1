import Derived.Test.YtpmlbgaigjdmjaaAd
import Derived.Test.YtpmlbgaigjdmjaaAc0
import Derived.Test.YtpmlbgaigjdmjaaFM
import Derived.Test.YtpmlbgaigjdmjaaP02
import Derived.Test.YtpmlbgaigjdmjaaL02
import Derived.Test.YtpmlbgaigjdmjaaL02b
import Derived.Test.YtpmlbgaigjdmjaaR00
import Derived.Test.YtpmlbgaigjdmjaaR02
import Derived.Test.YtpmlbgaigjdmjaaR02b
import Derived.Test.YtpmlbgaigjdmjaaR02c
import Derived.Test.YtpmlbgaigjdmjaaR02d
namespace Go.Proofs.Ytpmlbgaigjdmjaa
open Go.Ab Go.RowKit
set_option linter.unusedVariables false
set_option linter.unusedSimpArgs false
theorem w_leb_PutU {τ : Hp} {v0 : Value} {p0 : List UInt8} {p1 : Int} (r0 : RdT Ty.u8 τ v0 p0) {rr : List UInt8} (hF : F_leb_PutU p0 p1 = some rr) :
    Ctr Try.prog 23 #[v0, .int .u64 p1] τ [] (fun v τ' vs' => ∃ (v0 : Value) (o0 : Ob), v = v0 ∧ vs' = [o0] ∧ OwnO Ty.u8 5 τ' v0 rr o0) := by
  unfold F_leb_PutU at hF
  split at hF
  · rename_i hc
    injection hF with hF
    subst hF
    obtain ⟨x, rfl⟩ : ∃ x : Nat, p1 = x := ⟨p1.toNat, by omega⟩
    exact Ctr.ofOwn fun w0 σ hle => PutU_ok (r0.le hle) hc.1 (by omega)
  · cases hF
theorem w_leb_PutS {τ : Hp} {v0 : Value} {p0 : List UInt8} {p1 : Int} (r0 : RdT Ty.u8 τ v0 p0) {rr : List UInt8} (hF : F_leb_PutS p0 p1 = some rr) :
    Ctr Try.prog 25 #[v0, .int .i64 p1] τ [] (fun v τ' vs' => ∃ (v0 : Value) (o0 : Ob), v = v0 ∧ vs' = [o0] ∧ OwnO Ty.u8 5 τ' v0 rr o0) := by
  unfold F_leb_PutS at hF
  split at hF
  · rename_i hc
    injection hF with hF
    subst hF
    exact Ctr.ofOwn fun w0 σ hle => PutS_ok (r0.le hle) hc.1 hc.2
  · cases hF
theorem w_leb_U {τ : Hp} {v0 : Value} {p0 : List UInt8} {p1 : Int} (r0 : RdT Ty.u8 τ v0 p0) {rr : Int × Int × Int} (hF : F_leb_U p0 p1 = some rr) :
    Ctr Try.prog 30 #[v0, .int .i64 p1] τ [] (fun v τ' vs' => v = .tuple #[.int .u64 rr.1, .int .i64 rr.2.1, .int .i64 rr.2.2] ∧ vs' = []) := by
  unfold F_leb_U at hF
  split at hF
  · rename_i hc
    injection hF with hF
    subst hF
    exact Ctr.ofVal fun w0 σ hle => U_ok (r0.le hle) hc.1 hc.2
  · cases hF
theorem w_leb_S {τ : Hp} {v0 : Value} {p0 : List UInt8} {p1 : Int} (r0 : RdT Ty.u8 τ v0 p0) {rr : Int × Int × Int} (hF : F_leb_S p0 p1 = some rr) :
    Ctr Try.prog 31 #[v0, .int .i64 p1] τ [] (fun v τ' vs' => v = .tuple #[.int .i64 rr.1, .int .i64 rr.2.1, .int .i64 rr.2.2] ∧ vs' = []) := by
  unfold F_leb_S at hF
  split at hF
  · rename_i hc
    injection hF with hF
    subst hF
    exact Ctr.ofVal fun w0 σ hle => S_ok (r0.le hle) hc.1 hc.2
  · cases hF
theorem w_ref02_U {τ : Hp} {v0 : Value} {p0 : List UInt8} {p1 : Int} (r0 : RdT Ty.u8 τ v0 p0) {rr : Int × Int × Int} (hF : F_ref02_U p0 p1 = some rr) :
    Ctr Try.prog 32 #[v0, .int .i64 p1] τ [] (fun v τ' vs' => v = .tuple #[.int .u64 rr.1, .int .i64 rr.2.1, .int .i64 rr.2.2] ∧ vs' = []) := by
  unfold F_ref02_U F_leb_U at hF
  split at hF
  · rename_i hc
    injection hF with hF
    subst hF
    exact Ctr.ofVal fun w0 σ hle => rU_ok (r0.le hle) hc.1 hc.2
  · cases hF
theorem w_ref02_S {τ : Hp} {v0 : Value} {p0 : List UInt8} {p1 : Int} (r0 : RdT Ty.u8 τ v0 p0) {rr : Int × Int × Int} (hF : F_ref02_S p0 p1 = some rr) :
    Ctr Try.prog 33 #[v0, .int .i64 p1] τ [] (fun v τ' vs' => v = .tuple #[.int .i64 rr.1, .int .i64 rr.2.1, .int .i64 rr.2.2] ∧ vs' = []) := by
  unfold F_ref02_S F_leb_S at hF
  split at hF
  · rename_i hc
    injection hF with hF
    subst hF
    exact Ctr.ofVal fun w0 σ hle => rS_ok (r0.le hle) hc.1 hc.2
  · cases hF
end Go.Proofs.Ytpmlbgaigjdmjaa
