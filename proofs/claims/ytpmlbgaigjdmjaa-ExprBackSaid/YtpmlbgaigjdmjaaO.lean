import Derived.Test.YtpmlbgaigjdmjaaF
import Derived.Test.YtpmlbgaigjdmjaaProg
import Derived.KernelRfl
namespace Go.Proofs.Ytpmlbgaigjdmjaa
open Go.Ab Go.RowKit
set_option linter.unusedVariables false
set_option linter.unusedSimpArgs false
set_option maxRecDepth 10000
def OkS_api_Loc (x : S_api_Loc) : Prop := True ∧ (-9223372036854775808 ≤ x.N ∧ x.N ≤ 9223372036854775807)
theorem opn_S_api_Loc {H : Type} {enc : TypeId × Value → H} {W : World} : Opn enc Try.prog W 48 TyS_api_Loc OkS_api_Loc := by
  intro fuel cs x h
  obtain ⟨xs, n, rfl, rfl, hl, hxl, hf⟩ := DataW.trod_struct Try.underlying48 h
  rw [show Try.prog.cellsOf 48 = 2 from by kernel_rfl] at hl
  match cs, hl with
  | [c0, c1], _ =>
    obtain ⟨a0, r0, g0⟩ := opn_field hxl hf 0 rfl (k := 1) (by kernel_rfl) (opn_u8 Try.underlying5)
    have e0 : ([c0] : List Value) = [.int .u8 a0.toNat] := r0
    simp only [List.cons.injEq, and_true] at e0
    obtain ⟨rfl⟩ := e0
    obtain ⟨a1, r1, g1⟩ := opn_field hxl hf 1 rfl (k := 1) (by kernel_rfl) (opn_i64 Try.underlying2)
    have e1 : ([c1] : List Value) = [.int .i64 a1] := r1
    simp only [List.cons.injEq, and_true] at e1
    obtain ⟨rfl⟩ := e1
    exact ⟨⟨a0, a1⟩, rfl, g0, g1⟩
def OkS_api_View (x : S_api_View) : Prop := (x.Known.length ≤ maxLen ∧ ∀ a ∈ x.Known, True) ∧ (x.Regs.length ≤ maxLen ∧ ∀ a ∈ x.Regs, (-9223372036854775808 ≤ a ∧ a ≤ 9223372036854775807)) ∧ (-9223372036854775808 ≤ x.Base ∧ x.Base ≤ 9223372036854775807) ∧ (x.Words.length ≤ maxLen ∧ ∀ a ∈ x.Words, (-9223372036854775808 ≤ a ∧ a ≤ 9223372036854775807))
theorem opn_S_api_View {H : Type} {enc : TypeId × Value → H} {W : World} : Opn enc Try.prog W 42 TyS_api_View OkS_api_View := by
  intro fuel cs x h
  obtain ⟨xs, n, rfl, rfl, hl, hxl, hf⟩ := DataW.trod_struct Try.underlying42 h
  rw [show Try.prog.cellsOf 42 = 4 from by kernel_rfl] at hl
  match cs, hl with
  | [c0, c1, c2, c3], _ =>
    obtain ⟨a0, r0, g0⟩ := opn_field hxl hf 0 rfl (k := 1) (by kernel_rfl) (opn_slice Try.underlying39 (by kernel_rfl) (opn_bool Try.underlying4))
    obtain ⟨v0_0, e0, s0_0⟩ : ∃ v0_0, ([c0] : List Value) = [v0_0] ∧ RdT Ty.bool (foreign W) v0_0 a0 := r0
    simp only [List.cons.injEq, and_true] at e0
    obtain ⟨rfl⟩ := e0
    obtain ⟨a1, r1, g1⟩ := opn_field hxl hf 1 rfl (k := 1) (by kernel_rfl) (opn_slice Try.underlying40 (by kernel_rfl) (opn_i64 Try.underlying2))
    obtain ⟨v1_0, e1, s1_0⟩ : ∃ v1_0, ([c1] : List Value) = [v1_0] ∧ RdT (Ty.int .i64) (foreign W) v1_0 a1 := r1
    simp only [List.cons.injEq, and_true] at e1
    obtain ⟨rfl⟩ := e1
    obtain ⟨a2, r2, g2⟩ := opn_field hxl hf 2 rfl (k := 1) (by kernel_rfl) (opn_i64 Try.underlying2)
    have e2 : ([c2] : List Value) = [.int .i64 a2] := r2
    simp only [List.cons.injEq, and_true] at e2
    obtain ⟨rfl⟩ := e2
    obtain ⟨a3, r3, g3⟩ := opn_field hxl hf 3 rfl (k := 1) (by kernel_rfl) (opn_slice Try.underlying40 (by kernel_rfl) (opn_i64 Try.underlying2))
    obtain ⟨v3_0, e3, s3_0⟩ : ∃ v3_0, ([c3] : List Value) = [v3_0] ∧ RdT (Ty.int .i64) (foreign W) v3_0 a3 := r3
    simp only [List.cons.injEq, and_true] at e3
    obtain ⟨rfl⟩ := e3
    exact ⟨⟨a0, a1, a2, a3⟩, ⟨_, _, _, rfl, s0_0, s1_0, s3_0⟩, g0, g1, g2, g3⟩
end Go.Proofs.Ytpmlbgaigjdmjaa
