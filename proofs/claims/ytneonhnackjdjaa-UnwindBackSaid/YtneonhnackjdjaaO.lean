import Derived.Test.YtneonhnackjdjaaF
import Derived.Test.YtneonhnackjdjaaProg
import Derived.KernelRfl
namespace Go.Proofs.Ytneonhnackjdjaa
open Go.Ab Go.RowKit
set_option linter.unusedVariables false
set_option linter.unusedSimpArgs false
set_option maxRecDepth 10000
def OkS_api_Saved (x : S_api_Saved) : Prop := (-9223372036854775808 ≤ x.Reg ∧ x.Reg ≤ 9223372036854775807) ∧ (-9223372036854775808 ≤ x.At ∧ x.At ≤ 9223372036854775807)
theorem opn_S_api_Saved {H : Type} {enc : TypeId × Value → H} {W : World} : Opn enc Try.prog W 50 TyS_api_Saved OkS_api_Saved := by
  intro fuel cs x h
  obtain ⟨xs, n, rfl, rfl, hl, hxl, hf⟩ := DataW.trod_struct Try.underlying50 h
  rw [show Try.prog.cellsOf 50 = 2 from by kernel_rfl] at hl
  match cs, hl with
  | [c0, c1], _ =>
    obtain ⟨a0, r0, g0⟩ := opn_field hxl hf 0 rfl (k := 1) (by kernel_rfl) (opn_i64 Try.underlying3)
    have e0 : ([c0] : List Value) = [.int .i64 a0] := r0
    simp only [List.cons.injEq, and_true] at e0
    obtain ⟨rfl⟩ := e0
    obtain ⟨a1, r1, g1⟩ := opn_field hxl hf 1 rfl (k := 1) (by kernel_rfl) (opn_i64 Try.underlying2)
    have e1 : ([c1] : List Value) = [.int .i64 a1] := r1
    simp only [List.cons.injEq, and_true] at e1
    obtain ⟨rfl⟩ := e1
    exact ⟨⟨a0, a1⟩, rfl, g0, g1⟩
def OkS_api_Unwind (x : S_api_Unwind) : Prop := (-9223372036854775808 ≤ x.From ∧ x.From ≤ 9223372036854775807) ∧ (-9223372036854775808 ≤ x.To ∧ x.To ≤ 9223372036854775807) ∧ (-9223372036854775808 ≤ x.Up ∧ x.Up ≤ 9223372036854775807) ∧ (x.Regs.length ≤ maxLen ∧ ∀ a ∈ x.Regs, (OkS_api_Saved a))
theorem opn_S_api_Unwind {H : Type} {enc : TypeId × Value → H} {W : World} : Opn enc Try.prog W 48 TyS_api_Unwind OkS_api_Unwind := by
  intro fuel cs x h
  obtain ⟨xs, n, rfl, rfl, hl, hxl, hf⟩ := DataW.trod_struct Try.underlying48 h
  rw [show Try.prog.cellsOf 48 = 4 from by kernel_rfl] at hl
  match cs, hl with
  | [c0, c1, c2, c3], _ =>
    obtain ⟨a0, r0, g0⟩ := opn_field hxl hf 0 rfl (k := 1) (by kernel_rfl) (opn_i64 Try.underlying3)
    have e0 : ([c0] : List Value) = [.int .i64 a0] := r0
    simp only [List.cons.injEq, and_true] at e0
    obtain ⟨rfl⟩ := e0
    obtain ⟨a1, r1, g1⟩ := opn_field hxl hf 1 rfl (k := 1) (by kernel_rfl) (opn_i64 Try.underlying3)
    have e1 : ([c1] : List Value) = [.int .i64 a1] := r1
    simp only [List.cons.injEq, and_true] at e1
    obtain ⟨rfl⟩ := e1
    obtain ⟨a2, r2, g2⟩ := opn_field hxl hf 2 rfl (k := 1) (by kernel_rfl) (opn_i64 Try.underlying2)
    have e2 : ([c2] : List Value) = [.int .i64 a2] := r2
    simp only [List.cons.injEq, and_true] at e2
    obtain ⟨rfl⟩ := e2
    obtain ⟨a3, r3, g3⟩ := opn_field hxl hf 3 rfl (k := 1) (by kernel_rfl) (opn_slice Try.underlying46 (by kernel_rfl) opn_S_api_Saved)
    obtain ⟨v3_0, e3, s3_0⟩ : ∃ v3_0, ([c3] : List Value) = [v3_0] ∧ RdT TyS_api_Saved (foreign W) v3_0 a3 := r3
    simp only [List.cons.injEq, and_true] at e3
    obtain ⟨rfl⟩ := e3
    exact ⟨⟨a0, a1, a2, a3⟩, ⟨_, rfl, s3_0⟩, g0, g1, g2, g3⟩
end Go.Proofs.Ytneonhnackjdjaa
