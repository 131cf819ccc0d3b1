import Derived.Test.YtnaafaopdefigaaF
import Derived.Test.YtnaafaopdefigaaProg
import Derived.KernelRfl
namespace Go.Proofs.Ytnaafaopdefigaa
open Go.Ab Go.RowKit
set_option linter.unusedVariables false
set_option linter.unusedSimpArgs false
set_option maxRecDepth 10000
def OkS_api_Instr (x : S_api_Instr) : Prop := True ∧ True ∧ (-9223372036854775808 ≤ x.R ∧ x.R ≤ 9223372036854775807) ∧ (-9223372036854775808 ≤ x.S ∧ x.S ≤ 9223372036854775807) ∧ (-9223372036854775808 ≤ x.T ∧ x.T ≤ 9223372036854775807) ∧ (-9223372036854775808 ≤ x.N ∧ x.N ≤ 9223372036854775807) ∧ (-9223372036854775808 ≤ x.M ∧ x.M ≤ 9223372036854775807)
theorem opn_S_api_Instr {H : Type} {enc : TypeId × Value → H} {W : World} : Opn enc Try.prog W 24 TyS_api_Instr OkS_api_Instr := by
  intro fuel cs x h
  obtain ⟨xs, n, rfl, rfl, hl, hxl, hf⟩ := DataW.trod_struct Try.underlying24 h
  rw [show Try.prog.cellsOf 24 = 7 from by kernel_rfl] at hl
  match cs, hl with
  | [c0, c1, c2, c3, c4, c5, c6], _ =>
    obtain ⟨a0, r0, g0⟩ := opn_field hxl hf 0 rfl (k := 1) (by kernel_rfl) (opn_u8 Try.underlying5)
    have e0 : ([c0] : List Value) = [.int .u8 a0.toNat] := r0
    simp only [List.cons.injEq, and_true] at e0
    obtain ⟨rfl⟩ := e0
    obtain ⟨a1, r1, g1⟩ := opn_field hxl hf 1 rfl (k := 1) (by kernel_rfl) (opn_u8 Try.underlying5)
    have e1 : ([c1] : List Value) = [.int .u8 a1.toNat] := r1
    simp only [List.cons.injEq, and_true] at e1
    obtain ⟨rfl⟩ := e1
    obtain ⟨a2, r2, g2⟩ := opn_field hxl hf 2 rfl (k := 1) (by kernel_rfl) (opn_i64 Try.underlying3)
    have e2 : ([c2] : List Value) = [.int .i64 a2] := r2
    simp only [List.cons.injEq, and_true] at e2
    obtain ⟨rfl⟩ := e2
    obtain ⟨a3, r3, g3⟩ := opn_field hxl hf 3 rfl (k := 1) (by kernel_rfl) (opn_i64 Try.underlying3)
    have e3 : ([c3] : List Value) = [.int .i64 a3] := r3
    simp only [List.cons.injEq, and_true] at e3
    obtain ⟨rfl⟩ := e3
    obtain ⟨a4, r4, g4⟩ := opn_field hxl hf 4 rfl (k := 1) (by kernel_rfl) (opn_i64 Try.underlying3)
    have e4 : ([c4] : List Value) = [.int .i64 a4] := r4
    simp only [List.cons.injEq, and_true] at e4
    obtain ⟨rfl⟩ := e4
    obtain ⟨a5, r5, g5⟩ := opn_field hxl hf 5 rfl (k := 1) (by kernel_rfl) (opn_i64 Try.underlying2)
    have e5 : ([c5] : List Value) = [.int .i64 a5] := r5
    simp only [List.cons.injEq, and_true] at e5
    obtain ⟨rfl⟩ := e5
    obtain ⟨a6, r6, g6⟩ := opn_field hxl hf 6 rfl (k := 1) (by kernel_rfl) (opn_i64 Try.underlying2)
    have e6 : ([c6] : List Value) = [.int .i64 a6] := r6
    simp only [List.cons.injEq, and_true] at e6
    obtain ⟨rfl⟩ := e6
    exact ⟨⟨a0, a1, a2, a3, a4, a5, a6⟩, rfl, g0, g1, g2, g3, g4, g5, g6⟩
end Go.Proofs.Ytnaafaopdefigaa
