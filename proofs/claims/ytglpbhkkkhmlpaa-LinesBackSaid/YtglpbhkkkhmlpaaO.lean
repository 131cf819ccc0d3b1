import Derived.Test.YtglpbhkkkhmlpaaF
import Derived.Test.YtglpbhkkkhmlpaaProg
import Derived.KernelRfl
namespace Go.Proofs.Ytglpbhkkkhmlpaa
open Go.Ab Go.RowKit
set_option linter.unusedVariables false
set_option linter.unusedSimpArgs false
set_option maxRecDepth 10000
def OkS_api_Row (x : S_api_Row) : Prop := (-9223372036854775808 ≤ x.Pc ∧ x.Pc ≤ 9223372036854775807) ∧ (-9223372036854775808 ≤ x.Point ∧ x.Point ≤ 9223372036854775807)
theorem opn_S_api_Row {H : Type} {enc : TypeId × Value → H} {W : World} : Opn enc Try.prog W 42 TyS_api_Row OkS_api_Row := by
  intro fuel cs x h
  obtain ⟨xs, n, rfl, rfl, hl, hxl, hf⟩ := DataW.trod_struct Try.underlying42 h
  rw [show Try.prog.cellsOf 42 = 2 from by kernel_rfl] at hl
  match cs, hl with
  | [c0, c1], _ =>
    obtain ⟨a0, r0, g0⟩ := opn_field hxl hf 0 rfl (k := 1) (by kernel_rfl) (opn_i64 Try.underlying3)
    have e0 : ([c0] : List Value) = [.int .i64 a0] := r0
    simp only [List.cons.injEq, and_true] at e0
    obtain ⟨rfl⟩ := e0
    obtain ⟨a1, r1, g1⟩ := opn_field hxl hf 1 rfl (k := 1) (by kernel_rfl) (opn_i64 Try.underlying3)
    have e1 : ([c1] : List Value) = [.int .i64 a1] := r1
    simp only [List.cons.injEq, and_true] at e1
    obtain ⟨rfl⟩ := e1
    exact ⟨⟨a0, a1⟩, rfl, g0, g1⟩

end Go.Proofs.Ytglpbhkkkhmlpaa
