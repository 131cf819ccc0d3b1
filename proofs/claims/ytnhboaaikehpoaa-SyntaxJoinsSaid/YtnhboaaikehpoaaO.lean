import Derived.Test.YtnhboaaikehpoaaF
import Derived.Test.YtnhboaaikehpoaaProg
import Derived.KernelRfl
namespace Go.Proofs.Ytnhboaaikehpoaa
open Go.Ab Go.RowKit
set_option linter.unusedVariables false
set_option linter.unusedSimpArgs false
set_option maxRecDepth 10000
set_option maxHeartbeats 1000000
def zod (x : zr) : Prop := True ∧ (x.Text.size ≤ maxLen) ∧ (-9223372036854775808 ≤ x.Num ∧ x.Num ≤ 9223372036854775807) ∧ (-9223372036854775808 ≤ x.Line ∧ x.Line ≤ 9223372036854775807)
theorem zlo {H : Type} {enc : TypeId × Value → H} {W : World} : Opn enc Try.prog W 79 zt zod := by
 intro fuel cs x h
 obtain ⟨xs, n, rfl, rfl, hl, hxl, hf⟩ := DataW.trod_struct Try.underlying79 h
 rw [show Try.prog.cellsOf 79 = 4 from by kernel_rfl] at hl
 match cs, hl with
 | [c0, c1, c2, c3], _ =>
  obtain ⟨a0, r0, g0⟩ := zhR hxl hf 0 rfl (k := 1) (by kernel_rfl) (zok Try.underlying5)
  have e0 : ([c0] : List Value) = [.int .u8 a0.toNat] := r0
  simp only [List.cons.injEq, and_true] at e0
  obtain ⟨rfl⟩ := e0
  obtain ⟨a1, r1, g1⟩ := zhR hxl hf 1 rfl (k := 1) (by kernel_rfl) (zqz Try.underlying9)
  have e1 : ([c1] : List Value) = [.string a1] := r1
  simp only [List.cons.injEq, and_true] at e1
  obtain ⟨rfl⟩ := e1
  obtain ⟨a2, r2, g2⟩ := zhR hxl hf 2 rfl (k := 1) (by kernel_rfl) (zm4 Try.underlying2)
  have e2 : ([c2] : List Value) = [.int .i64 a2] := r2
  simp only [List.cons.injEq, and_true] at e2
  obtain ⟨rfl⟩ := e2
  obtain ⟨a3, r3, g3⟩ := zhR hxl hf 3 rfl (k := 1) (by kernel_rfl) (zm4 Try.underlying3)
  have e3 : ([c3] : List Value) = [.int .i64 a3] := r3
  simp only [List.cons.injEq, and_true] at e3
  obtain ⟨rfl⟩ := e3
  exact ⟨⟨a0, a1, a2, a3⟩, rfl, g0, g1, g2, g3⟩
end Go.Proofs.Ytnhboaaikehpoaa
