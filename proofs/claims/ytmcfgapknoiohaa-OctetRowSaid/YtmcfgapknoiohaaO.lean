import Derived.Test.YtmcfgapknoiohaaF
import Derived.Test.YtmcfgapknoiohaaProg
import Derived.KernelRfl
namespace Go.Proofs.Ytmcfgapknoiohaa
open Go.Ab Go.RowKit
set_option linter.unusedVariables false
set_option linter.unusedSimpArgs false
set_option maxRecDepth 10000
def z0 (x : za) : Prop := True ∧ (-9223372036854775808 ≤ x.High ∧ x.High ≤ 9223372036854775807) ∧ (-9223372036854775808 ≤ x.Low ∧ x.Low ≤ 9223372036854775807) ∧ (-9223372036854775808 ≤ x.Place ∧ x.Place ≤ 9223372036854775807) ∧ (x.Text.size ≤ maxLen)
theorem z1 {H : Type} {enc : TypeId × Value → H} {W : World} : Opn enc Try.prog W 58 zb z0 := by
  intro fuel cs x h
  obtain ⟨xs, n, rfl, rfl, hl, hxl, hf⟩ := DataW.trod_struct Try.underlying58 h
  rw [show Try.prog.cellsOf 58 = 5 from by kernel_rfl] at hl
  match cs, hl with
  | [c0, c1, c2, c3, c4], _ =>
    obtain ⟨a0, r0, g0⟩ := zt hxl hf 0 rfl (k := 1) (by kernel_rfl) (zZ Try.underlying5)
    have e0 : ([c0] : List Value) = [.int .u8 a0.toNat] := r0
    simp only [List.cons.injEq, and_true] at e0
    obtain ⟨rfl⟩ := e0
    obtain ⟨a1, r1, g1⟩ := zt hxl hf 1 rfl (k := 1) (by kernel_rfl) (zK Try.underlying3)
    have e1 : ([c1] : List Value) = [.int .i64 a1] := r1
    simp only [List.cons.injEq, and_true] at e1
    obtain ⟨rfl⟩ := e1
    obtain ⟨a2, r2, g2⟩ := zt hxl hf 2 rfl (k := 1) (by kernel_rfl) (zK Try.underlying3)
    have e2 : ([c2] : List Value) = [.int .i64 a2] := r2
    simp only [List.cons.injEq, and_true] at e2
    obtain ⟨rfl⟩ := e2
    obtain ⟨a3, r3, g3⟩ := zt hxl hf 3 rfl (k := 1) (by kernel_rfl) (zK Try.underlying3)
    have e3 : ([c3] : List Value) = [.int .i64 a3] := r3
    simp only [List.cons.injEq, and_true] at e3
    obtain ⟨rfl⟩ := e3
    obtain ⟨a4, r4, g4⟩ := zt hxl hf 4 rfl (k := 1) (by kernel_rfl) (z2 Try.underlying9)
    have e4 : ([c4] : List Value) = [.string a4] := r4
    simp only [List.cons.injEq, and_true] at e4
    obtain ⟨rfl⟩ := e4
    exact ⟨⟨a0, a1, a2, a3, a4⟩, rfl, g0, g1, g2, g3, g4⟩
end Go.Proofs.Ytmcfgapknoiohaa
