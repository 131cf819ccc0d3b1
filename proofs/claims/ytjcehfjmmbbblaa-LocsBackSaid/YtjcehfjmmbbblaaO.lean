import Derived.Test.YtjcehfjmmbbblaaF
import Derived.Test.YtjcehfjmmbbblaaProg
import Derived.KernelRfl
namespace Go.Proofs.Ytjcehfjmmbbblaa
open Go.Ab Go.RowKit
set_option linter.unusedVariables false
set_option linter.unusedSimpArgs false
set_option maxRecDepth 10000
def zbY (x : zb) : Prop := True ∧ (-9223372036854775808 ≤ x.N ∧ x.N ≤ 9223372036854775807)
theorem zcv {H : Type} {enc : TypeId × Value → H} {W : World} : Opn enc Try.prog W 44 zd zbY := by
  intro fuel cs x h
  obtain ⟨xs, n, rfl, rfl, hl, hxl, hf⟩ := DataW.trod_struct Try.underlying44 h
  rw [show Try.prog.cellsOf 44 = 2 from by kernel_rfl] at hl
  match cs, hl with
  | [c0, c1], _ =>
    obtain ⟨a0, r0, g0⟩ := zZ hxl hf 0 rfl (k := 1) (by kernel_rfl) (zcw Try.underlying5)
    have e0 : ([c0] : List Value) = [.int .u8 a0.toNat] := r0
    simp only [List.cons.injEq, and_true] at e0
    obtain ⟨rfl⟩ := e0
    obtain ⟨a1, r1, g1⟩ := zZ hxl hf 1 rfl (k := 1) (by kernel_rfl) (zbN Try.underlying2)
    have e1 : ([c1] : List Value) = [.int .i64 a1] := r1
    simp only [List.cons.injEq, and_true] at e1
    obtain ⟨rfl⟩ := e1
    exact ⟨⟨a0, a1⟩, rfl, g0, g1⟩
def zcC (x : za) : Prop := (-9223372036854775808 ≤ x.From ∧ x.From ≤ 9223372036854775807) ∧ (-9223372036854775808 ≤ x.To ∧ x.To ≤ 9223372036854775807) ∧ (x.At.length ≤ maxLen ∧ ∀ a ∈ x.At, (zbY a))
theorem zcL {H : Type} {enc : TypeId × Value → H} {W : World} : Opn enc Try.prog W 46 zc zcC := by
  intro fuel cs x h
  obtain ⟨xs, n, rfl, rfl, hl, hxl, hf⟩ := DataW.trod_struct Try.underlying46 h
  rw [show Try.prog.cellsOf 46 = 3 from by kernel_rfl] at hl
  match cs, hl with
  | [c0, c1, c2], _ =>
    obtain ⟨a0, r0, g0⟩ := zZ hxl hf 0 rfl (k := 1) (by kernel_rfl) (zbN Try.underlying3)
    have e0 : ([c0] : List Value) = [.int .i64 a0] := r0
    simp only [List.cons.injEq, and_true] at e0
    obtain ⟨rfl⟩ := e0
    obtain ⟨a1, r1, g1⟩ := zZ hxl hf 1 rfl (k := 1) (by kernel_rfl) (zbN Try.underlying3)
    have e1 : ([c1] : List Value) = [.int .i64 a1] := r1
    simp only [List.cons.injEq, and_true] at e1
    obtain ⟨rfl⟩ := e1
    obtain ⟨a2, r2, g2⟩ := zZ hxl hf 2 rfl (k := 1) (by kernel_rfl) (zb6 Try.underlying39 (by kernel_rfl) zcv)
    obtain ⟨v2_0, e2, s2_0⟩ : ∃ v2_0, ([c2] : List Value) = [v2_0] ∧ RdT zd (foreign W) v2_0 a2 := r2
    simp only [List.cons.injEq, and_true] at e2
    obtain ⟨rfl⟩ := e2
    exact ⟨⟨a0, a1, a2⟩, ⟨_, rfl, s2_0⟩, g0, g1, g2⟩
end Go.Proofs.Ytjcehfjmmbbblaa
