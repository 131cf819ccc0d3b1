import Derived.Test.YtjcehfjmmbbblaaF
import Derived.Test.YtjcehfjmmbbblaaProg
import Derived.KernelRfl
namespace Go.Proofs.Ytjcehfjmmbbblaa
open Go.Ab Go.RowKit
set_option linter.unusedVariables false
set_option linter.unusedSimpArgs false
set_option maxRecDepth 10000
set_option maxHeartbeats 1000000
def zgZ (x : zd) : Prop := True ∧ (-9223372036854775808 ≤ x.N ∧ x.N ≤ 9223372036854775807)
theorem zid {H : Type} {enc : TypeId × Value → H} {W : World} : Opn enc Try.prog W 44 zw zgZ := by
 intro fuel cs x h hw
 obtain ⟨xs, n, rfl, rfl, hl, hxl, hf⟩ := DataW.trod_struct Try.underlying44 h
 rw [show Try.prog.cellsOf 44 = 2 from by kernel_rfl] at hl
 match cs, hl with
 | [c0, c1], _ =>
  obtain ⟨a0, r0, g0⟩ := zd8 hxl hf 0 rfl (k := 1) (by kernel_rfl) Try.underlying44 hw (zie Try.underlying5)
  have e0 : ([c0] : List Value) = [.int .u8 a0.toNat] := r0
  simp only [List.cons.injEq, and_true] at e0
  obtain ⟨rfl⟩ := e0
  obtain ⟨a1, r1, g1⟩ := zd8 hxl hf 1 rfl (k := 1) (by kernel_rfl) Try.underlying44 hw (zgc Try.underlying2)
  have e1 : ([c1] : List Value) = [.int .i64 a1] := r1
  simp only [List.cons.injEq, and_true] at e1
  obtain ⟨rfl⟩ := e1
  exact ⟨⟨a0, a1⟩, rfl, g0, g1⟩
def zji (x : za) : Prop := (-9223372036854775808 ≤ x.From ∧ x.From ≤ 9223372036854775807) ∧ (-9223372036854775808 ≤ x.To ∧ x.To ≤ 9223372036854775807) ∧ (x.At.length ≤ reachBytes ∧ ∀ a ∈ x.At, (zgZ a))
theorem zjU {H : Type} {enc : TypeId × Value → H} {W : World} : Opn enc Try.prog W 46 zk zji := by
 intro fuel cs x h hw
 obtain ⟨xs, n, rfl, rfl, hl, hxl, hf⟩ := DataW.trod_struct Try.underlying46 h
 rw [show Try.prog.cellsOf 46 = 3 from by kernel_rfl] at hl
 match cs, hl with
 | [c0, c1, c2], _ =>
  obtain ⟨a0, r0, g0⟩ := zd8 hxl hf 0 rfl (k := 1) (by kernel_rfl) Try.underlying46 hw (zgc Try.underlying3)
  have e0 : ([c0] : List Value) = [.int .i64 a0] := r0
  simp only [List.cons.injEq, and_true] at e0
  obtain ⟨rfl⟩ := e0
  obtain ⟨a1, r1, g1⟩ := zd8 hxl hf 1 rfl (k := 1) (by kernel_rfl) Try.underlying46 hw (zgc Try.underlying3)
  have e1 : ([c1] : List Value) = [.int .i64 a1] := r1
  simp only [List.cons.injEq, and_true] at e1
  obtain ⟨rfl⟩ := e1
  obtain ⟨a2, r2, g2⟩ := zd8 hxl hf 2 rfl (k := 1) (by kernel_rfl) Try.underlying46 hw (zhL Try.underlying39 (by kernel_rfl) (by kernel_rfl) zid)
  obtain ⟨v2_0, e2, s2_0⟩ : ∃ v2_0, ([c2] : List Value) = [v2_0] ∧ RdT zw (foreign W) v2_0 a2 := r2
  simp only [List.cons.injEq, and_true] at e2
  obtain ⟨rfl⟩ := e2
  exact ⟨⟨a0, a1, a2⟩, ⟨_, rfl, s2_0⟩, g0, g1, g2⟩
end Go.Proofs.Ytjcehfjmmbbblaa
