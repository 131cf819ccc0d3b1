import Derived.Test.YtgkllgoelpfdkaaGreatF
import Derived.Test.YtgkllgoelpfdkaaGreatProg
import Derived.KernelRfl
namespace Go.Proofs.YtgkllgoelpfdkaaGreat
open Go.Ab Go.RowKit
set_option linter.unusedVariables false
set_option linter.unusedSimpArgs false
set_option maxRecDepth 10000
set_option maxHeartbeats 1000000
def zmW (x : zf) : Prop := True ∧ True ∧ (-9223372036854775808 ≤ x.R ∧ x.R ≤ 9223372036854775807) ∧ (-9223372036854775808 ≤ x.S ∧ x.S ≤ 9223372036854775807) ∧ (-9223372036854775808 ≤ x.T ∧ x.T ≤ 9223372036854775807) ∧ (-9223372036854775808 ≤ x.N ∧ x.N ≤ 9223372036854775807) ∧ (-9223372036854775808 ≤ x.M ∧ x.M ≤ 9223372036854775807)
theorem zoG {H : Type} {enc : TypeId × Value → H} {W : World} : Opn enc Tryz.prog W 54 zfs zmW := by
 intro fuel cs x h
 obtain ⟨xs, n, rfl, rfl, hl, hxl, hf⟩ := DataW.trod_struct Tryz.underlying54 h
 rw [show Tryz.prog.cellsOf 54 = 7 from by kernel_rfl] at hl
 match cs, hl with
 | [c0, c1, c2, c3, c4, c5, c6], _ =>
  obtain ⟨a0, r0, g0⟩ := zcO hxl hf 0 rfl (k := 1) (by kernel_rfl) (zlm Tryz.underlying5)
  have e0 : ([c0] : List Value) = [.int .u8 a0.toNat] := r0
  simp only [List.cons.injEq, and_true] at e0
  obtain ⟨rfl⟩ := e0
  obtain ⟨a1, r1, g1⟩ := zcO hxl hf 1 rfl (k := 1) (by kernel_rfl) (zlm Tryz.underlying5)
  have e1 : ([c1] : List Value) = [.int .u8 a1.toNat] := r1
  simp only [List.cons.injEq, and_true] at e1
  obtain ⟨rfl⟩ := e1
  obtain ⟨a2, r2, g2⟩ := zcO hxl hf 2 rfl (k := 1) (by kernel_rfl) (zdP Tryz.underlying3)
  have e2 : ([c2] : List Value) = [.int .i64 a2] := r2
  simp only [List.cons.injEq, and_true] at e2
  obtain ⟨rfl⟩ := e2
  obtain ⟨a3, r3, g3⟩ := zcO hxl hf 3 rfl (k := 1) (by kernel_rfl) (zdP Tryz.underlying3)
  have e3 : ([c3] : List Value) = [.int .i64 a3] := r3
  simp only [List.cons.injEq, and_true] at e3
  obtain ⟨rfl⟩ := e3
  obtain ⟨a4, r4, g4⟩ := zcO hxl hf 4 rfl (k := 1) (by kernel_rfl) (zdP Tryz.underlying3)
  have e4 : ([c4] : List Value) = [.int .i64 a4] := r4
  simp only [List.cons.injEq, and_true] at e4
  obtain ⟨rfl⟩ := e4
  obtain ⟨a5, r5, g5⟩ := zcO hxl hf 5 rfl (k := 1) (by kernel_rfl) (zdP Tryz.underlying2)
  have e5 : ([c5] : List Value) = [.int .i64 a5] := r5
  simp only [List.cons.injEq, and_true] at e5
  obtain ⟨rfl⟩ := e5
  obtain ⟨a6, r6, g6⟩ := zcO hxl hf 6 rfl (k := 1) (by kernel_rfl) (zdP Tryz.underlying2)
  have e6 : ([c6] : List Value) = [.int .i64 a6] := r6
  simp only [List.cons.injEq, and_true] at e6
  obtain ⟨rfl⟩ := e6
  exact ⟨⟨a0, a1, a2, a3, a4, a5, a6⟩, rfl, g0, g1, g2, g3, g4, g5, g6⟩
def zoh (x : zbs) : Prop := (x.Code.length ≤ maxLen ∧ ∀ a ∈ x.Code, (zmW a)) ∧ (x.Bytes.length ≤ maxLen ∧ ∀ a ∈ x.Bytes, True) ∧ (-9223372036854775808 ≤ x.Start ∧ x.Start ≤ 9223372036854775807) ∧ (-9223372036854775808 ≤ x.Words ∧ x.Words ≤ 9223372036854775807) ∧ (x.Input.length ≤ maxLen ∧ ∀ a ∈ x.Input, (-9223372036854775808 ≤ a ∧ a ≤ 9223372036854775807)) ∧ (-9223372036854775808 ≤ x.Fuel ∧ x.Fuel ≤ 9223372036854775807)
theorem zpZ {H : Type} {enc : TypeId × Value → H} {W : World} : Opn enc Tryz.prog W 26 zrw zoh := by
 intro fuel cs x h
 obtain ⟨xs, n, rfl, rfl, hl, hxl, hf⟩ := DataW.trod_struct Tryz.underlying26 h
 rw [show Tryz.prog.cellsOf 26 = 6 from by kernel_rfl] at hl
 match cs, hl with
 | [c0, c1, c2, c3, c4, c5], _ =>
  obtain ⟨a0, r0, g0⟩ := zcO hxl hf 0 rfl (k := 1) (by kernel_rfl) (zli Tryz.underlying22 (by kernel_rfl) zoG)
  obtain ⟨v0_0, e0, s0_0⟩ : ∃ v0_0, ([c0] : List Value) = [v0_0] ∧ RdT zfs (foreign W) v0_0 a0 := r0
  simp only [List.cons.injEq, and_true] at e0
  obtain ⟨rfl⟩ := e0
  obtain ⟨a1, r1, g1⟩ := zcO hxl hf 1 rfl (k := 1) (by kernel_rfl) (zli Tryz.underlying23 (by kernel_rfl) (zlm Tryz.underlying5))
  obtain ⟨v1_0, e1, s1_0⟩ : ∃ v1_0, ([c1] : List Value) = [v1_0] ∧ RdT Ty.u8 (foreign W) v1_0 a1 := r1
  simp only [List.cons.injEq, and_true] at e1
  obtain ⟨rfl⟩ := e1
  obtain ⟨a2, r2, g2⟩ := zcO hxl hf 2 rfl (k := 1) (by kernel_rfl) (zdP Tryz.underlying3)
  have e2 : ([c2] : List Value) = [.int .i64 a2] := r2
  simp only [List.cons.injEq, and_true] at e2
  obtain ⟨rfl⟩ := e2
  obtain ⟨a3, r3, g3⟩ := zcO hxl hf 3 rfl (k := 1) (by kernel_rfl) (zdP Tryz.underlying3)
  have e3 : ([c3] : List Value) = [.int .i64 a3] := r3
  simp only [List.cons.injEq, and_true] at e3
  obtain ⟨rfl⟩ := e3
  obtain ⟨a4, r4, g4⟩ := zcO hxl hf 4 rfl (k := 1) (by kernel_rfl) (zli Tryz.underlying24 (by kernel_rfl) (zdP Tryz.underlying2))
  obtain ⟨v4_0, e4, s4_0⟩ : ∃ v4_0, ([c4] : List Value) = [v4_0] ∧ RdT (Ty.int .i64) (foreign W) v4_0 a4 := r4
  simp only [List.cons.injEq, and_true] at e4
  obtain ⟨rfl⟩ := e4
  obtain ⟨a5, r5, g5⟩ := zcO hxl hf 5 rfl (k := 1) (by kernel_rfl) (zdP Tryz.underlying3)
  have e5 : ([c5] : List Value) = [.int .i64 a5] := r5
  simp only [List.cons.injEq, and_true] at e5
  obtain ⟨rfl⟩ := e5
  exact ⟨⟨a0, a1, a2, a3, a4, a5⟩, ⟨_, _, _, rfl, s0_0, s1_0, s4_0⟩, g0, g1, g2, g3, g4, g5⟩
end Go.Proofs.YtgkllgoelpfdkaaGreat
