import Derived.Test.YtckcngkkofemjaaF
import Derived.Test.YtckcngkkofemjaaProg
import Derived.KernelRfl
namespace Go.Proofs.Ytckcngkkofemjaa
open Go.Ab Go.RowKit
set_option linter.unusedVariables false
set_option linter.unusedSimpArgs false
set_option maxRecDepth 10000
set_option maxHeartbeats 1000000
def zeg (x : zp) : Prop := True ∧ (-9223372036854775808 ≤ x.N ∧ x.N ≤ 9223372036854775807) ∧ (x.Name.size ≤ maxLen)
theorem zej {H : Type} {enc : TypeId × Value → H} {W : World} : Opn enc Try.prog W 61 zfj zeg := by
  intro fuel cs x h
  obtain ⟨xs, n, rfl, rfl, hl, hxl, hf⟩ := DataW.trod_struct Try.underlying61 h
  rw [show Try.prog.cellsOf 61 = 3 from by kernel_rfl] at hl
  match cs, hl with
  | [c0, c1, c2], _ =>
    obtain ⟨a0, r0, g0⟩ := zt hxl hf 0 rfl (k := 1) (by kernel_rfl) (zdU Try.underlying5)
    have e0 : ([c0] : List Value) = [.int .u8 a0.toNat] := r0
    simp only [List.cons.injEq, and_true] at e0
    obtain ⟨rfl⟩ := e0
    obtain ⟨a1, r1, g1⟩ := zt hxl hf 1 rfl (k := 1) (by kernel_rfl) (zD Try.underlying3)
    have e1 : ([c1] : List Value) = [.int .i64 a1] := r1
    simp only [List.cons.injEq, and_true] at e1
    obtain ⟨rfl⟩ := e1
    obtain ⟨a2, r2, g2⟩ := zt hxl hf 2 rfl (k := 1) (by kernel_rfl) (zdh Try.underlying9)
    have e2 : ([c2] : List Value) = [.string a2] := r2
    simp only [List.cons.injEq, and_true] at e2
    obtain ⟨rfl⟩ := e2
    exact ⟨⟨a0, a1, a2⟩, rfl, g0, g1, g2⟩
def zd5 (x : zh) : Prop := (x.Name.size ≤ maxLen) ∧ (zeg x.Type_) ∧ (-9223372036854775808 ≤ x.Words ∧ x.Words ≤ 9223372036854775807) ∧ (x.Fields.length ≤ maxLen ∧ ∀ a ∈ x.Fields, (a.size ≤ maxLen))
theorem zfy {H : Type} {enc : TypeId × Value → H} {W : World} : Opn enc Try.prog W 64 zn zd5 := by
  intro fuel cs x h
  obtain ⟨xs, n, rfl, rfl, hl, hxl, hf⟩ := DataW.trod_struct Try.underlying64 h
  rw [show Try.prog.cellsOf 64 = 6 from by kernel_rfl] at hl
  match cs, hl with
  | [c0, c1, c2, c3, c4, c5], _ =>
    obtain ⟨a0, r0, g0⟩ := zt hxl hf 0 rfl (k := 1) (by kernel_rfl) (zdh Try.underlying9)
    have e0 : ([c0] : List Value) = [.string a0] := r0
    simp only [List.cons.injEq, and_true] at e0
    obtain ⟨rfl⟩ := e0
    obtain ⟨a1, r1, g1⟩ := zt hxl hf 1 rfl (k := 3) (by kernel_rfl) zej
    have e1 : ([c1, c2, c3] : List Value) = [.int .u8 a1.Kind.toNat, .int .i64 a1.N, .string a1.Name] := r1
    simp only [List.cons.injEq, and_true] at e1
    obtain ⟨rfl, rfl, rfl⟩ := e1
    obtain ⟨a2, r2, g2⟩ := zt hxl hf 2 rfl (k := 1) (by kernel_rfl) (zD Try.underlying3)
    have e2 : ([c4] : List Value) = [.int .i64 a2] := r2
    simp only [List.cons.injEq, and_true] at e2
    obtain ⟨rfl⟩ := e2
    obtain ⟨a3, r3, g3⟩ := zt hxl hf 3 rfl (k := 1) (by kernel_rfl) (zQ Try.underlying62 (by kernel_rfl) (zdh Try.underlying9))
    obtain ⟨v3_0, e3, s3_0⟩ : ∃ v3_0, ([c5] : List Value) = [v3_0] ∧ RdT Ty.str (foreign W) v3_0 a3 := r3
    simp only [List.cons.injEq, and_true] at e3
    obtain ⟨rfl⟩ := e3
    exact ⟨⟨a0, a1, a2, a3⟩, ⟨_, rfl, s3_0⟩, g0, g1, g2, g3⟩
def zd7 (x : zg) : Prop := True ∧ (-9223372036854775808 ≤ x.N ∧ x.N ≤ 9223372036854775807)
theorem ze5 {H : Type} {enc : TypeId × Value → H} {W : World} : Opn enc Try.prog W 52 zq zd7 := by
  intro fuel cs x h
  obtain ⟨xs, n, rfl, rfl, hl, hxl, hf⟩ := DataW.trod_struct Try.underlying52 h
  rw [show Try.prog.cellsOf 52 = 2 from by kernel_rfl] at hl
  match cs, hl with
  | [c0, c1], _ =>
    obtain ⟨a0, r0, g0⟩ := zt hxl hf 0 rfl (k := 1) (by kernel_rfl) (zdU Try.underlying5)
    have e0 : ([c0] : List Value) = [.int .u8 a0.toNat] := r0
    simp only [List.cons.injEq, and_true] at e0
    obtain ⟨rfl⟩ := e0
    obtain ⟨a1, r1, g1⟩ := zt hxl hf 1 rfl (k := 1) (by kernel_rfl) (zD Try.underlying2)
    have e1 : ([c1] : List Value) = [.int .i64 a1] := r1
    simp only [List.cons.injEq, and_true] at e1
    obtain ⟨rfl⟩ := e1
    exact ⟨⟨a0, a1⟩, rfl, g0, g1⟩
def zea (x : ze) : Prop := (-9223372036854775808 ≤ x.From ∧ x.From ≤ 9223372036854775807) ∧ (-9223372036854775808 ≤ x.To ∧ x.To ≤ 9223372036854775807) ∧ (x.At.length ≤ maxLen ∧ ∀ a ∈ x.At, (zd7 a))
theorem zfK {H : Type} {enc : TypeId × Value → H} {W : World} : Opn enc Try.prog W 55 zk zea := by
  intro fuel cs x h
  obtain ⟨xs, n, rfl, rfl, hl, hxl, hf⟩ := DataW.trod_struct Try.underlying55 h
  rw [show Try.prog.cellsOf 55 = 3 from by kernel_rfl] at hl
  match cs, hl with
  | [c0, c1, c2], _ =>
    obtain ⟨a0, r0, g0⟩ := zt hxl hf 0 rfl (k := 1) (by kernel_rfl) (zD Try.underlying3)
    have e0 : ([c0] : List Value) = [.int .i64 a0] := r0
    simp only [List.cons.injEq, and_true] at e0
    obtain ⟨rfl⟩ := e0
    obtain ⟨a1, r1, g1⟩ := zt hxl hf 1 rfl (k := 1) (by kernel_rfl) (zD Try.underlying3)
    have e1 : ([c1] : List Value) = [.int .i64 a1] := r1
    simp only [List.cons.injEq, and_true] at e1
    obtain ⟨rfl⟩ := e1
    obtain ⟨a2, r2, g2⟩ := zt hxl hf 2 rfl (k := 1) (by kernel_rfl) (zQ Try.underlying53 (by kernel_rfl) ze5)
    obtain ⟨v2_0, e2, s2_0⟩ : ∃ v2_0, ([c2] : List Value) = [v2_0] ∧ RdT zq (foreign W) v2_0 a2 := r2
    simp only [List.cons.injEq, and_true] at e2
    obtain ⟨rfl⟩ := e2
    exact ⟨⟨a0, a1, a2⟩, ⟨_, rfl, s2_0⟩, g0, g1, g2⟩
def zeh (x : zc) : Prop := (x.Name.size ≤ maxLen) ∧ (-9223372036854775808 ≤ x.From ∧ x.From ≤ 9223372036854775807) ∧ (-9223372036854775808 ≤ x.To ∧ x.To ≤ 9223372036854775807) ∧ (x.Vars.length ≤ maxLen ∧ ∀ a ∈ x.Vars, (zd5 a)) ∧ (x.Spans.length ≤ maxLen ∧ ∀ a ∈ x.Spans, (a.length ≤ maxLen ∧ ∀ a_ ∈ a, (zea a_)))
theorem zfH {H : Type} {enc : TypeId × Value → H} {W : World} : Opn enc Try.prog W 50 zj zeh := by
  intro fuel cs x h
  obtain ⟨xs, n, rfl, rfl, hl, hxl, hf⟩ := DataW.trod_struct Try.underlying50 h
  rw [show Try.prog.cellsOf 50 = 5 from by kernel_rfl] at hl
  match cs, hl with
  | [c0, c1, c2, c3, c4], _ =>
    obtain ⟨a0, r0, g0⟩ := zt hxl hf 0 rfl (k := 1) (by kernel_rfl) (zdh Try.underlying9)
    have e0 : ([c0] : List Value) = [.string a0] := r0
    simp only [List.cons.injEq, and_true] at e0
    obtain ⟨rfl⟩ := e0
    obtain ⟨a1, r1, g1⟩ := zt hxl hf 1 rfl (k := 1) (by kernel_rfl) (zD Try.underlying3)
    have e1 : ([c1] : List Value) = [.int .i64 a1] := r1
    simp only [List.cons.injEq, and_true] at e1
    obtain ⟨rfl⟩ := e1
    obtain ⟨a2, r2, g2⟩ := zt hxl hf 2 rfl (k := 1) (by kernel_rfl) (zD Try.underlying3)
    have e2 : ([c2] : List Value) = [.int .i64 a2] := r2
    simp only [List.cons.injEq, and_true] at e2
    obtain ⟨rfl⟩ := e2
    obtain ⟨a3, r3, g3⟩ := zt hxl hf 3 rfl (k := 1) (by kernel_rfl) (zQ Try.underlying47 (by kernel_rfl) zfy)
    obtain ⟨v3_0, e3, s3_0⟩ : ∃ v3_0, ([c3] : List Value) = [v3_0] ∧ RdT zn (foreign W) v3_0 a3 := r3
    simp only [List.cons.injEq, and_true] at e3
    obtain ⟨rfl⟩ := e3
    obtain ⟨a4, r4, g4⟩ := zt hxl hf 4 rfl (k := 1) (by kernel_rfl) (zQ Try.underlying48 (by kernel_rfl) (zQ Try.underlying56 (by kernel_rfl) zfK))
    obtain ⟨v4_0, e4, s4_0⟩ : ∃ v4_0, ([c4] : List Value) = [v4_0] ∧ RdT (Ty.slice zk) (foreign W) v4_0 a4 := r4
    simp only [List.cons.injEq, and_true] at e4
    obtain ⟨rfl⟩ := e4
    exact ⟨⟨a0, a1, a2, a3, a4⟩, ⟨_, _, rfl, s3_0, s4_0⟩, g0, g1, g2, g3, g4⟩
def zd8 (x : zi) : Prop := (-9223372036854775808 ≤ x.Func ∧ x.Func ≤ 9223372036854775807) ∧ (-9223372036854775808 ≤ x.Line ∧ x.Line ≤ 9223372036854775807) ∧ (x.Scope.length ≤ maxLen ∧ ∀ a ∈ x.Scope, (-9223372036854775808 ≤ a ∧ a ≤ 9223372036854775807))
theorem zeM {H : Type} {enc : TypeId × Value → H} {W : World} : Opn enc Try.prog W 59 zl zd8 := by
  intro fuel cs x h
  obtain ⟨xs, n, rfl, rfl, hl, hxl, hf⟩ := DataW.trod_struct Try.underlying59 h
  rw [show Try.prog.cellsOf 59 = 3 from by kernel_rfl] at hl
  match cs, hl with
  | [c0, c1, c2], _ =>
    obtain ⟨a0, r0, g0⟩ := zt hxl hf 0 rfl (k := 1) (by kernel_rfl) (zD Try.underlying3)
    have e0 : ([c0] : List Value) = [.int .i64 a0] := r0
    simp only [List.cons.injEq, and_true] at e0
    obtain ⟨rfl⟩ := e0
    obtain ⟨a1, r1, g1⟩ := zt hxl hf 1 rfl (k := 1) (by kernel_rfl) (zD Try.underlying3)
    have e1 : ([c1] : List Value) = [.int .i64 a1] := r1
    simp only [List.cons.injEq, and_true] at e1
    obtain ⟨rfl⟩ := e1
    obtain ⟨a2, r2, g2⟩ := zt hxl hf 2 rfl (k := 1) (by kernel_rfl) (zQ Try.underlying57 (by kernel_rfl) (zD Try.underlying3))
    obtain ⟨v2_0, e2, s2_0⟩ : ∃ v2_0, ([c2] : List Value) = [v2_0] ∧ RdT (Ty.int .i64) (foreign W) v2_0 a2 := r2
    simp only [List.cons.injEq, and_true] at e2
    obtain ⟨rfl⟩ := e2
    exact ⟨⟨a0, a1, a2⟩, ⟨_, rfl, s2_0⟩, g0, g1, g2⟩
def zef (x : zu) : Prop := (x.L.length ≤ maxLen ∧ ∀ a ∈ x.L, (zeh a)) ∧ (x.Points.length ≤ maxLen ∧ ∀ a ∈ x.Points, (zd8 a))
theorem zeP {H : Type} {enc : TypeId × Value → H} {W : World} : Opn enc Try.prog W 25 zet zef := by
  intro fuel cs x h
  obtain ⟨xs, n, rfl, rfl, hl, hxl, hf⟩ := DataW.trod_struct Try.underlying25 h
  rw [show Try.prog.cellsOf 25 = 2 from by kernel_rfl] at hl
  match cs, hl with
  | [c0, c1], _ =>
    obtain ⟨a0, r0, g0⟩ := zt hxl hf 0 rfl (k := 1) (by kernel_rfl) (zQ Try.underlying22 (by kernel_rfl) zfH)
    obtain ⟨v0_0, e0, s0_0⟩ : ∃ v0_0, ([c0] : List Value) = [v0_0] ∧ RdT zj (foreign W) v0_0 a0 := r0
    simp only [List.cons.injEq, and_true] at e0
    obtain ⟨rfl⟩ := e0
    obtain ⟨a1, r1, g1⟩ := zt hxl hf 1 rfl (k := 1) (by kernel_rfl) (zQ Try.underlying23 (by kernel_rfl) zeM)
    obtain ⟨v1_0, e1, s1_0⟩ : ∃ v1_0, ([c1] : List Value) = [v1_0] ∧ RdT zl (foreign W) v1_0 a1 := r1
    simp only [List.cons.injEq, and_true] at e1
    obtain ⟨rfl⟩ := e1
    exact ⟨⟨a0, a1⟩, ⟨_, _, rfl, s0_0, s1_0⟩, g0, g1⟩
end Go.Proofs.Ytckcngkkofemjaa
