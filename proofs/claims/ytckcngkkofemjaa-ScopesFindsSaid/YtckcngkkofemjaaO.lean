import Derived.Test.YtckcngkkofemjaaF
import Derived.Test.YtckcngkkofemjaaProg
import Derived.KernelRfl
namespace Go.Proofs.Ytckcngkkofemjaa
open Go.Ab Go.RowKit
set_option linter.unusedVariables false
set_option linter.unusedSimpArgs false
set_option maxRecDepth 10000
set_option maxHeartbeats 1000000
def zdH (x : zl) : Prop := True ∧ (-9223372036854775808 ≤ x.N ∧ x.N ≤ 9223372036854775807) ∧ (x.Name.size ≤ maxLen)
theorem zeK {H : Type} {enc : TypeId × Value → H} {W : World} : Opn enc Try.prog W 61 zes zdH := by
  intro fuel cs x h
  obtain ⟨xs, n, rfl, rfl, hl, hxl, hf⟩ := DataW.trod_struct Try.underlying61 h
  rw [show Try.prog.cellsOf 61 = 3 from by kernel_rfl] at hl
  match cs, hl with
  | [c0, c1, c2], _ =>
    obtain ⟨a0, r0, g0⟩ := zo hxl hf 0 rfl (k := 1) (by kernel_rfl) (zdI Try.underlying5)
    have e0 : ([c0] : List Value) = [.int .u8 a0.toNat] := r0
    simp only [List.cons.injEq, and_true] at e0
    obtain ⟨rfl⟩ := e0
    obtain ⟨a1, r1, g1⟩ := zo hxl hf 1 rfl (k := 1) (by kernel_rfl) (zx Try.underlying3)
    have e1 : ([c1] : List Value) = [.int .i64 a1] := r1
    simp only [List.cons.injEq, and_true] at e1
    obtain ⟨rfl⟩ := e1
    obtain ⟨a2, r2, g2⟩ := zo hxl hf 2 rfl (k := 1) (by kernel_rfl) (zbW Try.underlying9)
    have e2 : ([c2] : List Value) = [.string a2] := r2
    simp only [List.cons.injEq, and_true] at e2
    obtain ⟨rfl⟩ := e2
    exact ⟨⟨a0, a1, a2⟩, rfl, g0, g1, g2⟩
def zdK (x : zf) : Prop := (x.Name.size ≤ maxLen) ∧ (zdH x.Type_) ∧ (-9223372036854775808 ≤ x.Words ∧ x.Words ≤ 9223372036854775807) ∧ (x.Fields.length ≤ maxLen ∧ ∀ a ∈ x.Fields, (a.size ≤ maxLen))
theorem ze6 {H : Type} {enc : TypeId × Value → H} {W : World} : Opn enc Try.prog W 64 zk zdK := by
  intro fuel cs x h
  obtain ⟨xs, n, rfl, rfl, hl, hxl, hf⟩ := DataW.trod_struct Try.underlying64 h
  rw [show Try.prog.cellsOf 64 = 6 from by kernel_rfl] at hl
  match cs, hl with
  | [c0, c1, c2, c3, c4, c5], _ =>
    obtain ⟨a0, r0, g0⟩ := zo hxl hf 0 rfl (k := 1) (by kernel_rfl) (zbW Try.underlying9)
    have e0 : ([c0] : List Value) = [.string a0] := r0
    simp only [List.cons.injEq, and_true] at e0
    obtain ⟨rfl⟩ := e0
    obtain ⟨a1, r1, g1⟩ := zo hxl hf 1 rfl (k := 3) (by kernel_rfl) zeK
    have e1 : ([c1, c2, c3] : List Value) = [.int .u8 a1.Kind.toNat, .int .i64 a1.N, .string a1.Name] := r1
    simp only [List.cons.injEq, and_true] at e1
    obtain ⟨rfl, rfl, rfl⟩ := e1
    obtain ⟨a2, r2, g2⟩ := zo hxl hf 2 rfl (k := 1) (by kernel_rfl) (zx Try.underlying3)
    have e2 : ([c4] : List Value) = [.int .i64 a2] := r2
    simp only [List.cons.injEq, and_true] at e2
    obtain ⟨rfl⟩ := e2
    obtain ⟨a3, r3, g3⟩ := zo hxl hf 3 rfl (k := 1) (by kernel_rfl) (zC Try.underlying62 (by kernel_rfl) (zbW Try.underlying9))
    obtain ⟨v3_0, e3, s3_0⟩ : ∃ v3_0, ([c5] : List Value) = [v3_0] ∧ RdT Ty.str (foreign W) v3_0 a3 := r3
    simp only [List.cons.injEq, and_true] at e3
    obtain ⟨rfl⟩ := e3
    exact ⟨⟨a0, a1, a2, a3⟩, ⟨_, rfl, s3_0⟩, g0, g1, g2, g3⟩
def zdW (x : zd) : Prop := True ∧ (-9223372036854775808 ≤ x.N ∧ x.N ≤ 9223372036854775807)
theorem ze2 {H : Type} {enc : TypeId × Value → H} {W : World} : Opn enc Try.prog W 52 zn zdW := by
  intro fuel cs x h
  obtain ⟨xs, n, rfl, rfl, hl, hxl, hf⟩ := DataW.trod_struct Try.underlying52 h
  rw [show Try.prog.cellsOf 52 = 2 from by kernel_rfl] at hl
  match cs, hl with
  | [c0, c1], _ =>
    obtain ⟨a0, r0, g0⟩ := zo hxl hf 0 rfl (k := 1) (by kernel_rfl) (zdI Try.underlying5)
    have e0 : ([c0] : List Value) = [.int .u8 a0.toNat] := r0
    simp only [List.cons.injEq, and_true] at e0
    obtain ⟨rfl⟩ := e0
    obtain ⟨a1, r1, g1⟩ := zo hxl hf 1 rfl (k := 1) (by kernel_rfl) (zx Try.underlying2)
    have e1 : ([c1] : List Value) = [.int .i64 a1] := r1
    simp only [List.cons.injEq, and_true] at e1
    obtain ⟨rfl⟩ := e1
    exact ⟨⟨a0, a1⟩, rfl, g0, g1⟩
def zdM (x : zc) : Prop := (-9223372036854775808 ≤ x.From ∧ x.From ≤ 9223372036854775807) ∧ (-9223372036854775808 ≤ x.To ∧ x.To ≤ 9223372036854775807) ∧ (x.At.length ≤ maxLen ∧ ∀ a ∈ x.At, (zdW a))
theorem zek {H : Type} {enc : TypeId × Value → H} {W : World} : Opn enc Try.prog W 55 zh zdM := by
  intro fuel cs x h
  obtain ⟨xs, n, rfl, rfl, hl, hxl, hf⟩ := DataW.trod_struct Try.underlying55 h
  rw [show Try.prog.cellsOf 55 = 3 from by kernel_rfl] at hl
  match cs, hl with
  | [c0, c1, c2], _ =>
    obtain ⟨a0, r0, g0⟩ := zo hxl hf 0 rfl (k := 1) (by kernel_rfl) (zx Try.underlying3)
    have e0 : ([c0] : List Value) = [.int .i64 a0] := r0
    simp only [List.cons.injEq, and_true] at e0
    obtain ⟨rfl⟩ := e0
    obtain ⟨a1, r1, g1⟩ := zo hxl hf 1 rfl (k := 1) (by kernel_rfl) (zx Try.underlying3)
    have e1 : ([c1] : List Value) = [.int .i64 a1] := r1
    simp only [List.cons.injEq, and_true] at e1
    obtain ⟨rfl⟩ := e1
    obtain ⟨a2, r2, g2⟩ := zo hxl hf 2 rfl (k := 1) (by kernel_rfl) (zC Try.underlying53 (by kernel_rfl) ze2)
    obtain ⟨v2_0, e2, s2_0⟩ : ∃ v2_0, ([c2] : List Value) = [v2_0] ∧ RdT zn (foreign W) v2_0 a2 := r2
    simp only [List.cons.injEq, and_true] at e2
    obtain ⟨rfl⟩ := e2
    exact ⟨⟨a0, a1, a2⟩, ⟨_, rfl, s2_0⟩, g0, g1, g2⟩
def zdP (x : za) : Prop := (x.Name.size ≤ maxLen) ∧ (-9223372036854775808 ≤ x.From ∧ x.From ≤ 9223372036854775807) ∧ (-9223372036854775808 ≤ x.To ∧ x.To ≤ 9223372036854775807) ∧ (x.Vars.length ≤ maxLen ∧ ∀ a ∈ x.Vars, (zdK a)) ∧ (x.Spans.length ≤ maxLen ∧ ∀ a ∈ x.Spans, (a.length ≤ maxLen ∧ ∀ a_ ∈ a, (zdM a_)))
theorem zeU {H : Type} {enc : TypeId × Value → H} {W : World} : Opn enc Try.prog W 50 zg zdP := by
  intro fuel cs x h
  obtain ⟨xs, n, rfl, rfl, hl, hxl, hf⟩ := DataW.trod_struct Try.underlying50 h
  rw [show Try.prog.cellsOf 50 = 5 from by kernel_rfl] at hl
  match cs, hl with
  | [c0, c1, c2, c3, c4], _ =>
    obtain ⟨a0, r0, g0⟩ := zo hxl hf 0 rfl (k := 1) (by kernel_rfl) (zbW Try.underlying9)
    have e0 : ([c0] : List Value) = [.string a0] := r0
    simp only [List.cons.injEq, and_true] at e0
    obtain ⟨rfl⟩ := e0
    obtain ⟨a1, r1, g1⟩ := zo hxl hf 1 rfl (k := 1) (by kernel_rfl) (zx Try.underlying3)
    have e1 : ([c1] : List Value) = [.int .i64 a1] := r1
    simp only [List.cons.injEq, and_true] at e1
    obtain ⟨rfl⟩ := e1
    obtain ⟨a2, r2, g2⟩ := zo hxl hf 2 rfl (k := 1) (by kernel_rfl) (zx Try.underlying3)
    have e2 : ([c2] : List Value) = [.int .i64 a2] := r2
    simp only [List.cons.injEq, and_true] at e2
    obtain ⟨rfl⟩ := e2
    obtain ⟨a3, r3, g3⟩ := zo hxl hf 3 rfl (k := 1) (by kernel_rfl) (zC Try.underlying47 (by kernel_rfl) ze6)
    obtain ⟨v3_0, e3, s3_0⟩ : ∃ v3_0, ([c3] : List Value) = [v3_0] ∧ RdT zk (foreign W) v3_0 a3 := r3
    simp only [List.cons.injEq, and_true] at e3
    obtain ⟨rfl⟩ := e3
    obtain ⟨a4, r4, g4⟩ := zo hxl hf 4 rfl (k := 1) (by kernel_rfl) (zC Try.underlying48 (by kernel_rfl) (zC Try.underlying56 (by kernel_rfl) zek))
    obtain ⟨v4_0, e4, s4_0⟩ : ∃ v4_0, ([c4] : List Value) = [v4_0] ∧ RdT (Ty.slice zh) (foreign W) v4_0 a4 := r4
    simp only [List.cons.injEq, and_true] at e4
    obtain ⟨rfl⟩ := e4
    exact ⟨⟨a0, a1, a2, a3, a4⟩, ⟨_, _, rfl, s3_0, s4_0⟩, g0, g1, g2, g3, g4⟩
def zdX (x : ze) : Prop := (-9223372036854775808 ≤ x.Func ∧ x.Func ≤ 9223372036854775807) ∧ (-9223372036854775808 ≤ x.Line ∧ x.Line ≤ 9223372036854775807) ∧ (x.Scope.length ≤ maxLen ∧ ∀ a ∈ x.Scope, (-9223372036854775808 ≤ a ∧ a ≤ 9223372036854775807))
theorem zeE {H : Type} {enc : TypeId × Value → H} {W : World} : Opn enc Try.prog W 59 zi zdX := by
  intro fuel cs x h
  obtain ⟨xs, n, rfl, rfl, hl, hxl, hf⟩ := DataW.trod_struct Try.underlying59 h
  rw [show Try.prog.cellsOf 59 = 3 from by kernel_rfl] at hl
  match cs, hl with
  | [c0, c1, c2], _ =>
    obtain ⟨a0, r0, g0⟩ := zo hxl hf 0 rfl (k := 1) (by kernel_rfl) (zx Try.underlying3)
    have e0 : ([c0] : List Value) = [.int .i64 a0] := r0
    simp only [List.cons.injEq, and_true] at e0
    obtain ⟨rfl⟩ := e0
    obtain ⟨a1, r1, g1⟩ := zo hxl hf 1 rfl (k := 1) (by kernel_rfl) (zx Try.underlying3)
    have e1 : ([c1] : List Value) = [.int .i64 a1] := r1
    simp only [List.cons.injEq, and_true] at e1
    obtain ⟨rfl⟩ := e1
    obtain ⟨a2, r2, g2⟩ := zo hxl hf 2 rfl (k := 1) (by kernel_rfl) (zC Try.underlying57 (by kernel_rfl) (zx Try.underlying3))
    obtain ⟨v2_0, e2, s2_0⟩ : ∃ v2_0, ([c2] : List Value) = [v2_0] ∧ RdT (Ty.int .i64) (foreign W) v2_0 a2 := r2
    simp only [List.cons.injEq, and_true] at e2
    obtain ⟨rfl⟩ := e2
    exact ⟨⟨a0, a1, a2⟩, ⟨_, rfl, s2_0⟩, g0, g1, g2⟩
def zeO (x : zp) : Prop := (x.L.length ≤ maxLen ∧ ∀ a ∈ x.L, (zdP a)) ∧ (x.Points.length ≤ maxLen ∧ ∀ a ∈ x.Points, (zdX a))
theorem zeC {H : Type} {enc : TypeId × Value → H} {W : World} : Opn enc Try.prog W 25 ze0 zeO := by
  intro fuel cs x h
  obtain ⟨xs, n, rfl, rfl, hl, hxl, hf⟩ := DataW.trod_struct Try.underlying25 h
  rw [show Try.prog.cellsOf 25 = 2 from by kernel_rfl] at hl
  match cs, hl with
  | [c0, c1], _ =>
    obtain ⟨a0, r0, g0⟩ := zo hxl hf 0 rfl (k := 1) (by kernel_rfl) (zC Try.underlying22 (by kernel_rfl) zeU)
    obtain ⟨v0_0, e0, s0_0⟩ : ∃ v0_0, ([c0] : List Value) = [v0_0] ∧ RdT zg (foreign W) v0_0 a0 := r0
    simp only [List.cons.injEq, and_true] at e0
    obtain ⟨rfl⟩ := e0
    obtain ⟨a1, r1, g1⟩ := zo hxl hf 1 rfl (k := 1) (by kernel_rfl) (zC Try.underlying23 (by kernel_rfl) zeE)
    obtain ⟨v1_0, e1, s1_0⟩ : ∃ v1_0, ([c1] : List Value) = [v1_0] ∧ RdT zi (foreign W) v1_0 a1 := r1
    simp only [List.cons.injEq, and_true] at e1
    obtain ⟨rfl⟩ := e1
    exact ⟨⟨a0, a1⟩, ⟨_, _, rfl, s0_0, s1_0⟩, g0, g1⟩
end Go.Proofs.Ytckcngkkofemjaa
