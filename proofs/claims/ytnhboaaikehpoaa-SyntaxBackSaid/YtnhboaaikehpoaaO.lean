import Derived.Test.YtnhboaaikehpoaaF
import Derived.Test.YtnhboaaikehpoaaProg
import Derived.KernelRfl
namespace Go.Proofs.Ytnhboaaikehpoaa
open Go.Ab Go.RowKit
set_option linter.unusedVariables false
set_option linter.unusedSimpArgs false
set_option maxRecDepth 10000
set_option maxHeartbeats 1000000
def zna (x : zq) : Prop := (x.Name.size ≤ reachBytes) ∧ (x.Fields.length ≤ reachBytes ∧ ∀ a ∈ x.Fields, (a.size ≤ reachBytes))
theorem zo3 {H : Type} {enc : TypeId × Value → H} {W : World} : Opn enc Try.prog W 71 zs zna := by
 intro fuel cs x h hw
 obtain ⟨xs, n, rfl, rfl, hl, hxl, hf⟩ := DataW.trod_struct Try.underlying71 h
 rw [show Try.prog.cellsOf 71 = 2 from by kernel_rfl] at hl
 match cs, hl with
 | [c0, c1], _ =>
  obtain ⟨a0, r0, g0⟩ := zcZ hxl hf 0 rfl (k := 1) (by kernel_rfl) Try.underlying71 hw (zdy Try.underlying9)
  have e0 : ([c0] : List Value) = [.string a0] := r0
  simp only [List.cons.injEq, and_true] at e0
  obtain ⟨rfl⟩ := e0
  obtain ⟨a1, r1, g1⟩ := zcZ hxl hf 1 rfl (k := 1) (by kernel_rfl) Try.underlying71 hw (zgc Try.underlying69 (by kernel_rfl) (by kernel_rfl) (zdy Try.underlying9))
  obtain ⟨v1_0, e1, s1_0⟩ : ∃ v1_0, ([c1] : List Value) = [v1_0] ∧ RdT Ty.str (foreign W) v1_0 a1 := r1
  simp only [List.cons.injEq, and_true] at e1
  obtain ⟨rfl⟩ := e1
  exact ⟨⟨a0, a1⟩, ⟨_, rfl, s1_0⟩, g0, g1⟩
def ziW (x : zR) : Prop := True ∧ (-9223372036854775808 ≤ x.N ∧ x.N ≤ 9223372036854775807) ∧ (x.Name.size ≤ reachBytes)
theorem zj1 {H : Type} {enc : TypeId × Value → H} {W : World} : Opn enc Try.prog W 47 zrT ziW := by
 intro fuel cs x h hw
 obtain ⟨xs, n, rfl, rfl, hl, hxl, hf⟩ := DataW.trod_struct Try.underlying47 h
 rw [show Try.prog.cellsOf 47 = 3 from by kernel_rfl] at hl
 match cs, hl with
 | [c0, c1, c2], _ =>
  obtain ⟨a0, r0, g0⟩ := zcZ hxl hf 0 rfl (k := 1) (by kernel_rfl) Try.underlying47 hw (zkh Try.underlying5)
  have e0 : ([c0] : List Value) = [.int .u8 a0.toNat] := r0
  simp only [List.cons.injEq, and_true] at e0
  obtain ⟨rfl⟩ := e0
  obtain ⟨a1, r1, g1⟩ := zcZ hxl hf 1 rfl (k := 1) (by kernel_rfl) Try.underlying47 hw (zi7 Try.underlying3)
  have e1 : ([c1] : List Value) = [.int .i64 a1] := r1
  simp only [List.cons.injEq, and_true] at e1
  obtain ⟨rfl⟩ := e1
  obtain ⟨a2, r2, g2⟩ := zcZ hxl hf 2 rfl (k := 1) (by kernel_rfl) Try.underlying47 hw (zdy Try.underlying9)
  have e2 : ([c2] : List Value) = [.string a2] := r2
  simp only [List.cons.injEq, and_true] at e2
  obtain ⟨rfl⟩ := e2
  exact ⟨⟨a0, a1, a2⟩, rfl, g0, g1, g2⟩
def znz (x : zbu) : Prop := (x.Name.size ≤ reachBytes) ∧ (ziW x.Type_)
theorem zqv {H : Type} {enc : TypeId × Value → H} {W : World} : Opn enc Try.prog W 77 zbY znz := by
 intro fuel cs x h hw
 obtain ⟨xs, n, rfl, rfl, hl, hxl, hf⟩ := DataW.trod_struct Try.underlying77 h
 rw [show Try.prog.cellsOf 77 = 4 from by kernel_rfl] at hl
 match cs, hl with
 | [c0, c1, c2, c3], _ =>
  obtain ⟨a0, r0, g0⟩ := zcZ hxl hf 0 rfl (k := 1) (by kernel_rfl) Try.underlying77 hw (zdy Try.underlying9)
  have e0 : ([c0] : List Value) = [.string a0] := r0
  simp only [List.cons.injEq, and_true] at e0
  obtain ⟨rfl⟩ := e0
  obtain ⟨a1, r1, g1⟩ := zcZ hxl hf 1 rfl (k := 3) (by kernel_rfl) Try.underlying77 hw zj1
  have e1 : ([c1, c2, c3] : List Value) = [.int .u8 a1.Kind.toNat, .int .i64 a1.N, .string a1.Name] := r1
  simp only [List.cons.injEq, and_true] at e1
  obtain ⟨rfl, rfl, rfl⟩ := e1
  exact ⟨⟨a0, a1⟩, rfl, g0, g1⟩
inductive zh2 : zb → Prop where
 | mk {x : zb} (_ : True) (_ : (-9223372036854775808 ≤ x.Num ∧ x.Num ≤ 9223372036854775807)) (_ : (x.Name.size ≤ reachBytes)) (_ : (x.Field.size ≤ reachBytes)) (_ : (x.Op.size ≤ reachBytes)) (_ : x.Kids.length ≤ reachBytes) (_ : ∀ a ∈ x.Kids, zh2 a) : zh2 x
theorem zpg {H : Type} {enc : TypeId × Value → H} {W : World} (N : Nat) : zdT N enc Try.prog W 55 zu zh2 := by
 induction N with
 | zero => exact fun _ _ _ h => absurd h (Nat.not_lt_zero _)
 | succ N ih =>
 intro fuel cs x hN h hw
 obtain ⟨xs, n, rfl, rfl, hl, hxl, hf⟩ := DataW.trod_struct Try.underlying55 h
 rw [show Try.prog.cellsOf 55 = 6 from by kernel_rfl] at hl
 match cs, hl with
 | [c0, c1, c2, c3, c4, c5], _ =>
  obtain ⟨a0, r0, g0⟩ := zcS hxl (show n < N by omega) hf 0 rfl (k := 1) (by kernel_rfl) Try.underlying55 hw (Opn.toF (zkh Try.underlying5))
  have e0 : ([c0] : List Value) = [.int .u8 a0.toNat] := r0
  simp only [List.cons.injEq, and_true] at e0
  obtain ⟨rfl⟩ := e0
  obtain ⟨a1, r1, g1⟩ := zcS hxl (show n < N by omega) hf 1 rfl (k := 1) (by kernel_rfl) Try.underlying55 hw (Opn.toF (zi7 Try.underlying2))
  have e1 : ([c1] : List Value) = [.int .i64 a1] := r1
  simp only [List.cons.injEq, and_true] at e1
  obtain ⟨rfl⟩ := e1
  obtain ⟨a2, r2, g2⟩ := zcS hxl (show n < N by omega) hf 2 rfl (k := 1) (by kernel_rfl) Try.underlying55 hw (Opn.toF (zdy Try.underlying9))
  have e2 : ([c2] : List Value) = [.string a2] := r2
  simp only [List.cons.injEq, and_true] at e2
  obtain ⟨rfl⟩ := e2
  obtain ⟨a3, r3, g3⟩ := zcS hxl (show n < N by omega) hf 3 rfl (k := 1) (by kernel_rfl) Try.underlying55 hw (Opn.toF (zdy Try.underlying9))
  have e3 : ([c3] : List Value) = [.string a3] := r3
  simp only [List.cons.injEq, and_true] at e3
  obtain ⟨rfl⟩ := e3
  obtain ⟨a4, r4, g4⟩ := zcS hxl (show n < N by omega) hf 4 rfl (k := 1) (by kernel_rfl) Try.underlying55 hw (Opn.toF (zdy Try.underlying9))
  have e4 : ([c4] : List Value) = [.string a4] := r4
  simp only [List.cons.injEq, and_true] at e4
  obtain ⟨rfl⟩ := e4
  obtain ⟨a5, r5, g5⟩ := zcS hxl (show n < N by omega) hf 5 rfl (k := 1) (by kernel_rfl) Try.underlying55 hw (zj0 Try.underlying51 (by kernel_rfl) (by kernel_rfl) ih)
  obtain ⟨v5_0, e5, s5_0⟩ : ∃ v5_0, ([c5] : List Value) = [v5_0] ∧ RdT zu (foreign W) v5_0 a5 := r5
  simp only [List.cons.injEq, and_true] at e5
  obtain ⟨rfl⟩ := e5
  exact ⟨⟨a0, a1, a2, a3, a4, a5⟩, zb8 ⟨_, rfl, s5_0⟩, .mk g0 g1 g2 g3 g4 g5.1 g5.2⟩
theorem zrE {H : Type} {enc : TypeId × Value → H} {W : World} : Opn enc Try.prog W 55 zu zh2 := zdT.all zpg
inductive zfX : zh → Prop where
 | mk {x : zh} (_ : True) (_ : (-9223372036854775808 ≤ x.Line ∧ x.Line ≤ 9223372036854775807)) (_ : (x.Name.size ≤ reachBytes)) (_ : (x.Field.size ≤ reachBytes)) (_ : (x.Call.size ≤ reachBytes)) (_ : (ziW x.Type_)) (_ : (x.Kids.length ≤ reachBytes ∧ ∀ a ∈ x.Kids, (zh2 a))) (_ : x.Body.length ≤ reachBytes) (_ : ∀ a ∈ x.Body, zfX a) (_ : x.Else.length ≤ reachBytes) (_ : ∀ a ∈ x.Else, zfX a) : zfX x
theorem zsa {H : Type} {enc : TypeId × Value → H} {W : World} (N : Nat) : zdT N enc Try.prog W 53 zy zfX := by
 induction N with
 | zero => exact fun _ _ _ h => absurd h (Nat.not_lt_zero _)
 | succ N ih =>
 intro fuel cs x hN h hw
 obtain ⟨xs, n, rfl, rfl, hl, hxl, hf⟩ := DataW.trod_struct Try.underlying53 h
 rw [show Try.prog.cellsOf 53 = 11 from by kernel_rfl] at hl
 match cs, hl with
 | [c0, c1, c2, c3, c4, c5, c6, c7, c8, c9, c10], _ =>
  obtain ⟨a0, r0, g0⟩ := zcS hxl (show n < N by omega) hf 0 rfl (k := 1) (by kernel_rfl) Try.underlying53 hw (Opn.toF (zkh Try.underlying5))
  have e0 : ([c0] : List Value) = [.int .u8 a0.toNat] := r0
  simp only [List.cons.injEq, and_true] at e0
  obtain ⟨rfl⟩ := e0
  obtain ⟨a1, r1, g1⟩ := zcS hxl (show n < N by omega) hf 1 rfl (k := 1) (by kernel_rfl) Try.underlying53 hw (Opn.toF (zi7 Try.underlying3))
  have e1 : ([c1] : List Value) = [.int .i64 a1] := r1
  simp only [List.cons.injEq, and_true] at e1
  obtain ⟨rfl⟩ := e1
  obtain ⟨a2, r2, g2⟩ := zcS hxl (show n < N by omega) hf 2 rfl (k := 1) (by kernel_rfl) Try.underlying53 hw (Opn.toF (zdy Try.underlying9))
  have e2 : ([c2] : List Value) = [.string a2] := r2
  simp only [List.cons.injEq, and_true] at e2
  obtain ⟨rfl⟩ := e2
  obtain ⟨a3, r3, g3⟩ := zcS hxl (show n < N by omega) hf 3 rfl (k := 1) (by kernel_rfl) Try.underlying53 hw (Opn.toF (zdy Try.underlying9))
  have e3 : ([c3] : List Value) = [.string a3] := r3
  simp only [List.cons.injEq, and_true] at e3
  obtain ⟨rfl⟩ := e3
  obtain ⟨a4, r4, g4⟩ := zcS hxl (show n < N by omega) hf 4 rfl (k := 1) (by kernel_rfl) Try.underlying53 hw (Opn.toF (zdy Try.underlying9))
  have e4 : ([c4] : List Value) = [.string a4] := r4
  simp only [List.cons.injEq, and_true] at e4
  obtain ⟨rfl⟩ := e4
  obtain ⟨a5, r5, g5⟩ := zcS hxl (show n < N by omega) hf 5 rfl (k := 3) (by kernel_rfl) Try.underlying53 hw (Opn.toF zj1)
  have e5 : ([c5, c6, c7] : List Value) = [.int .u8 a5.Kind.toNat, .int .i64 a5.N, .string a5.Name] := r5
  simp only [List.cons.injEq, and_true] at e5
  obtain ⟨rfl, rfl, rfl⟩ := e5
  obtain ⟨a6, r6, g6⟩ := zcS hxl (show n < N by omega) hf 6 rfl (k := 1) (by kernel_rfl) Try.underlying53 hw (Opn.toF (zgc Try.underlying51 (by kernel_rfl) (by kernel_rfl) zrE))
  obtain ⟨v6_0, e6, s6_0⟩ : ∃ v6_0, ([c8] : List Value) = [v6_0] ∧ RdT zu (foreign W) v6_0 a6 := r6
  simp only [List.cons.injEq, and_true] at e6
  obtain ⟨rfl⟩ := e6
  obtain ⟨a7, r7, g7⟩ := zcS hxl (show n < N by omega) hf 7 rfl (k := 1) (by kernel_rfl) Try.underlying53 hw (zj0 Try.underlying48 (by kernel_rfl) (by kernel_rfl) ih)
  obtain ⟨v7_0, e7, s7_0⟩ : ∃ v7_0, ([c9] : List Value) = [v7_0] ∧ RdT zy (foreign W) v7_0 a7 := r7
  simp only [List.cons.injEq, and_true] at e7
  obtain ⟨rfl⟩ := e7
  obtain ⟨a8, r8, g8⟩ := zcS hxl (show n < N by omega) hf 8 rfl (k := 1) (by kernel_rfl) Try.underlying53 hw (zj0 Try.underlying48 (by kernel_rfl) (by kernel_rfl) ih)
  obtain ⟨v8_0, e8, s8_0⟩ : ∃ v8_0, ([c10] : List Value) = [v8_0] ∧ RdT zy (foreign W) v8_0 a8 := r8
  simp only [List.cons.injEq, and_true] at e8
  obtain ⟨rfl⟩ := e8
  exact ⟨⟨a0, a1, a2, a3, a4, a5, a6, a7, a8⟩, zjK ⟨_, _, _, rfl, s6_0, s7_0, s8_0⟩, .mk g0 g1 g2 g3 g4 g5 g6 g7.1 g7.2 g8.1 g8.2⟩
theorem zox {H : Type} {enc : TypeId × Value → H} {W : World} : Opn enc Try.prog W 53 zy zfX := zdT.all zsa
def zmZ (x : zo) : Prop := (x.Name.size ≤ reachBytes) ∧ (-9223372036854775808 ≤ x.Line ∧ x.Line ≤ 9223372036854775807) ∧ (x.Params.length ≤ reachBytes ∧ ∀ a ∈ x.Params, (znz a)) ∧ (ziW x.Result) ∧ (x.Body.length ≤ reachBytes ∧ ∀ a ∈ x.Body, (zfX a))
theorem zn4 {H : Type} {enc : TypeId × Value → H} {W : World} : Opn enc Try.prog W 50 zr zmZ := by
 intro fuel cs x h hw
 obtain ⟨xs, n, rfl, rfl, hl, hxl, hf⟩ := DataW.trod_struct Try.underlying50 h
 rw [show Try.prog.cellsOf 50 = 7 from by kernel_rfl] at hl
 match cs, hl with
 | [c0, c1, c2, c3, c4, c5, c6], _ =>
  obtain ⟨a0, r0, g0⟩ := zcZ hxl hf 0 rfl (k := 1) (by kernel_rfl) Try.underlying50 hw (zdy Try.underlying9)
  have e0 : ([c0] : List Value) = [.string a0] := r0
  simp only [List.cons.injEq, and_true] at e0
  obtain ⟨rfl⟩ := e0
  obtain ⟨a1, r1, g1⟩ := zcZ hxl hf 1 rfl (k := 1) (by kernel_rfl) Try.underlying50 hw (zi7 Try.underlying3)
  have e1 : ([c1] : List Value) = [.int .i64 a1] := r1
  simp only [List.cons.injEq, and_true] at e1
  obtain ⟨rfl⟩ := e1
  obtain ⟨a2, r2, g2⟩ := zcZ hxl hf 2 rfl (k := 1) (by kernel_rfl) Try.underlying50 hw (zgc Try.underlying45 (by kernel_rfl) (by kernel_rfl) zqv)
  obtain ⟨v2_0, e2, s2_0⟩ : ∃ v2_0, ([c2] : List Value) = [v2_0] ∧ RdT zbY (foreign W) v2_0 a2 := r2
  simp only [List.cons.injEq, and_true] at e2
  obtain ⟨rfl⟩ := e2
  obtain ⟨a3, r3, g3⟩ := zcZ hxl hf 3 rfl (k := 3) (by kernel_rfl) Try.underlying50 hw zj1
  have e3 : ([c3, c4, c5] : List Value) = [.int .u8 a3.Kind.toNat, .int .i64 a3.N, .string a3.Name] := r3
  simp only [List.cons.injEq, and_true] at e3
  obtain ⟨rfl, rfl, rfl⟩ := e3
  obtain ⟨a4, r4, g4⟩ := zcZ hxl hf 4 rfl (k := 1) (by kernel_rfl) Try.underlying50 hw (zgc Try.underlying48 (by kernel_rfl) (by kernel_rfl) zox)
  obtain ⟨v4_0, e4, s4_0⟩ : ∃ v4_0, ([c6] : List Value) = [v4_0] ∧ RdT zy (foreign W) v4_0 a4 := r4
  simp only [List.cons.injEq, and_true] at e4
  obtain ⟨rfl⟩ := e4
  exact ⟨⟨a0, a1, a2, a3, a4⟩, ⟨_, _, rfl, s2_0, s4_0⟩, g0, g1, g2, g3, g4⟩
def zpG (x : zB) : Prop := (x.Structs.length ≤ reachBytes ∧ ∀ a ∈ x.Structs, (zna a)) ∧ (x.Funcs.length ≤ reachBytes ∧ ∀ a ∈ x.Funcs, (zmZ a))
theorem zpX {H : Type} {enc : TypeId × Value → H} {W : World} : Opn enc Try.prog W 27 zrP zpG := by
 intro fuel cs x h hw
 obtain ⟨xs, n, rfl, rfl, hl, hxl, hf⟩ := DataW.trod_struct Try.underlying27 h
 rw [show Try.prog.cellsOf 27 = 2 from by kernel_rfl] at hl
 match cs, hl with
 | [c0, c1], _ =>
  obtain ⟨a0, r0, g0⟩ := zcZ hxl hf 0 rfl (k := 1) (by kernel_rfl) Try.underlying27 hw (zgc Try.underlying24 (by kernel_rfl) (by kernel_rfl) zo3)
  obtain ⟨v0_0, e0, s0_0⟩ : ∃ v0_0, ([c0] : List Value) = [v0_0] ∧ RdT zs (foreign W) v0_0 a0 := r0
  simp only [List.cons.injEq, and_true] at e0
  obtain ⟨rfl⟩ := e0
  obtain ⟨a1, r1, g1⟩ := zcZ hxl hf 1 rfl (k := 1) (by kernel_rfl) Try.underlying27 hw (zgc Try.underlying25 (by kernel_rfl) (by kernel_rfl) zn4)
  obtain ⟨v1_0, e1, s1_0⟩ : ∃ v1_0, ([c1] : List Value) = [v1_0] ∧ RdT zr (foreign W) v1_0 a1 := r1
  simp only [List.cons.injEq, and_true] at e1
  obtain ⟨rfl⟩ := e1
  exact ⟨⟨a0, a1⟩, ⟨_, _, rfl, s0_0, s1_0⟩, g0, g1⟩
end Go.Proofs.Ytnhboaaikehpoaa
