import Derived.Test.YtakcaekikfcbpaaFM
namespace Go.Proofs.Ytakcaekikfcbpaa
open Go.Ab Go.RowKit
set_option linter.unusedVariables false
set_option linter.unusedSimpArgs false
set_option maxRecDepth 10000
set_option maxHeartbeats 1000000
structure zx where
 Kind : UInt8
 N : Int
 Name : ByteArray
 deriving DecidableEq
structure zc where
 Kind : UInt8
 Num : Int
 Name : ByteArray
 Field : ByteArray
 Op : ByteArray
 Kids : (List zc)
def zi6 (T : Ty zc) : Ty zc where
 sz := 6
 R := fun σ x cs => ∃ v5, cs = [.int .u8 x.Kind.toNat, .int .i64 x.Num, .string x.Name, .string x.Field, .string x.Op, v5] ∧ RdT T σ v5 x.Kids
 len := by rintro σ x cs ⟨v5, rfl, h0⟩; rfl
 one := by rintro σ x cs ⟨v5, rfl, h0⟩; obtain ⟨_, ⟨_, _, rfl, _⟩, _⟩ := h0; rfl
 mono := by rintro σ σ' x cs hle ⟨v5, rfl, h0⟩; exact ⟨v5, rfl, h0.le hle⟩
theorem zg0 : Lvl zi6 6 := ⟨fun _ => rfl, fun T T' h => ⟨rfl, by rintro σ x cs ⟨v5, rfl, h0⟩; exact ⟨v5, rfl, h.rd h0⟩⟩⟩
def z5 : Ty zc := Ty.fix zi6 6 zg0
theorem zjz {σ : Hp} {x : zc} {cs : List Value} (h : z5.R σ x cs) : ∃ v5, cs = [.int .u8 x.Kind.toNat, .int .i64 x.Num, .string x.Name, .string x.Field, .string x.Op, v5] ∧ RdT z5 σ v5 x.Kids := zis zg0 h
theorem zca {σ : Hp} {x : zc} {cs : List Value} (h : ∃ v5, cs = [.int .u8 x.Kind.toNat, .int .i64 x.Num, .string x.Name, .string x.Field, .string x.Op, v5] ∧ RdT z5 σ v5 x.Kids) : z5.R σ x cs := by
 obtain ⟨v5, rfl, h0⟩ := h
 obtain ⟨k0, g0⟩ := zes zg0 h0
 exact ⟨k0 + 1, v5, rfl, g0 _ (by omega)⟩
structure zg where
 Kind : UInt8
 Line : Int
 Name : ByteArray
 Field : ByteArray
 Call : ByteArray
 Type_ : zx
 Kids : (List zc)
 Body : (List zg)
 Else : (List zg)
def zj0 (T : Ty zg) : Ty zg where
 sz := 11
 R := fun σ x cs => ∃ v8 v9 v10, cs = [.int .u8 x.Kind.toNat, .int .i64 x.Line, .string x.Name, .string x.Field, .string x.Call, .int .u8 x.Type_.Kind.toNat, .int .i64 x.Type_.N, .string x.Type_.Name, v8, v9, v10] ∧ RdT z5 σ v8 x.Kids ∧ RdT T σ v9 x.Body ∧ RdT T σ v10 x.Else
 len := by rintro σ x cs ⟨v8, v9, v10, rfl, h0, h1, h2⟩; rfl
 one := by rintro σ x cs ⟨v8, v9, v10, rfl, h0, h1, h2⟩; obtain ⟨_, ⟨_, _, rfl, _⟩, _⟩ := h0; obtain ⟨_, ⟨_, _, rfl, _⟩, _⟩ := h1; obtain ⟨_, ⟨_, _, rfl, _⟩, _⟩ := h2; rfl
 mono := by rintro σ σ' x cs hle ⟨v8, v9, v10, rfl, h0, h1, h2⟩; exact ⟨v8, v9, v10, rfl, h0.le hle, h1.le hle, h2.le hle⟩
theorem zfC : Lvl zj0 11 := ⟨fun _ => rfl, fun T T' h => ⟨rfl, by rintro σ x cs ⟨v8, v9, v10, rfl, h0, h1, h2⟩; exact ⟨v8, v9, v10, rfl, h0, h.rd h1, h.rd h2⟩⟩⟩
def zX : Ty zg := Ty.fix zj0 11 zfC
theorem ziV {σ : Hp} {x : zg} {cs : List Value} (h : zX.R σ x cs) : ∃ v8 v9 v10, cs = [.int .u8 x.Kind.toNat, .int .i64 x.Line, .string x.Name, .string x.Field, .string x.Call, .int .u8 x.Type_.Kind.toNat, .int .i64 x.Type_.N, .string x.Type_.Name, v8, v9, v10] ∧ RdT z5 σ v8 x.Kids ∧ RdT zX σ v9 x.Body ∧ RdT zX σ v10 x.Else := zis zfC h
theorem zcj {σ : Hp} {x : zg} {cs : List Value} (h : ∃ v8 v9 v10, cs = [.int .u8 x.Kind.toNat, .int .i64 x.Line, .string x.Name, .string x.Field, .string x.Call, .int .u8 x.Type_.Kind.toNat, .int .i64 x.Type_.N, .string x.Type_.Name, v8, v9, v10] ∧ RdT z5 σ v8 x.Kids ∧ RdT zX σ v9 x.Body ∧ RdT zX σ v10 x.Else) : zX.R σ x cs := by
 obtain ⟨v8, v9, v10, rfl, h0, h1, h2⟩ := h
 obtain ⟨k1, g1⟩ := zes zfC h1
 obtain ⟨k2, g2⟩ := zes zfC h2
 exact ⟨k1 + k2 + 1, v8, v9, v10, rfl, h0, g1 _ (by omega), g2 _ (by omega)⟩
structure zbc where
 Name : ByteArray
 Fields : (List ByteArray)
 deriving DecidableEq
def zu : Ty zbc where
 sz := 2
 R := fun σ x cs => ∃ v1, cs = [.string x.Name, v1] ∧ RdT Ty.str σ v1 x.Fields
 len := by rintro σ x cs ⟨v1, rfl, h0⟩; rfl
 one := by rintro σ x cs ⟨v1, rfl, h0⟩; obtain ⟨_, ⟨_, _, rfl, _⟩, _⟩ := h0; rfl
 mono := by rintro σ σ' x cs hle ⟨v1, rfl, h0⟩; exact ⟨v1, rfl, h0.le hle⟩
structure zgp where
 Name : ByteArray
 Type_ : zx
 deriving DecidableEq
def zcw : Ty zgp where
 sz := 4
 R := fun σ x cs => cs = [.string x.Name, .int .u8 x.Type_.Kind.toNat, .int .i64 x.Type_.N, .string x.Type_.Name]
 len := by rintro σ x cs rfl; rfl
 one := by rintro σ x cs rfl; rfl
 mono := by rintro σ σ' x cs hle rfl; rfl
structure zP where
 Name : ByteArray
 Line : Int
 Params : (List zgp)
 Result : zx
 Body : (List zg)
def zr : Ty zP where
 sz := 7
 R := fun σ x cs => ∃ v2 v6, cs = [.string x.Name, .int .i64 x.Line, v2, .int .u8 x.Result.Kind.toNat, .int .i64 x.Result.N, .string x.Result.Name, v6] ∧ RdT zcw σ v2 x.Params ∧ RdT zX σ v6 x.Body
 len := by rintro σ x cs ⟨v2, v6, rfl, h0, h1⟩; rfl
 one := by rintro σ x cs ⟨v2, v6, rfl, h0, h1⟩; obtain ⟨_, ⟨_, _, rfl, _⟩, _⟩ := h0; obtain ⟨_, ⟨_, _, rfl, _⟩, _⟩ := h1; rfl
 mono := by rintro σ σ' x cs hle ⟨v2, v6, rfl, h0, h1⟩; exact ⟨v2, v6, rfl, h0.le hle, h1.le hle⟩
structure zq where
 Structs : (List zbc)
 Funcs : (List zP)
structure zD where
 Name : ByteArray
 Type_ : zx
 Words : Int
 Fields : (List ByteArray)
 deriving DecidableEq
def zn : Ty zD where
 sz := 6
 R := fun σ x cs => ∃ v5, cs = [.string x.Name, .int .u8 x.Type_.Kind.toNat, .int .i64 x.Type_.N, .string x.Type_.Name, .int .i64 x.Words, v5] ∧ RdT Ty.str σ v5 x.Fields
 len := by rintro σ x cs ⟨v5, rfl, h0⟩; rfl
 one := by rintro σ x cs ⟨v5, rfl, h0⟩; obtain ⟨_, ⟨_, _, rfl, _⟩, _⟩ := h0; rfl
 mono := by rintro σ σ' x cs hle ⟨v5, rfl, h0⟩; exact ⟨v5, rfl, h0.le hle⟩
structure zj where
 Kind : UInt8
 Op : UInt8
 Var : Int
 Num : Int
 Kids : (List zj)
def zi3 (T : Ty zj) : Ty zj where
 sz := 5
 R := fun σ x cs => ∃ v4, cs = [.int .u8 x.Kind.toNat, .int .u8 x.Op.toNat, .int .i64 x.Var, .int .i64 x.Num, v4] ∧ RdT T σ v4 x.Kids
 len := by rintro σ x cs ⟨v4, rfl, h0⟩; rfl
 one := by rintro σ x cs ⟨v4, rfl, h0⟩; obtain ⟨_, ⟨_, _, rfl, _⟩, _⟩ := h0; rfl
 mono := by rintro σ σ' x cs hle ⟨v4, rfl, h0⟩; exact ⟨v4, rfl, h0.le hle⟩
theorem zj6 : Lvl zi3 5 := ⟨fun _ => rfl, fun T T' h => ⟨rfl, by rintro σ x cs ⟨v4, rfl, h0⟩; exact ⟨v4, rfl, h.rd h0⟩⟩⟩
def zbd : Ty zj := Ty.fix zi3 5 zj6
theorem ziB {σ : Hp} {x : zj} {cs : List Value} (h : ∃ v4, cs = [.int .u8 x.Kind.toNat, .int .u8 x.Op.toNat, .int .i64 x.Var, .int .i64 x.Num, v4] ∧ RdT zbd σ v4 x.Kids) : zbd.R σ x cs := by
 obtain ⟨v4, rfl, h0⟩ := h
 obtain ⟨k0, g0⟩ := zes zj6 h0
 exact ⟨k0 + 1, v4, rfl, g0 _ (by omega)⟩
structure zi where
 Kind : UInt8
 Point : Int
 Var : Int
 Field : Int
 Call : Int
 Kids : (List zj)
 Body : (List zi)
 Else : (List zi)
def zj5 (T : Ty zi) : Ty zi where
 sz := 8
 R := fun σ x cs => ∃ v5 v6 v7, cs = [.int .u8 x.Kind.toNat, .int .i64 x.Point, .int .i64 x.Var, .int .i64 x.Field, .int .i64 x.Call, v5, v6, v7] ∧ RdT zbd σ v5 x.Kids ∧ RdT T σ v6 x.Body ∧ RdT T σ v7 x.Else
 len := by rintro σ x cs ⟨v5, v6, v7, rfl, h0, h1, h2⟩; rfl
 one := by rintro σ x cs ⟨v5, v6, v7, rfl, h0, h1, h2⟩; obtain ⟨_, ⟨_, _, rfl, _⟩, _⟩ := h0; obtain ⟨_, ⟨_, _, rfl, _⟩, _⟩ := h1; obtain ⟨_, ⟨_, _, rfl, _⟩, _⟩ := h2; rfl
 mono := by rintro σ σ' x cs hle ⟨v5, v6, v7, rfl, h0, h1, h2⟩; exact ⟨v5, v6, v7, rfl, h0.le hle, h1.le hle, h2.le hle⟩
theorem zha : Lvl zj5 8 := ⟨fun _ => rfl, fun T T' h => ⟨rfl, by rintro σ x cs ⟨v5, v6, v7, rfl, h0, h1, h2⟩; exact ⟨v5, v6, v7, rfl, h0, h.rd h1, h.rd h2⟩⟩⟩
def zY : Ty zi := Ty.fix zj5 8 zha
theorem zmJ {σ : Hp} {x : zi} {cs : List Value} (h : ∃ v5 v6 v7, cs = [.int .u8 x.Kind.toNat, .int .i64 x.Point, .int .i64 x.Var, .int .i64 x.Field, .int .i64 x.Call, v5, v6, v7] ∧ RdT zbd σ v5 x.Kids ∧ RdT zY σ v6 x.Body ∧ RdT zY σ v7 x.Else) : zY.R σ x cs := by
 obtain ⟨v5, v6, v7, rfl, h0, h1, h2⟩ := h
 obtain ⟨k1, g1⟩ := zes zha h1
 obtain ⟨k2, g2⟩ := zes zha h2
 exact ⟨k1 + k2 + 1, v5, v6, v7, rfl, h0, g1 _ (by omega), g2 _ (by omega)⟩
structure zE where
 Name : ByteArray
 Params : Int
 Result : Bool
 Vars : (List zD)
 Acts : (List zi)
def zo : Ty zE where
 sz := 5
 R := fun σ x cs => ∃ v3 v4, cs = [.string x.Name, .int .i64 x.Params, .bool x.Result, v3, v4] ∧ RdT zn σ v3 x.Vars ∧ RdT zY σ v4 x.Acts
 len := by rintro σ x cs ⟨v3, v4, rfl, h0, h1⟩; rfl
 one := by rintro σ x cs ⟨v3, v4, rfl, h0, h1⟩; obtain ⟨_, ⟨_, _, rfl, _⟩, _⟩ := h0; obtain ⟨_, ⟨_, _, rfl, _⟩, _⟩ := h1; rfl
 mono := by rintro σ σ' x cs hle ⟨v3, v4, rfl, h0, h1⟩; exact ⟨v3, v4, rfl, h0.le hle, h1.le hle⟩
structure zC where
 Func : Int
 Line : Int
 Scope : (List Int)
 deriving DecidableEq
def zp : Ty zC where
 sz := 3
 R := fun σ x cs => ∃ v2, cs = [.int .i64 x.Func, .int .i64 x.Line, v2] ∧ RdT (Ty.int .i64) σ v2 x.Scope
 len := by rintro σ x cs ⟨v2, rfl, h0⟩; rfl
 one := by rintro σ x cs ⟨v2, rfl, h0⟩; obtain ⟨_, ⟨_, _, rfl, _⟩, _⟩ := h0; rfl
 mono := by rintro σ σ' x cs hle ⟨v2, rfl, h0⟩; exact ⟨v2, rfl, h0.le hle⟩
structure zw where
 Bodies : (List zE)
 Main : Int
 Points : (List zC)
structure zb where
 prog : zq
 tree : zw
 fn : Int
 vars : (List zD)
 scope : (List Int)
abbrev zea (b : Nat) (x0 : ByteArray) (x1 : Int) (x2 : Value) (x3 : Int) (x4 : Int) (x5 : ByteArray) (x6 : Value) : Ob := some (b, ⟨[.string x0, .int .i64 x1, x2, .int .u8 x3, .int .i64 x4, .string x5, x6], 53, 7, true⟩)
abbrev zen (b : Nat) (x0 : Int) (x1 : Int) (x2 : ByteArray) (x3 : ByteArray) (x4 : ByteArray) (x5 : Value) : Ob := some (b, ⟨[.int .u8 x0, .int .i64 x1, .string x2, .string x3, .string x4, x5], 71, 6, true⟩)
abbrev zd8 (b : Nat) (x0 : Int) (x1 : Int) (x2 : ByteArray) (x3 : ByteArray) (x4 : ByteArray) (x5 : Int) (x6 : Int) (x7 : ByteArray) (x8 : Value) (x9 : Value) (x10 : Value) : Ob := some (b, ⟨[.int .u8 x0, .int .i64 x1, .string x2, .string x3, .string x4, .int .u8 x5, .int .i64 x6, .string x7, x8, x9, x10], 73, 11, true⟩)
abbrev zi9 (b : Nat) (x0 : ByteArray) (x1 : Int) (x2 : Int) (x3 : ByteArray) : Ob := some (b, ⟨[.string x0, .int .u8 x1, .int .i64 x2, .string x3], 78, 4, true⟩)
abbrev zku (b : Nat) (x0 : ByteArray) (x1 : Int) (x2 : Int) (x3 : ByteArray) (x4 : Int) (x5 : Value) : Ob := some (b, ⟨[.string x0, .int .u8 x1, .int .i64 x2, .string x3, .int .i64 x4, x5], 82, 6, true⟩)
abbrev zk (b : Nat) (x0 : Value) (x1 : Value) (x2 : Value) (x3 : Int) (x4 : Value) (x5 : Int) (x6 : Value) (x7 : Value) : Ob := some (b, ⟨[x0, x1, x2, .int .i64 x3, x4, .int .i64 x5, x6, x7], 110, 8, true⟩)
abbrev zbS (b : Nat) (x0 : Int) (x1 : Int) (x2 : Int) (x3 : Int) (x4 : Int) (x5 : Value) (x6 : Value) (x7 : Value) : Ob := some (b, ⟨[.int .u8 x0, .int .i64 x1, .int .i64 x2, .int .i64 x3, .int .i64 x4, x5, x6, x7], 115, 8, true⟩)
abbrev zdo (b : Nat) (x0 : Int) (x1 : Int) (x2 : Int) (x3 : Int) (x4 : Value) : Ob := some (b, ⟨[.int .u8 x0, .int .u8 x1, .int .i64 x2, .int .i64 x3, x4], 140, 5, true⟩)
def zkS (rec4 : Int → Option Bool) (p0 : (List ByteArray)) (p1 : Int) (x15 : Int) : Option Bool :=
 (if (decide (x15 < p1)) = true then (zJ p0 x15).bind fun y30 => (zJ p0 p1).bind fun y35 => (if (zV y30 y35) = true then some true else rec4 (IntKind.i64.wrap (x15 + 1))) else some false)
def zj7 (p0 : (List ByteArray)) (p1 : Int) : Nat → Int → Option Bool
 | 0, _ => none
 | n + 1, x15 => zkS (zj7 p0 p1 n) p0 p1 x15
def zlW (R_ref13_returns : (List zg) → Option Bool) (p0 : (List zg)) : Option Bool :=
 (if ((p0.length : Int) == 0) = true then some false else (zJ p0 (IntKind.i64.wrap ((p0.length : Int) - 1))).bind fun y3 => ((if ((y3.Kind.toNat : Int) == 10) = true then some true else (if ((y3.Kind.toNat : Int) == 6) = true then (R_ref13_returns y3.Body).bind fun c25 => (if c25 = true then (R_ref13_returns y3.Else).bind fun c30 => some c30 else some false) else (if false = true then (R_ref13_returns y3.Else).bind fun c35 => some c35 else some false)))).bind fun c21 => some c21)
def zkc : Nat → ((List zg) → Option Bool)
 | 0 => fun _ => none
 | gn + 1 => zlW (zkc gn)
def zm0 (rec4 : Int → Int → Option Int) (R_ref13_exps : (List zc) → Option Int) (p0 : (List zc)) (x16 : Int) (x17 : Int) : Option Int :=
 (if (decide (x17 < (p0.length : Int))) = true then (zJ p0 x17).bind fun y34 => (R_ref13_exps y34.Kids).bind fun c43 => rec4 (IntKind.i64.wrap (x16 + c43)) (IntKind.i64.wrap (x17 + 1)) else some x16)
def zkC (R_ref13_exps : (List zc) → Option Int) (p0 : (List zc)) : Nat → Int → Int → Option Int
 | 0, _, _ => none
 | n + 1, x16, x17 => zm0 (zkC R_ref13_exps p0 n) R_ref13_exps p0 x16 x17
def zbp (p0 : Bool) (p1 : Int) : Option (Except (Value) (Unit)) :=
 (if (!p0) = true then some (.error (.iface 134 (.int .i64 p1) : Value)) else some (.ok ()))
def zhH (rec4 : Int → Option Int) (p0 : (List ByteArray)) (p1 : ByteArray) (x10 : Int) : Option Int :=
 (if (decide (x10 < (p0.length : Int))) = true then (zJ p0 x10).bind fun y20 => (if (zV p1 y20) = true then some x10 else rec4 (IntKind.i64.wrap (x10 + 1))) else some (-1))
def zgB (p0 : (List ByteArray)) (p1 : ByteArray) : Nat → Int → Option Int
 | 0, _ => none
 | n + 1, x10 => zhH (zgB p0 p1 n) p0 p1 x10
def zeV (p0 : (List ByteArray)) (p1 : ByteArray) : Option Int :=
 zgB p0 p1 big 0
def zeW (p0 : (List ByteArray)) (p1 : ByteArray) : Option Bool :=
 (zeV p0 p1).bind fun c3 => some (decide (c3 ≥ 0))
def zfa (rec4 : Int → Option Bool) (p0 : (List ByteArray)) (x18 : Int) : Option Bool :=
 (if (decide (x18 < (p0.length : Int))) = true then (zJ p0 x18).bind fun y37 => (zdy p0 0 x18).bind fun y42 => (zeW y42 y37).bind fun c47 => (if c47 = true then some true else rec4 (IntKind.i64.wrap (x18 + 1))) else some false)
def zd6 (p0 : (List ByteArray)) : Nat → Int → Option Bool
 | 0, _ => none
 | n + 1, x18 => zfa (zd6 p0 n) p0 x18
def zfg (p0 : (List ByteArray)) : Option Bool :=
 zd6 p0 big 0
def zgF (p0 : zbc) (qf0 : zbc) : Option Bool :=
 some (zV p0.Name qf0.Name)
def zg4 (rec4 : Int → Option Int) (p0 : (List zbc)) (q1_0 : zbc) (x18 : Int) : Option Int :=
 (if (decide (x18 < (p0.length : Int))) = true then (zJ p0 x18).bind fun y36 => (zgF y36 q1_0).bind fun c45 => (if c45 = true then some x18 else rec4 (IntKind.i64.wrap (x18 + 1))) else some (-1))
def zfU (p0 : (List zbc)) (q1_0 : zbc) : Nat → Int → Option Int
 | 0, _ => none
 | n + 1, x18 => zg4 (zfU p0 q1_0 n) p0 q1_0 x18
def zf4 (p0 : (List zbc)) (q1_0 : zbc) : Option Int :=
 zfU p0 q1_0 big 0
def zhj (p0 : zP) (qf0 : ByteArray) : Option Bool :=
 some (zV p0.Name qf0)
def zgC (rec4 : Int → Option Int) (p0 : (List zP)) (q1_0 : ByteArray) (x22 : Int) : Option Int :=
 (if (decide (x22 < (p0.length : Int))) = true then (zJ p0 x22).bind fun y44 => (zhj y44 q1_0).bind fun c57 => (if c57 = true then some x22 else rec4 (IntKind.i64.wrap (x22 + 1))) else some (-1))
def zf0 (p0 : (List zP)) (q1_0 : ByteArray) : Nat → Int → Option Int
 | 0, _ => none
 | n + 1, x22 => zgC (zf0 p0 q1_0 n) p0 q1_0 x22
def zff (p0 : (List zP)) (q1_0 : ByteArray) : Option Int :=
 zf0 p0 q1_0 big 0
def zd5 (q0 : zb) (p1 : ByteArray) : Option Int :=
 (zff q0.prog.Funcs p1).bind fun c6 => some c6
def zcM (p0 : zx) : Option Bool :=
 some (((p0.Kind.toNat : Int) == 1) || ((p0.Kind.toNat : Int) == 2))
def zh4 (p0 : zbc) (qf0 : ByteArray) : Option Bool :=
 some (zV p0.Name qf0)
def zhe (rec4 : Int → Option Int) (p0 : (List zbc)) (q1_0 : ByteArray) (x18 : Int) : Option Int :=
 (if (decide (x18 < (p0.length : Int))) = true then (zJ p0 x18).bind fun y36 => (zh4 y36 q1_0).bind fun c45 => (if c45 = true then some x18 else rec4 (IntKind.i64.wrap (x18 + 1))) else some (-1))
def zf5 (p0 : (List zbc)) (q1_0 : ByteArray) : Nat → Int → Option Int
 | 0, _ => none
 | n + 1, x18 => zhe (zf5 p0 q1_0 n) p0 q1_0 x18
def zf2 (p0 : (List zbc)) (q1_0 : ByteArray) : Option Int :=
 zf5 p0 q1_0 big 0
def zew (q0 : zb) (p1 : ByteArray) : Option ((List ByteArray) × Bool) :=
 (zf2 q0.prog.Structs p1).bind fun c6 => (if (decide (c6 < 0)) = true then some ([], false) else (zJ q0.prog.Structs c6).bind fun y11 => some (y11.Fields, true))
def zcU (q0 : zb) (p1 : zx) : Option Bool :=
 (zew q0 p1.Name).bind fun c4 => some (((p1.Kind.toNat : Int) != 4) || c4.2)
def zgz (p0 : (List Int)) : Option (List Int) := (room p0.length).bind fun _ => some p0
def zh9 (p0 : zD) (qf0 : ByteArray) : Option Bool :=
 some (zV p0.Name qf0)
def zhn (rec4 : Int → Option Int) (p0 : (List zD)) (q1_0 : ByteArray) (x18 : Int) : Option Int :=
 (if (decide (x18 < (p0.length : Int))) = true then (zJ p0 x18).bind fun y36 => (zh9 y36 q1_0).bind fun c45 => (if c45 = true then some x18 else rec4 (IntKind.i64.wrap (x18 + 1))) else some (-1))
def zgv (p0 : (List zD)) (q1_0 : ByteArray) : Nat → Int → Option Int
 | 0, _ => none
 | n + 1, x18 => zhn (zgv p0 q1_0 n) p0 q1_0 x18
def zfH (p0 : (List zD)) (q1_0 : ByteArray) : Option Int :=
 zgv p0 q1_0 big 0
def zey (q0 : zb) (p1 : ByteArray) : Option Int :=
 (zfH q0.vars p1).bind fun c6 => some c6
def zhv (rec4 : Int → Option Int) (p0 : (List Int)) (p1 : Int) (x10 : Int) : Option Int :=
 (if (decide (x10 < (p0.length : Int))) = true then (zJ p0 x10).bind fun y20 => (if (p1 == y20) = true then some x10 else rec4 (IntKind.i64.wrap (x10 + 1))) else some (-1))
def zfK (p0 : (List Int)) (p1 : Int) : Nat → Int → Option Int
 | 0, _ => none
 | n + 1, x10 => zhv (zfK p0 p1 n) p0 p1 x10
def zfX (p0 : (List Int)) (p1 : Int) : Option Int :=
 zfK p0 p1 big 0
def zfs (p0 : (List Int)) (p1 : Int) : Option Bool :=
 (zfX p0 p1).bind fun c3 => some (decide (c3 ≥ 0))
def zdX (q0 : zb) (p1 : ByteArray) : Option (Except (Value) (Int)) :=
 (zey q0 p1).bind fun c3 => ((if (decide (c3 ≥ 0)) = true then (zfs q0.scope c3).bind fun c10 => some c10 else some false)).bind fun c7 => zA (zbp c7 8) (fun x18 => some (.error x18)) fun c14 => some (.ok c3)
def zc9 (q0 : zb) (p1 : Int) (p2 : Int) : Option (Except (Value) (Unit)) :=
 (zJ q0.vars p1).bind fun y4 => zA (zbp ((y4.Type_.Kind.toNat : Int) == p2) 9) (fun x19 => some (.error x19)) fun c15 => some (.ok ())
def zdY (q0 : zb) (p1 : Int) (p2 : ByteArray) : Option (Except (Value) (Int)) :=
 (zJ q0.vars p1).bind fun y4 => (zeV y4.Fields p2).bind fun c15 => zA (zbp (decide (c15 ≥ 0)) 8) (fun x23 => some (.error x23)) fun c19 => some (.ok c15)
def zeL (rec4 : Int → Option Bool) (p0 : (List UInt8)) (p1 : (List UInt8)) (x16 : Int) : Option Bool :=
 (if (decide (x16 < (p0.length : Int))) = true then (zJ p0 x16).bind fun y31 => (zJ p1 x16).bind fun y36 => (if ((y31.toNat : Int) != (y36.toNat : Int)) = true then some false else rec4 (IntKind.i64.wrap (x16 + 1))) else some true)
def zeb (p0 : (List UInt8)) (p1 : (List UInt8)) : Nat → Int → Option Bool
 | 0, _ => none
 | n + 1, x16 => zeL (zeb p0 p1 n) p0 p1 x16
def zeK (p0 : (List UInt8)) (p1 : (List UInt8)) : Option Bool :=
 (if ((p0.length : Int) != (p1.length : Int)) = true then some false else zeb p0 p1 big 0)
def zht (p0 : ByteArray) (p1 : ByteArray) : Option Bool :=
 ((if (decide ((p0.size : Int) ≥ (p1.size : Int))) = true then (zeq p0 (IntKind.i64.wrap ((p0.size : Int) - (p1.size : Int))) (p0.size : Int)).bind fun y6 => some (zV y6 p1) else some false)).bind fun c3 => some c3
def zhl (p0 : ByteArray) (p1 : ByteArray) : Option ByteArray :=
 (zht p0 p1).bind fun c3 => (if c3 = true then (zeq p0 0 (IntKind.i64.wrap ((p0.size : Int) - (p1.size : Int)))).bind fun y8 => some y8 else some p0)
def zgq (p0 : ByteArray) (p1 : ByteArray) : Option ByteArray :=
 (zhl p0 p1).bind fun c3 => some c3
def zfv (rec4 : Int → Option Int) (p0 : ByteArray) (x10 : Int) : Option Int :=
 (if (decide (x10 < 26)) = true then (zeq znn x10 (IntKind.i64.wrap (x10 + 2))).bind fun y21 => (zgq y21 znt).bind fun c23 => (if (zV p0 c23) = true then some (IntKind.u8.wrap (1 + (IntKind.u8.wrap (IntKind.i64.wrap (Int.tdiv x10 2))))) else rec4 (IntKind.i64.wrap (x10 + 2))) else some 0)
def zdr (p0 : ByteArray) : Nat → Int → Option Int
 | 0, _ => none
 | n + 1, x10 => zfv (zdr p0 n) p0 x10
def zed (p0 : ByteArray) : Option Int :=
 zdr p0 big 0
def zfx (rec4 : (List zbc) → (List zP) → (List zE) → Int → (List zC) → Int → (List zD) → (List Int) → (List zj) → (List UInt8) → Int → Option (Except (Value × zb) ((List zj) × zb))) (R_check_checker_exp : zb → zc → Option (Except (Value × zb) (zj × Int × zb))) (p1 : (List zc)) (p2 : (List UInt8)) (x131 : List zbc) (x135 : List zP) (x140 : List zE) (x142 : Int) (x146 : List zC) (x148 : Int) (x152 : List zD) (x157 : List Int) (x162 : List zj) (x167 : List UInt8) (x169 : Int) : Option (Except (Value × zb) ((List zj) × zb)) :=
 (if (decide (x169 < (p1.length : Int))) = true then (zJ p1 x169).bind fun y275 => zA (R_check_checker_exp (⟨(⟨x131, x135⟩ : zq), (⟨x140, x142, x146⟩ : zw), x148, x152, x157⟩ : zb) y275) (fun x289 => some (.error (x289.1, x289.2))) fun c285 => (room (x162.length + 1)).bind fun _ => (u8o c285.2.1).bind fun z359 => (room (x167.length + 1)).bind fun _ => rec4 c285.2.2.prog.Structs c285.2.2.prog.Funcs c285.2.2.tree.Bodies c285.2.2.tree.Main c285.2.2.tree.Points c285.2.2.fn c285.2.2.vars c285.2.2.scope (x162 ++ [(⟨c285.1.Kind, c285.1.Op, c285.1.Var, c285.1.Num, c285.1.Kids⟩ : zj)]) (x167 ++ [z359]) (IntKind.i64.wrap (x169 + 1)) else (zeK x167 p2).bind fun c365 => zA (zbp c365 9) (fun x373 => some (.error (x373, (⟨(⟨x131, x135⟩ : zq), (⟨x140, x142, x146⟩ : zw), x148, x152, x157⟩ : zb)))) fun c369 => some (.ok (x162, (⟨(⟨x131, x135⟩ : zq), (⟨x140, x142, x146⟩ : zw), x148, x152, x157⟩ : zb))))
def zd1 (R_check_checker_exp : zb → zc → Option (Except (Value × zb) (zj × Int × zb))) (p1 : (List zc)) (p2 : (List UInt8)) : Nat → (List zbc) → (List zP) → (List zE) → Int → (List zC) → Int → (List zD) → (List Int) → (List zj) → (List UInt8) → Int → Option (Except (Value × zb) ((List zj) × zb))
 | 0, _, _, _, _, _, _, _, _, _, _, _ => none
 | n + 1, x131, x135, x140, x142, x146, x148, x152, x157, x162, x167, x169 => zfx (zd1 R_check_checker_exp p1 p2 n) R_check_checker_exp p1 p2 x131 x135 x140 x142 x146 x148 x152 x157 x162 x167 x169
def zh1 (R_check_checker_vals : zb → (List zc) → (List UInt8) → Option (Except (Value × zb) ((List zj) × zb))) (R_check_checker_exp : zb → zc → Option (Except (Value × zb) (zj × Int × zb))) (R_check_checker_place : zb → zc → Option (Except (Value × zb) (zj × Int × zb))) (R_check_checker_unary : zb → zc → Option (Except (Value × zb) (zj × Int × zb))) (R_check_checker_binary : zb → zc → Option (Except (Value × zb) (zj × Int × zb))) (q0 : zb) (p1 : (List zc)) (p2 : (List UInt8)) : Option (Except (Value × zb) ((List zj) × zb)) :=
 zd1 R_check_checker_exp p1 p2 big q0.prog.Structs q0.prog.Funcs q0.tree.Bodies q0.tree.Main q0.tree.Points q0.fn q0.vars q0.scope ([]) ([]) 0
def zgs (q0 : zb) (x12 : List zE) (x17 : List zC) (x22 : List zD) (x27 : List Int) (x29 : Int) : Option (Except (Value × zb) (zj × Int × zb)) :=
 some (.ok ((⟨(1 : UInt8), (0 : UInt8), 0, x29, []⟩ : zj), 2, (⟨(⟨q0.prog.Structs, q0.prog.Funcs⟩ : zq), (⟨x12, q0.tree.Main, x17⟩ : zw), q0.fn, x22, x27⟩ : zb)))
def zdF (R_check_checker_place : zb → zc → Option (Except (Value × zb) (zj × Int × zb))) (R_check_checker_unary : zb → zc → Option (Except (Value × zb) (zj × Int × zb))) (R_check_checker_binary : zb → zc → Option (Except (Value × zb) (zj × Int × zb))) (q0 : zb) (p1 : zc) (x36 : List zE) (x41 : List zC) (x46 : List zD) (x51 : List Int) (x53 : Bool) : Option (Except (Value × zb) (zj × Int × zb)) :=
 (if x53 = true then zA (R_check_checker_place (⟨(⟨q0.prog.Structs, q0.prog.Funcs⟩ : zq), (⟨x36, q0.tree.Main, x41⟩ : zw), q0.fn, x46, x51⟩ : zb) p1) (fun x59 => some (.error (x59.1, x59.2))) fun c55 => some (.ok (c55.1, c55.2.1, c55.2.2)) else (if ((p1.Kind.toNat : Int) == 6) = true then zA (R_check_checker_unary (⟨(⟨q0.prog.Structs, q0.prog.Funcs⟩ : zq), (⟨x36, q0.tree.Main, x41⟩ : zw), q0.fn, x46, x51⟩ : zb) p1) (fun x128 => some (.error (x128.1, x128.2))) fun c124 => some (.ok (c124.1, c124.2.1, c124.2.2)) else zA (R_check_checker_binary (⟨(⟨q0.prog.Structs, q0.prog.Funcs⟩ : zq), (⟨x36, q0.tree.Main, x41⟩ : zw), q0.fn, x46, x51⟩ : zb) p1) (fun x196 => some (.error (x196.1, x196.2))) fun c192 => some (.ok (c192.1, c192.2.1, c192.2.2))))
def ze1 (R_check_checker_vals : zb → (List zc) → (List UInt8) → Option (Except (Value × zb) ((List zj) × zb))) (R_check_checker_exp : zb → zc → Option (Except (Value × zb) (zj × Int × zb))) (R_check_checker_place : zb → zc → Option (Except (Value × zb) (zj × Int × zb))) (R_check_checker_unary : zb → zc → Option (Except (Value × zb) (zj × Int × zb))) (R_check_checker_binary : zb → zc → Option (Except (Value × zb) (zj × Int × zb))) (q0 : zb) (p1 : zc) : Option (Except (Value × zb) (zj × Int × zb)) :=
 (if ((p1.Kind.toNat : Int) == 1) = true then some (.ok ((⟨(1 : UInt8), (0 : UInt8), 0, p1.Num, []⟩ : zj), 1, q0)) else (if ((p1.Kind.toNat : Int) == 2) = true then (if (p1.Num != 0) = true then zgs q0 q0.tree.Bodies q0.tree.Points q0.vars q0.scope 1 else zgs q0 q0.tree.Bodies q0.tree.Points q0.vars q0.scope 0) else (if ((p1.Kind.toNat : Int) == 3) = true then zdF R_check_checker_place R_check_checker_unary R_check_checker_binary q0 p1 q0.tree.Bodies q0.tree.Points q0.vars q0.scope ((p1.Kind.toNat : Int) == 3) else (if ((p1.Kind.toNat : Int) == 4) = true then zdF R_check_checker_place R_check_checker_unary R_check_checker_binary q0 p1 q0.tree.Bodies q0.tree.Points q0.vars q0.scope ((p1.Kind.toNat : Int) == 4) else zdF R_check_checker_place R_check_checker_unary R_check_checker_binary q0 p1 q0.tree.Bodies q0.tree.Points q0.vars q0.scope ((p1.Kind.toNat : Int) == 5)))))
def zfh (R_check_checker_vals : zb → (List zc) → (List UInt8) → Option (Except (Value × zb) ((List zj) × zb))) (R_check_checker_exp : zb → zc → Option (Except (Value × zb) (zj × Int × zb))) (R_check_checker_place : zb → zc → Option (Except (Value × zb) (zj × Int × zb))) (R_check_checker_unary : zb → zc → Option (Except (Value × zb) (zj × Int × zb))) (R_check_checker_binary : zb → zc → Option (Except (Value × zb) (zj × Int × zb))) (q0 : zb) (p1 : zc) : Option (Except (Value × zb) (zj × Int × zb)) :=
 zA (zdX q0 p1.Name) (fun x9 => some (.error (x9, q0))) fun c5 => (if ((p1.Kind.toNat : Int) == 3) = true then (zJ q0.vars c5).bind fun y14 => (zcM y14.Type_).bind fun c25 => zA (zbp c25 9) (fun x33 => some (.error (x33, q0))) fun c29 => (zJ q0.vars c5).bind fun y37 => some (.ok ((⟨(2 : UInt8), (0 : UInt8), c5, 0, []⟩ : zj), (y37.Type_.Kind.toNat : Int), q0)) else (if ((p1.Kind.toNat : Int) == 5) = true then zA (zc9 q0 c5 4) (fun x54 => some (.error (x54, q0))) fun c50 => zA (zdY q0 c5 p1.Field) (fun x62 => some (.error (x62, q0))) fun c58 => some (.ok ((⟨(4 : UInt8), (0 : UInt8), c5, c58, []⟩ : zj), 1, q0)) else zA (zc9 q0 c5 3) (fun x70 => some (.error (x70, q0))) fun c66 => zA (R_check_checker_vals q0 p1.Kids ([(1 : UInt8)] : List UInt8)) (fun x84 => some (.error (x84.1, x84.2))) fun c80 => some (.ok ((⟨(3 : UInt8), (0 : UInt8), c5, 0, c80.1⟩ : zj), 1, c80.2))))
def zgr (R_check_checker_vals : zb → (List zc) → (List UInt8) → Option (Except (Value × zb) ((List zj) × zb))) (q0 : zb) (p1 : zc) (x9 : List zE) (x14 : List zC) (x19 : List zD) (x24 : List Int) (x26 : Int) (x27 : Int) : Option (Except (Value × zb) (zj × Int × zb)) :=
 (u8o x27).bind fun z28 => zA (R_check_checker_vals (⟨(⟨q0.prog.Structs, q0.prog.Funcs⟩ : zq), (⟨x9, q0.tree.Main, x14⟩ : zw), q0.fn, x19, x24⟩ : zb) p1.Kids ([z28] : List UInt8)) (fun x39 => some (.error (x39.1, x39.2))) fun c35 => zA (zbp ((zV p1.Op znq) || (zV p1.Op znr)) 9) (fun x109 => some (.error (x109, c35.2))) fun c105 => (u8o x26).bind fun z115 => some (.ok ((⟨(5 : UInt8), z115, 0, 0, c35.1⟩ : zj), x27, c35.2))
def zfe (R_check_checker_vals : zb → (List zc) → (List UInt8) → Option (Except (Value × zb) ((List zj) × zb))) (R_check_checker_exp : zb → zc → Option (Except (Value × zb) (zj × Int × zb))) (R_check_checker_place : zb → zc → Option (Except (Value × zb) (zj × Int × zb))) (R_check_checker_unary : zb → zc → Option (Except (Value × zb) (zj × Int × zb))) (R_check_checker_binary : zb → zc → Option (Except (Value × zb) (zj × Int × zb))) (q0 : zb) (p1 : zc) : Option (Except (Value × zb) (zj × Int × zb)) :=
 (if (zV p1.Op znq) = true then zgr R_check_checker_vals q0 p1 q0.tree.Bodies q0.tree.Points q0.vars q0.scope 14 2 else zgr R_check_checker_vals q0 p1 q0.tree.Bodies q0.tree.Points q0.vars q0.scope 15 1)
def zb8 (p1 : zc) (x286 : List zbc) (x290 : List zP) (x297 : Int) (x303 : Int) (c750 : Int) (x849 : List zE) (x854 : List zC) (x859 : List zD) (x864 : List Int) (x869 : List zj) (x874 : List UInt8) (x876 : Int) (x877 : Int) : Option (Except (Value × zb) (zj × Int × zb)) :=
 ((if (((p1.Kind.toNat : Int) == 7) && (c750 != 0)) = true then (u8o x876).bind fun z881 => (u8o x876).bind fun z882 => (zeK x874 ([z881, z882] : List UInt8)).bind fun c887 => some c887 else some false)).bind fun c878 => zA (zbp c878 9) (fun x895 => some (.error (x895, (⟨(⟨x286, x290⟩ : zq), (⟨x849, x297, x854⟩ : zw), x303, x859, x864⟩ : zb)))) fun c891 => (u8o c750).bind fun z901 => some (.ok ((⟨(6 : UInt8), z901, 0, 0, x869⟩ : zj), x877, (⟨(⟨x286, x290⟩ : zq), (⟨x849, x297, x854⟩ : zw), x303, x859, x864⟩ : zb)))
def zdV (p1 : zc) (x286 : List zbc) (x290 : List zP) (x297 : Int) (x303 : Int) (c750 : Int) (x943 : List zE) (x948 : List zC) (x953 : List zD) (x958 : List Int) (x963 : List zj) (x968 : List UInt8) (x970 : Bool) : Option (Except (Value × zb) (zj × Int × zb)) :=
 (if x970 = true then ((if (decide ((x968.length : Int) > 0)) = true then (zJ x968 0).bind fun y975 => some ((y975.toNat : Int) == 2) else some false)).bind fun c972 => (if c972 = true then zb8 p1 x286 x290 x297 x303 c750 x943 x948 x953 x958 x963 x968 2 2 else zb8 p1 x286 x290 x297 x303 c750 x943 x948 x953 x958 x963 x968 1 2) else (if (c750 == 8) = true then (if (c750 == 8) = true then zb8 p1 x286 x290 x297 x303 c750 x943 x948 x953 x958 x963 x968 1 2 else zb8 p1 x286 x290 x297 x303 c750 x943 x948 x953 x958 x963 x968 1 1) else (if (c750 == 9) = true then (if (c750 == 9) = true then zb8 p1 x286 x290 x297 x303 c750 x943 x948 x953 x958 x963 x968 1 2 else zb8 p1 x286 x290 x297 x303 c750 x943 x948 x953 x958 x963 x968 1 1) else (if (c750 == 10) = true then (if (c750 == 10) = true then zb8 p1 x286 x290 x297 x303 c750 x943 x948 x953 x958 x963 x968 1 2 else zb8 p1 x286 x290 x297 x303 c750 x943 x948 x953 x958 x963 x968 1 1) else (if (c750 == 11) = true then zb8 p1 x286 x290 x297 x303 c750 x943 x948 x953 x958 x963 x968 1 2 else zb8 p1 x286 x290 x297 x303 c750 x943 x948 x953 x958 x963 x968 1 1)))))
def zdB (p1 : zc) (x286 : List zbc) (x290 : List zP) (x297 : Int) (x303 : Int) (c750 : Int) (x908 : List zE) (x913 : List zC) (x918 : List zD) (x923 : List Int) (x928 : List zj) (x933 : List UInt8) (x935 : Bool) : Option (Except (Value × zb) (zj × Int × zb)) :=
 (if x935 = true then zb8 p1 x286 x290 x297 x303 c750 x908 x913 x918 x923 x928 x933 2 2 else (if (c750 == 6) = true then zdV p1 x286 x290 x297 x303 c750 x908 x913 x918 x923 x928 x933 (c750 == 6) else zdV p1 x286 x290 x297 x303 c750 x908 x913 x918 x923 x928 x933 (c750 == 7)))
def zfu (rec29 : (List zbc) → (List zP) → (List zE) → Int → (List zC) → Int → (List zD) → (List Int) → (List zj) → (List UInt8) → Int → Option (Except (Value × zb) (zj × Int × zb))) (R_check_checker_exp : zb → zc → Option (Except (Value × zb) (zj × Int × zb))) (p1 : zc) (x286 : List zbc) (x290 : List zP) (x295 : List zE) (x297 : Int) (x301 : List zC) (x303 : Int) (x307 : List zD) (x312 : List Int) (x317 : List zj) (x322 : List UInt8) (x324 : Int) : Option (Except (Value × zb) (zj × Int × zb)) :=
 (if (decide (x324 < (p1.Kids.length : Int))) = true then (zJ p1.Kids x324).bind fun y660 => zA (R_check_checker_exp (⟨(⟨x286, x290⟩ : zq), (⟨x295, x297, x301⟩ : zw), x303, x307, x312⟩ : zb) y660) (fun x674 => some (.error (x674.1, x674.2))) fun c670 => (room (x317.length + 1)).bind fun _ => (u8o c670.2.1).bind fun z744 => (room (x322.length + 1)).bind fun _ => rec29 c670.2.2.prog.Structs c670.2.2.prog.Funcs c670.2.2.tree.Bodies c670.2.2.tree.Main c670.2.2.tree.Points c670.2.2.fn c670.2.2.vars c670.2.2.scope (x317 ++ [(⟨c670.1.Kind, c670.1.Op, c670.1.Var, c670.1.Num, c670.1.Kids⟩ : zj)]) (x322 ++ [z744]) (IntKind.i64.wrap (x324 + 1)) else (zed p1.Op).bind fun c750 => (if (c750 == 12) = true then zdB p1 x286 x290 x297 x303 c750 x295 x301 x307 x312 x317 x322 (c750 == 12) else zdB p1 x286 x290 x297 x303 c750 x295 x301 x307 x312 x317 x322 (c750 == 13)))
def zdZ (R_check_checker_exp : zb → zc → Option (Except (Value × zb) (zj × Int × zb))) (p1 : zc) : Nat → (List zbc) → (List zP) → (List zE) → Int → (List zC) → Int → (List zD) → (List Int) → (List zj) → (List UInt8) → Int → Option (Except (Value × zb) (zj × Int × zb))
 | 0, _, _, _, _, _, _, _, _, _, _, _ => none
 | n + 1, x286, x290, x295, x297, x301, x303, x307, x312, x317, x322, x324 => zfu (zdZ R_check_checker_exp p1 n) R_check_checker_exp p1 x286 x290 x295 x297 x301 x303 x307 x312 x317 x322 x324
def zgN (R_check_checker_vals : zb → (List zc) → (List UInt8) → Option (Except (Value × zb) ((List zj) × zb))) (R_check_checker_exp : zb → zc → Option (Except (Value × zb) (zj × Int × zb))) (R_check_checker_place : zb → zc → Option (Except (Value × zb) (zj × Int × zb))) (R_check_checker_unary : zb → zc → Option (Except (Value × zb) (zj × Int × zb))) (R_check_checker_binary : zb → zc → Option (Except (Value × zb) (zj × Int × zb))) (q0 : zb) (p1 : zc) : Option (Except (Value × zb) (zj × Int × zb)) :=
 zdZ R_check_checker_exp p1 big q0.prog.Structs q0.prog.Funcs q0.tree.Bodies q0.tree.Main q0.tree.Points q0.fn q0.vars q0.scope ([]) ([]) 0
def zv : Nat → (zb → (List zc) → (List UInt8) → Option (Except (Value × zb) ((List zj) × zb))) × (zb → zc → Option (Except (Value × zb) (zj × Int × zb))) × (zb → zc → Option (Except (Value × zb) (zj × Int × zb))) × (zb → zc → Option (Except (Value × zb) (zj × Int × zb))) × (zb → zc → Option (Except (Value × zb) (zj × Int × zb)))
 | 0 => (fun _ _ _ => none, fun _ _ => none, fun _ _ => none, fun _ _ => none, fun _ _ => none)
 | gn + 1 => (zh1 ((zv gn).1) ((zv gn).2.1) ((zv gn).2.2.1) ((zv gn).2.2.2.1) ((zv gn).2.2.2.2), ze1 ((zv gn).1) ((zv gn).2.1) ((zv gn).2.2.1) ((zv gn).2.2.2.1) ((zv gn).2.2.2.2), zfh ((zv gn).1) ((zv gn).2.1) ((zv gn).2.2.1) ((zv gn).2.2.2.1) ((zv gn).2.2.2.2), zfe ((zv gn).1) ((zv gn).2.1) ((zv gn).2.2.1) ((zv gn).2.2.2.1) ((zv gn).2.2.2.2), zgN ((zv gn).1) ((zv gn).2.1) ((zv gn).2.2.1) ((zv gn).2.2.2.1) ((zv gn).2.2.2.2))
def zb3 (q0 : zb) (p1 : (List zc)) (p2 : (List UInt8)) : Option (Except (Value × zb) ((List zj) × zb)) := (zv big).1 q0 p1 p2
def zgc (p0 : (List ByteArray)) : Option (List ByteArray) := (room p0.length).bind fun _ => some p0
def zd0 (q1 : zi) (p2 : zg) (x299 : List zbc) (x303 : List zP) (x308 : List zE) (x310 : Int) (x314 : List zC) (x316 : Int) (x320 : List zD) (x325 : List Int) (x329 : List zj) (x331 : Int) (x335 : List ByteArray) : Option (Except (Value × zb × zi) (zb × zi)) :=
 (room (x320.length + ([(⟨p2.Name, (⟨p2.Type_.Kind, p2.Type_.N, p2.Type_.Name⟩ : zx), x331, x335⟩ : zD)] : List zD).length)).bind fun _ => (room (x325.length + ([(x320.length : Int)] : List Int).length)).bind fun _ => some (.ok ((⟨(⟨x299, x303⟩ : zq), (⟨x308, x310, x314⟩ : zw), x316, (x320 ++ ([(⟨p2.Name, (⟨p2.Type_.Kind, p2.Type_.N, p2.Type_.Name⟩ : zx), x331, x335⟩ : zD)] : List zD)), (x325 ++ ([(x320.length : Int)] : List Int))⟩ : zb), (⟨q1.Kind, q1.Point, (x320.length : Int), q1.Field, q1.Call, x329, q1.Body, q1.Else⟩ : zi)))
def ze2 (q0 : zb) (q1 : zi) (p2 : zg) : Option (Except (Value × zb × zi) (zb × zi)) :=
 (zey q0 p2.Name).bind fun c5 => ((if (decide (c5 < 0)) = true then (zcU q0 p2.Type_).bind fun c12 => some c12 else some false)).bind fun c9 => zA (zbp c9 8) (fun x20 => some (.error (x20, q0, q1))) fun c16 => (if ((p2.Type_.Kind.toNat : Int) == 3) = true then zA (zbp ((decide (p2.Type_.N ≥ 1)) && (decide (p2.Type_.N ≤ 16))) 9) (fun x364 => some (.error (x364, q0, q1))) fun c360 => zA (zb3 q0 p2.Kids []) (fun x372 => some (.error (x372.1, x372.2, q1))) fun c368 => zd0 q1 p2 c368.2.prog.Structs c368.2.prog.Funcs c368.2.tree.Bodies c368.2.tree.Main c368.2.tree.Points c368.2.fn c368.2.vars c368.2.scope q1.Kids p2.Type_.N ([]) else (if ((p2.Type_.Kind.toNat : Int) == 4) = true then (zew q0 p2.Type_.Name).bind fun c438 => (zgc c438.1).bind fun c446 => zA (zb3 q0 p2.Kids []) (fun x459 => some (.error (x459.1, x459.2, q1))) fun c455 => zd0 q1 p2 c455.2.prog.Structs c455.2.prog.Funcs c455.2.tree.Bodies c455.2.tree.Main c455.2.tree.Points c455.2.fn c455.2.vars c455.2.scope q1.Kids (c438.1.length : Int) c446 else zA (zb3 q0 p2.Kids ([p2.Type_.Kind] : List UInt8)) (fun x534 => some (.error (x534.1, x534.2, q1))) fun c530 => zd0 q1 p2 c530.2.prog.Structs c530.2.prog.Funcs c530.2.tree.Bodies c530.2.tree.Main c530.2.tree.Points c530.2.fn c530.2.vars c530.2.scope c530.1 1 ([])))
def zdT (q1 : zi) (c5 : Int) (x409 : List zbc) (x413 : List zP) (x418 : List zE) (x420 : Int) (x424 : List zC) (x426 : Int) (x430 : List zD) (x435 : List Int) (x437 : Int) (x440 : List zj) : Option (Except (Value × zb × zi) (zb × zi)) :=
 some (.ok ((⟨(⟨x409, x413⟩ : zq), (⟨x418, x420, x424⟩ : zw), x426, x430, x435⟩ : zb), (⟨q1.Kind, q1.Point, c5, x437, q1.Call, x440, q1.Body, q1.Else⟩ : zi)))
def zeZ (q0 : zb) (q1 : zi) (p2 : zg) : Option (Except (Value × zb × zi) (zb × zi)) :=
 zA (zdX q0 p2.Name) (fun x9 => some (.error (x9, q0, q1))) fun c5 => (if ((p2.Kind.toNat : Int) == 2) = true then (zJ q0.vars c5).bind fun y443 => (zcM y443.Type_).bind fun c456 => zA (zbp c456 9) (fun x464 => some (.error (x464, q0, (⟨q1.Kind, q1.Point, c5, q1.Field, q1.Call, q1.Kids, q1.Body, q1.Else⟩ : zi)))) fun c460 => zA (zb3 q0 p2.Kids ([y443.Type_.Kind] : List UInt8)) (fun x478 => some (.error (x478.1, x478.2, (⟨q1.Kind, q1.Point, c5, q1.Field, q1.Call, q1.Kids, q1.Body, q1.Else⟩ : zi)))) fun c474 => zdT q1 c5 c474.2.prog.Structs c474.2.prog.Funcs c474.2.tree.Bodies c474.2.tree.Main c474.2.tree.Points c474.2.fn c474.2.vars c474.2.scope q1.Field c474.1 else (if ((p2.Kind.toNat : Int) == 9) = true then zA (zc9 q0 c5 1) (fun x550 => some (.error (x550, q0, (⟨q1.Kind, q1.Point, c5, q1.Field, q1.Call, q1.Kids, q1.Body, q1.Else⟩ : zi)))) fun c546 => zA (zb3 q0 p2.Kids []) (fun x558 => some (.error (x558.1, x558.2, (⟨q1.Kind, q1.Point, c5, q1.Field, q1.Call, q1.Kids, q1.Body, q1.Else⟩ : zi)))) fun c554 => zdT q1 c5 c554.2.prog.Structs c554.2.prog.Funcs c554.2.tree.Bodies c554.2.tree.Main c554.2.tree.Points c554.2.fn c554.2.vars c554.2.scope q1.Field c554.1 else (if ((p2.Kind.toNat : Int) == 3) = true then zA (zc9 q0 c5 3) (fun x630 => some (.error (x630, q0, (⟨q1.Kind, q1.Point, c5, q1.Field, q1.Call, q1.Kids, q1.Body, q1.Else⟩ : zi)))) fun c626 => zA (zb3 q0 p2.Kids ([(1 : UInt8), (1 : UInt8)] : List UInt8)) (fun x644 => some (.error (x644.1, x644.2, (⟨q1.Kind, q1.Point, c5, q1.Field, q1.Call, q1.Kids, q1.Body, q1.Else⟩ : zi)))) fun c640 => zdT q1 c5 c640.2.prog.Structs c640.2.prog.Funcs c640.2.tree.Bodies c640.2.tree.Main c640.2.tree.Points c640.2.fn c640.2.vars c640.2.scope q1.Field c640.1 else (if ((p2.Kind.toNat : Int) == 4) = true then zA (zc9 q0 c5 4) (fun x716 => some (.error (x716, q0, (⟨q1.Kind, q1.Point, c5, q1.Field, q1.Call, q1.Kids, q1.Body, q1.Else⟩ : zi)))) fun c712 => zA (zdY q0 c5 p2.Field) (fun x724 => some (.error (x724, q0, (⟨q1.Kind, q1.Point, c5, q1.Field, q1.Call, q1.Kids, q1.Body, q1.Else⟩ : zi)))) fun c720 => zA (zb3 q0 p2.Kids ([(1 : UInt8)] : List UInt8)) (fun x738 => some (.error (x738.1, x738.2, (⟨q1.Kind, q1.Point, c5, c720, q1.Call, q1.Kids, q1.Body, q1.Else⟩ : zi)))) fun c734 => zdT q1 c5 c734.2.prog.Structs c734.2.prog.Funcs c734.2.tree.Bodies c734.2.tree.Main c734.2.tree.Points c734.2.fn c734.2.vars c734.2.scope c720 c734.1 else zdT q1 c5 q0.prog.Structs q0.prog.Funcs q0.tree.Bodies q0.tree.Main q0.tree.Points q0.fn q0.vars q0.scope q1.Field q1.Kids))))
def zfo (rec7 : (List zE) → (List zC) → (List zD) → (List Int) → (List UInt8) → Int → Option (Except (Value × zb × zi) (zb × zi))) (q0 : zb) (q1 : zi) (p2 : zg) (x57 : Int) (c58 : Int) (y70 : zP) (x218 : List zE) (x223 : List zC) (x228 : List zD) (x233 : List Int) (x240 : List UInt8) (x243 : Int) : Option (Except (Value × zb × zi) (zb × zi)) :=
 (if (decide (x243 < (y70.Params.length : Int))) = true then (zJ y70.Params x243).bind fun y355 => (room (x240.length + 1)).bind fun _ => rec7 x218 x223 x228 x233 (x240 ++ [y355.Type_.Kind]) (IntKind.i64.wrap (x243 + 1)) else zA (zb3 (⟨(⟨q0.prog.Structs, q0.prog.Funcs⟩ : zq), (⟨x218, q0.tree.Main, x223⟩ : zw), q0.fn, x228, x233⟩ : zb) p2.Kids x240) (fun x372 => some (.error (x372.1, x372.2, (⟨q1.Kind, q1.Point, x57, q1.Field, c58, q1.Kids, q1.Body, q1.Else⟩ : zi)))) fun c368 => ((if (decide (x57 < 0)) = true then some true else (zJ c368.2.vars x57).bind fun y440 => some ((y440.Type_.Kind.toNat : Int) == (y70.Result.Kind.toNat : Int)))).bind fun c437 => zA (zbp c437 9) (fun x455 => some (.error (x455, c368.2, (⟨q1.Kind, q1.Point, x57, q1.Field, c58, c368.1, q1.Body, q1.Else⟩ : zi)))) fun c451 => some (.ok (c368.2, (⟨q1.Kind, q1.Point, x57, q1.Field, c58, c368.1, q1.Body, q1.Else⟩ : zi))))
def zeB (q0 : zb) (q1 : zi) (p2 : zg) (x57 : Int) (c58 : Int) (y70 : zP) : Nat → (List zE) → (List zC) → (List zD) → (List Int) → (List UInt8) → Int → Option (Except (Value × zb × zi) (zb × zi))
 | 0, _, _, _, _, _, _ => none
 | n + 1, x218, x223, x228, x233, x240, x243 => zfo (zeB q0 q1 p2 x57 c58 y70 n) q0 q1 p2 x57 c58 y70 x218 x223 x228 x233 x240 x243
def zeu (q0 : zb) (q1 : zi) (p2 : zg) (x40 : List zE) (x45 : List zC) (x50 : List zD) (x55 : List Int) (x57 : Int) : Option (Except (Value × zb × zi) (zb × zi)) :=
 (zd5 (⟨(⟨q0.prog.Structs, q0.prog.Funcs⟩ : zq), (⟨x40, q0.tree.Main, x45⟩ : zw), q0.fn, x50, x55⟩ : zb) p2.Call).bind fun c58 => zA (zbp (decide (c58 ≥ 0)) 8) (fun x66 => some (.error (x66, (⟨(⟨q0.prog.Structs, q0.prog.Funcs⟩ : zq), (⟨x40, q0.tree.Main, x45⟩ : zw), q0.fn, x50, x55⟩ : zb), (⟨q1.Kind, q1.Point, x57, q1.Field, c58, q1.Kids, q1.Body, q1.Else⟩ : zi)))) fun c62 => (zJ q0.prog.Funcs c58).bind fun y70 => zeB q0 q1 p2 x57 c58 y70 big x40 x45 x50 x55 ([]) 0
def ze7 (q0 : zb) (q1 : zi) (p2 : zg) : Option (Except (Value × zb × zi) (zb × zi)) :=
 (if (!(zV p2.Name znk)) = true then zA (zdX q0 p2.Name) (fun x468 => some (.error (x468, q0, q1))) fun c464 => (zJ q0.vars c464).bind fun y472 => (zcM y472.Type_).bind fun c483 => zA (zbp c483 9) (fun x491 => some (.error (x491, q0, (⟨q1.Kind, q1.Point, c464, q1.Field, q1.Call, q1.Kids, q1.Body, q1.Else⟩ : zi)))) fun c487 => zeu q0 q1 p2 q0.tree.Bodies q0.tree.Points q0.vars q0.scope c464 else zeu q0 q1 p2 q0.tree.Bodies q0.tree.Points q0.vars q0.scope q1.Var)
def zdx (p0 : Int) (qf0 : zb) : Option zb :=
 (zdy qf0.scope 0 p0).bind fun y2 => some (⟨(⟨qf0.prog.Structs, qf0.prog.Funcs⟩ : zq), (⟨qf0.tree.Bodies, qf0.tree.Main, qf0.tree.Points⟩ : zw), qf0.fn, qf0.vars, y2⟩ : zb)
def zeR (rec4 : (List zbc) → (List zP) → (List zE) → Int → (List zC) → Int → (List zD) → (List Int) → (List zi) → Int → Option (Except (Value × zb) ((List zi) × zb))) (R_check_checker_stmt : zb → zg → Option (Except (Value × zb) (zi × zb))) (p1 : (List zg)) (x126 : List zbc) (x130 : List zP) (x135 : List zE) (x137 : Int) (x141 : List zC) (x143 : Int) (x147 : List zD) (x152 : List Int) (x157 : List zi) (x159 : Int) : Option (Except (Value × zb) ((List zi) × zb)) :=
 (if (decide (x159 < (p1.length : Int))) = true then (zJ p1 x159).bind fun y262 => zA (R_check_checker_stmt (⟨(⟨x126, x130⟩ : zq), (⟨x135, x137, x141⟩ : zw), x143, x147, x152⟩ : zb) y262) (fun x284 => some (.error (x284.1, x284.2))) fun c280 => (room (x157.length + 1)).bind fun _ => rec4 c280.2.prog.Structs c280.2.prog.Funcs c280.2.tree.Bodies c280.2.tree.Main c280.2.tree.Points c280.2.fn c280.2.vars c280.2.scope (x157 ++ [(⟨c280.1.Kind, c280.1.Point, c280.1.Var, c280.1.Field, c280.1.Call, c280.1.Kids, c280.1.Body, c280.1.Else⟩ : zi)]) (IntKind.i64.wrap (x159 + 1)) else some (.ok (x157, (⟨(⟨x126, x130⟩ : zq), (⟨x135, x137, x141⟩ : zw), x143, x147, x152⟩ : zb))))
def zdR (R_check_checker_stmt : zb → zg → Option (Except (Value × zb) (zi × zb))) (p1 : (List zg)) : Nat → (List zbc) → (List zP) → (List zE) → Int → (List zC) → Int → (List zD) → (List Int) → (List zi) → Int → Option (Except (Value × zb) ((List zi) × zb))
 | 0, _, _, _, _, _, _, _, _, _, _ => none
 | n + 1, x126, x130, x135, x137, x141, x143, x147, x152, x157, x159 => zeR (zdR R_check_checker_stmt p1 n) R_check_checker_stmt p1 x126 x130 x135 x137 x141 x143 x147 x152 x157 x159
def zfc (R_check_checker_list : zb → (List zg) → Option (Except (Value × zb) ((List zi) × zb))) (R_check_checker_stmt : zb → zg → Option (Except (Value × zb) (zi × zb))) (q0 : zb) (p1 : (List zg)) : Option (Except (Value × zb) ((List zi) × zb)) :=
 zdR R_check_checker_stmt p1 big q0.prog.Structs q0.prog.Funcs q0.tree.Bodies q0.tree.Main q0.tree.Points q0.fn q0.vars q0.scope ([]) 0
def zfm (R_check_checker_list : zb → (List zg) → Option (Except (Value × zb) ((List zi) × zb))) (R_check_checker_stmt : zb → zg → Option (Except (Value × zb) (zi × zb))) (q0 : zb) (p1 : (List zg)) : Option (Except (Value × zb) ((List zi) × zb)) :=
 (zfc R_check_checker_list R_check_checker_stmt q0 p1).bind fun r => match r with
  | .ok c => (zdx (q0.scope.length : Int) c.2).bind fun q => some (.ok (c.1, q))
  | .error c => (zdx (q0.scope.length : Int) c.2).bind fun q => some (.error (c.1, q))
def zcA (x1008 : List zbc) (x1012 : List zP) (x1017 : List zE) (x1019 : Int) (x1023 : List zC) (x1025 : Int) (x1029 : List zD) (x1034 : List Int) (x1036 : UInt8) (x1037 : Int) (x1038 : Int) (x1039 : Int) (x1040 : Int) (x1043 : List zj) (x1047 : List zi) (x1051 : List zi) : Option (Except (Value × zb) (zi × zb)) :=
 some (.ok ((⟨x1036, x1037, x1038, x1039, x1040, x1043, x1047, x1051⟩ : zi), (⟨(⟨x1008, x1012⟩ : zq), (⟨x1017, x1019, x1023⟩ : zw), x1025, x1029, x1034⟩ : zb)))
def zdI (R_check_checker_list : zb → (List zg) → Option (Except (Value × zb) ((List zi) × zb))) (q0 : zb) (p1 : zg) (x1348 : List zE) (x1353 : List zC) (x1358 : List zD) (x1363 : List Int) (x1365 : Bool) : Option (Except (Value × zb) (zi × zb)) :=
 (if x1365 = true then zA (zb3 (⟨(⟨q0.prog.Structs, q0.prog.Funcs⟩ : zq), (⟨x1348, q0.tree.Main, x1353⟩ : zw), q0.fn, x1358, x1363⟩ : zb) p1.Kids ([(2 : UInt8)] : List UInt8)) (fun x1377 => some (.error (x1377.1, x1377.2))) fun c1373 => zA (R_check_checker_list c1373.2 p1.Body) (fun x1446 => some (.error (x1446.1, x1446.2))) fun c1442 => (if ((p1.Kind.toNat : Int) == 6) = true then zA (R_check_checker_list c1442.2 p1.Else) (fun x1516 => some (.error (x1516.1, x1516.2))) fun c1512 => zcA c1512.2.prog.Structs c1512.2.prog.Funcs c1512.2.tree.Bodies c1512.2.tree.Main c1512.2.tree.Points c1512.2.fn c1512.2.vars c1512.2.scope p1.Kind (q0.tree.Points.length : Int) (-1) 0 (-1) c1373.1 c1442.1 c1512.1 else zcA c1442.2.prog.Structs c1442.2.prog.Funcs c1442.2.tree.Bodies c1442.2.tree.Main c1442.2.tree.Points c1442.2.fn c1442.2.vars c1442.2.scope p1.Kind (q0.tree.Points.length : Int) (-1) 0 (-1) c1373.1 c1442.1 ([])) else (if ((p1.Kind.toNat : Int) == 8) = true then zA (zb3 (⟨(⟨q0.prog.Structs, q0.prog.Funcs⟩ : zq), (⟨x1348, q0.tree.Main, x1353⟩ : zw), q0.fn, x1358, x1363⟩ : zb) p1.Kids ([(1 : UInt8)] : List UInt8)) (fun x1602 => some (.error (x1602.1, x1602.2))) fun c1598 => zcA c1598.2.prog.Structs c1598.2.prog.Funcs c1598.2.tree.Bodies c1598.2.tree.Main c1598.2.tree.Points c1598.2.fn c1598.2.vars c1598.2.scope p1.Kind (q0.tree.Points.length : Int) (-1) 0 (-1) c1598.1 ([]) ([]) else (if ((p1.Kind.toNat : Int) == 10) = true then (zJ q0.prog.Funcs q0.fn).bind fun y1670 => (if ((y1670.Result.Kind.toNat : Int) != 0) = true then zA (zb3 (⟨(⟨q0.prog.Structs, q0.prog.Funcs⟩ : zq), (⟨x1348, q0.tree.Main, x1353⟩ : zw), q0.fn, x1358, x1363⟩ : zb) p1.Kids ([y1670.Result.Kind] : List UInt8)) (fun x1695 => some (.error (x1695.1, x1695.2))) fun c1691 => zcA c1691.2.prog.Structs c1691.2.prog.Funcs c1691.2.tree.Bodies c1691.2.tree.Main c1691.2.tree.Points c1691.2.fn c1691.2.vars c1691.2.scope p1.Kind (q0.tree.Points.length : Int) (-1) 0 (-1) c1691.1 ([]) ([]) else zA (zb3 (⟨(⟨q0.prog.Structs, q0.prog.Funcs⟩ : zq), (⟨x1348, q0.tree.Main, x1353⟩ : zw), q0.fn, x1358, x1363⟩ : zb) p1.Kids []) (fun x1766 => some (.error (x1766.1, x1766.2))) fun c1762 => zcA c1762.2.prog.Structs c1762.2.prog.Funcs c1762.2.tree.Bodies c1762.2.tree.Main c1762.2.tree.Points c1762.2.fn c1762.2.vars c1762.2.scope p1.Kind (q0.tree.Points.length : Int) (-1) 0 (-1) c1762.1 ([]) ([])) else zA (zb3 (⟨(⟨q0.prog.Structs, q0.prog.Funcs⟩ : zq), (⟨x1348, q0.tree.Main, x1353⟩ : zw), q0.fn, x1358, x1363⟩ : zb) p1.Kids []) (fun x1837 => some (.error (x1837.1, x1837.2))) fun c1833 => zA (zbp false 9) (fun x1906 => some (.error (x1906, c1833.2))) fun c1902 => zcA c1833.2.prog.Structs c1833.2.prog.Funcs c1833.2.tree.Bodies c1833.2.tree.Main c1833.2.tree.Points c1833.2.fn c1833.2.vars c1833.2.scope p1.Kind (q0.tree.Points.length : Int) (-1) 0 (-1) ([]) ([]) ([]))))
def zdl (R_check_checker_list : zb → (List zg) → Option (Except (Value × zb) ((List zi) × zb))) (q0 : zb) (p1 : zg) (x1148 : List zE) (x1153 : List zC) (x1158 : List zD) (x1163 : List Int) (x1165 : Bool) : Option (Except (Value × zb) (zi × zb)) :=
 (if x1165 = true then zA (zeZ (⟨(⟨q0.prog.Structs, q0.prog.Funcs⟩ : zq), (⟨x1148, q0.tree.Main, x1153⟩ : zw), q0.fn, x1158, x1163⟩ : zb) (⟨p1.Kind, (q0.tree.Points.length : Int), (-1), 0, (-1), [], [], []⟩ : zi) p1) (fun x1171 => some (.error (x1171.1, x1171.2.1))) fun c1167 => zcA c1167.1.prog.Structs c1167.1.prog.Funcs c1167.1.tree.Bodies c1167.1.tree.Main c1167.1.tree.Points c1167.1.fn c1167.1.vars c1167.1.scope c1167.2.Kind c1167.2.Point c1167.2.Var c1167.2.Field c1167.2.Call c1167.2.Kids c1167.2.Body c1167.2.Else else (if ((p1.Kind.toNat : Int) == 5) = true then zA (ze7 (⟨(⟨q0.prog.Structs, q0.prog.Funcs⟩ : zq), (⟨x1148, q0.tree.Main, x1153⟩ : zw), q0.fn, x1158, x1163⟩ : zb) (⟨p1.Kind, (q0.tree.Points.length : Int), (-1), 0, (-1), [], [], []⟩ : zi) p1) (fun x1260 => some (.error (x1260.1, x1260.2.1))) fun c1256 => zcA c1256.1.prog.Structs c1256.1.prog.Funcs c1256.1.tree.Bodies c1256.1.tree.Main c1256.1.tree.Points c1256.1.fn c1256.1.vars c1256.1.scope c1256.2.Kind c1256.2.Point c1256.2.Var c1256.2.Field c1256.2.Call c1256.2.Kids c1256.2.Body c1256.2.Else else (if ((p1.Kind.toNat : Int) == 6) = true then zdI R_check_checker_list q0 p1 x1148 x1153 x1158 x1163 ((p1.Kind.toNat : Int) == 6) else zdI R_check_checker_list q0 p1 x1148 x1153 x1158 x1163 ((p1.Kind.toNat : Int) == 7))))
def ze5 (R_check_checker_list : zb → (List zg) → Option (Except (Value × zb) ((List zi) × zb))) (R_check_checker_stmt : zb → zg → Option (Except (Value × zb) (zi × zb))) (q0 : zb) (p1 : zg) : Option (Except (Value × zb) (zi × zb)) :=
 (zgz q0.scope).bind fun c6 => (room (q0.tree.Points.length + ([(⟨q0.fn, p1.Line, c6⟩ : zC)] : List zC).length)).bind fun _ => (if ((p1.Kind.toNat : Int) == 1) = true then zA (ze2 (⟨(⟨q0.prog.Structs, q0.prog.Funcs⟩ : zq), (⟨q0.tree.Bodies, q0.tree.Main, (q0.tree.Points ++ ([(⟨q0.fn, p1.Line, c6⟩ : zC)] : List zC))⟩ : zw), q0.fn, q0.vars, q0.scope⟩ : zb) (⟨p1.Kind, (q0.tree.Points.length : Int), (-1), 0, (-1), [], [], []⟩ : zi) p1) (fun x1058 => some (.error (x1058.1, x1058.2.1))) fun c1054 => zcA c1054.1.prog.Structs c1054.1.prog.Funcs c1054.1.tree.Bodies c1054.1.tree.Main c1054.1.tree.Points c1054.1.fn c1054.1.vars c1054.1.scope c1054.2.Kind c1054.2.Point c1054.2.Var c1054.2.Field c1054.2.Call c1054.2.Kids c1054.2.Body c1054.2.Else else (if ((p1.Kind.toNat : Int) == 2) = true then zdl R_check_checker_list q0 p1 q0.tree.Bodies (q0.tree.Points ++ ([(⟨q0.fn, p1.Line, c6⟩ : zC)] : List zC)) q0.vars q0.scope ((p1.Kind.toNat : Int) == 2) else (if ((p1.Kind.toNat : Int) == 3) = true then zdl R_check_checker_list q0 p1 q0.tree.Bodies (q0.tree.Points ++ ([(⟨q0.fn, p1.Line, c6⟩ : zC)] : List zC)) q0.vars q0.scope ((p1.Kind.toNat : Int) == 3) else (if ((p1.Kind.toNat : Int) == 4) = true then zdl R_check_checker_list q0 p1 q0.tree.Bodies (q0.tree.Points ++ ([(⟨q0.fn, p1.Line, c6⟩ : zC)] : List zC)) q0.vars q0.scope ((p1.Kind.toNat : Int) == 4) else zdl R_check_checker_list q0 p1 q0.tree.Bodies (q0.tree.Points ++ ([(⟨q0.fn, p1.Line, c6⟩ : zC)] : List zC)) q0.vars q0.scope ((p1.Kind.toNat : Int) == 9)))))
def zbK : Nat → (zb → (List zg) → Option (Except (Value × zb) ((List zi) × zb))) × (zb → zg → Option (Except (Value × zb) (zi × zb)))
 | 0 => (fun _ _ => none, fun _ _ => none)
 | gn + 1 => (zfm ((zbK gn).1) ((zbK gn).2), ze5 ((zbK gn).1) ((zbK gn).2))
def zfb (q0 : zb) (p1 : (List zg)) : Option (Except (Value × zb) ((List zi) × zb)) := (zbK big).1 q0 p1
def ze8 (R_check_returns : (List zg) → Option Bool) (p0 : (List zg)) : Option Bool :=
 (if ((p0.length : Int) == 0) = true then some false else (zJ p0 (IntKind.i64.wrap ((p0.length : Int) - 1))).bind fun y3 => ((if ((y3.Kind.toNat : Int) == 10) = true then some true else (if ((y3.Kind.toNat : Int) == 6) = true then (R_check_returns y3.Body).bind fun c25 => (if c25 = true then (R_check_returns y3.Else).bind fun c30 => some c30 else some false) else (if false = true then (R_check_returns y3.Else).bind fun c35 => some c35 else some false)))).bind fun c21 => some c21)
def zee : Nat → ((List zg) → Option Bool)
 | 0 => fun _ => none
 | gn + 1 => ze8 (zee gn)
def zfN (p0 : (List zg)) : Option Bool := (zee big) p0
def zeJ (q0 : zb) (p1 : ByteArray) : Option Int :=
 (zff q0.prog.Funcs p1).bind fun c6 => some c6
def zfi (rec4 : (List zE) → (List zC) → (List zD) → (List Int) → (List ByteArray) → Bool → Int → Option (Except (Value × zb) (zb))) (q0 : zb) (p1 : Int) (y3 : zP) (x241 : List zE) (x246 : List zC) (x251 : List zD) (x256 : List Int) (x263 : List ByteArray) (x265 : Bool) (x267 : Int) : Option (Except (Value × zb) (zb)) :=
 (if (decide (x267 < (y3.Params.length : Int))) = true then (zJ y3.Params x267).bind fun y453 => (room (x263.length + 1)).bind fun _ => (zcU (⟨(⟨q0.prog.Structs, q0.prog.Funcs⟩ : zq), (⟨x241, q0.tree.Main, x246⟩ : zw), p1, x251, x256⟩ : zb) y453.Type_).bind fun c464 => ((if c464 = true then (zfg (x263 ++ [y453.Name])).bind fun c471 => some (!c471) else some false)).bind fun c468 => zA (zbp c468 8) (fun x479 => some (.error (x479, (⟨(⟨q0.prog.Structs, q0.prog.Funcs⟩ : zq), (⟨x241, q0.tree.Main, x246⟩ : zw), p1, x251, x256⟩ : zb)))) fun c475 => ((if x265 = true then (zcM y453.Type_).bind fun c488 => some c488 else some false)).bind fun c485 => (room (x251.length + ([(⟨y453.Name, (⟨y453.Type_.Kind, y453.Type_.N, y453.Type_.Name⟩ : zx), 1, []⟩ : zD)] : List zD).length)).bind fun _ => (room (x256.length + 1)).bind fun _ => rec4 x241 x246 (x251 ++ ([(⟨y453.Name, (⟨y453.Type_.Kind, y453.Type_.N, y453.Type_.Name⟩ : zx), 1, []⟩ : zD)] : List zD)) (x256 ++ [x267]) (x263 ++ [y453.Name]) c485 (IntKind.i64.wrap (x267 + 1)) else (zcU (⟨(⟨q0.prog.Structs, q0.prog.Funcs⟩ : zq), (⟨x241, q0.tree.Main, x246⟩ : zw), p1, x251, x256⟩ : zb) y3.Result).bind fun c508 => zA (zbp c508 8) (fun x516 => some (.error (x516, (⟨(⟨q0.prog.Structs, q0.prog.Funcs⟩ : zq), (⟨x241, q0.tree.Main, x246⟩ : zw), p1, x251, x256⟩ : zb)))) fun c512 => zA (zbp x265 9) (fun x526 => some (.error (x526, (⟨(⟨q0.prog.Structs, q0.prog.Funcs⟩ : zq), (⟨x241, q0.tree.Main, x246⟩ : zw), p1, x251, x256⟩ : zb)))) fun c522 => zA (zfb (⟨(⟨q0.prog.Structs, q0.prog.Funcs⟩ : zq), (⟨x241, q0.tree.Main, x246⟩ : zw), p1, x251, x256⟩ : zb) y3.Body) (fun x536 => some (.error (x536.1, x536.2))) fun c532 => ((if (!((y3.Result.Kind.toNat : Int) != 0)) = true then some true else (zfN y3.Body).bind fun c606 => some c606)).bind fun c603 => zA (zbp c603 10) (fun x614 => some (.error (x614, c532.2))) fun c610 => (room (c532.2.tree.Bodies.length + ([(⟨y3.Name, (y3.Params.length : Int), ((y3.Result.Kind.toNat : Int) != 0), c532.2.vars, c532.1⟩ : zE)] : List zE).length)).bind fun _ => some (.ok (⟨(⟨c532.2.prog.Structs, c532.2.prog.Funcs⟩ : zq), (⟨(c532.2.tree.Bodies ++ ([(⟨y3.Name, (y3.Params.length : Int), ((y3.Result.Kind.toNat : Int) != 0), c532.2.vars, c532.1⟩ : zE)] : List zE)), c532.2.tree.Main, c532.2.tree.Points⟩ : zw), c532.2.fn, c532.2.vars, c532.2.scope⟩ : zb)))
def zeH (q0 : zb) (p1 : Int) (y3 : zP) : Nat → (List zE) → (List zC) → (List zD) → (List Int) → (List ByteArray) → Bool → Int → Option (Except (Value × zb) (zb))
 | 0, _, _, _, _, _, _, _ => none
 | n + 1, x241, x246, x251, x256, x263, x265, x267 => zfi (zeH q0 p1 y3 n) q0 p1 y3 x241 x246 x251 x256 x263 x265 x267
def zdk (q0 : zb) (p1 : Int) : Option (Except (Value × zb) (zb)) :=
 (zJ q0.prog.Funcs p1).bind fun y3 => (zeJ q0 y3.Name).bind fun c17 => zA (zbp (c17 == p1) 8) (fun x25 => some (.error (x25, q0))) fun c21 => ((if (decide ((y3.Params.length : Int) ≤ 6)) = true then (if ((y3.Result.Kind.toNat : Int) == 0) = true then some true else (zcM y3.Result).bind fun c33 => some c33) else some false)).bind fun c29 => zeH q0 p1 y3 big q0.tree.Bodies q0.tree.Points ([]) ([]) ([]) c29 0
def zdg (q0 : zb) (p1 : Int) : Option (Except (Value) (Unit)) :=
 (zJ q0.prog.Structs p1).bind fun y3 => (zf4 q0.prog.Structs y3).bind fun c15 => ((if (c15 == p1) = true then (zfg y3.Fields).bind fun c22 => some (!c22) else some false)).bind fun c19 => zA (zbp c19 8) (fun x30 => some (.error x30)) fun c26 => ((if (decide ((y3.Fields.length : Int) ≥ 1)) = true then some (decide ((y3.Fields.length : Int) ≤ 8)) else some false)).bind fun c34 => zA (zbp c34 9) (fun x41 => some (.error x41)) fun c37 => some (.ok ())
def zc0 : Value → Option Int
 | .iface 134 (.int .i64 k) => some k
 | _ => none
def wS (q : zb) : Nat → Int → Int → Option (Except (Int × Value) Int)
 | 0, _, _ => none
 | k + 1, n, i => if (decide (i < (q.prog.Structs.length : Int))) = true then (match zdg q i with
  | none => none
  | some (.error v) => some (.error (n, v))
  | some (.ok _) => wS q k (IntKind.i64.wrap (n + 1)) (IntKind.i64.wrap (i + 1))) else some (.ok n)
def wB (len : Nat) : Nat → zb → Int → Int → Option (Except (Int × Value × zb) (Int × zb))
 | 0, _, _, _ => none
 | k + 1, q, n, i => if (decide (i < (len : Int))) = true then (match zdk q i with
  | none => none
  | some (.error v) => some (.error (n, v.1, v.2))
  | some (.ok q') => wB len k q' (IntKind.i64.wrap (n + 1)) (IntKind.i64.wrap (i + 1))) else some (.ok (n, q))
def wM (q : zb) (m : Int) : zb := ⟨q.prog, ⟨q.tree.Bodies, m, q.tree.Points⟩, q.fn, q.vars, q.scope⟩
def wT (n : Int) (q : zb) : Option (Int × Int × zb) :=
 (zeJ q znm).bind fun m => match zbp (decide (m ≥ 0)) 8 with
  | none => none
  | some (.error v) => (zc0 v).map fun k => (n, k, wM q m)
  | some (.ok _) => (zJ q.prog.Funcs m).bind fun d => match zbp (((d.Params.length : Int) == 0) && ((d.Result.Kind.toNat : Int) == 0)) 8 with
   | none => none
   | some (.error v) => (zc0 v).map fun k => (n, k, wM q m)
   | some (.ok _) => some (n, 0, wM q m)
def zdL (q0 : zb) : Option (Int × Int × zb) := match wS q0 big 0 0 with
 | none => none
 | some (.error x) => (zc0 x.2).map fun k => (x.1, k, q0)
 | some (.ok n) => match wB q0.prog.Funcs.length big q0 n 0 with
  | none => none
  | some (.error x) => (zc0 x.2.1).map fun k => (x.1, k, x.2.2)
  | some (.ok x) => wT x.1 x.2
def zhu (p0 : zE) : Option Bool :=
 some (decide ((p0.Vars.length : Int) > 64))
def zh0 (rec4 : Int → Option Int) (p0 : (List zE)) (x22 : Int) : Option Int :=
 (if (decide (x22 < (p0.length : Int))) = true then (zJ p0 x22).bind fun y44 => (zhu y44).bind fun c57 => (if c57 = true then some x22 else rec4 (IntKind.i64.wrap (x22 + 1))) else some (-1))
def zfL (p0 : (List zE)) : Nat → Int → Option Int
 | 0, _ => none
 | n + 1, x22 => zh0 (zfL p0 n) p0 x22
def zgd (p0 : (List zE)) : Option Int :=
 zfL p0 big 0
def zge (p0 : (List zE)) : Option Bool :=
 (zgd p0).bind fun c3 => some (decide (c3 ≥ 0))
def zcz (p0 : zq) : Option (zw × Int × Int) :=
 (zdL (⟨(⟨p0.Structs, p0.Funcs⟩ : zq), (⟨([] : List zE), 0, ([] : List zC)⟩ : zw), 0, [], ([] : List Int)⟩ : zb)).bind fun c8 => (if (c8.2.1 != 0) = true then some ((⟨[], 0, []⟩ : zw), c8.1, c8.2.1) else (zge c8.2.2.tree.Bodies).bind fun c40 => (if ((c40 || (decide ((p0.Funcs.length : Int) > 64))) || (decide ((c8.2.2.tree.Points.length : Int) > 1000))) = true then some ((⟨[], 0, []⟩ : zw), 0, 11) else some (c8.2.2.tree, 0, 0)))
def zdf (p0 : Int) : Option zc :=
 some (⟨(1 : UInt8), p0, znk, znk, znk, []⟩ : zc)
def ze6 (p0 : ByteArray) : Option zc :=
 some (⟨(3 : UInt8), 0, p0, znk, znk, []⟩ : zc)
def zgo (p0 : ByteArray) (p1 : zc) (p2 : zc) : Option zc :=
 some (⟨(7 : UInt8), 0, znk, znk, p0, ([(⟨p1.Kind, p1.Num, p1.Name, p1.Field, p1.Op, p1.Kids⟩ : zc), (⟨p2.Kind, p2.Num, p2.Name, p2.Field, p2.Op, p2.Kids⟩ : zc)] : List zc)⟩ : zc)
def zc5 (p0 : Int) : Option zq :=
 (ze6 znl).bind fun c3 => (ze6 znl).bind fun c15 => (zdf 1).bind fun c23 => (zgo znr c15 c23).bind fun c31 => (zdf p0).bind fun c51 => (ze6 znl).bind fun c63 => (zdf 0).bind fun c71 => (zgo zns c63 c71).bind fun c79 => some (⟨[], ([(⟨znm, 1, [], (⟨(0 : UInt8), 0, znk⟩ : zx), ([(⟨(1 : UInt8), 1, znl, znk, znk, (⟨(1 : UInt8), 0, znk⟩ : zx), ([(⟨c51.Kind, c51.Num, c51.Name, c51.Field, c51.Op, c51.Kids⟩ : zc)] : List zc), [], []⟩ : zg), (⟨(7 : UInt8), 2, znk, znk, znk, (⟨(0 : UInt8), 0, znk⟩ : zx), ([(⟨c79.Kind, c79.Num, c79.Name, c79.Field, c79.Op, c79.Kids⟩ : zc)] : List zc), ([(⟨(8 : UInt8), 3, znk, znk, znk, (⟨(0 : UInt8), 0, znk⟩ : zx), ([(⟨c3.Kind, c3.Num, c3.Name, c3.Field, c3.Op, c3.Kids⟩ : zc)] : List zc), [], []⟩ : zg), (⟨(2 : UInt8), 4, znl, znk, znk, (⟨(0 : UInt8), 0, znk⟩ : zx), ([(⟨c31.Kind, c31.Num, c31.Name, c31.Field, c31.Op, c31.Kids⟩ : zc)] : List zc), [], []⟩ : zg)] : List zg), []⟩ : zg)] : List zg)⟩ : zP)] : List zP)⟩ : zq)
def zeD  : Option Bool :=
 some true
def zdU (R_law13_tower : (List Bool) → Int → Int → Bool → Option ((List zg) × Int × Bool)) (p0 : (List Bool)) (p1 : Int) (q2 : Int) (q3 : Bool) : Option ((List zg) × Int × Bool) :=
 (if (p1 == 0) = true then ((if (decide (q2 < (p0.length : Int))) = true then (zJ p0 q2).bind fun y9 => some y9 else some false)).bind fun c6 => (if c6 = true then (zdf 1).bind fun c15 => some (([(⟨(10 : UInt8), 0, znk, znk, znk, (⟨(0 : UInt8), 0, znk⟩ : zx), ([(⟨c15.Kind, c15.Num, c15.Name, c15.Field, c15.Op, c15.Kids⟩ : zc)] : List zc), [], []⟩ : zg)] : List zg), (IntKind.i64.wrap (q2 + 1)), q3) else (zdf 1).bind fun c33 => some (([(⟨(8 : UInt8), 0, znk, znk, znk, (⟨(0 : UInt8), 0, znk⟩ : zx), ([(⟨c33.Kind, c33.Num, c33.Name, c33.Field, c33.Op, c33.Kids⟩ : zc)] : List zc), [], []⟩ : zg)] : List zg), (IntKind.i64.wrap (q2 + 1)), false)) else (R_law13_tower p0 (IntKind.i64.wrap (p1 - 1)) q2 q3).bind fun c55 => (R_law13_tower p0 (IntKind.i64.wrap (p1 - 1)) c55.2.1 c55.2.2).bind fun c64 => some (([(⟨(6 : UInt8), 0, znk, znk, znk, (⟨(0 : UInt8), 0, znk⟩ : zx), ([(⟨(2 : UInt8), 1, znk, znk, znk, []⟩ : zc)] : List zc), c55.1, c64.1⟩ : zg)] : List zg), c64.2.1, c64.2.2))
def zdW : Nat → ((List Bool) → Int → Int → Bool → Option ((List zg) × Int × Bool))
 | 0 => fun _ _ _ _ => none
 | gn + 1 => zdU (zdW gn)
def zie (p0 : (List Bool)) (p1 : Int) (q2 : Int) (q3 : Bool) : Option ((List zg) × Int × Bool) := (zdW big) p0 p1 q2 q3
def zfE (p0 : List Bool) (p1 : Int) : Option Bool :=
 if (decide ((p0.length : Int) > 64)) = true then zeD else
 (zie p0 (Int.tmod (IntKind.i64.wrap p1) 5) 0 true).bind fun c => (zc5 1).bind fun pl => (room (pl.Funcs.length + 1)).bind fun _ => (zcz ⟨pl.Structs, pl.Funcs ++ [(⟨zno, 9, [], ⟨1, 0, znk⟩, c.1⟩ : zP)]⟩).bind fun r =>
  if c.2.2 = true then (if (r.2.2 == 0) = true then zeD else some false) else (if ((r.2.1 == 1) && (r.2.2 == 10)) = true then zeD else some false)
end Go.Proofs.Ytakcaekikfcbpaa
