import Derived.Test.YtakcaekikfcbpaaFM
namespace Go.Proofs.Ytakcaekikfcbpaa
open Go.Ab Go.RowKit
set_option linter.unusedVariables false
set_option linter.unusedSimpArgs false
set_option maxRecDepth 10000
set_option maxHeartbeats 1000000
structure zz where
 Kind : UInt8
 N : Int
 Name : ByteArray
 deriving DecidableEq
def zoO : Ty zz where
 sz := 3
 R := fun σ x cs => cs = [.int .u8 x.Kind.toNat, .int .i64 x.N, .string x.Name]
 len := by rintro σ x cs rfl; rfl
 one := by rintro σ x cs rfl; rfl
 mono := by rintro σ σ' x cs hle rfl; rfl
structure zc where
 Kind : UInt8
 Num : Int
 Name : ByteArray
 Field : ByteArray
 Op : ByteArray
 Kids : (List zc)
def zmh (T : Ty zc) : Ty zc where
 sz := 6
 R := fun σ x cs => ∃ v5, cs = [.int .u8 x.Kind.toNat, .int .i64 x.Num, .string x.Name, .string x.Field, .string x.Op, v5] ∧ RdT T σ v5 x.Kids
 len := by rintro σ x cs ⟨v5, rfl, h0⟩; rfl
 one := by rintro σ x cs ⟨v5, rfl, h0⟩; obtain ⟨_, ⟨_, _, rfl, _⟩, _⟩ := h0; rfl
 mono := by rintro σ σ' x cs hle ⟨v5, rfl, h0⟩; exact ⟨v5, rfl, h0.le hle⟩
theorem ziV : Lvl zmh 6 := ⟨fun _ => rfl, fun T T' h => ⟨rfl, by rintro σ x cs ⟨v5, rfl, h0⟩; exact ⟨v5, rfl, h.rd h0⟩⟩⟩
def z5 : Ty zc := Ty.fix zmh 6 ziV
theorem zhO {σ : Hp} {x : zc} {cs : List Value} (h : z5.R σ x cs) : ∃ v5, cs = [.int .u8 x.Kind.toNat, .int .i64 x.Num, .string x.Name, .string x.Field, .string x.Op, v5] ∧ RdT z5 σ v5 x.Kids := zhn ziV h
theorem zcR {σ : Hp} {x : zc} {cs : List Value} (h : ∃ v5, cs = [.int .u8 x.Kind.toNat, .int .i64 x.Num, .string x.Name, .string x.Field, .string x.Op, v5] ∧ RdT z5 σ v5 x.Kids) : z5.R σ x cs := by
 obtain ⟨v5, rfl, h0⟩ := h
 obtain ⟨k0, g0⟩ := zeI ziV h0
 exact ⟨k0 + 1, v5, rfl, g0 _ (by omega)⟩
structure zi where
 Kind : UInt8
 Line : Int
 Name : ByteArray
 Field : ByteArray
 Call : ByteArray
 Type_ : zz
 Kids : (List zc)
 Body : (List zi)
 Else : (List zi)
def zlw (T : Ty zi) : Ty zi where
 sz := 11
 R := fun σ x cs => ∃ v8 v9 v10, cs = [.int .u8 x.Kind.toNat, .int .i64 x.Line, .string x.Name, .string x.Field, .string x.Call, .int .u8 x.Type_.Kind.toNat, .int .i64 x.Type_.N, .string x.Type_.Name, v8, v9, v10] ∧ RdT z5 σ v8 x.Kids ∧ RdT T σ v9 x.Body ∧ RdT T σ v10 x.Else
 len := by rintro σ x cs ⟨v8, v9, v10, rfl, h0, h1, h2⟩; rfl
 one := by rintro σ x cs ⟨v8, v9, v10, rfl, h0, h1, h2⟩; obtain ⟨_, ⟨_, _, rfl, _⟩, _⟩ := h0; obtain ⟨_, ⟨_, _, rfl, _⟩, _⟩ := h1; obtain ⟨_, ⟨_, _, rfl, _⟩, _⟩ := h2; rfl
 mono := by rintro σ σ' x cs hle ⟨v8, v9, v10, rfl, h0, h1, h2⟩; exact ⟨v8, v9, v10, rfl, h0.le hle, h1.le hle, h2.le hle⟩
theorem zgT : Lvl zlw 11 := ⟨fun _ => rfl, fun T T' h => ⟨rfl, by rintro σ x cs ⟨v8, v9, v10, rfl, h0, h1, h2⟩; exact ⟨v8, v9, v10, rfl, h0, h.rd h1, h.rd h2⟩⟩⟩
def zX : Ty zi := Ty.fix zlw 11 zgT
theorem zfv {σ : Hp} {x : zi} {cs : List Value} (h : zX.R σ x cs) : ∃ v8 v9 v10, cs = [.int .u8 x.Kind.toNat, .int .i64 x.Line, .string x.Name, .string x.Field, .string x.Call, .int .u8 x.Type_.Kind.toNat, .int .i64 x.Type_.N, .string x.Type_.Name, v8, v9, v10] ∧ RdT z5 σ v8 x.Kids ∧ RdT zX σ v9 x.Body ∧ RdT zX σ v10 x.Else := zhn zgT h
theorem zc4 {σ : Hp} {x : zi} {cs : List Value} (h : ∃ v8 v9 v10, cs = [.int .u8 x.Kind.toNat, .int .i64 x.Line, .string x.Name, .string x.Field, .string x.Call, .int .u8 x.Type_.Kind.toNat, .int .i64 x.Type_.N, .string x.Type_.Name, v8, v9, v10] ∧ RdT z5 σ v8 x.Kids ∧ RdT zX σ v9 x.Body ∧ RdT zX σ v10 x.Else) : zX.R σ x cs := by
 obtain ⟨v8, v9, v10, rfl, h0, h1, h2⟩ := h
 obtain ⟨k1, g1⟩ := zeI zgT h1
 obtain ⟨k2, g2⟩ := zeI zgT h2
 exact ⟨k1 + k2 + 1, v8, v9, v10, rfl, h0, g1 _ (by omega), g2 _ (by omega)⟩
structure zbh where
 Name : ByteArray
 Fields : (List ByteArray)
 deriving DecidableEq
def zx : Ty zbh where
 sz := 2
 R := fun σ x cs => ∃ v1, cs = [.string x.Name, v1] ∧ RdT Ty.str σ v1 x.Fields
 len := by rintro σ x cs ⟨v1, rfl, h0⟩; rfl
 one := by rintro σ x cs ⟨v1, rfl, h0⟩; obtain ⟨_, ⟨_, _, rfl, _⟩, _⟩ := h0; rfl
 mono := by rintro σ σ' x cs hle ⟨v1, rfl, h0⟩; exact ⟨v1, rfl, h0.le hle⟩
structure zbM where
 Name : ByteArray
 Type_ : zz
 deriving DecidableEq
def zb2 : Ty zbM where
 sz := 4
 R := fun σ x cs => cs = [.string x.Name, .int .u8 x.Type_.Kind.toNat, .int .i64 x.Type_.N, .string x.Type_.Name]
 len := by rintro σ x cs rfl; rfl
 one := by rintro σ x cs rfl; rfl
 mono := by rintro σ σ' x cs hle rfl; rfl
theorem zoi : zb2.Flat := fun _ _ _ _ h => h
structure zG where
 Name : ByteArray
 Line : Int
 Params : (List zbM)
 Result : zz
 Body : (List zi)
def zr : Ty zG where
 sz := 7
 R := fun σ x cs => ∃ v2 v6, cs = [.string x.Name, .int .i64 x.Line, v2, .int .u8 x.Result.Kind.toNat, .int .i64 x.Result.N, .string x.Result.Name, v6] ∧ RdT zb2 σ v2 x.Params ∧ RdT zX σ v6 x.Body
 len := by rintro σ x cs ⟨v2, v6, rfl, h0, h1⟩; rfl
 one := by rintro σ x cs ⟨v2, v6, rfl, h0, h1⟩; obtain ⟨_, ⟨_, _, rfl, _⟩, _⟩ := h0; obtain ⟨_, ⟨_, _, rfl, _⟩, _⟩ := h1; rfl
 mono := by rintro σ σ' x cs hle ⟨v2, v6, rfl, h0, h1⟩; exact ⟨v2, v6, rfl, h0.le hle, h1.le hle⟩
structure zm where
 Structs : (List zbh)
 Funcs : (List zG)
def zox : Ty zm where
 sz := 2
 R := fun σ x cs => ∃ v0 v1, cs = [v0, v1] ∧ RdT zx σ v0 x.Structs ∧ RdT zr σ v1 x.Funcs
 len := by rintro σ x cs ⟨v0, v1, rfl, h0, h1⟩; rfl
 one := by rintro σ x cs ⟨v0, v1, rfl, h0, h1⟩; obtain ⟨_, ⟨_, _, rfl, _⟩, _⟩ := h0; obtain ⟨_, ⟨_, _, rfl, _⟩, _⟩ := h1; rfl
 mono := by rintro σ σ' x cs hle ⟨v0, v1, rfl, h0, h1⟩; exact ⟨v0, v1, rfl, h0.le hle, h1.le hle⟩
structure zI where
 Name : ByteArray
 Type_ : zz
 Words : Int
 Fields : (List ByteArray)
 deriving DecidableEq
def zq : Ty zI where
 sz := 6
 R := fun σ x cs => ∃ v5, cs = [.string x.Name, .int .u8 x.Type_.Kind.toNat, .int .i64 x.Type_.N, .string x.Type_.Name, .int .i64 x.Words, v5] ∧ RdT Ty.str σ v5 x.Fields
 len := by rintro σ x cs ⟨v5, rfl, h0⟩; rfl
 one := by rintro σ x cs ⟨v5, rfl, h0⟩; obtain ⟨_, ⟨_, _, rfl, _⟩, _⟩ := h0; rfl
 mono := by rintro σ σ' x cs hle ⟨v5, rfl, h0⟩; exact ⟨v5, rfl, h0.le hle⟩
structure zj where
 Kind : UInt8
 Op : UInt8
 Var : Int
 Num : Int
 Kids : (List zj)
def zlQ (T : Ty zj) : Ty zj where
 sz := 5
 R := fun σ x cs => ∃ v4, cs = [.int .u8 x.Kind.toNat, .int .u8 x.Op.toNat, .int .i64 x.Var, .int .i64 x.Num, v4] ∧ RdT T σ v4 x.Kids
 len := by rintro σ x cs ⟨v4, rfl, h0⟩; rfl
 one := by rintro σ x cs ⟨v4, rfl, h0⟩; obtain ⟨_, ⟨_, _, rfl, _⟩, _⟩ := h0; rfl
 mono := by rintro σ σ' x cs hle ⟨v4, rfl, h0⟩; exact ⟨v4, rfl, h0.le hle⟩
theorem zin : Lvl zlQ 5 := ⟨fun _ => rfl, fun T T' h => ⟨rfl, by rintro σ x cs ⟨v4, rfl, h0⟩; exact ⟨v4, rfl, h.rd h0⟩⟩⟩
def zR : Ty zj := Ty.fix zlQ 5 zin
theorem zdr {σ : Hp} {x : zj} {cs : List Value} (h : zR.R σ x cs) : ∃ v4, cs = [.int .u8 x.Kind.toNat, .int .u8 x.Op.toNat, .int .i64 x.Var, .int .i64 x.Num, v4] ∧ RdT zR σ v4 x.Kids := zhn zin h
theorem zlf {σ : Hp} {x : zj} {cs : List Value} (h : ∃ v4, cs = [.int .u8 x.Kind.toNat, .int .u8 x.Op.toNat, .int .i64 x.Var, .int .i64 x.Num, v4] ∧ RdT zR σ v4 x.Kids) : zR.R σ x cs := by
 obtain ⟨v4, rfl, h0⟩ := h
 obtain ⟨k0, g0⟩ := zeI zin h0
 exact ⟨k0 + 1, v4, rfl, g0 _ (by omega)⟩
structure zh where
 Kind : UInt8
 Point : Int
 Var : Int
 Field : Int
 Call : Int
 Kids : (List zj)
 Body : (List zh)
 Else : (List zh)
def zj2 (T : Ty zh) : Ty zh where
 sz := 8
 R := fun σ x cs => ∃ v5 v6 v7, cs = [.int .u8 x.Kind.toNat, .int .i64 x.Point, .int .i64 x.Var, .int .i64 x.Field, .int .i64 x.Call, v5, v6, v7] ∧ RdT zR σ v5 x.Kids ∧ RdT T σ v6 x.Body ∧ RdT T σ v7 x.Else
 len := by rintro σ x cs ⟨v5, v6, v7, rfl, h0, h1, h2⟩; rfl
 one := by rintro σ x cs ⟨v5, v6, v7, rfl, h0, h1, h2⟩; obtain ⟨_, ⟨_, _, rfl, _⟩, _⟩ := h0; obtain ⟨_, ⟨_, _, rfl, _⟩, _⟩ := h1; obtain ⟨_, ⟨_, _, rfl, _⟩, _⟩ := h2; rfl
 mono := by rintro σ σ' x cs hle ⟨v5, v6, v7, rfl, h0, h1, h2⟩; exact ⟨v5, v6, v7, rfl, h0.le hle, h1.le hle, h2.le hle⟩
theorem zht : Lvl zj2 8 := ⟨fun _ => rfl, fun T T' h => ⟨rfl, by rintro σ x cs ⟨v5, v6, v7, rfl, h0, h1, h2⟩; exact ⟨v5, v6, v7, rfl, h0, h.rd h1, h.rd h2⟩⟩⟩
def zN : Ty zh := Ty.fix zj2 8 zht
theorem zl2 {σ : Hp} {x : zh} {cs : List Value} (h : zN.R σ x cs) : ∃ v5 v6 v7, cs = [.int .u8 x.Kind.toNat, .int .i64 x.Point, .int .i64 x.Var, .int .i64 x.Field, .int .i64 x.Call, v5, v6, v7] ∧ RdT zR σ v5 x.Kids ∧ RdT zN σ v6 x.Body ∧ RdT zN σ v7 x.Else := zhn zht h
theorem zmW {σ : Hp} {x : zh} {cs : List Value} (h : ∃ v5 v6 v7, cs = [.int .u8 x.Kind.toNat, .int .i64 x.Point, .int .i64 x.Var, .int .i64 x.Field, .int .i64 x.Call, v5, v6, v7] ∧ RdT zR σ v5 x.Kids ∧ RdT zN σ v6 x.Body ∧ RdT zN σ v7 x.Else) : zN.R σ x cs := by
 obtain ⟨v5, v6, v7, rfl, h0, h1, h2⟩ := h
 obtain ⟨k1, g1⟩ := zeI zht h1
 obtain ⟨k2, g2⟩ := zeI zht h2
 exact ⟨k1 + k2 + 1, v5, v6, v7, rfl, h0, g1 _ (by omega), g2 _ (by omega)⟩
structure zM where
 Name : ByteArray
 Params : Int
 Result : Bool
 Vars : (List zI)
 Acts : (List zh)
def zp : Ty zM where
 sz := 5
 R := fun σ x cs => ∃ v3 v4, cs = [.string x.Name, .int .i64 x.Params, .bool x.Result, v3, v4] ∧ RdT zq σ v3 x.Vars ∧ RdT zN σ v4 x.Acts
 len := by rintro σ x cs ⟨v3, v4, rfl, h0, h1⟩; rfl
 one := by rintro σ x cs ⟨v3, v4, rfl, h0, h1⟩; obtain ⟨_, ⟨_, _, rfl, _⟩, _⟩ := h0; obtain ⟨_, ⟨_, _, rfl, _⟩, _⟩ := h1; rfl
 mono := by rintro σ σ' x cs hle ⟨v3, v4, rfl, h0, h1⟩; exact ⟨v3, v4, rfl, h0.le hle, h1.le hle⟩
structure zH where
 Func : Int
 Line : Int
 Scope : (List Int)
 deriving DecidableEq
def zo : Ty zH where
 sz := 3
 R := fun σ x cs => ∃ v2, cs = [.int .i64 x.Func, .int .i64 x.Line, v2] ∧ RdT (Ty.int .i64) σ v2 x.Scope
 len := by rintro σ x cs ⟨v2, rfl, h0⟩; rfl
 one := by rintro σ x cs ⟨v2, rfl, h0⟩; obtain ⟨_, ⟨_, _, rfl, _⟩, _⟩ := h0; rfl
 mono := by rintro σ σ' x cs hle ⟨v2, rfl, h0⟩; exact ⟨v2, rfl, h0.le hle⟩
structure zw where
 Bodies : (List zM)
 Main : Int
 Points : (List zH)
structure zb where
 prog : zm
 tree : zw
 fn : Int
 vars : (List zI)
 scope : (List Int)
abbrev zfg (b : Nat) (x0 : Value) (x1 : Int) (x2 : Value) : Ob := some (b, ⟨[x0, .int .i64 x1, x2], 31, 3, true⟩)
abbrev zec (b : Nat) (x0 : ByteArray) (x1 : Int) (x2 : Value) (x3 : Int) (x4 : Int) (x5 : ByteArray) (x6 : Value) : Ob := some (b, ⟨[.string x0, .int .i64 x1, x2, .int .u8 x3, .int .i64 x4, .string x5, x6], 53, 7, true⟩)
abbrev zeL (b : Nat) (x0 : Int) (x1 : Int) (x2 : ByteArray) (x3 : ByteArray) (x4 : ByteArray) (x5 : Value) : Ob := some (b, ⟨[.int .u8 x0, .int .i64 x1, .string x2, .string x3, .string x4, x5], 71, 6, true⟩)
abbrev zeH (b : Nat) (x0 : Int) (x1 : Int) (x2 : ByteArray) (x3 : ByteArray) (x4 : ByteArray) (x5 : Int) (x6 : Int) (x7 : ByteArray) (x8 : Value) (x9 : Value) (x10 : Value) : Ob := some (b, ⟨[.int .u8 x0, .int .i64 x1, .string x2, .string x3, .string x4, .int .u8 x5, .int .i64 x6, .string x7, x8, x9, x10], 73, 11, true⟩)
abbrev zlH (b : Nat) (x0 : ByteArray) (x1 : Int) (x2 : Int) (x3 : ByteArray) : Ob := some (b, ⟨[.string x0, .int .u8 x1, .int .i64 x2, .string x3], 78, 4, true⟩)
abbrev zn8 (b : Nat) (x0 : ByteArray) (x1 : Int) (x2 : Int) (x3 : ByteArray) (x4 : Int) (x5 : Value) : Ob := some (b, ⟨[.string x0, .int .u8 x1, .int .i64 x2, .string x3, .int .i64 x4, x5], 82, 6, true⟩)
abbrev zn (b : Nat) (x0 : Value) (x1 : Value) (x2 : Value) (x3 : Int) (x4 : Value) (x5 : Int) (x6 : Value) (x7 : Value) : Ob := some (b, ⟨[x0, x1, x2, .int .i64 x3, x4, .int .i64 x5, x6, x7], 110, 8, true⟩)
abbrev zbP (b : Nat) (x0 : Int) (x1 : Int) (x2 : Int) (x3 : Int) (x4 : Int) (x5 : Value) (x6 : Value) (x7 : Value) : Ob := some (b, ⟨[.int .u8 x0, .int .i64 x1, .int .i64 x2, .int .i64 x3, .int .i64 x4, x5, x6, x7], 115, 8, true⟩)
abbrev zdJ (b : Nat) (x0 : Int) (x1 : Int) (x2 : Int) (x3 : Int) (x4 : Value) : Ob := some (b, ⟨[.int .u8 x0, .int .u8 x1, .int .i64 x2, .int .i64 x3, x4], 140, 5, true⟩)
def zm0 (rec4 : Int → Option Bool) (p0 : (List ByteArray)) (p1 : Int) (x15 : Int) : Option Bool :=
 (if (decide (x15 < p1)) = true then (zs p0 x15).bind fun y30 => (zs p0 p1).bind fun y35 => (if (zP y30 y35) = true then some true else rec4 (IntKind.i64.wrap (x15 + 1))) else some false)
def zmD (p0 : (List ByteArray)) (p1 : Int) : Nat → Int → Option Bool
 | 0, _ => none
 | n + 1, x15 => zm0 (zmD p0 p1 n) p0 p1 x15
def zns (R_ref13_returns : (List zi) → Option Bool) (p0 : (List zi)) : Option Bool :=
 (if ((p0.length : Int) == 0) = true then some false else (zs p0 (IntKind.i64.wrap ((p0.length : Int) - 1))).bind fun y3 => ((if ((y3.Kind.toNat : Int) == 10) = true then some true else (if ((y3.Kind.toNat : Int) == 6) = true then (R_ref13_returns y3.Body).bind fun c25 => (if c25 = true then (R_ref13_returns y3.Else).bind fun c30 => some c30 else some false) else (if false = true then (R_ref13_returns y3.Else).bind fun c35 => some c35 else some false)))).bind fun c21 => some c21)
def zos : Nat → ((List zi) → Option Bool)
 | 0 => fun _ => none
 | gn + 1 => zns (zos gn)
def zfC (rec4 : Int → Int → Option Int) (R_ref13_exps : (List zc) → Option Int) (p0 : (List zc)) (x16 : Int) (x17 : Int) : Option Int :=
 (if (decide (x17 < (p0.length : Int))) = true then (zs p0 x17).bind fun y34 => (R_ref13_exps y34.Kids).bind fun c43 => rec4 (IntKind.i64.wrap (x16 + c43)) (IntKind.i64.wrap (x17 + 1)) else some x16)
def zeq (R_ref13_exps : (List zc) → Option Int) (p0 : (List zc)) : Nat → Int → Int → Option Int
 | 0, _, _ => none
 | n + 1, x16, x17 => zfC (zeq R_ref13_exps p0 n) R_ref13_exps p0 x16 x17
def ziK (R_ref13_exps : (List zc) → Option Int) (p0 : (List zc)) : Option Int :=
 zeq R_ref13_exps p0 big (p0.length : Int) 0
def zdu : Nat → ((List zc) → Option Int)
 | 0 => fun _ => none
 | gn + 1 => ziK (zdu gn)
def zi1 (p0 : (List zc)) : Option Int := (zdu big) p0
def zgB (rec4 : Int → Int → Option Int) (R_ref13_stmts : (List zi) → Option Int) (p0 : (List zi)) (x66 : Int) (x67 : Int) : Option Int :=
 (if (decide (x67 < (p0.length : Int))) = true then (zs p0 x67).bind fun y134 => (zs p0 x67).bind fun y151 => (zs p0 x67).bind fun y168 => (zi1 y134.Kids).bind fun c185 => (R_ref13_stmts y151.Body).bind fun c189 => (R_ref13_stmts y168.Else).bind fun c193 => rec4 (IntKind.i64.wrap ((IntKind.i64.wrap ((IntKind.i64.wrap (x66 + c185)) + c189)) + c193)) (IntKind.i64.wrap (x67 + 1)) else some x66)
def zed (R_ref13_stmts : (List zi) → Option Int) (p0 : (List zi)) : Nat → Int → Int → Option Int
 | 0, _, _ => none
 | n + 1, x66, x67 => zgB (zed R_ref13_stmts p0 n) R_ref13_stmts p0 x66 x67
def zhX (R_ref13_stmts : (List zi) → Option Int) (p0 : (List zi)) : Option Int :=
 zed R_ref13_stmts p0 big (p0.length : Int) 0
def zdm : Nat → ((List zi) → Option Int)
 | 0 => fun _ => none
 | gn + 1 => zhX (zdm gn)
def zjq (p0 : (List zi)) : Option Int := (zdm big) p0
def zfH (rec16 : Int → Int → Option Int) (p0 : zm) (x259 : Int) (x260 : Int) : Option Int :=
 (if (decide (x260 < (p0.Funcs.length : Int))) = true then (zs p0.Funcs x260).bind fun y294 => (zs p0.Funcs x260).bind fun y307 => (zjq y307.Body).bind fun c320 => rec16 (IntKind.i64.wrap ((IntKind.i64.wrap (x259 + (y294.Params.length : Int))) + c320)) (IntKind.i64.wrap (x260 + 1)) else some x259)
def zft (p0 : zm) : Nat → Int → Int → Option Int
 | 0, _, _ => none
 | n + 1, x259, x260 => zfH (zft p0 n) p0 x259 x260
def zgG (rec14 : Int → Int → Option Int) (p0 : zm) (x109 : Int) (x110 : Int) : Option Int :=
 (if (decide (x110 < (p0.Structs.length : Int))) = true then (zs p0.Structs x110).bind fun y219 => rec14 (IntKind.i64.wrap (x109 + (y219.Fields.length : Int))) (IntKind.i64.wrap (x110 + 1)) else zft p0 big x109 0)
def zfB (p0 : zm) : Nat → Int → Int → Option Int
 | 0, _, _ => none
 | n + 1, x109, x110 => zgG (zfB p0 n) p0 x109 x110
def zf2 (p0 : zm) : Option Int :=
 zfB p0 big (IntKind.i64.wrap ((p0.Structs.length : Int) + (p0.Funcs.length : Int))) 0
def zbx (p0 : Bool) (p1 : Int) : Option (Except (Value) (Unit)) :=
 (if (!p0) = true then some (.error (.iface 134 (.int .i64 p1) : Value)) else some (.ok ()))
def zi2 (rec4 : Int → Option Int) (p0 : (List ByteArray)) (p1 : ByteArray) (x10 : Int) : Option Int :=
 (if (decide (x10 < (p0.length : Int))) = true then (zs p0 x10).bind fun y20 => (if (zP p1 y20) = true then some x10 else rec4 (IntKind.i64.wrap (x10 + 1))) else some (-1))
def zha (p0 : (List ByteArray)) (p1 : ByteArray) : Nat → Int → Option Int
 | 0, _ => none
 | n + 1, x10 => zi2 (zha p0 p1 n) p0 p1 x10
def zfY (p0 : (List ByteArray)) (p1 : ByteArray) : Option Int :=
 zha p0 p1 big 0
def zgC (p0 : (List ByteArray)) (p1 : ByteArray) : Option Bool :=
 (zfY p0 p1).bind fun c3 => some (decide (c3 ≥ 0))
def zf9 (rec4 : Int → Option Bool) (p0 : (List ByteArray)) (x18 : Int) : Option Bool :=
 (if (decide (x18 < (p0.length : Int))) = true then (zs p0 x18).bind fun y37 => (zdX p0 0 x18).bind fun y42 => (zgC y42 y37).bind fun c47 => (if c47 = true then some true else rec4 (IntKind.i64.wrap (x18 + 1))) else some false)
def zeW (p0 : (List ByteArray)) : Nat → Int → Option Bool
 | 0, _ => none
 | n + 1, x18 => zf9 (zeW p0 n) p0 x18
def zgv (p0 : (List ByteArray)) : Option Bool :=
 zeW p0 big 0
def zja (p0 : zbh) (qf0 : zbh) : Option Bool :=
 some (zP p0.Name qf0.Name)
def zir (rec4 : Int → Option Int) (p0 : (List zbh)) (q1_0 : zbh) (x18 : Int) : Option Int :=
 (if (decide (x18 < (p0.length : Int))) = true then (zs p0 x18).bind fun y36 => (zja y36 q1_0).bind fun c45 => (if c45 = true then some x18 else rec4 (IntKind.i64.wrap (x18 + 1))) else some (-1))
def zhL (p0 : (List zbh)) (q1_0 : zbh) : Nat → Int → Option Int
 | 0, _ => none
 | n + 1, x18 => zir (zhL p0 q1_0 n) p0 q1_0 x18
def zgL (p0 : (List zbh)) (q1_0 : zbh) : Option Int :=
 zhL p0 q1_0 big 0
def zjL (p0 : zG) (qf0 : ByteArray) : Option Bool :=
 some (zP p0.Name qf0)
def zi3 (rec4 : Int → Option Int) (p0 : (List zG)) (q1_0 : ByteArray) (x22 : Int) : Option Int :=
 (if (decide (x22 < (p0.length : Int))) = true then (zs p0 x22).bind fun y44 => (zjL y44 q1_0).bind fun c57 => (if c57 = true then some x22 else rec4 (IntKind.i64.wrap (x22 + 1))) else some (-1))
def zhG (p0 : (List zG)) (q1_0 : ByteArray) : Nat → Int → Option Int
 | 0, _ => none
 | n + 1, x22 => zi3 (zhG p0 q1_0 n) p0 q1_0 x22
def zf0 (p0 : (List zG)) (q1_0 : ByteArray) : Option Int :=
 zhG p0 q1_0 big 0
def zeJ (q0 : zb) (p1 : ByteArray) : Option Int :=
 (zf0 q0.prog.Funcs p1).bind fun c6 => some c6
def zc3 (p0 : zz) : Option Bool :=
 some (((p0.Kind.toNat : Int) == 1) || ((p0.Kind.toNat : Int) == 2))
def zjz (p0 : zbh) (qf0 : ByteArray) : Option Bool :=
 some (zP p0.Name qf0)
def ziI (rec4 : Int → Option Int) (p0 : (List zbh)) (q1_0 : ByteArray) (x18 : Int) : Option Int :=
 (if (decide (x18 < (p0.length : Int))) = true then (zs p0 x18).bind fun y36 => (zjz y36 q1_0).bind fun c45 => (if c45 = true then some x18 else rec4 (IntKind.i64.wrap (x18 + 1))) else some (-1))
def zhk (p0 : (List zbh)) (q1_0 : ByteArray) : Nat → Int → Option Int
 | 0, _ => none
 | n + 1, x18 => ziI (zhk p0 q1_0 n) p0 q1_0 x18
def zhR (p0 : (List zbh)) (q1_0 : ByteArray) : Option Int :=
 zhk p0 q1_0 big 0
def zfy (q0 : zb) (p1 : ByteArray) : Option ((List ByteArray) × Bool) :=
 (zhR q0.prog.Structs p1).bind fun c6 => (if (decide (c6 < 0)) = true then some ([], false) else (zs q0.prog.Structs c6).bind fun y11 => some (y11.Fields, true))
def zc8 (q0 : zb) (p1 : zz) : Option Bool :=
 (zfy q0 p1.Name).bind fun c4 => some (((p1.Kind.toNat : Int) != 4) || c4.2)
def zhy (p0 : (List Int)) : Option (List Int) := (room p0.length).bind fun _ => some p0
def ziE (p0 : zI) (qf0 : ByteArray) : Option Bool :=
 some (zP p0.Name qf0)
def zjK (rec4 : Int → Option Int) (p0 : (List zI)) (q1_0 : ByteArray) (x18 : Int) : Option Int :=
 (if (decide (x18 < (p0.length : Int))) = true then (zs p0 x18).bind fun y36 => (ziE y36 q1_0).bind fun c45 => (if c45 = true then some x18 else rec4 (IntKind.i64.wrap (x18 + 1))) else some (-1))
def zhS (p0 : (List zI)) (q1_0 : ByteArray) : Nat → Int → Option Int
 | 0, _ => none
 | n + 1, x18 => zjK (zhS p0 q1_0 n) p0 q1_0 x18
def zg1 (p0 : (List zI)) (q1_0 : ByteArray) : Option Int :=
 zhS p0 q1_0 big 0
def zeV (q0 : zb) (p1 : ByteArray) : Option Int :=
 (zg1 q0.vars p1).bind fun c6 => some c6
def zjI (rec4 : Int → Option Int) (p0 : (List Int)) (p1 : Int) (x10 : Int) : Option Int :=
 (if (decide (x10 < (p0.length : Int))) = true then (zs p0 x10).bind fun y20 => (if (p1 == y20) = true then some x10 else rec4 (IntKind.i64.wrap (x10 + 1))) else some (-1))
def zhJ (p0 : (List Int)) (p1 : Int) : Nat → Int → Option Int
 | 0, _ => none
 | n + 1, x10 => zjI (zhJ p0 p1 n) p0 p1 x10
def zhg (p0 : (List Int)) (p1 : Int) : Option Int :=
 zhJ p0 p1 big 0
def zfX (p0 : (List Int)) (p1 : Int) : Option Bool :=
 (zhg p0 p1).bind fun c3 => some (decide (c3 ≥ 0))
def zen (q0 : zb) (p1 : ByteArray) : Option (Except (Value) (Int)) :=
 (zeV q0 p1).bind fun c3 => ((if (decide (c3 ≥ 0)) = true then (zfX q0.scope c3).bind fun c10 => some c10 else some false)).bind fun c7 => zJ (zbx c7 8) (fun x18 => some (.error x18)) fun c14 => some (.ok c3)
def zdI (q0 : zb) (p1 : Int) (p2 : Int) : Option (Except (Value) (Unit)) :=
 (zs q0.vars p1).bind fun y4 => zJ (zbx ((y4.Type_.Kind.toNat : Int) == p2) 9) (fun x19 => some (.error x19)) fun c15 => some (.ok ())
def zee (q0 : zb) (p1 : Int) (p2 : ByteArray) : Option (Except (Value) (Int)) :=
 (zs q0.vars p1).bind fun y4 => (zfY y4.Fields p2).bind fun c15 => zJ (zbx (decide (c15 ≥ 0)) 8) (fun x23 => some (.error x23)) fun c19 => some (.ok c15)
def zgu (rec4 : Int → Option Bool) (p0 : (List UInt8)) (p1 : (List UInt8)) (x16 : Int) : Option Bool :=
 (if (decide (x16 < (p0.length : Int))) = true then (zs p0 x16).bind fun y31 => (zs p1 x16).bind fun y36 => (if ((y31.toNat : Int) != (y36.toNat : Int)) = true then some false else rec4 (IntKind.i64.wrap (x16 + 1))) else some true)
def ze1 (p0 : (List UInt8)) (p1 : (List UInt8)) : Nat → Int → Option Bool
 | 0, _ => none
 | n + 1, x16 => zgu (ze1 p0 p1 n) p0 p1 x16
def zeQ (p0 : (List UInt8)) (p1 : (List UInt8)) : Option Bool :=
 (if ((p0.length : Int) != (p1.length : Int)) = true then some false else ze1 p0 p1 big 0)
def ziT (p0 : ByteArray) (p1 : ByteArray) : Option Bool :=
 ((if (decide ((p0.size : Int) ≥ (p1.size : Int))) = true then (zeS p0 (IntKind.i64.wrap ((p0.size : Int) - (p1.size : Int))) (p0.size : Int)).bind fun y6 => some (zP y6 p1) else some false)).bind fun c3 => some c3
def zjv (p0 : ByteArray) (p1 : ByteArray) : Option ByteArray :=
 (ziT p0 p1).bind fun c3 => (if c3 = true then (zeS p0 0 (IntKind.i64.wrap ((p0.size : Int) - (p1.size : Int)))).bind fun y8 => some y8 else some p0)
def zho (p0 : ByteArray) (p1 : ByteArray) : Option ByteArray :=
 (zjv p0 p1).bind fun c3 => some c3
def zge (rec4 : Int → Option Int) (p0 : ByteArray) (x10 : Int) : Option Int :=
 (if (decide (x10 < 26)) = true then (zeS zqS x10 (IntKind.i64.wrap (x10 + 2))).bind fun y21 => (zho y21 zqX).bind fun c23 => (if (zP p0 c23) = true then some (IntKind.u8.wrap (1 + (IntKind.u8.wrap (IntKind.i64.wrap (Int.tdiv x10 2))))) else rec4 (IntKind.i64.wrap (x10 + 2))) else some 0)
def zdO (p0 : ByteArray) : Nat → Int → Option Int
 | 0, _ => none
 | n + 1, x10 => zge (zdO p0 n) p0 x10
def zeG (p0 : ByteArray) : Option Int :=
 zdO p0 big 0
def zgr (rec4 : (List zbh) → (List zG) → (List zM) → Int → (List zH) → Int → (List zI) → (List Int) → (List zj) → (List UInt8) → Int → Option (Except (Value × zb) ((List zj) × zb))) (R_check_checker_exp : zb → zc → Option (Except (Value × zb) (zj × Int × zb))) (p1 : (List zc)) (p2 : (List UInt8)) (x131 : List zbh) (x135 : List zG) (x140 : List zM) (x142 : Int) (x146 : List zH) (x148 : Int) (x152 : List zI) (x157 : List Int) (x162 : List zj) (x167 : List UInt8) (x169 : Int) : Option (Except (Value × zb) ((List zj) × zb)) :=
 (if (decide (x169 < (p1.length : Int))) = true then (zs p1 x169).bind fun y275 => zJ (R_check_checker_exp (⟨(⟨x131, x135⟩ : zm), (⟨x140, x142, x146⟩ : zw), x148, x152, x157⟩ : zb) y275) (fun x289 => some (.error (x289.1, x289.2))) fun c285 => (room (x162.length + 1)).bind fun _ => (u8o c285.2.1).bind fun z359 => (room (x167.length + 1)).bind fun _ => rec4 c285.2.2.prog.Structs c285.2.2.prog.Funcs c285.2.2.tree.Bodies c285.2.2.tree.Main c285.2.2.tree.Points c285.2.2.fn c285.2.2.vars c285.2.2.scope (x162 ++ [(⟨c285.1.Kind, c285.1.Op, c285.1.Var, c285.1.Num, c285.1.Kids⟩ : zj)]) (x167 ++ [z359]) (IntKind.i64.wrap (x169 + 1)) else (zeQ x167 p2).bind fun c365 => zJ (zbx c365 9) (fun x373 => some (.error (x373, (⟨(⟨x131, x135⟩ : zm), (⟨x140, x142, x146⟩ : zw), x148, x152, x157⟩ : zb)))) fun c369 => some (.ok (x162, (⟨(⟨x131, x135⟩ : zm), (⟨x140, x142, x146⟩ : zw), x148, x152, x157⟩ : zb))))
def zeB (R_check_checker_exp : zb → zc → Option (Except (Value × zb) (zj × Int × zb))) (p1 : (List zc)) (p2 : (List UInt8)) : Nat → (List zbh) → (List zG) → (List zM) → Int → (List zH) → Int → (List zI) → (List Int) → (List zj) → (List UInt8) → Int → Option (Except (Value × zb) ((List zj) × zb))
 | 0, _, _, _, _, _, _, _, _, _, _, _ => none
 | n + 1, x131, x135, x140, x142, x146, x148, x152, x157, x162, x167, x169 => zgr (zeB R_check_checker_exp p1 p2 n) R_check_checker_exp p1 p2 x131 x135 x140 x142 x146 x148 x152 x157 x162 x167 x169
def ziD (R_check_checker_vals : zb → (List zc) → (List UInt8) → Option (Except (Value × zb) ((List zj) × zb))) (R_check_checker_exp : zb → zc → Option (Except (Value × zb) (zj × Int × zb))) (R_check_checker_place : zb → zc → Option (Except (Value × zb) (zj × Int × zb))) (R_check_checker_unary : zb → zc → Option (Except (Value × zb) (zj × Int × zb))) (R_check_checker_binary : zb → zc → Option (Except (Value × zb) (zj × Int × zb))) (q0 : zb) (p1 : (List zc)) (p2 : (List UInt8)) : Option (Except (Value × zb) ((List zj) × zb)) :=
 zeB R_check_checker_exp p1 p2 big q0.prog.Structs q0.prog.Funcs q0.tree.Bodies q0.tree.Main q0.tree.Points q0.fn q0.vars q0.scope ([]) ([]) 0
def zgQ (q0 : zb) (x12 : List zM) (x17 : List zH) (x22 : List zI) (x27 : List Int) (x29 : Int) : Option (Except (Value × zb) (zj × Int × zb)) :=
 some (.ok ((⟨(1 : UInt8), (0 : UInt8), 0, x29, []⟩ : zj), 2, (⟨(⟨q0.prog.Structs, q0.prog.Funcs⟩ : zm), (⟨x12, q0.tree.Main, x17⟩ : zw), q0.fn, x22, x27⟩ : zb)))
def zdR (R_check_checker_place : zb → zc → Option (Except (Value × zb) (zj × Int × zb))) (R_check_checker_unary : zb → zc → Option (Except (Value × zb) (zj × Int × zb))) (R_check_checker_binary : zb → zc → Option (Except (Value × zb) (zj × Int × zb))) (q0 : zb) (p1 : zc) (x36 : List zM) (x41 : List zH) (x46 : List zI) (x51 : List Int) (x53 : Bool) : Option (Except (Value × zb) (zj × Int × zb)) :=
 (if x53 = true then zJ (R_check_checker_place (⟨(⟨q0.prog.Structs, q0.prog.Funcs⟩ : zm), (⟨x36, q0.tree.Main, x41⟩ : zw), q0.fn, x46, x51⟩ : zb) p1) (fun x59 => some (.error (x59.1, x59.2))) fun c55 => some (.ok (c55.1, c55.2.1, c55.2.2)) else (if ((p1.Kind.toNat : Int) == 6) = true then zJ (R_check_checker_unary (⟨(⟨q0.prog.Structs, q0.prog.Funcs⟩ : zm), (⟨x36, q0.tree.Main, x41⟩ : zw), q0.fn, x46, x51⟩ : zb) p1) (fun x128 => some (.error (x128.1, x128.2))) fun c124 => some (.ok (c124.1, c124.2.1, c124.2.2)) else zJ (R_check_checker_binary (⟨(⟨q0.prog.Structs, q0.prog.Funcs⟩ : zm), (⟨x36, q0.tree.Main, x41⟩ : zw), q0.fn, x46, x51⟩ : zb) p1) (fun x196 => some (.error (x196.1, x196.2))) fun c192 => some (.ok (c192.1, c192.2.1, c192.2.2))))
def zgs (R_check_checker_vals : zb → (List zc) → (List UInt8) → Option (Except (Value × zb) ((List zj) × zb))) (R_check_checker_exp : zb → zc → Option (Except (Value × zb) (zj × Int × zb))) (R_check_checker_place : zb → zc → Option (Except (Value × zb) (zj × Int × zb))) (R_check_checker_unary : zb → zc → Option (Except (Value × zb) (zj × Int × zb))) (R_check_checker_binary : zb → zc → Option (Except (Value × zb) (zj × Int × zb))) (q0 : zb) (p1 : zc) : Option (Except (Value × zb) (zj × Int × zb)) :=
 (if ((p1.Kind.toNat : Int) == 1) = true then some (.ok ((⟨(1 : UInt8), (0 : UInt8), 0, p1.Num, []⟩ : zj), 1, q0)) else (if ((p1.Kind.toNat : Int) == 2) = true then (if (p1.Num != 0) = true then zgQ q0 q0.tree.Bodies q0.tree.Points q0.vars q0.scope 1 else zgQ q0 q0.tree.Bodies q0.tree.Points q0.vars q0.scope 0) else (if ((p1.Kind.toNat : Int) == 3) = true then zdR R_check_checker_place R_check_checker_unary R_check_checker_binary q0 p1 q0.tree.Bodies q0.tree.Points q0.vars q0.scope ((p1.Kind.toNat : Int) == 3) else (if ((p1.Kind.toNat : Int) == 4) = true then zdR R_check_checker_place R_check_checker_unary R_check_checker_binary q0 p1 q0.tree.Bodies q0.tree.Points q0.vars q0.scope ((p1.Kind.toNat : Int) == 4) else zdR R_check_checker_place R_check_checker_unary R_check_checker_binary q0 p1 q0.tree.Bodies q0.tree.Points q0.vars q0.scope ((p1.Kind.toNat : Int) == 5)))))
def zgh (R_check_checker_vals : zb → (List zc) → (List UInt8) → Option (Except (Value × zb) ((List zj) × zb))) (R_check_checker_exp : zb → zc → Option (Except (Value × zb) (zj × Int × zb))) (R_check_checker_place : zb → zc → Option (Except (Value × zb) (zj × Int × zb))) (R_check_checker_unary : zb → zc → Option (Except (Value × zb) (zj × Int × zb))) (R_check_checker_binary : zb → zc → Option (Except (Value × zb) (zj × Int × zb))) (q0 : zb) (p1 : zc) : Option (Except (Value × zb) (zj × Int × zb)) :=
 zJ (zen q0 p1.Name) (fun x9 => some (.error (x9, q0))) fun c5 => (if ((p1.Kind.toNat : Int) == 3) = true then (zs q0.vars c5).bind fun y14 => (zc3 y14.Type_).bind fun c25 => zJ (zbx c25 9) (fun x33 => some (.error (x33, q0))) fun c29 => (zs q0.vars c5).bind fun y37 => some (.ok ((⟨(2 : UInt8), (0 : UInt8), c5, 0, []⟩ : zj), (y37.Type_.Kind.toNat : Int), q0)) else (if ((p1.Kind.toNat : Int) == 5) = true then zJ (zdI q0 c5 4) (fun x54 => some (.error (x54, q0))) fun c50 => zJ (zee q0 c5 p1.Field) (fun x62 => some (.error (x62, q0))) fun c58 => some (.ok ((⟨(4 : UInt8), (0 : UInt8), c5, c58, []⟩ : zj), 1, q0)) else zJ (zdI q0 c5 3) (fun x70 => some (.error (x70, q0))) fun c66 => zJ (R_check_checker_vals q0 p1.Kids ([(1 : UInt8)] : List UInt8)) (fun x84 => some (.error (x84.1, x84.2))) fun c80 => some (.ok ((⟨(3 : UInt8), (0 : UInt8), c5, 0, c80.1⟩ : zj), 1, c80.2))))
def zhI (R_check_checker_vals : zb → (List zc) → (List UInt8) → Option (Except (Value × zb) ((List zj) × zb))) (q0 : zb) (p1 : zc) (x9 : List zM) (x14 : List zH) (x19 : List zI) (x24 : List Int) (x26 : Int) (x27 : Int) : Option (Except (Value × zb) (zj × Int × zb)) :=
 (u8o x27).bind fun z28 => zJ (R_check_checker_vals (⟨(⟨q0.prog.Structs, q0.prog.Funcs⟩ : zm), (⟨x9, q0.tree.Main, x14⟩ : zw), q0.fn, x19, x24⟩ : zb) p1.Kids ([z28] : List UInt8)) (fun x39 => some (.error (x39.1, x39.2))) fun c35 => zJ (zbx ((zP p1.Op zqU) || (zP p1.Op zqV)) 9) (fun x109 => some (.error (x109, c35.2))) fun c105 => (u8o x26).bind fun z115 => some (.ok ((⟨(5 : UInt8), z115, 0, 0, c35.1⟩ : zj), x27, c35.2))
def zf4 (R_check_checker_vals : zb → (List zc) → (List UInt8) → Option (Except (Value × zb) ((List zj) × zb))) (R_check_checker_exp : zb → zc → Option (Except (Value × zb) (zj × Int × zb))) (R_check_checker_place : zb → zc → Option (Except (Value × zb) (zj × Int × zb))) (R_check_checker_unary : zb → zc → Option (Except (Value × zb) (zj × Int × zb))) (R_check_checker_binary : zb → zc → Option (Except (Value × zb) (zj × Int × zb))) (q0 : zb) (p1 : zc) : Option (Except (Value × zb) (zj × Int × zb)) :=
 (if (zP p1.Op zqU) = true then zhI R_check_checker_vals q0 p1 q0.tree.Bodies q0.tree.Points q0.vars q0.scope 14 2 else zhI R_check_checker_vals q0 p1 q0.tree.Bodies q0.tree.Points q0.vars q0.scope 15 1)
def zcB (p1 : zc) (x286 : List zbh) (x290 : List zG) (x297 : Int) (x303 : Int) (c750 : Int) (x849 : List zM) (x854 : List zH) (x859 : List zI) (x864 : List Int) (x869 : List zj) (x874 : List UInt8) (x876 : Int) (x877 : Int) : Option (Except (Value × zb) (zj × Int × zb)) :=
 ((if (((p1.Kind.toNat : Int) == 7) && (c750 != 0)) = true then (u8o x876).bind fun z881 => (u8o x876).bind fun z882 => (zeQ x874 ([z881, z882] : List UInt8)).bind fun c887 => some c887 else some false)).bind fun c878 => zJ (zbx c878 9) (fun x895 => some (.error (x895, (⟨(⟨x286, x290⟩ : zm), (⟨x849, x297, x854⟩ : zw), x303, x859, x864⟩ : zb)))) fun c891 => (u8o c750).bind fun z901 => some (.ok ((⟨(6 : UInt8), z901, 0, 0, x869⟩ : zj), x877, (⟨(⟨x286, x290⟩ : zm), (⟨x849, x297, x854⟩ : zw), x303, x859, x864⟩ : zb)))
def zeA (p1 : zc) (x286 : List zbh) (x290 : List zG) (x297 : Int) (x303 : Int) (c750 : Int) (x943 : List zM) (x948 : List zH) (x953 : List zI) (x958 : List Int) (x963 : List zj) (x968 : List UInt8) (x970 : Bool) : Option (Except (Value × zb) (zj × Int × zb)) :=
 (if x970 = true then ((if (decide ((x968.length : Int) > 0)) = true then (zs x968 0).bind fun y975 => some ((y975.toNat : Int) == 2) else some false)).bind fun c972 => (if c972 = true then zcB p1 x286 x290 x297 x303 c750 x943 x948 x953 x958 x963 x968 2 2 else zcB p1 x286 x290 x297 x303 c750 x943 x948 x953 x958 x963 x968 1 2) else (if (c750 == 8) = true then (if (c750 == 8) = true then zcB p1 x286 x290 x297 x303 c750 x943 x948 x953 x958 x963 x968 1 2 else zcB p1 x286 x290 x297 x303 c750 x943 x948 x953 x958 x963 x968 1 1) else (if (c750 == 9) = true then (if (c750 == 9) = true then zcB p1 x286 x290 x297 x303 c750 x943 x948 x953 x958 x963 x968 1 2 else zcB p1 x286 x290 x297 x303 c750 x943 x948 x953 x958 x963 x968 1 1) else (if (c750 == 10) = true then (if (c750 == 10) = true then zcB p1 x286 x290 x297 x303 c750 x943 x948 x953 x958 x963 x968 1 2 else zcB p1 x286 x290 x297 x303 c750 x943 x948 x953 x958 x963 x968 1 1) else (if (c750 == 11) = true then zcB p1 x286 x290 x297 x303 c750 x943 x948 x953 x958 x963 x968 1 2 else zcB p1 x286 x290 x297 x303 c750 x943 x948 x953 x958 x963 x968 1 1)))))
def zd0 (p1 : zc) (x286 : List zbh) (x290 : List zG) (x297 : Int) (x303 : Int) (c750 : Int) (x908 : List zM) (x913 : List zH) (x918 : List zI) (x923 : List Int) (x928 : List zj) (x933 : List UInt8) (x935 : Bool) : Option (Except (Value × zb) (zj × Int × zb)) :=
 (if x935 = true then zcB p1 x286 x290 x297 x303 c750 x908 x913 x918 x923 x928 x933 2 2 else (if (c750 == 6) = true then zeA p1 x286 x290 x297 x303 c750 x908 x913 x918 x923 x928 x933 (c750 == 6) else zeA p1 x286 x290 x297 x303 c750 x908 x913 x918 x923 x928 x933 (c750 == 7)))
def zf7 (rec29 : (List zbh) → (List zG) → (List zM) → Int → (List zH) → Int → (List zI) → (List Int) → (List zj) → (List UInt8) → Int → Option (Except (Value × zb) (zj × Int × zb))) (R_check_checker_exp : zb → zc → Option (Except (Value × zb) (zj × Int × zb))) (p1 : zc) (x286 : List zbh) (x290 : List zG) (x295 : List zM) (x297 : Int) (x301 : List zH) (x303 : Int) (x307 : List zI) (x312 : List Int) (x317 : List zj) (x322 : List UInt8) (x324 : Int) : Option (Except (Value × zb) (zj × Int × zb)) :=
 (if (decide (x324 < (p1.Kids.length : Int))) = true then (zs p1.Kids x324).bind fun y660 => zJ (R_check_checker_exp (⟨(⟨x286, x290⟩ : zm), (⟨x295, x297, x301⟩ : zw), x303, x307, x312⟩ : zb) y660) (fun x674 => some (.error (x674.1, x674.2))) fun c670 => (room (x317.length + 1)).bind fun _ => (u8o c670.2.1).bind fun z744 => (room (x322.length + 1)).bind fun _ => rec29 c670.2.2.prog.Structs c670.2.2.prog.Funcs c670.2.2.tree.Bodies c670.2.2.tree.Main c670.2.2.tree.Points c670.2.2.fn c670.2.2.vars c670.2.2.scope (x317 ++ [(⟨c670.1.Kind, c670.1.Op, c670.1.Var, c670.1.Num, c670.1.Kids⟩ : zj)]) (x322 ++ [z744]) (IntKind.i64.wrap (x324 + 1)) else (zeG p1.Op).bind fun c750 => (if (c750 == 12) = true then zd0 p1 x286 x290 x297 x303 c750 x295 x301 x307 x312 x317 x322 (c750 == 12) else zd0 p1 x286 x290 x297 x303 c750 x295 x301 x307 x312 x317 x322 (c750 == 13)))
def zep (R_check_checker_exp : zb → zc → Option (Except (Value × zb) (zj × Int × zb))) (p1 : zc) : Nat → (List zbh) → (List zG) → (List zM) → Int → (List zH) → Int → (List zI) → (List Int) → (List zj) → (List UInt8) → Int → Option (Except (Value × zb) (zj × Int × zb))
 | 0, _, _, _, _, _, _, _, _, _, _, _ => none
 | n + 1, x286, x290, x295, x297, x301, x303, x307, x312, x317, x322, x324 => zf7 (zep R_check_checker_exp p1 n) R_check_checker_exp p1 x286 x290 x295 x297 x301 x303 x307 x312 x317 x322 x324
def zjE (R_check_checker_vals : zb → (List zc) → (List UInt8) → Option (Except (Value × zb) ((List zj) × zb))) (R_check_checker_exp : zb → zc → Option (Except (Value × zb) (zj × Int × zb))) (R_check_checker_place : zb → zc → Option (Except (Value × zb) (zj × Int × zb))) (R_check_checker_unary : zb → zc → Option (Except (Value × zb) (zj × Int × zb))) (R_check_checker_binary : zb → zc → Option (Except (Value × zb) (zj × Int × zb))) (q0 : zb) (p1 : zc) : Option (Except (Value × zb) (zj × Int × zb)) :=
 zep R_check_checker_exp p1 big q0.prog.Structs q0.prog.Funcs q0.tree.Bodies q0.tree.Main q0.tree.Points q0.fn q0.vars q0.scope ([]) ([]) 0
def zD : Nat → (zb → (List zc) → (List UInt8) → Option (Except (Value × zb) ((List zj) × zb))) × (zb → zc → Option (Except (Value × zb) (zj × Int × zb))) × (zb → zc → Option (Except (Value × zb) (zj × Int × zb))) × (zb → zc → Option (Except (Value × zb) (zj × Int × zb))) × (zb → zc → Option (Except (Value × zb) (zj × Int × zb)))
 | 0 => (fun _ _ _ => none, fun _ _ => none, fun _ _ => none, fun _ _ => none, fun _ _ => none)
 | gn + 1 => (ziD ((zD gn).1) ((zD gn).2.1) ((zD gn).2.2.1) ((zD gn).2.2.2.1) ((zD gn).2.2.2.2), zgs ((zD gn).1) ((zD gn).2.1) ((zD gn).2.2.1) ((zD gn).2.2.2.1) ((zD gn).2.2.2.2), zgh ((zD gn).1) ((zD gn).2.1) ((zD gn).2.2.1) ((zD gn).2.2.2.1) ((zD gn).2.2.2.2), zf4 ((zD gn).1) ((zD gn).2.1) ((zD gn).2.2.1) ((zD gn).2.2.2.1) ((zD gn).2.2.2.2), zjE ((zD gn).1) ((zD gn).2.1) ((zD gn).2.2.1) ((zD gn).2.2.2.1) ((zD gn).2.2.2.2))
def zcu (q0 : zb) (p1 : (List zc)) (p2 : (List UInt8)) : Option (Except (Value × zb) ((List zj) × zb)) := (zD big).1 q0 p1 p2
def zg9 (p0 : (List ByteArray)) : Option (List ByteArray) := (room p0.length).bind fun _ => some p0
def zef (q1 : zh) (p2 : zi) (x299 : List zbh) (x303 : List zG) (x308 : List zM) (x310 : Int) (x314 : List zH) (x316 : Int) (x320 : List zI) (x325 : List Int) (x329 : List zj) (x331 : Int) (x335 : List ByteArray) : Option (Except (Value × zb × zh) (zb × zh)) :=
 (room (x320.length + ([(⟨p2.Name, (⟨p2.Type_.Kind, p2.Type_.N, p2.Type_.Name⟩ : zz), x331, x335⟩ : zI)] : List zI).length)).bind fun _ => (room (x325.length + ([(x320.length : Int)] : List Int).length)).bind fun _ => some (.ok ((⟨(⟨x299, x303⟩ : zm), (⟨x308, x310, x314⟩ : zw), x316, (x320 ++ ([(⟨p2.Name, (⟨p2.Type_.Kind, p2.Type_.N, p2.Type_.Name⟩ : zz), x331, x335⟩ : zI)] : List zI)), (x325 ++ ([(x320.length : Int)] : List Int))⟩ : zb), (⟨q1.Kind, q1.Point, (x320.length : Int), q1.Field, q1.Call, x329, q1.Body, q1.Else⟩ : zh)))
def zfF (q0 : zb) (q1 : zh) (p2 : zi) : Option (Except (Value × zb × zh) (zb × zh)) :=
 (zeV q0 p2.Name).bind fun c5 => ((if (decide (c5 < 0)) = true then (zc8 q0 p2.Type_).bind fun c12 => some c12 else some false)).bind fun c9 => zJ (zbx c9 8) (fun x20 => some (.error (x20, q0, q1))) fun c16 => (if ((p2.Type_.Kind.toNat : Int) == 3) = true then zJ (zbx ((decide (p2.Type_.N ≥ 1)) && (decide (p2.Type_.N ≤ 16))) 9) (fun x364 => some (.error (x364, q0, q1))) fun c360 => zJ (zcu q0 p2.Kids []) (fun x372 => some (.error (x372.1, x372.2, q1))) fun c368 => zef q1 p2 c368.2.prog.Structs c368.2.prog.Funcs c368.2.tree.Bodies c368.2.tree.Main c368.2.tree.Points c368.2.fn c368.2.vars c368.2.scope q1.Kids p2.Type_.N ([]) else (if ((p2.Type_.Kind.toNat : Int) == 4) = true then (zfy q0 p2.Type_.Name).bind fun c438 => (zg9 c438.1).bind fun c446 => zJ (zcu q0 p2.Kids []) (fun x459 => some (.error (x459.1, x459.2, q1))) fun c455 => zef q1 p2 c455.2.prog.Structs c455.2.prog.Funcs c455.2.tree.Bodies c455.2.tree.Main c455.2.tree.Points c455.2.fn c455.2.vars c455.2.scope q1.Kids (c438.1.length : Int) c446 else zJ (zcu q0 p2.Kids ([p2.Type_.Kind] : List UInt8)) (fun x534 => some (.error (x534.1, x534.2, q1))) fun c530 => zef q1 p2 c530.2.prog.Structs c530.2.prog.Funcs c530.2.tree.Bodies c530.2.tree.Main c530.2.tree.Points c530.2.fn c530.2.vars c530.2.scope c530.1 1 ([])))
def zez (q1 : zh) (c5 : Int) (x409 : List zbh) (x413 : List zG) (x418 : List zM) (x420 : Int) (x424 : List zH) (x426 : Int) (x430 : List zI) (x435 : List Int) (x437 : Int) (x440 : List zj) : Option (Except (Value × zb × zh) (zb × zh)) :=
 some (.ok ((⟨(⟨x409, x413⟩ : zm), (⟨x418, x420, x424⟩ : zw), x426, x430, x435⟩ : zb), (⟨q1.Kind, q1.Point, c5, x437, q1.Call, x440, q1.Body, q1.Else⟩ : zh)))
def zfM (q0 : zb) (q1 : zh) (p2 : zi) : Option (Except (Value × zb × zh) (zb × zh)) :=
 zJ (zen q0 p2.Name) (fun x9 => some (.error (x9, q0, q1))) fun c5 => (if ((p2.Kind.toNat : Int) == 2) = true then (zs q0.vars c5).bind fun y443 => (zc3 y443.Type_).bind fun c456 => zJ (zbx c456 9) (fun x464 => some (.error (x464, q0, (⟨q1.Kind, q1.Point, c5, q1.Field, q1.Call, q1.Kids, q1.Body, q1.Else⟩ : zh)))) fun c460 => zJ (zcu q0 p2.Kids ([y443.Type_.Kind] : List UInt8)) (fun x478 => some (.error (x478.1, x478.2, (⟨q1.Kind, q1.Point, c5, q1.Field, q1.Call, q1.Kids, q1.Body, q1.Else⟩ : zh)))) fun c474 => zez q1 c5 c474.2.prog.Structs c474.2.prog.Funcs c474.2.tree.Bodies c474.2.tree.Main c474.2.tree.Points c474.2.fn c474.2.vars c474.2.scope q1.Field c474.1 else (if ((p2.Kind.toNat : Int) == 9) = true then zJ (zdI q0 c5 1) (fun x550 => some (.error (x550, q0, (⟨q1.Kind, q1.Point, c5, q1.Field, q1.Call, q1.Kids, q1.Body, q1.Else⟩ : zh)))) fun c546 => zJ (zcu q0 p2.Kids []) (fun x558 => some (.error (x558.1, x558.2, (⟨q1.Kind, q1.Point, c5, q1.Field, q1.Call, q1.Kids, q1.Body, q1.Else⟩ : zh)))) fun c554 => zez q1 c5 c554.2.prog.Structs c554.2.prog.Funcs c554.2.tree.Bodies c554.2.tree.Main c554.2.tree.Points c554.2.fn c554.2.vars c554.2.scope q1.Field c554.1 else (if ((p2.Kind.toNat : Int) == 3) = true then zJ (zdI q0 c5 3) (fun x630 => some (.error (x630, q0, (⟨q1.Kind, q1.Point, c5, q1.Field, q1.Call, q1.Kids, q1.Body, q1.Else⟩ : zh)))) fun c626 => zJ (zcu q0 p2.Kids ([(1 : UInt8), (1 : UInt8)] : List UInt8)) (fun x644 => some (.error (x644.1, x644.2, (⟨q1.Kind, q1.Point, c5, q1.Field, q1.Call, q1.Kids, q1.Body, q1.Else⟩ : zh)))) fun c640 => zez q1 c5 c640.2.prog.Structs c640.2.prog.Funcs c640.2.tree.Bodies c640.2.tree.Main c640.2.tree.Points c640.2.fn c640.2.vars c640.2.scope q1.Field c640.1 else (if ((p2.Kind.toNat : Int) == 4) = true then zJ (zdI q0 c5 4) (fun x716 => some (.error (x716, q0, (⟨q1.Kind, q1.Point, c5, q1.Field, q1.Call, q1.Kids, q1.Body, q1.Else⟩ : zh)))) fun c712 => zJ (zee q0 c5 p2.Field) (fun x724 => some (.error (x724, q0, (⟨q1.Kind, q1.Point, c5, q1.Field, q1.Call, q1.Kids, q1.Body, q1.Else⟩ : zh)))) fun c720 => zJ (zcu q0 p2.Kids ([(1 : UInt8)] : List UInt8)) (fun x738 => some (.error (x738.1, x738.2, (⟨q1.Kind, q1.Point, c5, c720, q1.Call, q1.Kids, q1.Body, q1.Else⟩ : zh)))) fun c734 => zez q1 c5 c734.2.prog.Structs c734.2.prog.Funcs c734.2.tree.Bodies c734.2.tree.Main c734.2.tree.Points c734.2.fn c734.2.vars c734.2.scope c720 c734.1 else zez q1 c5 q0.prog.Structs q0.prog.Funcs q0.tree.Bodies q0.tree.Main q0.tree.Points q0.fn q0.vars q0.scope q1.Field q1.Kids))))
def zfE (rec7 : (List zM) → (List zH) → (List zI) → (List Int) → (List UInt8) → Int → Option (Except (Value × zb × zh) (zb × zh))) (q0 : zb) (q1 : zh) (p2 : zi) (x57 : Int) (c58 : Int) (y70 : zG) (x218 : List zM) (x223 : List zH) (x228 : List zI) (x233 : List Int) (x240 : List UInt8) (x243 : Int) : Option (Except (Value × zb × zh) (zb × zh)) :=
 (if (decide (x243 < (y70.Params.length : Int))) = true then (zs y70.Params x243).bind fun y355 => (room (x240.length + 1)).bind fun _ => rec7 x218 x223 x228 x233 (x240 ++ [y355.Type_.Kind]) (IntKind.i64.wrap (x243 + 1)) else zJ (zcu (⟨(⟨q0.prog.Structs, q0.prog.Funcs⟩ : zm), (⟨x218, q0.tree.Main, x223⟩ : zw), q0.fn, x228, x233⟩ : zb) p2.Kids x240) (fun x372 => some (.error (x372.1, x372.2, (⟨q1.Kind, q1.Point, x57, q1.Field, c58, q1.Kids, q1.Body, q1.Else⟩ : zh)))) fun c368 => ((if (decide (x57 < 0)) = true then some true else (zs c368.2.vars x57).bind fun y440 => some ((y440.Type_.Kind.toNat : Int) == (y70.Result.Kind.toNat : Int)))).bind fun c437 => zJ (zbx c437 9) (fun x455 => some (.error (x455, c368.2, (⟨q1.Kind, q1.Point, x57, q1.Field, c58, c368.1, q1.Body, q1.Else⟩ : zh)))) fun c451 => some (.ok (c368.2, (⟨q1.Kind, q1.Point, x57, q1.Field, c58, c368.1, q1.Body, q1.Else⟩ : zh))))
def zfe (q0 : zb) (q1 : zh) (p2 : zi) (x57 : Int) (c58 : Int) (y70 : zG) : Nat → (List zM) → (List zH) → (List zI) → (List Int) → (List UInt8) → Int → Option (Except (Value × zb × zh) (zb × zh))
 | 0, _, _, _, _, _, _ => none
 | n + 1, x218, x223, x228, x233, x240, x243 => zfE (zfe q0 q1 p2 x57 c58 y70 n) q0 q1 p2 x57 c58 y70 x218 x223 x228 x233 x240 x243
def zfr (q0 : zb) (q1 : zh) (p2 : zi) (x40 : List zM) (x45 : List zH) (x50 : List zI) (x55 : List Int) (x57 : Int) : Option (Except (Value × zb × zh) (zb × zh)) :=
 (zeJ (⟨(⟨q0.prog.Structs, q0.prog.Funcs⟩ : zm), (⟨x40, q0.tree.Main, x45⟩ : zw), q0.fn, x50, x55⟩ : zb) p2.Call).bind fun c58 => zJ (zbx (decide (c58 ≥ 0)) 8) (fun x66 => some (.error (x66, (⟨(⟨q0.prog.Structs, q0.prog.Funcs⟩ : zm), (⟨x40, q0.tree.Main, x45⟩ : zw), q0.fn, x50, x55⟩ : zb), (⟨q1.Kind, q1.Point, x57, q1.Field, c58, q1.Kids, q1.Body, q1.Else⟩ : zh)))) fun c62 => (zs q0.prog.Funcs c58).bind fun y70 => zfe q0 q1 p2 x57 c58 y70 big x40 x45 x50 x55 ([]) 0
def zgD (q0 : zb) (q1 : zh) (p2 : zi) : Option (Except (Value × zb × zh) (zb × zh)) :=
 (if (!(zP p2.Name zqP)) = true then zJ (zen q0 p2.Name) (fun x468 => some (.error (x468, q0, q1))) fun c464 => (zs q0.vars c464).bind fun y472 => (zc3 y472.Type_).bind fun c483 => zJ (zbx c483 9) (fun x491 => some (.error (x491, q0, (⟨q1.Kind, q1.Point, c464, q1.Field, q1.Call, q1.Kids, q1.Body, q1.Else⟩ : zh)))) fun c487 => zfr q0 q1 p2 q0.tree.Bodies q0.tree.Points q0.vars q0.scope c464 else zfr q0 q1 p2 q0.tree.Bodies q0.tree.Points q0.vars q0.scope q1.Var)
def zdP (p0 : Int) (qf0 : zb) : Option zb :=
 (zdX qf0.scope 0 p0).bind fun y2 => some (⟨(⟨qf0.prog.Structs, qf0.prog.Funcs⟩ : zm), (⟨qf0.tree.Bodies, qf0.tree.Main, qf0.tree.Points⟩ : zw), qf0.fn, qf0.vars, y2⟩ : zb)
def zfU (rec4 : (List zbh) → (List zG) → (List zM) → Int → (List zH) → Int → (List zI) → (List Int) → (List zh) → Int → Option (Except (Value × zb) ((List zh) × zb))) (R_check_checker_stmt : zb → zi → Option (Except (Value × zb) (zh × zb))) (p1 : (List zi)) (x126 : List zbh) (x130 : List zG) (x135 : List zM) (x137 : Int) (x141 : List zH) (x143 : Int) (x147 : List zI) (x152 : List Int) (x157 : List zh) (x159 : Int) : Option (Except (Value × zb) ((List zh) × zb)) :=
 (if (decide (x159 < (p1.length : Int))) = true then (zs p1 x159).bind fun y262 => zJ (R_check_checker_stmt (⟨(⟨x126, x130⟩ : zm), (⟨x135, x137, x141⟩ : zw), x143, x147, x152⟩ : zb) y262) (fun x284 => some (.error (x284.1, x284.2))) fun c280 => (room (x157.length + 1)).bind fun _ => rec4 c280.2.prog.Structs c280.2.prog.Funcs c280.2.tree.Bodies c280.2.tree.Main c280.2.tree.Points c280.2.fn c280.2.vars c280.2.scope (x157 ++ [(⟨c280.1.Kind, c280.1.Point, c280.1.Var, c280.1.Field, c280.1.Call, c280.1.Kids, c280.1.Body, c280.1.Else⟩ : zh)]) (IntKind.i64.wrap (x159 + 1)) else some (.ok (x157, (⟨(⟨x126, x130⟩ : zm), (⟨x135, x137, x141⟩ : zw), x143, x147, x152⟩ : zb))))
def zei (R_check_checker_stmt : zb → zi → Option (Except (Value × zb) (zh × zb))) (p1 : (List zi)) : Nat → (List zbh) → (List zG) → (List zM) → Int → (List zH) → Int → (List zI) → (List Int) → (List zh) → Int → Option (Except (Value × zb) ((List zh) × zb))
 | 0, _, _, _, _, _, _, _, _, _, _ => none
 | n + 1, x126, x130, x135, x137, x141, x143, x147, x152, x157, x159 => zfU (zei R_check_checker_stmt p1 n) R_check_checker_stmt p1 x126 x130 x135 x137 x141 x143 x147 x152 x157 x159
def zgo (R_check_checker_list : zb → (List zi) → Option (Except (Value × zb) ((List zh) × zb))) (R_check_checker_stmt : zb → zi → Option (Except (Value × zb) (zh × zb))) (q0 : zb) (p1 : (List zi)) : Option (Except (Value × zb) ((List zh) × zb)) :=
 zei R_check_checker_stmt p1 big q0.prog.Structs q0.prog.Funcs q0.tree.Bodies q0.tree.Main q0.tree.Points q0.fn q0.vars q0.scope ([]) 0
def zga (R_check_checker_list : zb → (List zi) → Option (Except (Value × zb) ((List zh) × zb))) (R_check_checker_stmt : zb → zi → Option (Except (Value × zb) (zh × zb))) (q0 : zb) (p1 : (List zi)) : Option (Except (Value × zb) ((List zh) × zb)) :=
 (zgo R_check_checker_list R_check_checker_stmt q0 p1).bind fun r => match r with
  | .ok c => (zdP (q0.scope.length : Int) c.2).bind fun q => some (.ok (c.1, q))
  | .error c => (zdP (q0.scope.length : Int) c.2).bind fun q => some (.error (c.1, q))
def zcO (x1008 : List zbh) (x1012 : List zG) (x1017 : List zM) (x1019 : Int) (x1023 : List zH) (x1025 : Int) (x1029 : List zI) (x1034 : List Int) (x1036 : UInt8) (x1037 : Int) (x1038 : Int) (x1039 : Int) (x1040 : Int) (x1043 : List zj) (x1047 : List zh) (x1051 : List zh) : Option (Except (Value × zb) (zh × zb)) :=
 some (.ok ((⟨x1036, x1037, x1038, x1039, x1040, x1043, x1047, x1051⟩ : zh), (⟨(⟨x1008, x1012⟩ : zm), (⟨x1017, x1019, x1023⟩ : zw), x1025, x1029, x1034⟩ : zb)))
def zd1 (R_check_checker_list : zb → (List zi) → Option (Except (Value × zb) ((List zh) × zb))) (q0 : zb) (p1 : zi) (x1348 : List zM) (x1353 : List zH) (x1358 : List zI) (x1363 : List Int) (x1365 : Bool) : Option (Except (Value × zb) (zh × zb)) :=
 (if x1365 = true then zJ (zcu (⟨(⟨q0.prog.Structs, q0.prog.Funcs⟩ : zm), (⟨x1348, q0.tree.Main, x1353⟩ : zw), q0.fn, x1358, x1363⟩ : zb) p1.Kids ([(2 : UInt8)] : List UInt8)) (fun x1377 => some (.error (x1377.1, x1377.2))) fun c1373 => zJ (R_check_checker_list c1373.2 p1.Body) (fun x1446 => some (.error (x1446.1, x1446.2))) fun c1442 => (if ((p1.Kind.toNat : Int) == 6) = true then zJ (R_check_checker_list c1442.2 p1.Else) (fun x1516 => some (.error (x1516.1, x1516.2))) fun c1512 => zcO c1512.2.prog.Structs c1512.2.prog.Funcs c1512.2.tree.Bodies c1512.2.tree.Main c1512.2.tree.Points c1512.2.fn c1512.2.vars c1512.2.scope p1.Kind (q0.tree.Points.length : Int) (-1) 0 (-1) c1373.1 c1442.1 c1512.1 else zcO c1442.2.prog.Structs c1442.2.prog.Funcs c1442.2.tree.Bodies c1442.2.tree.Main c1442.2.tree.Points c1442.2.fn c1442.2.vars c1442.2.scope p1.Kind (q0.tree.Points.length : Int) (-1) 0 (-1) c1373.1 c1442.1 ([])) else (if ((p1.Kind.toNat : Int) == 8) = true then zJ (zcu (⟨(⟨q0.prog.Structs, q0.prog.Funcs⟩ : zm), (⟨x1348, q0.tree.Main, x1353⟩ : zw), q0.fn, x1358, x1363⟩ : zb) p1.Kids ([(1 : UInt8)] : List UInt8)) (fun x1602 => some (.error (x1602.1, x1602.2))) fun c1598 => zcO c1598.2.prog.Structs c1598.2.prog.Funcs c1598.2.tree.Bodies c1598.2.tree.Main c1598.2.tree.Points c1598.2.fn c1598.2.vars c1598.2.scope p1.Kind (q0.tree.Points.length : Int) (-1) 0 (-1) c1598.1 ([]) ([]) else (if ((p1.Kind.toNat : Int) == 10) = true then (zs q0.prog.Funcs q0.fn).bind fun y1670 => (if ((y1670.Result.Kind.toNat : Int) != 0) = true then zJ (zcu (⟨(⟨q0.prog.Structs, q0.prog.Funcs⟩ : zm), (⟨x1348, q0.tree.Main, x1353⟩ : zw), q0.fn, x1358, x1363⟩ : zb) p1.Kids ([y1670.Result.Kind] : List UInt8)) (fun x1695 => some (.error (x1695.1, x1695.2))) fun c1691 => zcO c1691.2.prog.Structs c1691.2.prog.Funcs c1691.2.tree.Bodies c1691.2.tree.Main c1691.2.tree.Points c1691.2.fn c1691.2.vars c1691.2.scope p1.Kind (q0.tree.Points.length : Int) (-1) 0 (-1) c1691.1 ([]) ([]) else zJ (zcu (⟨(⟨q0.prog.Structs, q0.prog.Funcs⟩ : zm), (⟨x1348, q0.tree.Main, x1353⟩ : zw), q0.fn, x1358, x1363⟩ : zb) p1.Kids []) (fun x1766 => some (.error (x1766.1, x1766.2))) fun c1762 => zcO c1762.2.prog.Structs c1762.2.prog.Funcs c1762.2.tree.Bodies c1762.2.tree.Main c1762.2.tree.Points c1762.2.fn c1762.2.vars c1762.2.scope p1.Kind (q0.tree.Points.length : Int) (-1) 0 (-1) c1762.1 ([]) ([])) else zJ (zcu (⟨(⟨q0.prog.Structs, q0.prog.Funcs⟩ : zm), (⟨x1348, q0.tree.Main, x1353⟩ : zw), q0.fn, x1358, x1363⟩ : zb) p1.Kids []) (fun x1837 => some (.error (x1837.1, x1837.2))) fun c1833 => zJ (zbx false 9) (fun x1906 => some (.error (x1906, c1833.2))) fun c1902 => zcO c1833.2.prog.Structs c1833.2.prog.Funcs c1833.2.tree.Bodies c1833.2.tree.Main c1833.2.tree.Points c1833.2.fn c1833.2.vars c1833.2.scope p1.Kind (q0.tree.Points.length : Int) (-1) 0 (-1) ([]) ([]) ([]))))
def zdx (R_check_checker_list : zb → (List zi) → Option (Except (Value × zb) ((List zh) × zb))) (q0 : zb) (p1 : zi) (x1148 : List zM) (x1153 : List zH) (x1158 : List zI) (x1163 : List Int) (x1165 : Bool) : Option (Except (Value × zb) (zh × zb)) :=
 (if x1165 = true then zJ (zfM (⟨(⟨q0.prog.Structs, q0.prog.Funcs⟩ : zm), (⟨x1148, q0.tree.Main, x1153⟩ : zw), q0.fn, x1158, x1163⟩ : zb) (⟨p1.Kind, (q0.tree.Points.length : Int), (-1), 0, (-1), [], [], []⟩ : zh) p1) (fun x1171 => some (.error (x1171.1, x1171.2.1))) fun c1167 => zcO c1167.1.prog.Structs c1167.1.prog.Funcs c1167.1.tree.Bodies c1167.1.tree.Main c1167.1.tree.Points c1167.1.fn c1167.1.vars c1167.1.scope c1167.2.Kind c1167.2.Point c1167.2.Var c1167.2.Field c1167.2.Call c1167.2.Kids c1167.2.Body c1167.2.Else else (if ((p1.Kind.toNat : Int) == 5) = true then zJ (zgD (⟨(⟨q0.prog.Structs, q0.prog.Funcs⟩ : zm), (⟨x1148, q0.tree.Main, x1153⟩ : zw), q0.fn, x1158, x1163⟩ : zb) (⟨p1.Kind, (q0.tree.Points.length : Int), (-1), 0, (-1), [], [], []⟩ : zh) p1) (fun x1260 => some (.error (x1260.1, x1260.2.1))) fun c1256 => zcO c1256.1.prog.Structs c1256.1.prog.Funcs c1256.1.tree.Bodies c1256.1.tree.Main c1256.1.tree.Points c1256.1.fn c1256.1.vars c1256.1.scope c1256.2.Kind c1256.2.Point c1256.2.Var c1256.2.Field c1256.2.Call c1256.2.Kids c1256.2.Body c1256.2.Else else (if ((p1.Kind.toNat : Int) == 6) = true then zd1 R_check_checker_list q0 p1 x1148 x1153 x1158 x1163 ((p1.Kind.toNat : Int) == 6) else zd1 R_check_checker_list q0 p1 x1148 x1153 x1158 x1163 ((p1.Kind.toNat : Int) == 7))))
def zgj (R_check_checker_list : zb → (List zi) → Option (Except (Value × zb) ((List zh) × zb))) (R_check_checker_stmt : zb → zi → Option (Except (Value × zb) (zh × zb))) (q0 : zb) (p1 : zi) : Option (Except (Value × zb) (zh × zb)) :=
 (zhy q0.scope).bind fun c6 => (room (q0.tree.Points.length + ([(⟨q0.fn, p1.Line, c6⟩ : zH)] : List zH).length)).bind fun _ => (if ((p1.Kind.toNat : Int) == 1) = true then zJ (zfF (⟨(⟨q0.prog.Structs, q0.prog.Funcs⟩ : zm), (⟨q0.tree.Bodies, q0.tree.Main, (q0.tree.Points ++ ([(⟨q0.fn, p1.Line, c6⟩ : zH)] : List zH))⟩ : zw), q0.fn, q0.vars, q0.scope⟩ : zb) (⟨p1.Kind, (q0.tree.Points.length : Int), (-1), 0, (-1), [], [], []⟩ : zh) p1) (fun x1058 => some (.error (x1058.1, x1058.2.1))) fun c1054 => zcO c1054.1.prog.Structs c1054.1.prog.Funcs c1054.1.tree.Bodies c1054.1.tree.Main c1054.1.tree.Points c1054.1.fn c1054.1.vars c1054.1.scope c1054.2.Kind c1054.2.Point c1054.2.Var c1054.2.Field c1054.2.Call c1054.2.Kids c1054.2.Body c1054.2.Else else (if ((p1.Kind.toNat : Int) == 2) = true then zdx R_check_checker_list q0 p1 q0.tree.Bodies (q0.tree.Points ++ ([(⟨q0.fn, p1.Line, c6⟩ : zH)] : List zH)) q0.vars q0.scope ((p1.Kind.toNat : Int) == 2) else (if ((p1.Kind.toNat : Int) == 3) = true then zdx R_check_checker_list q0 p1 q0.tree.Bodies (q0.tree.Points ++ ([(⟨q0.fn, p1.Line, c6⟩ : zH)] : List zH)) q0.vars q0.scope ((p1.Kind.toNat : Int) == 3) else (if ((p1.Kind.toNat : Int) == 4) = true then zdx R_check_checker_list q0 p1 q0.tree.Bodies (q0.tree.Points ++ ([(⟨q0.fn, p1.Line, c6⟩ : zH)] : List zH)) q0.vars q0.scope ((p1.Kind.toNat : Int) == 4) else zdx R_check_checker_list q0 p1 q0.tree.Bodies (q0.tree.Points ++ ([(⟨q0.fn, p1.Line, c6⟩ : zH)] : List zH)) q0.vars q0.scope ((p1.Kind.toNat : Int) == 9)))))
def zb1 : Nat → (zb → (List zi) → Option (Except (Value × zb) ((List zh) × zb))) × (zb → zi → Option (Except (Value × zb) (zh × zb)))
 | 0 => (fun _ _ => none, fun _ _ => none)
 | gn + 1 => (zga ((zb1 gn).1) ((zb1 gn).2), zgj ((zb1 gn).1) ((zb1 gn).2))
def zfK (q0 : zb) (p1 : (List zi)) : Option (Except (Value × zb) ((List zh) × zb)) := (zb1 big).1 q0 p1
def zgz (R_check_returns : (List zi) → Option Bool) (p0 : (List zi)) : Option Bool :=
 (if ((p0.length : Int) == 0) = true then some false else (zs p0 (IntKind.i64.wrap ((p0.length : Int) - 1))).bind fun y3 => ((if ((y3.Kind.toNat : Int) == 10) = true then some true else (if ((y3.Kind.toNat : Int) == 6) = true then (R_check_returns y3.Body).bind fun c25 => (if c25 = true then (R_check_returns y3.Else).bind fun c30 => some c30 else some false) else (if false = true then (R_check_returns y3.Else).bind fun c35 => some c35 else some false)))).bind fun c21 => some c21)
def zfa : Nat → ((List zi) → Option Bool)
 | 0 => fun _ => none
 | gn + 1 => zgz (zfa gn)
def zg5 (p0 : (List zi)) : Option Bool := (zfa big) p0
def zeN (q0 : zb) (p1 : ByteArray) : Option Int :=
 (zf0 q0.prog.Funcs p1).bind fun c6 => some c6
def zfD (rec4 : (List zM) → (List zH) → (List zI) → (List Int) → (List ByteArray) → Bool → Int → Option (Except (Value × zb) (zb))) (q0 : zb) (p1 : Int) (y3 : zG) (x241 : List zM) (x246 : List zH) (x251 : List zI) (x256 : List Int) (x263 : List ByteArray) (x265 : Bool) (x267 : Int) : Option (Except (Value × zb) (zb)) :=
 (if (decide (x267 < (y3.Params.length : Int))) = true then (zs y3.Params x267).bind fun y453 => (room (x263.length + 1)).bind fun _ => (zc8 (⟨(⟨q0.prog.Structs, q0.prog.Funcs⟩ : zm), (⟨x241, q0.tree.Main, x246⟩ : zw), p1, x251, x256⟩ : zb) y453.Type_).bind fun c464 => ((if c464 = true then (zgv (x263 ++ [y453.Name])).bind fun c471 => some (!c471) else some false)).bind fun c468 => zJ (zbx c468 8) (fun x479 => some (.error (x479, (⟨(⟨q0.prog.Structs, q0.prog.Funcs⟩ : zm), (⟨x241, q0.tree.Main, x246⟩ : zw), p1, x251, x256⟩ : zb)))) fun c475 => ((if x265 = true then (zc3 y453.Type_).bind fun c488 => some c488 else some false)).bind fun c485 => (room (x251.length + ([(⟨y453.Name, (⟨y453.Type_.Kind, y453.Type_.N, y453.Type_.Name⟩ : zz), 1, []⟩ : zI)] : List zI).length)).bind fun _ => (room (x256.length + 1)).bind fun _ => rec4 x241 x246 (x251 ++ ([(⟨y453.Name, (⟨y453.Type_.Kind, y453.Type_.N, y453.Type_.Name⟩ : zz), 1, []⟩ : zI)] : List zI)) (x256 ++ [x267]) (x263 ++ [y453.Name]) c485 (IntKind.i64.wrap (x267 + 1)) else (zc8 (⟨(⟨q0.prog.Structs, q0.prog.Funcs⟩ : zm), (⟨x241, q0.tree.Main, x246⟩ : zw), p1, x251, x256⟩ : zb) y3.Result).bind fun c508 => zJ (zbx c508 8) (fun x516 => some (.error (x516, (⟨(⟨q0.prog.Structs, q0.prog.Funcs⟩ : zm), (⟨x241, q0.tree.Main, x246⟩ : zw), p1, x251, x256⟩ : zb)))) fun c512 => zJ (zbx x265 9) (fun x526 => some (.error (x526, (⟨(⟨q0.prog.Structs, q0.prog.Funcs⟩ : zm), (⟨x241, q0.tree.Main, x246⟩ : zw), p1, x251, x256⟩ : zb)))) fun c522 => zJ (zfK (⟨(⟨q0.prog.Structs, q0.prog.Funcs⟩ : zm), (⟨x241, q0.tree.Main, x246⟩ : zw), p1, x251, x256⟩ : zb) y3.Body) (fun x536 => some (.error (x536.1, x536.2))) fun c532 => ((if (!((y3.Result.Kind.toNat : Int) != 0)) = true then some true else (zg5 y3.Body).bind fun c606 => some c606)).bind fun c603 => zJ (zbx c603 10) (fun x614 => some (.error (x614, c532.2))) fun c610 => (room (c532.2.tree.Bodies.length + ([(⟨y3.Name, (y3.Params.length : Int), ((y3.Result.Kind.toNat : Int) != 0), c532.2.vars, c532.1⟩ : zM)] : List zM).length)).bind fun _ => some (.ok (⟨(⟨c532.2.prog.Structs, c532.2.prog.Funcs⟩ : zm), (⟨(c532.2.tree.Bodies ++ ([(⟨y3.Name, (y3.Params.length : Int), ((y3.Result.Kind.toNat : Int) != 0), c532.2.vars, c532.1⟩ : zM)] : List zM)), c532.2.tree.Main, c532.2.tree.Points⟩ : zw), c532.2.fn, c532.2.vars, c532.2.scope⟩ : zb)))
def zfb (q0 : zb) (p1 : Int) (y3 : zG) : Nat → (List zM) → (List zH) → (List zI) → (List Int) → (List ByteArray) → Bool → Int → Option (Except (Value × zb) (zb))
 | 0, _, _, _, _, _, _, _ => none
 | n + 1, x241, x246, x251, x256, x263, x265, x267 => zfD (zfb q0 p1 y3 n) q0 p1 y3 x241 x246 x251 x256 x263 x265 x267
def zdw (q0 : zb) (p1 : Int) : Option (Except (Value × zb) (zb)) :=
 (zs q0.prog.Funcs p1).bind fun y3 => (zeN q0 y3.Name).bind fun c17 => zJ (zbx (c17 == p1) 8) (fun x25 => some (.error (x25, q0))) fun c21 => ((if (decide ((y3.Params.length : Int) ≤ 6)) = true then (if ((y3.Result.Kind.toNat : Int) == 0) = true then some true else (zc3 y3.Result).bind fun c33 => some c33) else some false)).bind fun c29 => zfb q0 p1 y3 big q0.tree.Bodies q0.tree.Points ([]) ([]) ([]) c29 0
def zdB (q0 : zb) (p1 : Int) : Option (Except (Value) (Unit)) :=
 (zs q0.prog.Structs p1).bind fun y3 => (zgL q0.prog.Structs y3).bind fun c15 => ((if (c15 == p1) = true then (zgv y3.Fields).bind fun c22 => some (!c22) else some false)).bind fun c19 => zJ (zbx c19 8) (fun x30 => some (.error x30)) fun c26 => ((if (decide ((y3.Fields.length : Int) ≥ 1)) = true then some (decide ((y3.Fields.length : Int) ≤ 8)) else some false)).bind fun c34 => zJ (zbx c34 9) (fun x41 => some (.error x41)) fun c37 => some (.ok ())
def zdp : Value → Option Int
 | .iface 134 (.int .i64 k) => some k
 | _ => none
def wS (q : zb) : Nat → Int → Int → Option (Except (Int × Value) Int)
 | 0, _, _ => none
 | k + 1, n, i => if (decide (i < (q.prog.Structs.length : Int))) = true then (match zdB q i with
  | none => none
  | some (.error v) => some (.error (n, v))
  | some (.ok _) => wS q k (IntKind.i64.wrap (n + 1)) (IntKind.i64.wrap (i + 1))) else some (.ok n)
def wB (len : Nat) : Nat → zb → Int → Int → Option (Except (Int × Value × zb) (Int × zb))
 | 0, _, _, _ => none
 | k + 1, q, n, i => if (decide (i < (len : Int))) = true then (match zdw q i with
  | none => none
  | some (.error v) => some (.error (n, v.1, v.2))
  | some (.ok q') => wB len k q' (IntKind.i64.wrap (n + 1)) (IntKind.i64.wrap (i + 1))) else some (.ok (n, q))
def wM (q : zb) (m : Int) : zb := ⟨q.prog, ⟨q.tree.Bodies, m, q.tree.Points⟩, q.fn, q.vars, q.scope⟩
def wT (n : Int) (q : zb) : Option (Int × Int × zb) :=
 (zeN q zqR).bind fun m => match zbx (decide (m ≥ 0)) 8 with
  | none => none
  | some (.error v) => (zdp v).map fun k => (n, k, wM q m)
  | some (.ok _) => (zs q.prog.Funcs m).bind fun d => match zbx (((d.Params.length : Int) == 0) && ((d.Result.Kind.toNat : Int) == 0)) 8 with
   | none => none
   | some (.error v) => (zdp v).map fun k => (n, k, wM q m)
   | some (.ok _) => some (n, 0, wM q m)
def zdY (q0 : zb) : Option (Int × Int × zb) := match wS q0 big 0 0 with
 | none => none
 | some (.error x) => (zdp x.2).map fun k => (x.1, k, q0)
 | some (.ok n) => match wB q0.prog.Funcs.length big q0 n 0 with
  | none => none
  | some (.error x) => (zdp x.2.1).map fun k => (x.1, k, x.2.2)
  | some (.ok x) => wT x.1 x.2
def zjM (p0 : zM) : Option Bool :=
 some (decide ((p0.Vars.length : Int) > 64))
def zik (rec4 : Int → Option Int) (p0 : (List zM)) (x22 : Int) : Option Int :=
 (if (decide (x22 < (p0.length : Int))) = true then (zs p0 x22).bind fun y44 => (zjM y44).bind fun c57 => (if c57 = true then some x22 else rec4 (IntKind.i64.wrap (x22 + 1))) else some (-1))
def zhQ (p0 : (List zM)) : Nat → Int → Option Int
 | 0, _ => none
 | n + 1, x22 => zik (zhQ p0 n) p0 x22
def zhU (p0 : (List zM)) : Option Int :=
 zhQ p0 big 0
def zhe (p0 : (List zM)) : Option Bool :=
 (zhU p0).bind fun c3 => some (decide (c3 ≥ 0))
def zcI (p0 : zm) : Option (zw × Int × Int) :=
 (zdY (⟨(⟨p0.Structs, p0.Funcs⟩ : zm), (⟨([] : List zM), 0, ([] : List zH)⟩ : zw), 0, [], ([] : List Int)⟩ : zb)).bind fun c8 => (if (c8.2.1 != 0) = true then some ((⟨[], 0, []⟩ : zw), c8.1, c8.2.1) else (zhe c8.2.2.tree.Bodies).bind fun c40 => (if ((c40 || (decide ((p0.Funcs.length : Int) > 64))) || (decide ((c8.2.2.tree.Points.length : Int) > 1000))) = true then some ((⟨[], 0, []⟩ : zw), 0, 11) else some (c8.2.2.tree, 0, 0)))
def zgm (p0 : Int) : Option zc :=
 some (⟨(1 : UInt8), p0, zqP, zqP, zqP, []⟩ : zc)
def zgw (p0 : ByteArray) : Option zc :=
 some (⟨(3 : UInt8), 0, p0, zqP, zqP, []⟩ : zc)
def zgJ (p0 : ByteArray) (p1 : zc) (p2 : zc) : Option zc :=
 some (⟨(7 : UInt8), 0, zqP, zqP, p0, ([(⟨p1.Kind, p1.Num, p1.Name, p1.Field, p1.Op, p1.Kids⟩ : zc), (⟨p2.Kind, p2.Num, p2.Name, p2.Field, p2.Op, p2.Kids⟩ : zc)] : List zc)⟩ : zc)
def zeg (p0 : Int) : Option zm :=
 (zgw zqQ).bind fun c3 => (zgw zqQ).bind fun c15 => (zgm 1).bind fun c23 => (zgJ zqV c15 c23).bind fun c31 => (zgm p0).bind fun c51 => (zgw zqQ).bind fun c63 => (zgm 0).bind fun c71 => (zgJ zqW c63 c71).bind fun c79 => some (⟨[], ([(⟨zqR, 1, [], (⟨(0 : UInt8), 0, zqP⟩ : zz), ([(⟨(1 : UInt8), 1, zqQ, zqP, zqP, (⟨(1 : UInt8), 0, zqP⟩ : zz), ([(⟨c51.Kind, c51.Num, c51.Name, c51.Field, c51.Op, c51.Kids⟩ : zc)] : List zc), [], []⟩ : zi), (⟨(7 : UInt8), 2, zqP, zqP, zqP, (⟨(0 : UInt8), 0, zqP⟩ : zz), ([(⟨c79.Kind, c79.Num, c79.Name, c79.Field, c79.Op, c79.Kids⟩ : zc)] : List zc), ([(⟨(8 : UInt8), 3, zqP, zqP, zqP, (⟨(0 : UInt8), 0, zqP⟩ : zz), ([(⟨c3.Kind, c3.Num, c3.Name, c3.Field, c3.Op, c3.Kids⟩ : zc)] : List zc), [], []⟩ : zi), (⟨(2 : UInt8), 4, zqQ, zqP, zqP, (⟨(0 : UInt8), 0, zqP⟩ : zz), ([(⟨c31.Kind, c31.Num, c31.Name, c31.Field, c31.Op, c31.Kids⟩ : zc)] : List zc), [], []⟩ : zi)] : List zi), []⟩ : zi)] : List zi)⟩ : zG)] : List zG)⟩ : zm)
def ziL  : Option Bool :=
 some true
def zek (rec4 : Int → Option Bool) (R_ref13_SameVals : (List zj) → (List zj) → Option Bool) (p0 : (List zj)) (p1 : (List zj)) (x112 : Int) : Option Bool :=
 (if (decide (x112 < (p0.length : Int))) = true then (zs p0 x112).bind fun y223 => (zs p1 x112).bind fun y232 => ((if ((y223.Kind.toNat : Int) != (y232.Kind.toNat : Int)) = true then some true else (zs p0 x112).bind fun y244 => (zs p1 x112).bind fun y253 => some ((y244.Op.toNat : Int) != (y253.Op.toNat : Int)))).bind fun c241 => ((if c241 = true then some true else (zs p0 x112).bind fun y265 => (zs p1 x112).bind fun y274 => some (y265.Var != y274.Var))).bind fun c262 => ((if c262 = true then some true else (zs p0 x112).bind fun y286 => (zs p1 x112).bind fun y295 => some (y286.Num != y295.Num))).bind fun c283 => ((if c283 = true then some true else (zs p0 x112).bind fun y307 => (zs p1 x112).bind fun y316 => (R_ref13_SameVals y307.Kids y316.Kids).bind fun c325 => some (!c325))).bind fun c304 => (if c304 = true then some false else rec4 (IntKind.i64.wrap (x112 + 1))) else some true)
def zfn (R_ref13_SameVals : (List zj) → (List zj) → Option Bool) (p0 : (List zj)) (p1 : (List zj)) : Nat → Int → Option Bool
 | 0, _ => none
 | n + 1, x112 => zek (zfn R_ref13_SameVals p0 p1 n) R_ref13_SameVals p0 p1 x112
def zgF (R_ref13_SameVals : (List zj) → (List zj) → Option Bool) (p0 : (List zj)) (p1 : (List zj)) : Option Bool :=
 (if ((p0.length : Int) != (p1.length : Int)) = true then some false else zfn R_ref13_SameVals p0 p1 big 0)
def zcQ : Nat → ((List zj) → (List zj) → Option Bool)
 | 0 => fun _ _ => none
 | gn + 1 => zgF (zcQ gn)
def zh6 (p0 : (List zj)) (p1 : (List zj)) : Option Bool := (zcQ big) p0 p1
def zeh (rec4 : Int → Option Bool) (R_ref13_SameActs : (List zh) → (List zh) → Option Bool) (p0 : (List zh)) (p1 : (List zh)) (x63 : Int) : Option Bool :=
 (if (decide (x63 < (p0.length : Int))) = true then (zs p0 x63).bind fun y125 => (zs p1 x63).bind fun y143 => ((if ((((((y125.Kind.toNat : Int) != (y143.Kind.toNat : Int)) || (y125.Point != y143.Point)) || (y125.Var != y143.Var)) || (y125.Field != y143.Field)) || (y125.Call != y143.Call)) = true then some true else (zh6 y125.Kids y143.Kids).bind fun c164 => some (!c164))).bind fun c161 => ((if c161 = true then some true else (R_ref13_SameActs y125.Body y143.Body).bind fun c171 => some (!c171))).bind fun c168 => ((if c168 = true then some true else (R_ref13_SameActs y125.Else y143.Else).bind fun c178 => some (!c178))).bind fun c175 => (if c175 = true then some false else rec4 (IntKind.i64.wrap (x63 + 1))) else some true)
def zfm (R_ref13_SameActs : (List zh) → (List zh) → Option Bool) (p0 : (List zh)) (p1 : (List zh)) : Nat → Int → Option Bool
 | 0, _ => none
 | n + 1, x63 => zeh (zfm R_ref13_SameActs p0 p1 n) R_ref13_SameActs p0 p1 x63
def zgA (R_ref13_SameActs : (List zh) → (List zh) → Option Bool) (p0 : (List zh)) (p1 : (List zh)) : Option Bool :=
 (if ((p0.length : Int) != (p1.length : Int)) = true then some false else zfm R_ref13_SameActs p0 p1 big 0)
def zcT : Nat → ((List zh) → (List zh) → Option Bool)
 | 0 => fun _ _ => none
 | gn + 1 => zgA (zcT gn)
def zid (p0 : (List zh)) (p1 : (List zh)) : Option Bool := (zcT big) p0 p1
def zd7 (rec4 : Int → Option Bool) (p0 : (List Int)) (p1 : (List Int)) (x16 : Int) : Option Bool :=
 (if (decide (x16 < (p0.length : Int))) = true then (zs p0 x16).bind fun y31 => (zs p1 x16).bind fun y36 => (if (y31 != y36) = true then some false else rec4 (IntKind.i64.wrap (x16 + 1))) else some true)
def zeY (p0 : (List Int)) (p1 : (List Int)) : Nat → Int → Option Bool
 | 0, _ => none
 | n + 1, x16 => zd7 (zeY p0 p1 n) p0 p1 x16
def zgd (p0 : (List Int)) (p1 : (List Int)) : Option Bool :=
 (if ((p0.length : Int) != (p1.length : Int)) = true then some false else zeY p0 p1 big 0)
def zes (rec4 : Int → Option Bool) (p0 : (List zH)) (p1 : (List zH)) (x70 : Int) : Option Bool :=
 (if (decide (x70 < (p0.length : Int))) = true then (zs p0 x70).bind fun y139 => (zs p1 x70).bind fun y148 => ((if (y139.Func != y148.Func) = true then some true else (zs p0 x70).bind fun y160 => (zs p1 x70).bind fun y169 => some (y160.Line != y169.Line))).bind fun c157 => ((if c157 = true then some true else (zs p0 x70).bind fun y181 => (zs p1 x70).bind fun y190 => (zgd y181.Scope y190.Scope).bind fun c199 => some (!c199))).bind fun c178 => (if c178 = true then some false else rec4 (IntKind.i64.wrap (x70 + 1))) else some true)
def ze6 (p0 : (List zH)) (p1 : (List zH)) : Nat → Int → Option Bool
 | 0, _ => none
 | n + 1, x70 => zes (ze6 p0 p1 n) p0 p1 x70
def zfd (p0 : (List zH)) (p1 : (List zH)) : Option Bool :=
 (if ((p0.length : Int) != (p1.length : Int)) = true then some false else ze6 p0 p1 big 0)
def zdU (p0 : ByteArray) : Option ByteArray :=
 (if (zP p0 zqP) = true then some p0 else (zgY p0 (⟨#[95, 113]⟩ : ByteArray)).bind fun y3 => some y3)
def zfI (rec4 : (List zc) → Int → Option (List zc)) (R_law13_turnExps : (List zc) → Option (List zc)) (p0 : (List zc)) (x37 : List zc) (x39 : Int) : Option (List zc) :=
 (if (decide (x39 < (p0.length : Int))) = true then (zs p0 x39).bind fun y73 => (zdU y73.Name).bind fun c83 => (R_law13_turnExps y73.Kids).bind fun c87 => (room (x37.length + 1)).bind fun _ => rec4 (x37 ++ [(⟨y73.Kind, y73.Num, c83, y73.Field, y73.Op, c87⟩ : zc)]) (IntKind.i64.wrap (x39 + 1)) else some x37)
def zew (R_law13_turnExps : (List zc) → Option (List zc)) (p0 : (List zc)) : Nat → (List zc) → Int → Option (List zc)
 | 0, _, _ => none
 | n + 1, x37, x39 => zfI (zew R_law13_turnExps p0 n) R_law13_turnExps p0 x37 x39
def zi6 (R_law13_turnExps : (List zc) → Option (List zc)) (p0 : (List zc)) : Option (List zc) :=
 zew R_law13_turnExps p0 big ([]) 0
def zdl : Nat → ((List zc) → Option (List zc))
 | 0 => fun _ => none
 | gn + 1 => zi6 (zdl gn)
def zjT (p0 : (List zc)) : Option (List zc) := (zdl big) p0
def zgt (rec4 : (List zi) → Int → Option (List zi)) (R_law13_turnStmts : (List zi) → Option (List zi)) (p0 : (List zi)) (x67 : List zi) (x69 : Int) : Option (List zi) :=
 (if (decide (x69 < (p0.length : Int))) = true then (zs p0 x69).bind fun y133 => (zdU y133.Name).bind fun c151 => (zjT y133.Kids).bind fun c155 => (R_law13_turnStmts y133.Body).bind fun c164 => (R_law13_turnStmts y133.Else).bind fun c173 => (room (2 * (x67.length + 1))).bind fun _ => rec4 (x67 ++ [(⟨y133.Kind, y133.Line, c151, y133.Field, y133.Call, (⟨y133.Type_.Kind, y133.Type_.N, y133.Type_.Name⟩ : zz), c155, c164, c173⟩ : zi)]) (IntKind.i64.wrap (x69 + 1)) else some x67)
def zeE (R_law13_turnStmts : (List zi) → Option (List zi)) (p0 : (List zi)) : Nat → (List zi) → Int → Option (List zi)
 | 0, _, _ => none
 | n + 1, x67, x69 => zgt (zeE R_law13_turnStmts p0 n) R_law13_turnStmts p0 x67 x69
def ziF (R_law13_turnStmts : (List zi) → Option (List zi)) (p0 : (List zi)) : Option (List zi) :=
 zeE R_law13_turnStmts p0 big ([]) 0
def zdh : Nat → ((List zi) → Option (List zi))
 | 0 => fun _ => none
 | gn + 1 => ziF (zdh gn)
def zhZ (p0 : (List zi)) : Option (List zi) := (zdh big) p0
def zf6 (rec56 : (List zG) → (List zbM) → (List zi) → Int → Option Bool) (rec54 : (List zG) → Int → Option Bool) (p0 : zm) (x1113 : Int) (y2220 : zG) (x2327 : List zG) (x2332 : List zbM) (x2337 : List zi) (x2339 : Int) : Option Bool :=
 (zs p0.Funcs x1113).bind fun y2413 => (if (decide (x2339 < (y2413.Params.length : Int))) = true then (zs p0.Funcs x1113).bind fun y2427 => (zs y2427.Params x2339).bind fun y2440 => (zs p0.Funcs x1113).bind fun y2445 => (zs y2445.Params x2339).bind fun y2458 => (zdU y2440.Name).bind fun c2463 => (room (x2332.length + ([(⟨c2463, (⟨y2458.Type_.Kind, y2458.Type_.N, y2458.Type_.Name⟩ : zz)⟩ : zbM)] : List zbM).length)).bind fun _ => rec56 x2327 (x2332 ++ ([(⟨c2463, (⟨y2458.Type_.Kind, y2458.Type_.N, y2458.Type_.Name⟩ : zz)⟩ : zbM)] : List zbM)) x2337 (IntKind.i64.wrap (x2339 + 1)) else (room (x2327.length + 1)).bind fun _ => rec54 (x2327 ++ [(⟨y2220.Name, y2220.Line, x2332, (⟨y2220.Result.Kind, y2220.Result.N, y2220.Result.Name⟩ : zz), x2337⟩ : zG)]) (IntKind.i64.wrap (x1113 + 1)))
def ze9 (rec54 : (List zG) → Int → Option Bool) (p0 : zm) (x1113 : Int) (y2220 : zG) : Nat → (List zG) → (List zbM) → (List zi) → Int → Option Bool
 | 0, _, _, _, _ => none
 | n + 1, x2327, x2332, x2337, x2339 => zf6 (ze9 rec54 p0 x1113 y2220 n) rec54 p0 x1113 y2220 x2327 x2332 x2337 x2339
def zfO (rec64 : Int → Option Bool) (rec62 : Int → Option Bool) (c2485 : zw × Int × Int) (c2500 : zw × Int × Int) (x2793 : Int) (x3191 : Int) : Option Bool :=
 (zs c2485.1.Bodies x2793).bind fun y3256 => (if (decide (x3191 < (y3256.Vars.length : Int))) = true then (zs c2485.1.Bodies x2793).bind fun y3270 => (zs y3270.Vars x3191).bind fun y3283 => (zs c2500.1.Bodies x2793).bind fun y3292 => (zs y3292.Vars x3191).bind fun y3305 => (zdU y3283.Name).bind fun c3314 => (if (!(zP c3314 y3305.Name)) = true then some false else rec64 (IntKind.i64.wrap (x3191 + 1))) else rec62 (IntKind.i64.wrap (x2793 + 1)))
def zeP (rec62 : Int → Option Bool) (c2485 : zw × Int × Int) (c2500 : zw × Int × Int) (x2793 : Int) : Nat → Int → Option Bool
 | 0, _ => none
 | n + 1, x3191 => zfO (zeP rec62 c2485 c2500 x2793 n) rec62 c2485 c2500 x2793 x3191
def zem (rec62 : Int → Option Bool) (c2485 : zw × Int × Int) (c2500 : zw × Int × Int) (x2793 : Int) : Option Bool :=
 (if (decide (x2793 < (c2485.1.Bodies.length : Int))) = true then (zs c2485.1.Bodies x2793).bind fun y3060 => (zs c2500.1.Bodies x2793).bind fun y3073 => (zid y3060.Acts y3073.Acts).bind fun c3086 => ((if (!c3086) = true then some true else (zs c2485.1.Bodies x2793).bind fun y3093 => (zs c2500.1.Bodies x2793).bind fun y3106 => some ((y3093.Vars.length : Int) != (y3106.Vars.length : Int)))).bind fun c3090 => (if c3090 = true then some false else zeP rec62 c2485 c2500 x2793 big 0) else (ziL ).bind fun c3319 => some c3319)
def zcN (c2485 : zw × Int × Int) (c2500 : zw × Int × Int) : Nat → Int → Option Bool
 | 0, _ => none
 | n + 1, x2793 => zem (zcN c2485 c2500 n) c2485 c2500 x2793
def zer (rec54 : (List zG) → Int → Option Bool) (p0 : zm) (x1111 : List zG) (x1113 : Int) : Option Bool :=
 (if (decide (x1113 < (p0.Funcs.length : Int))) = true then (zs p0.Funcs x1113).bind fun y2220 => (zhZ y2220.Body).bind fun c2234 => ze9 rec54 p0 x1113 y2220 big x1111 ([]) c2234 0 else (zcI p0).bind fun c2485 => (zcI (⟨p0.Structs, x1111⟩ : zm)).bind fun c2500 => ((if (((c2485.2.1 != c2500.2.1) || (c2485.2.2 != c2500.2.2)) || ((c2485.1.Bodies.length : Int) != (c2500.1.Bodies.length : Int))) = true then some true else (zfd c2485.1.Points c2500.1.Points).bind fun c2516 => some (!c2516))).bind fun c2513 => (if c2513 = true then some false else zcN c2485 c2500 big 0))
def zdq (p0 : zm) : Nat → (List zG) → Int → Option Bool
 | 0, _, _ => none
 | n + 1, x1111, x1113 => zer (zdq p0 n) p0 x1111 x1113
def zhv (p0 : zm) : Option Bool :=
 (zf2 p0).bind fun c3 => (if (decide (c3 > 3000)) = true then (ziL ).bind fun c8 => some c8 else zdq p0 big ([]) 0)
end Go.Proofs.Ytakcaekikfcbpaa
