import Derived.Test.YtakcaekikfcbpaaFM
namespace Go.Proofs.Ytakcaekikfcbpaa
open Go.Ab Go.RowKit
set_option linter.unusedVariables false
set_option linter.unusedSimpArgs false
set_option maxRecDepth 10000
set_option maxHeartbeats 1000000
structure zD where
 Kind : UInt8
 N : Int
 Name : ByteArray
 deriving DecidableEq
def zn2 : Ty zD where
 sz := 3
 R := fun σ x cs => cs = [.int .u8 x.Kind.toNat, .int .i64 x.N, .string x.Name]
 len := by rintro σ x cs rfl; rfl
 one := by rintro σ x cs rfl; rfl
 mono := by rintro σ σ' x cs hle rfl; rfl
structure zc where
 Kind : UInt8
 Num : Int
 Name : ByteArray
 Field : ByteArray
 Op : ByteArray
 Kids : (List zc)
def zkF (T : Ty zc) : Ty zc where
 sz := 6
 R := fun σ x cs => ∃ v5, cs = [.int .u8 x.Kind.toNat, .int .i64 x.Num, .string x.Name, .string x.Field, .string x.Op, v5] ∧ RdT T σ v5 x.Kids
 len := by rintro σ x cs ⟨v5, rfl, h0⟩; rfl
 one := by rintro σ x cs ⟨v5, rfl, h0⟩; obtain ⟨_, ⟨_, _, rfl, _⟩, _⟩ := h0; rfl
 mono := by rintro σ σ' x cs hle ⟨v5, rfl, h0⟩; exact ⟨v5, rfl, h0.le hle⟩
theorem ziw : Lvl zkF 6 := ⟨fun _ => rfl, fun T T' h => ⟨rfl, by rintro σ x cs ⟨v5, rfl, h0⟩; exact ⟨v5, rfl, h.rd h0⟩⟩⟩
def zbh : Ty zc := Ty.fix zkF 6 ziw
theorem zjo {σ : Hp} {x : zc} {cs : List Value} (h : zbh.R σ x cs) : ∃ v5, cs = [.int .u8 x.Kind.toNat, .int .i64 x.Num, .string x.Name, .string x.Field, .string x.Op, v5] ∧ RdT zbh σ v5 x.Kids := zg4 ziw h
theorem zc3 {σ : Hp} {x : zc} {cs : List Value} (h : ∃ v5, cs = [.int .u8 x.Kind.toNat, .int .i64 x.Num, .string x.Name, .string x.Field, .string x.Op, v5] ∧ RdT zbh σ v5 x.Kids) : zbh.R σ x cs := by
 obtain ⟨v5, rfl, h0⟩ := h
 obtain ⟨k0, g0⟩ := zfl ziw h0
 exact ⟨k0 + 1, v5, rfl, g0 _ (by omega)⟩
structure zl where
 Kind : UInt8
 Line : Int
 Name : ByteArray
 Field : ByteArray
 Call : ByteArray
 Type_ : zD
 Kids : (List zc)
 Body : (List zl)
 Else : (List zl)
def zkS (T : Ty zl) : Ty zl where
 sz := 11
 R := fun σ x cs => ∃ v8 v9 v10, cs = [.int .u8 x.Kind.toNat, .int .i64 x.Line, .string x.Name, .string x.Field, .string x.Call, .int .u8 x.Type_.Kind.toNat, .int .i64 x.Type_.N, .string x.Type_.Name, v8, v9, v10] ∧ RdT zbh σ v8 x.Kids ∧ RdT T σ v9 x.Body ∧ RdT T σ v10 x.Else
 len := by rintro σ x cs ⟨v8, v9, v10, rfl, h0, h1, h2⟩; rfl
 one := by rintro σ x cs ⟨v8, v9, v10, rfl, h0, h1, h2⟩; obtain ⟨_, ⟨_, _, rfl, _⟩, _⟩ := h0; obtain ⟨_, ⟨_, _, rfl, _⟩, _⟩ := h1; obtain ⟨_, ⟨_, _, rfl, _⟩, _⟩ := h2; rfl
 mono := by rintro σ σ' x cs hle ⟨v8, v9, v10, rfl, h0, h1, h2⟩; exact ⟨v8, v9, v10, rfl, h0.le hle, h1.le hle, h2.le hle⟩
theorem zhk : Lvl zkS 11 := ⟨fun _ => rfl, fun T T' h => ⟨rfl, by rintro σ x cs ⟨v8, v9, v10, rfl, h0, h1, h2⟩; exact ⟨v8, v9, v10, rfl, h0, h.rd h1, h.rd h2⟩⟩⟩
def z9 : Ty zl := Ty.fix zkS 11 zhk
theorem zdX {σ : Hp} {x : zl} {cs : List Value} (h : z9.R σ x cs) : ∃ v8 v9 v10, cs = [.int .u8 x.Kind.toNat, .int .i64 x.Line, .string x.Name, .string x.Field, .string x.Call, .int .u8 x.Type_.Kind.toNat, .int .i64 x.Type_.N, .string x.Type_.Name, v8, v9, v10] ∧ RdT zbh σ v8 x.Kids ∧ RdT z9 σ v9 x.Body ∧ RdT z9 σ v10 x.Else := zg4 zhk h
theorem zdc {σ : Hp} {x : zl} {cs : List Value} (h : ∃ v8 v9 v10, cs = [.int .u8 x.Kind.toNat, .int .i64 x.Line, .string x.Name, .string x.Field, .string x.Call, .int .u8 x.Type_.Kind.toNat, .int .i64 x.Type_.N, .string x.Type_.Name, v8, v9, v10] ∧ RdT zbh σ v8 x.Kids ∧ RdT z9 σ v9 x.Body ∧ RdT z9 σ v10 x.Else) : z9.R σ x cs := by
 obtain ⟨v8, v9, v10, rfl, h0, h1, h2⟩ := h
 obtain ⟨k1, g1⟩ := zfl zhk h1
 obtain ⟨k2, g2⟩ := zfl zhk h2
 exact ⟨k1 + k2 + 1, v8, v9, v10, rfl, h0, g1 _ (by omega), g2 _ (by omega)⟩
structure zbi where
 Name : ByteArray
 Fields : (List ByteArray)
 deriving DecidableEq
def zu : Ty zbi where
 sz := 2
 R := fun σ x cs => ∃ v1, cs = [.string x.Name, v1] ∧ RdT Ty.str σ v1 x.Fields
 len := by rintro σ x cs ⟨v1, rfl, h0⟩; rfl
 one := by rintro σ x cs ⟨v1, rfl, h0⟩; obtain ⟨_, ⟨_, _, rfl, _⟩, _⟩ := h0; rfl
 mono := by rintro σ σ' x cs hle ⟨v1, rfl, h0⟩; exact ⟨v1, rfl, h0.le hle⟩
structure zcU where
 Name : ByteArray
 Type_ : zD
 deriving DecidableEq
def zcA : Ty zcU where
 sz := 4
 R := fun σ x cs => cs = [.string x.Name, .int .u8 x.Type_.Kind.toNat, .int .i64 x.Type_.N, .string x.Type_.Name]
 len := by rintro σ x cs rfl; rfl
 one := by rintro σ x cs rfl; rfl
 mono := by rintro σ σ' x cs hle rfl; rfl
structure zH where
 Name : ByteArray
 Line : Int
 Params : (List zcU)
 Result : zD
 Body : (List zl)
def zp : Ty zH where
 sz := 7
 R := fun σ x cs => ∃ v2 v6, cs = [.string x.Name, .int .i64 x.Line, v2, .int .u8 x.Result.Kind.toNat, .int .i64 x.Result.N, .string x.Result.Name, v6] ∧ RdT zcA σ v2 x.Params ∧ RdT z9 σ v6 x.Body
 len := by rintro σ x cs ⟨v2, v6, rfl, h0, h1⟩; rfl
 one := by rintro σ x cs ⟨v2, v6, rfl, h0, h1⟩; obtain ⟨_, ⟨_, _, rfl, _⟩, _⟩ := h0; obtain ⟨_, ⟨_, _, rfl, _⟩, _⟩ := h1; rfl
 mono := by rintro σ σ' x cs hle ⟨v2, v6, rfl, h0, h1⟩; exact ⟨v2, v6, rfl, h0.le hle, h1.le hle⟩
structure zm where
 Structs : (List zbi)
 Funcs : (List zH)
def zql : Ty zm where
 sz := 2
 R := fun σ x cs => ∃ v0 v1, cs = [v0, v1] ∧ RdT zu σ v0 x.Structs ∧ RdT zp σ v1 x.Funcs
 len := by rintro σ x cs ⟨v0, v1, rfl, h0, h1⟩; rfl
 one := by rintro σ x cs ⟨v0, v1, rfl, h0, h1⟩; obtain ⟨_, ⟨_, _, rfl, _⟩, _⟩ := h0; obtain ⟨_, ⟨_, _, rfl, _⟩, _⟩ := h1; rfl
 mono := by rintro σ σ' x cs hle ⟨v0, v1, rfl, h0, h1⟩; exact ⟨v0, v1, rfl, h0.le hle, h1.le hle⟩
structure zC where
 Name : ByteArray
 Type_ : zD
 Words : Int
 Fields : (List ByteArray)
 deriving DecidableEq
def zo : Ty zC where
 sz := 6
 R := fun σ x cs => ∃ v5, cs = [.string x.Name, .int .u8 x.Type_.Kind.toNat, .int .i64 x.Type_.N, .string x.Type_.Name, .int .i64 x.Words, v5] ∧ RdT Ty.str σ v5 x.Fields
 len := by rintro σ x cs ⟨v5, rfl, h0⟩; rfl
 one := by rintro σ x cs ⟨v5, rfl, h0⟩; obtain ⟨_, ⟨_, _, rfl, _⟩, _⟩ := h0; rfl
 mono := by rintro σ σ' x cs hle ⟨v5, rfl, h0⟩; exact ⟨v5, rfl, h0.le hle⟩
structure zi where
 Kind : UInt8
 Op : UInt8
 Var : Int
 Num : Int
 Kids : (List zi)
def zk2 (T : Ty zi) : Ty zi where
 sz := 5
 R := fun σ x cs => ∃ v4, cs = [.int .u8 x.Kind.toNat, .int .u8 x.Op.toNat, .int .i64 x.Var, .int .i64 x.Num, v4] ∧ RdT T σ v4 x.Kids
 len := by rintro σ x cs ⟨v4, rfl, h0⟩; rfl
 one := by rintro σ x cs ⟨v4, rfl, h0⟩; obtain ⟨_, ⟨_, _, rfl, _⟩, _⟩ := h0; rfl
 mono := by rintro σ σ' x cs hle ⟨v4, rfl, h0⟩; exact ⟨v4, rfl, h0.le hle⟩
theorem zis : Lvl zk2 5 := ⟨fun _ => rfl, fun T T' h => ⟨rfl, by rintro σ x cs ⟨v4, rfl, h0⟩; exact ⟨v4, rfl, h.rd h0⟩⟩⟩
def zR : Ty zi := Ty.fix zk2 5 zis
theorem zdm {σ : Hp} {x : zi} {cs : List Value} (h : zR.R σ x cs) : ∃ v4, cs = [.int .u8 x.Kind.toNat, .int .u8 x.Op.toNat, .int .i64 x.Var, .int .i64 x.Num, v4] ∧ RdT zR σ v4 x.Kids := zg4 zis h
theorem zlh {σ : Hp} {x : zi} {cs : List Value} (h : ∃ v4, cs = [.int .u8 x.Kind.toNat, .int .u8 x.Op.toNat, .int .i64 x.Var, .int .i64 x.Num, v4] ∧ RdT zR σ v4 x.Kids) : zR.R σ x cs := by
 obtain ⟨v4, rfl, h0⟩ := h
 obtain ⟨k0, g0⟩ := zfl zis h0
 exact ⟨k0 + 1, v4, rfl, g0 _ (by omega)⟩
structure zh where
 Kind : UInt8
 Point : Int
 Var : Int
 Field : Int
 Call : Int
 Kids : (List zi)
 Body : (List zh)
 Else : (List zh)
def zkj (T : Ty zh) : Ty zh where
 sz := 8
 R := fun σ x cs => ∃ v5 v6 v7, cs = [.int .u8 x.Kind.toNat, .int .i64 x.Point, .int .i64 x.Var, .int .i64 x.Field, .int .i64 x.Call, v5, v6, v7] ∧ RdT zR σ v5 x.Kids ∧ RdT T σ v6 x.Body ∧ RdT T σ v7 x.Else
 len := by rintro σ x cs ⟨v5, v6, v7, rfl, h0, h1, h2⟩; rfl
 one := by rintro σ x cs ⟨v5, v6, v7, rfl, h0, h1, h2⟩; obtain ⟨_, ⟨_, _, rfl, _⟩, _⟩ := h0; obtain ⟨_, ⟨_, _, rfl, _⟩, _⟩ := h1; obtain ⟨_, ⟨_, _, rfl, _⟩, _⟩ := h2; rfl
 mono := by rintro σ σ' x cs hle ⟨v5, v6, v7, rfl, h0, h1, h2⟩; exact ⟨v5, v6, v7, rfl, h0.le hle, h1.le hle, h2.le hle⟩
theorem zhe : Lvl zkj 8 := ⟨fun _ => rfl, fun T T' h => ⟨rfl, by rintro σ x cs ⟨v5, v6, v7, rfl, h0, h1, h2⟩; exact ⟨v5, v6, v7, rfl, h0, h.rd h1, h.rd h2⟩⟩⟩
def zP : Ty zh := Ty.fix zkj 8 zhe
theorem zk8 {σ : Hp} {x : zh} {cs : List Value} (h : zP.R σ x cs) : ∃ v5 v6 v7, cs = [.int .u8 x.Kind.toNat, .int .i64 x.Point, .int .i64 x.Var, .int .i64 x.Field, .int .i64 x.Call, v5, v6, v7] ∧ RdT zR σ v5 x.Kids ∧ RdT zP σ v6 x.Body ∧ RdT zP σ v7 x.Else := zg4 zhe h
theorem zmz {σ : Hp} {x : zh} {cs : List Value} (h : ∃ v5 v6 v7, cs = [.int .u8 x.Kind.toNat, .int .i64 x.Point, .int .i64 x.Var, .int .i64 x.Field, .int .i64 x.Call, v5, v6, v7] ∧ RdT zR σ v5 x.Kids ∧ RdT zP σ v6 x.Body ∧ RdT zP σ v7 x.Else) : zP.R σ x cs := by
 obtain ⟨v5, v6, v7, rfl, h0, h1, h2⟩ := h
 obtain ⟨k1, g1⟩ := zfl zhe h1
 obtain ⟨k2, g2⟩ := zfl zhe h2
 exact ⟨k1 + k2 + 1, v5, v6, v7, rfl, h0, g1 _ (by omega), g2 _ (by omega)⟩
structure zL where
 Name : ByteArray
 Params : Int
 Result : Bool
 Vars : (List zC)
 Acts : (List zh)
def zq : Ty zL where
 sz := 5
 R := fun σ x cs => ∃ v3 v4, cs = [.string x.Name, .int .i64 x.Params, .bool x.Result, v3, v4] ∧ RdT zo σ v3 x.Vars ∧ RdT zP σ v4 x.Acts
 len := by rintro σ x cs ⟨v3, v4, rfl, h0, h1⟩; rfl
 one := by rintro σ x cs ⟨v3, v4, rfl, h0, h1⟩; obtain ⟨_, ⟨_, _, rfl, _⟩, _⟩ := h0; obtain ⟨_, ⟨_, _, rfl, _⟩, _⟩ := h1; rfl
 mono := by rintro σ σ' x cs hle ⟨v3, v4, rfl, h0, h1⟩; exact ⟨v3, v4, rfl, h0.le hle, h1.le hle⟩
structure zK where
 Func : Int
 Line : Int
 Scope : (List Int)
 deriving DecidableEq
def zr : Ty zK where
 sz := 3
 R := fun σ x cs => ∃ v2, cs = [.int .i64 x.Func, .int .i64 x.Line, v2] ∧ RdT (Ty.int .i64) σ v2 x.Scope
 len := by rintro σ x cs ⟨v2, rfl, h0⟩; rfl
 one := by rintro σ x cs ⟨v2, rfl, h0⟩; obtain ⟨_, ⟨_, _, rfl, _⟩, _⟩ := h0; rfl
 mono := by rintro σ σ' x cs hle ⟨v2, rfl, h0⟩; exact ⟨v2, rfl, h0.le hle⟩
structure zA where
 Bodies : (List zL)
 Main : Int
 Points : (List zK)
structure zb where
 prog : zm
 tree : zA
 fn : Int
 vars : (List zC)
 scope : (List Int)
abbrev zgG (b : Nat) (x0 : Value) (x1 : Int) (x2 : Value) : Ob := some (b, ⟨[x0, .int .i64 x1, x2], 31, 3, true⟩)
abbrev zeO (b : Nat) (x0 : ByteArray) (x1 : Int) (x2 : Value) (x3 : Int) (x4 : Int) (x5 : ByteArray) (x6 : Value) : Ob := some (b, ⟨[.string x0, .int .i64 x1, x2, .int .u8 x3, .int .i64 x4, .string x5, x6], 53, 7, true⟩)
abbrev ze2 (b : Nat) (x0 : Int) (x1 : Int) (x2 : ByteArray) (x3 : ByteArray) (x4 : ByteArray) (x5 : Value) : Ob := some (b, ⟨[.int .u8 x0, .int .i64 x1, .string x2, .string x3, .string x4, x5], 71, 6, true⟩)
abbrev zeW (b : Nat) (x0 : Int) (x1 : Int) (x2 : ByteArray) (x3 : ByteArray) (x4 : ByteArray) (x5 : Int) (x6 : Int) (x7 : ByteArray) (x8 : Value) (x9 : Value) (x10 : Value) : Ob := some (b, ⟨[.int .u8 x0, .int .i64 x1, .string x2, .string x3, .string x4, .int .u8 x5, .int .i64 x6, .string x7, x8, x9, x10], 73, 11, true⟩)
abbrev zkK (b : Nat) (x0 : ByteArray) (x1 : Int) (x2 : Int) (x3 : ByteArray) : Ob := some (b, ⟨[.string x0, .int .u8 x1, .int .i64 x2, .string x3], 78, 4, true⟩)
abbrev zp9 (b : Nat) (x0 : ByteArray) (x1 : Int) (x2 : Int) (x3 : ByteArray) (x4 : Int) (x5 : Value) : Ob := some (b, ⟨[.string x0, .int .u8 x1, .int .i64 x2, .string x3, .int .i64 x4, x5], 82, 6, true⟩)
abbrev zn (b : Nat) (x0 : Value) (x1 : Value) (x2 : Value) (x3 : Int) (x4 : Value) (x5 : Int) (x6 : Value) (x7 : Value) : Ob := some (b, ⟨[x0, x1, x2, .int .i64 x3, x4, .int .i64 x5, x6, x7], 110, 8, true⟩)
abbrev zbS (b : Nat) (x0 : Int) (x1 : Int) (x2 : Int) (x3 : Int) (x4 : Int) (x5 : Value) (x6 : Value) (x7 : Value) : Ob := some (b, ⟨[.int .u8 x0, .int .i64 x1, .int .i64 x2, .int .i64 x3, .int .i64 x4, x5, x6, x7], 115, 8, true⟩)
abbrev zdJ (b : Nat) (x0 : Int) (x1 : Int) (x2 : Int) (x3 : Int) (x4 : Value) : Ob := some (b, ⟨[.int .u8 x0, .int .u8 x1, .int .i64 x2, .int .i64 x3, x4], 140, 5, true⟩)
def zpE (rec4 : Int → Option Bool) (p0 : (List ByteArray)) (p1 : Int) (x15 : Int) : Option Bool :=
 (if (decide (x15 < p1)) = true then (zt p0 x15).bind fun y30 => (zt p0 p1).bind fun y35 => (if (zG y30 y35) = true then some true else rec4 (IntKind.i64.wrap (x15 + 1))) else some false)
def zmE (p0 : (List ByteArray)) (p1 : Int) : Nat → Int → Option Bool
 | 0, _ => none
 | n + 1, x15 => zpE (zmE p0 p1 n) p0 p1 x15
def zqm (R_ref13_returns : (List zl) → Option Bool) (p0 : (List zl)) : Option Bool :=
 (if ((p0.length : Int) == 0) = true then some false else (zt p0 (IntKind.i64.wrap ((p0.length : Int) - 1))).bind fun y3 => ((if ((y3.Kind.toNat : Int) == 10) = true then some true else (if ((y3.Kind.toNat : Int) == 6) = true then (R_ref13_returns y3.Body).bind fun c25 => (if c25 = true then (R_ref13_returns y3.Else).bind fun c30 => some c30 else some false) else (if false = true then (R_ref13_returns y3.Else).bind fun c35 => some c35 else some false)))).bind fun c21 => some c21)
def zm1 : Nat → ((List zl) → Option Bool)
 | 0 => fun _ => none
 | gn + 1 => zqm (zm1 gn)
def zgj (rec4 : Int → Int → Option Int) (R_ref13_exps : (List zc) → Option Int) (p0 : (List zc)) (x16 : Int) (x17 : Int) : Option Int :=
 (if (decide (x17 < (p0.length : Int))) = true then (zt p0 x17).bind fun y34 => (R_ref13_exps y34.Kids).bind fun c43 => rec4 (IntKind.i64.wrap (x16 + c43)) (IntKind.i64.wrap (x17 + 1)) else some x16)
def zez (R_ref13_exps : (List zc) → Option Int) (p0 : (List zc)) : Nat → Int → Int → Option Int
 | 0, _, _ => none
 | n + 1, x16, x17 => zgj (zez R_ref13_exps p0 n) R_ref13_exps p0 x16 x17
def zhS (R_ref13_exps : (List zc) → Option Int) (p0 : (List zc)) : Option Int :=
 zez R_ref13_exps p0 big (p0.length : Int) 0
def zdu : Nat → ((List zc) → Option Int)
 | 0 => fun _ => none
 | gn + 1 => zhS (zdu gn)
def zjn (p0 : (List zc)) : Option Int := (zdu big) p0
def zfE (rec4 : Int → Int → Option Int) (R_ref13_stmts : (List zl) → Option Int) (p0 : (List zl)) (x66 : Int) (x67 : Int) : Option Int :=
 (if (decide (x67 < (p0.length : Int))) = true then (zt p0 x67).bind fun y134 => (zt p0 x67).bind fun y151 => (zt p0 x67).bind fun y168 => (zjn y134.Kids).bind fun c185 => (R_ref13_stmts y151.Body).bind fun c189 => (R_ref13_stmts y168.Else).bind fun c193 => rec4 (IntKind.i64.wrap ((IntKind.i64.wrap ((IntKind.i64.wrap (x66 + c185)) + c189)) + c193)) (IntKind.i64.wrap (x67 + 1)) else some x66)
def zea (R_ref13_stmts : (List zl) → Option Int) (p0 : (List zl)) : Nat → Int → Int → Option Int
 | 0, _, _ => none
 | n + 1, x66, x67 => zfE (zea R_ref13_stmts p0 n) R_ref13_stmts p0 x66 x67
def ziU (R_ref13_stmts : (List zl) → Option Int) (p0 : (List zl)) : Option Int :=
 zea R_ref13_stmts p0 big (p0.length : Int) 0
def zdr : Nat → ((List zl) → Option Int)
 | 0 => fun _ => none
 | gn + 1 => ziU (zdr gn)
def zig (p0 : (List zl)) : Option Int := (zdr big) p0
def zfJ (rec16 : Int → Int → Option Int) (p0 : zm) (x259 : Int) (x260 : Int) : Option Int :=
 (if (decide (x260 < (p0.Funcs.length : Int))) = true then (zt p0.Funcs x260).bind fun y294 => (zt p0.Funcs x260).bind fun y307 => (zig y307.Body).bind fun c320 => rec16 (IntKind.i64.wrap ((IntKind.i64.wrap (x259 + (y294.Params.length : Int))) + c320)) (IntKind.i64.wrap (x260 + 1)) else some x259)
def zeT (p0 : zm) : Nat → Int → Int → Option Int
 | 0, _, _ => none
 | n + 1, x259, x260 => zfJ (zeT p0 n) p0 x259 x260
def zf2 (rec14 : Int → Int → Option Int) (p0 : zm) (x109 : Int) (x110 : Int) : Option Int :=
 (if (decide (x110 < (p0.Structs.length : Int))) = true then (zt p0.Structs x110).bind fun y219 => rec14 (IntKind.i64.wrap (x109 + (y219.Fields.length : Int))) (IntKind.i64.wrap (x110 + 1)) else zeT p0 big x109 0)
def ze6 (p0 : zm) : Nat → Int → Int → Option Int
 | 0, _, _ => none
 | n + 1, x109, x110 => zf2 (ze6 p0 n) p0 x109 x110
def zeL (p0 : zm) : Option Int :=
 ze6 p0 big (IntKind.i64.wrap ((p0.Structs.length : Int) + (p0.Funcs.length : Int))) 0
def zby (p0 : Bool) (p1 : Int) : Option (Except (Value) (Unit)) :=
 (if (!p0) = true then some (.error (.iface 134 (.int .i64 p1) : Value)) else some (.ok ()))
def zjw (rec4 : Int → Option Int) (p0 : (List ByteArray)) (p1 : ByteArray) (x10 : Int) : Option Int :=
 (if (decide (x10 < (p0.length : Int))) = true then (zt p0 x10).bind fun y20 => (if (zG p1 y20) = true then some x10 else rec4 (IntKind.i64.wrap (x10 + 1))) else some (-1))
def zhc (p0 : (List ByteArray)) (p1 : ByteArray) : Nat → Int → Option Int
 | 0, _ => none
 | n + 1, x10 => zjw (zhc p0 p1 n) p0 p1 x10
def zgh (p0 : (List ByteArray)) (p1 : ByteArray) : Option Int :=
 zhc p0 p1 big 0
def zf5 (p0 : (List ByteArray)) (p1 : ByteArray) : Option Bool :=
 (zgh p0 p1).bind fun c3 => some (decide (c3 ≥ 0))
def zfQ (rec4 : Int → Option Bool) (p0 : (List ByteArray)) (x18 : Int) : Option Bool :=
 (if (decide (x18 < (p0.length : Int))) = true then (zt p0 x18).bind fun y37 => (zd8 p0 0 x18).bind fun y42 => (zf5 y42 y37).bind fun c47 => (if c47 = true then some true else rec4 (IntKind.i64.wrap (x18 + 1))) else some false)
def zeY (p0 : (List ByteArray)) : Nat → Int → Option Bool
 | 0, _ => none
 | n + 1, x18 => zfQ (zeY p0 n) p0 x18
def zgf (p0 : (List ByteArray)) : Option Bool :=
 zeY p0 big 0
def zjH (p0 : zbi) (qf0 : zbi) : Option Bool :=
 some (zG p0.Name qf0.Name)
def ziq (rec4 : Int → Option Int) (p0 : (List zbi)) (q1_0 : zbi) (x18 : Int) : Option Int :=
 (if (decide (x18 < (p0.length : Int))) = true then (zt p0 x18).bind fun y36 => (zjH y36 q1_0).bind fun c45 => (if c45 = true then some x18 else rec4 (IntKind.i64.wrap (x18 + 1))) else some (-1))
def zhQ (p0 : (List zbi)) (q1_0 : zbi) : Nat → Int → Option Int
 | 0, _ => none
 | n + 1, x18 => ziq (zhQ p0 q1_0 n) p0 q1_0 x18
def zgJ (p0 : (List zbi)) (q1_0 : zbi) : Option Int :=
 zhQ p0 q1_0 big 0
def zjI (p0 : zH) (qf0 : ByteArray) : Option Bool :=
 some (zG p0.Name qf0)
def zjk (rec4 : Int → Option Int) (p0 : (List zH)) (q1_0 : ByteArray) (x22 : Int) : Option Int :=
 (if (decide (x22 < (p0.length : Int))) = true then (zt p0 x22).bind fun y44 => (zjI y44 q1_0).bind fun c57 => (if c57 = true then some x22 else rec4 (IntKind.i64.wrap (x22 + 1))) else some (-1))
def zg7 (p0 : (List zH)) (q1_0 : ByteArray) : Nat → Int → Option Int
 | 0, _ => none
 | n + 1, x22 => zjk (zg7 p0 q1_0 n) p0 q1_0 x22
def zf8 (p0 : (List zH)) (q1_0 : ByteArray) : Option Int :=
 zg7 p0 q1_0 big 0
def ze1 (q0 : zb) (p1 : ByteArray) : Option Int :=
 (zf8 q0.prog.Funcs p1).bind fun c6 => some c6
def zc1 (p0 : zD) : Option Bool :=
 some (((p0.Kind.toNat : Int) == 1) || ((p0.Kind.toNat : Int) == 2))
def zh8 (p0 : zbi) (qf0 : ByteArray) : Option Bool :=
 some (zG p0.Name qf0)
def zjF (rec4 : Int → Option Int) (p0 : (List zbi)) (q1_0 : ByteArray) (x18 : Int) : Option Int :=
 (if (decide (x18 < (p0.length : Int))) = true then (zt p0 x18).bind fun y36 => (zh8 y36 q1_0).bind fun c45 => (if c45 = true then some x18 else rec4 (IntKind.i64.wrap (x18 + 1))) else some (-1))
def zhP (p0 : (List zbi)) (q1_0 : ByteArray) : Nat → Int → Option Int
 | 0, _ => none
 | n + 1, x18 => zjF (zhP p0 q1_0 n) p0 q1_0 x18
def zgZ (p0 : (List zbi)) (q1_0 : ByteArray) : Option Int :=
 zhP p0 q1_0 big 0
def zfg (q0 : zb) (p1 : ByteArray) : Option ((List ByteArray) × Bool) :=
 (zgZ q0.prog.Structs p1).bind fun c6 => (if (decide (c6 < 0)) = true then some ([], false) else (zt q0.prog.Structs c6).bind fun y11 => some (y11.Fields, true))
def zdb (q0 : zb) (p1 : zD) : Option Bool :=
 (zfg q0 p1.Name).bind fun c4 => some (((p1.Kind.toNat : Int) != 4) || c4.2)
def zgH (p0 : (List Int)) : Option (List Int) := (room p0.length).bind fun _ => some p0
def zjS (p0 : zC) (qf0 : ByteArray) : Option Bool :=
 some (zG p0.Name qf0)
def ziF (rec4 : Int → Option Int) (p0 : (List zC)) (q1_0 : ByteArray) (x18 : Int) : Option Int :=
 (if (decide (x18 < (p0.length : Int))) = true then (zt p0 x18).bind fun y36 => (zjS y36 q1_0).bind fun c45 => (if c45 = true then some x18 else rec4 (IntKind.i64.wrap (x18 + 1))) else some (-1))
def zhA (p0 : (List zC)) (q1_0 : ByteArray) : Nat → Int → Option Int
 | 0, _ => none
 | n + 1, x18 => ziF (zhA p0 q1_0 n) p0 q1_0 x18
def zg1 (p0 : (List zC)) (q1_0 : ByteArray) : Option Int :=
 zhA p0 q1_0 big 0
def zfc (q0 : zb) (p1 : ByteArray) : Option Int :=
 (zg1 q0.vars p1).bind fun c6 => some c6
def zi0 (rec4 : Int → Option Int) (p0 : (List Int)) (p1 : Int) (x10 : Int) : Option Int :=
 (if (decide (x10 < (p0.length : Int))) = true then (zt p0 x10).bind fun y20 => (if (p1 == y20) = true then some x10 else rec4 (IntKind.i64.wrap (x10 + 1))) else some (-1))
def zhi (p0 : (List Int)) (p1 : Int) : Nat → Int → Option Int
 | 0, _ => none
 | n + 1, x10 => zi0 (zhi p0 p1 n) p0 p1 x10
def zgE (p0 : (List Int)) (p1 : Int) : Option Int :=
 zhi p0 p1 big 0
def zfS (p0 : (List Int)) (p1 : Int) : Option Bool :=
 (zgE p0 p1).bind fun c3 => some (decide (c3 ≥ 0))
def zep (q0 : zb) (p1 : ByteArray) : Option (Except (Value) (Int)) :=
 (zfc q0 p1).bind fun c3 => ((if (decide (c3 ≥ 0)) = true then (zfS q0.scope c3).bind fun c10 => some c10 else some false)).bind fun c7 => zJ (zby c7 8) (fun x18 => some (.error x18)) fun c14 => some (.ok c3)
def zdK (q0 : zb) (p1 : Int) (p2 : Int) : Option (Except (Value) (Unit)) :=
 (zt q0.vars p1).bind fun y4 => zJ (zby ((y4.Type_.Kind.toNat : Int) == p2) 9) (fun x19 => some (.error x19)) fun c15 => some (.ok ())
def zej (q0 : zb) (p1 : Int) (p2 : ByteArray) : Option (Except (Value) (Int)) :=
 (zt q0.vars p1).bind fun y4 => (zgh y4.Fields p2).bind fun c15 => zJ (zby (decide (c15 ≥ 0)) 8) (fun x23 => some (.error x23)) fun c19 => some (.ok c15)
def zgg (rec4 : Int → Option Bool) (p0 : (List UInt8)) (p1 : (List UInt8)) (x16 : Int) : Option Bool :=
 (if (decide (x16 < (p0.length : Int))) = true then (zt p0 x16).bind fun y31 => (zt p1 x16).bind fun y36 => (if ((y31.toNat : Int) != (y36.toNat : Int)) = true then some false else rec4 (IntKind.i64.wrap (x16 + 1))) else some true)
def zfe (p0 : (List UInt8)) (p1 : (List UInt8)) : Nat → Int → Option Bool
 | 0, _ => none
 | n + 1, x16 => zgg (zfe p0 p1 n) p0 p1 x16
def zeZ (p0 : (List UInt8)) (p1 : (List UInt8)) : Option Bool :=
 (if ((p0.length : Int) != (p1.length : Int)) = true then some false else zfe p0 p1 big 0)
def zjN (p0 : ByteArray) (p1 : ByteArray) : Option Bool :=
 ((if (decide ((p0.size : Int) ≥ (p1.size : Int))) = true then (ze4 p0 (IntKind.i64.wrap ((p0.size : Int) - (p1.size : Int))) (p0.size : Int)).bind fun y6 => some (zG y6 p1) else some false)).bind fun c3 => some c3
def zjC (p0 : ByteArray) (p1 : ByteArray) : Option ByteArray :=
 (zjN p0 p1).bind fun c3 => (if c3 = true then (ze4 p0 0 (IntKind.i64.wrap ((p0.size : Int) - (p1.size : Int)))).bind fun y8 => some y8 else some p0)
def zhf (p0 : ByteArray) (p1 : ByteArray) : Option ByteArray :=
 (zjC p0 p1).bind fun c3 => some c3
def zfO (rec4 : Int → Option Int) (p0 : ByteArray) (x10 : Int) : Option Int :=
 (if (decide (x10 < 26)) = true then (ze4 zqD x10 (IntKind.i64.wrap (x10 + 2))).bind fun y21 => (zhf y21 zqI).bind fun c23 => (if (zG p0 c23) = true then some (IntKind.u8.wrap (1 + (IntKind.u8.wrap (IntKind.i64.wrap (Int.tdiv x10 2))))) else rec4 (IntKind.i64.wrap (x10 + 2))) else some 0)
def zdV (p0 : ByteArray) : Nat → Int → Option Int
 | 0, _ => none
 | n + 1, x10 => zfO (zdV p0 n) p0 x10
def zeI (p0 : ByteArray) : Option Int :=
 zdV p0 big 0
def zgu (rec4 : (List zbi) → (List zH) → (List zL) → Int → (List zK) → Int → (List zC) → (List Int) → (List zi) → (List UInt8) → Int → Option (Except (Value × zb) ((List zi) × zb))) (R_check_checker_exp : zb → zc → Option (Except (Value × zb) (zi × Int × zb))) (p1 : (List zc)) (p2 : (List UInt8)) (x131 : List zbi) (x135 : List zH) (x140 : List zL) (x142 : Int) (x146 : List zK) (x148 : Int) (x152 : List zC) (x157 : List Int) (x162 : List zi) (x167 : List UInt8) (x169 : Int) : Option (Except (Value × zb) ((List zi) × zb)) :=
 (if (decide (x169 < (p1.length : Int))) = true then (zt p1 x169).bind fun y275 => zJ (R_check_checker_exp (⟨(⟨x131, x135⟩ : zm), (⟨x140, x142, x146⟩ : zA), x148, x152, x157⟩ : zb) y275) (fun x289 => some (.error (x289.1, x289.2))) fun c285 => (room (x162.length + 1)).bind fun _ => (u8o c285.2.1).bind fun z359 => (room (x167.length + 1)).bind fun _ => rec4 c285.2.2.prog.Structs c285.2.2.prog.Funcs c285.2.2.tree.Bodies c285.2.2.tree.Main c285.2.2.tree.Points c285.2.2.fn c285.2.2.vars c285.2.2.scope (x162 ++ [(⟨c285.1.Kind, c285.1.Op, c285.1.Var, c285.1.Num, c285.1.Kids⟩ : zi)]) (x167 ++ [z359]) (IntKind.i64.wrap (x169 + 1)) else (zeZ x167 p2).bind fun c365 => zJ (zby c365 9) (fun x373 => some (.error (x373, (⟨(⟨x131, x135⟩ : zm), (⟨x140, x142, x146⟩ : zA), x148, x152, x157⟩ : zb)))) fun c369 => some (.ok (x162, (⟨(⟨x131, x135⟩ : zm), (⟨x140, x142, x146⟩ : zA), x148, x152, x157⟩ : zb))))
def zeB (R_check_checker_exp : zb → zc → Option (Except (Value × zb) (zi × Int × zb))) (p1 : (List zc)) (p2 : (List UInt8)) : Nat → (List zbi) → (List zH) → (List zL) → Int → (List zK) → Int → (List zC) → (List Int) → (List zi) → (List UInt8) → Int → Option (Except (Value × zb) ((List zi) × zb))
 | 0, _, _, _, _, _, _, _, _, _, _, _ => none
 | n + 1, x131, x135, x140, x142, x146, x148, x152, x157, x162, x167, x169 => zgu (zeB R_check_checker_exp p1 p2 n) R_check_checker_exp p1 p2 x131 x135 x140 x142 x146 x148 x152 x157 x162 x167 x169
def zjc (R_check_checker_vals : zb → (List zc) → (List UInt8) → Option (Except (Value × zb) ((List zi) × zb))) (R_check_checker_exp : zb → zc → Option (Except (Value × zb) (zi × Int × zb))) (R_check_checker_place : zb → zc → Option (Except (Value × zb) (zi × Int × zb))) (R_check_checker_unary : zb → zc → Option (Except (Value × zb) (zi × Int × zb))) (R_check_checker_binary : zb → zc → Option (Except (Value × zb) (zi × Int × zb))) (q0 : zb) (p1 : (List zc)) (p2 : (List UInt8)) : Option (Except (Value × zb) ((List zi) × zb)) :=
 zeB R_check_checker_exp p1 p2 big q0.prog.Structs q0.prog.Funcs q0.tree.Bodies q0.tree.Main q0.tree.Points q0.fn q0.vars q0.scope ([]) ([]) 0
def zhj (q0 : zb) (x12 : List zL) (x17 : List zK) (x22 : List zC) (x27 : List Int) (x29 : Int) : Option (Except (Value × zb) (zi × Int × zb)) :=
 some (.ok ((⟨(1 : UInt8), (0 : UInt8), 0, x29, []⟩ : zi), 2, (⟨(⟨q0.prog.Structs, q0.prog.Funcs⟩ : zm), (⟨x12, q0.tree.Main, x17⟩ : zA), q0.fn, x22, x27⟩ : zb)))
def zd3 (R_check_checker_place : zb → zc → Option (Except (Value × zb) (zi × Int × zb))) (R_check_checker_unary : zb → zc → Option (Except (Value × zb) (zi × Int × zb))) (R_check_checker_binary : zb → zc → Option (Except (Value × zb) (zi × Int × zb))) (q0 : zb) (p1 : zc) (x36 : List zL) (x41 : List zK) (x46 : List zC) (x51 : List Int) (x53 : Bool) : Option (Except (Value × zb) (zi × Int × zb)) :=
 (if x53 = true then zJ (R_check_checker_place (⟨(⟨q0.prog.Structs, q0.prog.Funcs⟩ : zm), (⟨x36, q0.tree.Main, x41⟩ : zA), q0.fn, x46, x51⟩ : zb) p1) (fun x59 => some (.error (x59.1, x59.2))) fun c55 => some (.ok (c55.1, c55.2.1, c55.2.2)) else (if ((p1.Kind.toNat : Int) == 6) = true then zJ (R_check_checker_unary (⟨(⟨q0.prog.Structs, q0.prog.Funcs⟩ : zm), (⟨x36, q0.tree.Main, x41⟩ : zA), q0.fn, x46, x51⟩ : zb) p1) (fun x128 => some (.error (x128.1, x128.2))) fun c124 => some (.ok (c124.1, c124.2.1, c124.2.2)) else zJ (R_check_checker_binary (⟨(⟨q0.prog.Structs, q0.prog.Funcs⟩ : zm), (⟨x36, q0.tree.Main, x41⟩ : zA), q0.fn, x46, x51⟩ : zb) p1) (fun x196 => some (.error (x196.1, x196.2))) fun c192 => some (.ok (c192.1, c192.2.1, c192.2.2))))
def zfy (R_check_checker_vals : zb → (List zc) → (List UInt8) → Option (Except (Value × zb) ((List zi) × zb))) (R_check_checker_exp : zb → zc → Option (Except (Value × zb) (zi × Int × zb))) (R_check_checker_place : zb → zc → Option (Except (Value × zb) (zi × Int × zb))) (R_check_checker_unary : zb → zc → Option (Except (Value × zb) (zi × Int × zb))) (R_check_checker_binary : zb → zc → Option (Except (Value × zb) (zi × Int × zb))) (q0 : zb) (p1 : zc) : Option (Except (Value × zb) (zi × Int × zb)) :=
 (if ((p1.Kind.toNat : Int) == 1) = true then some (.ok ((⟨(1 : UInt8), (0 : UInt8), 0, p1.Num, []⟩ : zi), 1, q0)) else (if ((p1.Kind.toNat : Int) == 2) = true then (if (p1.Num != 0) = true then zhj q0 q0.tree.Bodies q0.tree.Points q0.vars q0.scope 1 else zhj q0 q0.tree.Bodies q0.tree.Points q0.vars q0.scope 0) else (if ((p1.Kind.toNat : Int) == 3) = true then zd3 R_check_checker_place R_check_checker_unary R_check_checker_binary q0 p1 q0.tree.Bodies q0.tree.Points q0.vars q0.scope ((p1.Kind.toNat : Int) == 3) else (if ((p1.Kind.toNat : Int) == 4) = true then zd3 R_check_checker_place R_check_checker_unary R_check_checker_binary q0 p1 q0.tree.Bodies q0.tree.Points q0.vars q0.scope ((p1.Kind.toNat : Int) == 4) else zd3 R_check_checker_place R_check_checker_unary R_check_checker_binary q0 p1 q0.tree.Bodies q0.tree.Points q0.vars q0.scope ((p1.Kind.toNat : Int) == 5)))))
def zf3 (R_check_checker_vals : zb → (List zc) → (List UInt8) → Option (Except (Value × zb) ((List zi) × zb))) (R_check_checker_exp : zb → zc → Option (Except (Value × zb) (zi × Int × zb))) (R_check_checker_place : zb → zc → Option (Except (Value × zb) (zi × Int × zb))) (R_check_checker_unary : zb → zc → Option (Except (Value × zb) (zi × Int × zb))) (R_check_checker_binary : zb → zc → Option (Except (Value × zb) (zi × Int × zb))) (q0 : zb) (p1 : zc) : Option (Except (Value × zb) (zi × Int × zb)) :=
 zJ (zep q0 p1.Name) (fun x9 => some (.error (x9, q0))) fun c5 => (if ((p1.Kind.toNat : Int) == 3) = true then (zt q0.vars c5).bind fun y14 => (zc1 y14.Type_).bind fun c25 => zJ (zby c25 9) (fun x33 => some (.error (x33, q0))) fun c29 => (zt q0.vars c5).bind fun y37 => some (.ok ((⟨(2 : UInt8), (0 : UInt8), c5, 0, []⟩ : zi), (y37.Type_.Kind.toNat : Int), q0)) else (if ((p1.Kind.toNat : Int) == 5) = true then zJ (zdK q0 c5 4) (fun x54 => some (.error (x54, q0))) fun c50 => zJ (zej q0 c5 p1.Field) (fun x62 => some (.error (x62, q0))) fun c58 => some (.ok ((⟨(4 : UInt8), (0 : UInt8), c5, c58, []⟩ : zi), 1, q0)) else zJ (zdK q0 c5 3) (fun x70 => some (.error (x70, q0))) fun c66 => zJ (R_check_checker_vals q0 p1.Kids ([(1 : UInt8)] : List UInt8)) (fun x84 => some (.error (x84.1, x84.2))) fun c80 => some (.ok ((⟨(3 : UInt8), (0 : UInt8), c5, 0, c80.1⟩ : zi), 1, c80.2))))
def zgT (R_check_checker_vals : zb → (List zc) → (List UInt8) → Option (Except (Value × zb) ((List zi) × zb))) (q0 : zb) (p1 : zc) (x9 : List zL) (x14 : List zK) (x19 : List zC) (x24 : List Int) (x26 : Int) (x27 : Int) : Option (Except (Value × zb) (zi × Int × zb)) :=
 (u8o x27).bind fun z28 => zJ (R_check_checker_vals (⟨(⟨q0.prog.Structs, q0.prog.Funcs⟩ : zm), (⟨x9, q0.tree.Main, x14⟩ : zA), q0.fn, x19, x24⟩ : zb) p1.Kids ([z28] : List UInt8)) (fun x39 => some (.error (x39.1, x39.2))) fun c35 => zJ (zby ((zG p1.Op zqF) || (zG p1.Op zqG)) 9) (fun x109 => some (.error (x109, c35.2))) fun c105 => (u8o x26).bind fun z115 => some (.ok ((⟨(5 : UInt8), z115, 0, 0, c35.1⟩ : zi), x27, c35.2))
def zf1 (R_check_checker_vals : zb → (List zc) → (List UInt8) → Option (Except (Value × zb) ((List zi) × zb))) (R_check_checker_exp : zb → zc → Option (Except (Value × zb) (zi × Int × zb))) (R_check_checker_place : zb → zc → Option (Except (Value × zb) (zi × Int × zb))) (R_check_checker_unary : zb → zc → Option (Except (Value × zb) (zi × Int × zb))) (R_check_checker_binary : zb → zc → Option (Except (Value × zb) (zi × Int × zb))) (q0 : zb) (p1 : zc) : Option (Except (Value × zb) (zi × Int × zb)) :=
 (if (zG p1.Op zqF) = true then zgT R_check_checker_vals q0 p1 q0.tree.Bodies q0.tree.Points q0.vars q0.scope 14 2 else zgT R_check_checker_vals q0 p1 q0.tree.Bodies q0.tree.Points q0.vars q0.scope 15 1)
def zcy (p1 : zc) (x286 : List zbi) (x290 : List zH) (x297 : Int) (x303 : Int) (c750 : Int) (x849 : List zL) (x854 : List zK) (x859 : List zC) (x864 : List Int) (x869 : List zi) (x874 : List UInt8) (x876 : Int) (x877 : Int) : Option (Except (Value × zb) (zi × Int × zb)) :=
 ((if (((p1.Kind.toNat : Int) == 7) && (c750 != 0)) = true then (u8o x876).bind fun z881 => (u8o x876).bind fun z882 => (zeZ x874 ([z881, z882] : List UInt8)).bind fun c887 => some c887 else some false)).bind fun c878 => zJ (zby c878 9) (fun x895 => some (.error (x895, (⟨(⟨x286, x290⟩ : zm), (⟨x849, x297, x854⟩ : zA), x303, x859, x864⟩ : zb)))) fun c891 => (u8o c750).bind fun z901 => some (.ok ((⟨(6 : UInt8), z901, 0, 0, x869⟩ : zi), x877, (⟨(⟨x286, x290⟩ : zm), (⟨x849, x297, x854⟩ : zA), x303, x859, x864⟩ : zb)))
def zed (p1 : zc) (x286 : List zbi) (x290 : List zH) (x297 : Int) (x303 : Int) (c750 : Int) (x943 : List zL) (x948 : List zK) (x953 : List zC) (x958 : List Int) (x963 : List zi) (x968 : List UInt8) (x970 : Bool) : Option (Except (Value × zb) (zi × Int × zb)) :=
 (if x970 = true then ((if (decide ((x968.length : Int) > 0)) = true then (zt x968 0).bind fun y975 => some ((y975.toNat : Int) == 2) else some false)).bind fun c972 => (if c972 = true then zcy p1 x286 x290 x297 x303 c750 x943 x948 x953 x958 x963 x968 2 2 else zcy p1 x286 x290 x297 x303 c750 x943 x948 x953 x958 x963 x968 1 2) else (if (c750 == 8) = true then (if (c750 == 8) = true then zcy p1 x286 x290 x297 x303 c750 x943 x948 x953 x958 x963 x968 1 2 else zcy p1 x286 x290 x297 x303 c750 x943 x948 x953 x958 x963 x968 1 1) else (if (c750 == 9) = true then (if (c750 == 9) = true then zcy p1 x286 x290 x297 x303 c750 x943 x948 x953 x958 x963 x968 1 2 else zcy p1 x286 x290 x297 x303 c750 x943 x948 x953 x958 x963 x968 1 1) else (if (c750 == 10) = true then (if (c750 == 10) = true then zcy p1 x286 x290 x297 x303 c750 x943 x948 x953 x958 x963 x968 1 2 else zcy p1 x286 x290 x297 x303 c750 x943 x948 x953 x958 x963 x968 1 1) else (if (c750 == 11) = true then zcy p1 x286 x290 x297 x303 c750 x943 x948 x953 x958 x963 x968 1 2 else zcy p1 x286 x290 x297 x303 c750 x943 x948 x953 x958 x963 x968 1 1)))))
def zd5 (p1 : zc) (x286 : List zbi) (x290 : List zH) (x297 : Int) (x303 : Int) (c750 : Int) (x908 : List zL) (x913 : List zK) (x918 : List zC) (x923 : List Int) (x928 : List zi) (x933 : List UInt8) (x935 : Bool) : Option (Except (Value × zb) (zi × Int × zb)) :=
 (if x935 = true then zcy p1 x286 x290 x297 x303 c750 x908 x913 x918 x923 x928 x933 2 2 else (if (c750 == 6) = true then zed p1 x286 x290 x297 x303 c750 x908 x913 x918 x923 x928 x933 (c750 == 6) else zed p1 x286 x290 x297 x303 c750 x908 x913 x918 x923 x928 x933 (c750 == 7)))
def zfR (rec29 : (List zbi) → (List zH) → (List zL) → Int → (List zK) → Int → (List zC) → (List Int) → (List zi) → (List UInt8) → Int → Option (Except (Value × zb) (zi × Int × zb))) (R_check_checker_exp : zb → zc → Option (Except (Value × zb) (zi × Int × zb))) (p1 : zc) (x286 : List zbi) (x290 : List zH) (x295 : List zL) (x297 : Int) (x301 : List zK) (x303 : Int) (x307 : List zC) (x312 : List Int) (x317 : List zi) (x322 : List UInt8) (x324 : Int) : Option (Except (Value × zb) (zi × Int × zb)) :=
 (if (decide (x324 < (p1.Kids.length : Int))) = true then (zt p1.Kids x324).bind fun y660 => zJ (R_check_checker_exp (⟨(⟨x286, x290⟩ : zm), (⟨x295, x297, x301⟩ : zA), x303, x307, x312⟩ : zb) y660) (fun x674 => some (.error (x674.1, x674.2))) fun c670 => (room (x317.length + 1)).bind fun _ => (u8o c670.2.1).bind fun z744 => (room (x322.length + 1)).bind fun _ => rec29 c670.2.2.prog.Structs c670.2.2.prog.Funcs c670.2.2.tree.Bodies c670.2.2.tree.Main c670.2.2.tree.Points c670.2.2.fn c670.2.2.vars c670.2.2.scope (x317 ++ [(⟨c670.1.Kind, c670.1.Op, c670.1.Var, c670.1.Num, c670.1.Kids⟩ : zi)]) (x322 ++ [z744]) (IntKind.i64.wrap (x324 + 1)) else (zeI p1.Op).bind fun c750 => (if (c750 == 12) = true then zd5 p1 x286 x290 x297 x303 c750 x295 x301 x307 x312 x317 x322 (c750 == 12) else zd5 p1 x286 x290 x297 x303 c750 x295 x301 x307 x312 x317 x322 (c750 == 13)))
def zeu (R_check_checker_exp : zb → zc → Option (Except (Value × zb) (zi × Int × zb))) (p1 : zc) : Nat → (List zbi) → (List zH) → (List zL) → Int → (List zK) → Int → (List zC) → (List Int) → (List zi) → (List UInt8) → Int → Option (Except (Value × zb) (zi × Int × zb))
 | 0, _, _, _, _, _, _, _, _, _, _, _ => none
 | n + 1, x286, x290, x295, x297, x301, x303, x307, x312, x317, x322, x324 => zfR (zeu R_check_checker_exp p1 n) R_check_checker_exp p1 x286 x290 x295 x297 x301 x303 x307 x312 x317 x322 x324
def zjG (R_check_checker_vals : zb → (List zc) → (List UInt8) → Option (Except (Value × zb) ((List zi) × zb))) (R_check_checker_exp : zb → zc → Option (Except (Value × zb) (zi × Int × zb))) (R_check_checker_place : zb → zc → Option (Except (Value × zb) (zi × Int × zb))) (R_check_checker_unary : zb → zc → Option (Except (Value × zb) (zi × Int × zb))) (R_check_checker_binary : zb → zc → Option (Except (Value × zb) (zi × Int × zb))) (q0 : zb) (p1 : zc) : Option (Except (Value × zb) (zi × Int × zb)) :=
 zeu R_check_checker_exp p1 big q0.prog.Structs q0.prog.Funcs q0.tree.Bodies q0.tree.Main q0.tree.Points q0.fn q0.vars q0.scope ([]) ([]) 0
def zB : Nat → (zb → (List zc) → (List UInt8) → Option (Except (Value × zb) ((List zi) × zb))) × (zb → zc → Option (Except (Value × zb) (zi × Int × zb))) × (zb → zc → Option (Except (Value × zb) (zi × Int × zb))) × (zb → zc → Option (Except (Value × zb) (zi × Int × zb))) × (zb → zc → Option (Except (Value × zb) (zi × Int × zb)))
 | 0 => (fun _ _ _ => none, fun _ _ => none, fun _ _ => none, fun _ _ => none, fun _ _ => none)
 | gn + 1 => (zjc ((zB gn).1) ((zB gn).2.1) ((zB gn).2.2.1) ((zB gn).2.2.2.1) ((zB gn).2.2.2.2), zfy ((zB gn).1) ((zB gn).2.1) ((zB gn).2.2.1) ((zB gn).2.2.2.1) ((zB gn).2.2.2.2), zf3 ((zB gn).1) ((zB gn).2.1) ((zB gn).2.2.1) ((zB gn).2.2.2.1) ((zB gn).2.2.2.2), zf1 ((zB gn).1) ((zB gn).2.1) ((zB gn).2.2.1) ((zB gn).2.2.2.1) ((zB gn).2.2.2.2), zjG ((zB gn).1) ((zB gn).2.1) ((zB gn).2.2.1) ((zB gn).2.2.2.1) ((zB gn).2.2.2.2))
def zcu (q0 : zb) (p1 : (List zc)) (p2 : (List UInt8)) : Option (Except (Value × zb) ((List zi) × zb)) := (zB big).1 q0 p1 p2
def zg5 (p0 : (List ByteArray)) : Option (List ByteArray) := (room p0.length).bind fun _ => some p0
def zeh (q1 : zh) (p2 : zl) (x299 : List zbi) (x303 : List zH) (x308 : List zL) (x310 : Int) (x314 : List zK) (x316 : Int) (x320 : List zC) (x325 : List Int) (x329 : List zi) (x331 : Int) (x335 : List ByteArray) : Option (Except (Value × zb × zh) (zb × zh)) :=
 (room (x320.length + ([(⟨p2.Name, (⟨p2.Type_.Kind, p2.Type_.N, p2.Type_.Name⟩ : zD), x331, x335⟩ : zC)] : List zC).length)).bind fun _ => (room (x325.length + ([(x320.length : Int)] : List Int).length)).bind fun _ => some (.ok ((⟨(⟨x299, x303⟩ : zm), (⟨x308, x310, x314⟩ : zA), x316, (x320 ++ ([(⟨p2.Name, (⟨p2.Type_.Kind, p2.Type_.N, p2.Type_.Name⟩ : zD), x331, x335⟩ : zC)] : List zC)), (x325 ++ ([(x320.length : Int)] : List Int))⟩ : zb), (⟨q1.Kind, q1.Point, (x320.length : Int), q1.Field, q1.Call, x329, q1.Body, q1.Else⟩ : zh)))
def zfv (q0 : zb) (q1 : zh) (p2 : zl) : Option (Except (Value × zb × zh) (zb × zh)) :=
 (zfc q0 p2.Name).bind fun c5 => ((if (decide (c5 < 0)) = true then (zdb q0 p2.Type_).bind fun c12 => some c12 else some false)).bind fun c9 => zJ (zby c9 8) (fun x20 => some (.error (x20, q0, q1))) fun c16 => (if ((p2.Type_.Kind.toNat : Int) == 3) = true then zJ (zby ((decide (p2.Type_.N ≥ 1)) && (decide (p2.Type_.N ≤ 16))) 9) (fun x364 => some (.error (x364, q0, q1))) fun c360 => zJ (zcu q0 p2.Kids []) (fun x372 => some (.error (x372.1, x372.2, q1))) fun c368 => zeh q1 p2 c368.2.prog.Structs c368.2.prog.Funcs c368.2.tree.Bodies c368.2.tree.Main c368.2.tree.Points c368.2.fn c368.2.vars c368.2.scope q1.Kids p2.Type_.N ([]) else (if ((p2.Type_.Kind.toNat : Int) == 4) = true then (zfg q0 p2.Type_.Name).bind fun c438 => (zg5 c438.1).bind fun c446 => zJ (zcu q0 p2.Kids []) (fun x459 => some (.error (x459.1, x459.2, q1))) fun c455 => zeh q1 p2 c455.2.prog.Structs c455.2.prog.Funcs c455.2.tree.Bodies c455.2.tree.Main c455.2.tree.Points c455.2.fn c455.2.vars c455.2.scope q1.Kids (c438.1.length : Int) c446 else zJ (zcu q0 p2.Kids ([p2.Type_.Kind] : List UInt8)) (fun x534 => some (.error (x534.1, x534.2, q1))) fun c530 => zeh q1 p2 c530.2.prog.Structs c530.2.prog.Funcs c530.2.tree.Bodies c530.2.tree.Main c530.2.tree.Points c530.2.fn c530.2.vars c530.2.scope c530.1 1 ([])))
def zek (q1 : zh) (c5 : Int) (x409 : List zbi) (x413 : List zH) (x418 : List zL) (x420 : Int) (x424 : List zK) (x426 : Int) (x430 : List zC) (x435 : List Int) (x437 : Int) (x440 : List zi) : Option (Except (Value × zb × zh) (zb × zh)) :=
 some (.ok ((⟨(⟨x409, x413⟩ : zm), (⟨x418, x420, x424⟩ : zA), x426, x430, x435⟩ : zb), (⟨q1.Kind, q1.Point, c5, x437, q1.Call, x440, q1.Body, q1.Else⟩ : zh)))
def zgv (q0 : zb) (q1 : zh) (p2 : zl) : Option (Except (Value × zb × zh) (zb × zh)) :=
 zJ (zep q0 p2.Name) (fun x9 => some (.error (x9, q0, q1))) fun c5 => (if ((p2.Kind.toNat : Int) == 2) = true then (zt q0.vars c5).bind fun y443 => (zc1 y443.Type_).bind fun c456 => zJ (zby c456 9) (fun x464 => some (.error (x464, q0, (⟨q1.Kind, q1.Point, c5, q1.Field, q1.Call, q1.Kids, q1.Body, q1.Else⟩ : zh)))) fun c460 => zJ (zcu q0 p2.Kids ([y443.Type_.Kind] : List UInt8)) (fun x478 => some (.error (x478.1, x478.2, (⟨q1.Kind, q1.Point, c5, q1.Field, q1.Call, q1.Kids, q1.Body, q1.Else⟩ : zh)))) fun c474 => zek q1 c5 c474.2.prog.Structs c474.2.prog.Funcs c474.2.tree.Bodies c474.2.tree.Main c474.2.tree.Points c474.2.fn c474.2.vars c474.2.scope q1.Field c474.1 else (if ((p2.Kind.toNat : Int) == 9) = true then zJ (zdK q0 c5 1) (fun x550 => some (.error (x550, q0, (⟨q1.Kind, q1.Point, c5, q1.Field, q1.Call, q1.Kids, q1.Body, q1.Else⟩ : zh)))) fun c546 => zJ (zcu q0 p2.Kids []) (fun x558 => some (.error (x558.1, x558.2, (⟨q1.Kind, q1.Point, c5, q1.Field, q1.Call, q1.Kids, q1.Body, q1.Else⟩ : zh)))) fun c554 => zek q1 c5 c554.2.prog.Structs c554.2.prog.Funcs c554.2.tree.Bodies c554.2.tree.Main c554.2.tree.Points c554.2.fn c554.2.vars c554.2.scope q1.Field c554.1 else (if ((p2.Kind.toNat : Int) == 3) = true then zJ (zdK q0 c5 3) (fun x630 => some (.error (x630, q0, (⟨q1.Kind, q1.Point, c5, q1.Field, q1.Call, q1.Kids, q1.Body, q1.Else⟩ : zh)))) fun c626 => zJ (zcu q0 p2.Kids ([(1 : UInt8), (1 : UInt8)] : List UInt8)) (fun x644 => some (.error (x644.1, x644.2, (⟨q1.Kind, q1.Point, c5, q1.Field, q1.Call, q1.Kids, q1.Body, q1.Else⟩ : zh)))) fun c640 => zek q1 c5 c640.2.prog.Structs c640.2.prog.Funcs c640.2.tree.Bodies c640.2.tree.Main c640.2.tree.Points c640.2.fn c640.2.vars c640.2.scope q1.Field c640.1 else (if ((p2.Kind.toNat : Int) == 4) = true then zJ (zdK q0 c5 4) (fun x716 => some (.error (x716, q0, (⟨q1.Kind, q1.Point, c5, q1.Field, q1.Call, q1.Kids, q1.Body, q1.Else⟩ : zh)))) fun c712 => zJ (zej q0 c5 p2.Field) (fun x724 => some (.error (x724, q0, (⟨q1.Kind, q1.Point, c5, q1.Field, q1.Call, q1.Kids, q1.Body, q1.Else⟩ : zh)))) fun c720 => zJ (zcu q0 p2.Kids ([(1 : UInt8)] : List UInt8)) (fun x738 => some (.error (x738.1, x738.2, (⟨q1.Kind, q1.Point, c5, c720, q1.Call, q1.Kids, q1.Body, q1.Else⟩ : zh)))) fun c734 => zek q1 c5 c734.2.prog.Structs c734.2.prog.Funcs c734.2.tree.Bodies c734.2.tree.Main c734.2.tree.Points c734.2.fn c734.2.vars c734.2.scope c720 c734.1 else zek q1 c5 q0.prog.Structs q0.prog.Funcs q0.tree.Bodies q0.tree.Main q0.tree.Points q0.fn q0.vars q0.scope q1.Field q1.Kids))))
def zgw (rec7 : (List zL) → (List zK) → (List zC) → (List Int) → (List UInt8) → Int → Option (Except (Value × zb × zh) (zb × zh))) (q0 : zb) (q1 : zh) (p2 : zl) (x57 : Int) (c58 : Int) (y70 : zH) (x218 : List zL) (x223 : List zK) (x228 : List zC) (x233 : List Int) (x240 : List UInt8) (x243 : Int) : Option (Except (Value × zb × zh) (zb × zh)) :=
 (if (decide (x243 < (y70.Params.length : Int))) = true then (zt y70.Params x243).bind fun y355 => (room (x240.length + 1)).bind fun _ => rec7 x218 x223 x228 x233 (x240 ++ [y355.Type_.Kind]) (IntKind.i64.wrap (x243 + 1)) else zJ (zcu (⟨(⟨q0.prog.Structs, q0.prog.Funcs⟩ : zm), (⟨x218, q0.tree.Main, x223⟩ : zA), q0.fn, x228, x233⟩ : zb) p2.Kids x240) (fun x372 => some (.error (x372.1, x372.2, (⟨q1.Kind, q1.Point, x57, q1.Field, c58, q1.Kids, q1.Body, q1.Else⟩ : zh)))) fun c368 => ((if (decide (x57 < 0)) = true then some true else (zt c368.2.vars x57).bind fun y440 => some ((y440.Type_.Kind.toNat : Int) == (y70.Result.Kind.toNat : Int)))).bind fun c437 => zJ (zby c437 9) (fun x455 => some (.error (x455, c368.2, (⟨q1.Kind, q1.Point, x57, q1.Field, c58, c368.1, q1.Body, q1.Else⟩ : zh)))) fun c451 => some (.ok (c368.2, (⟨q1.Kind, q1.Point, x57, q1.Field, c58, c368.1, q1.Body, q1.Else⟩ : zh))))
def ze7 (q0 : zb) (q1 : zh) (p2 : zl) (x57 : Int) (c58 : Int) (y70 : zH) : Nat → (List zL) → (List zK) → (List zC) → (List Int) → (List UInt8) → Int → Option (Except (Value × zb × zh) (zb × zh))
 | 0, _, _, _, _, _, _ => none
 | n + 1, x218, x223, x228, x233, x240, x243 => zgw (ze7 q0 q1 p2 x57 c58 y70 n) q0 q1 p2 x57 c58 y70 x218 x223 x228 x233 x240 x243
def zeJ (q0 : zb) (q1 : zh) (p2 : zl) (x40 : List zL) (x45 : List zK) (x50 : List zC) (x55 : List Int) (x57 : Int) : Option (Except (Value × zb × zh) (zb × zh)) :=
 (ze1 (⟨(⟨q0.prog.Structs, q0.prog.Funcs⟩ : zm), (⟨x40, q0.tree.Main, x45⟩ : zA), q0.fn, x50, x55⟩ : zb) p2.Call).bind fun c58 => zJ (zby (decide (c58 ≥ 0)) 8) (fun x66 => some (.error (x66, (⟨(⟨q0.prog.Structs, q0.prog.Funcs⟩ : zm), (⟨x40, q0.tree.Main, x45⟩ : zA), q0.fn, x50, x55⟩ : zb), (⟨q1.Kind, q1.Point, x57, q1.Field, c58, q1.Kids, q1.Body, q1.Else⟩ : zh)))) fun c62 => (zt q0.prog.Funcs c58).bind fun y70 => ze7 q0 q1 p2 x57 c58 y70 big x40 x45 x50 x55 ([]) 0
def zfx (q0 : zb) (q1 : zh) (p2 : zl) : Option (Except (Value × zb × zh) (zb × zh)) :=
 (if (!(zG p2.Name zqA)) = true then zJ (zep q0 p2.Name) (fun x468 => some (.error (x468, q0, q1))) fun c464 => (zt q0.vars c464).bind fun y472 => (zc1 y472.Type_).bind fun c483 => zJ (zby c483 9) (fun x491 => some (.error (x491, q0, (⟨q1.Kind, q1.Point, c464, q1.Field, q1.Call, q1.Kids, q1.Body, q1.Else⟩ : zh)))) fun c487 => zeJ q0 q1 p2 q0.tree.Bodies q0.tree.Points q0.vars q0.scope c464 else zeJ q0 q1 p2 q0.tree.Bodies q0.tree.Points q0.vars q0.scope q1.Var)
def zdT (p0 : Int) (qf0 : zb) : Option zb :=
 (zd8 qf0.scope 0 p0).bind fun y2 => some (⟨(⟨qf0.prog.Structs, qf0.prog.Funcs⟩ : zm), (⟨qf0.tree.Bodies, qf0.tree.Main, qf0.tree.Points⟩ : zA), qf0.fn, qf0.vars, y2⟩ : zb)
def zgo (rec4 : (List zbi) → (List zH) → (List zL) → Int → (List zK) → Int → (List zC) → (List Int) → (List zh) → Int → Option (Except (Value × zb) ((List zh) × zb))) (R_check_checker_stmt : zb → zl → Option (Except (Value × zb) (zh × zb))) (p1 : (List zl)) (x126 : List zbi) (x130 : List zH) (x135 : List zL) (x137 : Int) (x141 : List zK) (x143 : Int) (x147 : List zC) (x152 : List Int) (x157 : List zh) (x159 : Int) : Option (Except (Value × zb) ((List zh) × zb)) :=
 (if (decide (x159 < (p1.length : Int))) = true then (zt p1 x159).bind fun y262 => zJ (R_check_checker_stmt (⟨(⟨x126, x130⟩ : zm), (⟨x135, x137, x141⟩ : zA), x143, x147, x152⟩ : zb) y262) (fun x284 => some (.error (x284.1, x284.2))) fun c280 => (room (x157.length + 1)).bind fun _ => rec4 c280.2.prog.Structs c280.2.prog.Funcs c280.2.tree.Bodies c280.2.tree.Main c280.2.tree.Points c280.2.fn c280.2.vars c280.2.scope (x157 ++ [(⟨c280.1.Kind, c280.1.Point, c280.1.Var, c280.1.Field, c280.1.Call, c280.1.Kids, c280.1.Body, c280.1.Else⟩ : zh)]) (IntKind.i64.wrap (x159 + 1)) else some (.ok (x157, (⟨(⟨x126, x130⟩ : zm), (⟨x135, x137, x141⟩ : zA), x143, x147, x152⟩ : zb))))
def zel (R_check_checker_stmt : zb → zl → Option (Except (Value × zb) (zh × zb))) (p1 : (List zl)) : Nat → (List zbi) → (List zH) → (List zL) → Int → (List zK) → Int → (List zC) → (List Int) → (List zh) → Int → Option (Except (Value × zb) ((List zh) × zb))
 | 0, _, _, _, _, _, _, _, _, _, _ => none
 | n + 1, x126, x130, x135, x137, x141, x143, x147, x152, x157, x159 => zgo (zel R_check_checker_stmt p1 n) R_check_checker_stmt p1 x126 x130 x135 x137 x141 x143 x147 x152 x157 x159
def zfF (R_check_checker_list : zb → (List zl) → Option (Except (Value × zb) ((List zh) × zb))) (R_check_checker_stmt : zb → zl → Option (Except (Value × zb) (zh × zb))) (q0 : zb) (p1 : (List zl)) : Option (Except (Value × zb) ((List zh) × zb)) :=
 zel R_check_checker_stmt p1 big q0.prog.Structs q0.prog.Funcs q0.tree.Bodies q0.tree.Main q0.tree.Points q0.fn q0.vars q0.scope ([]) 0
def zfZ (R_check_checker_list : zb → (List zl) → Option (Except (Value × zb) ((List zh) × zb))) (R_check_checker_stmt : zb → zl → Option (Except (Value × zb) (zh × zb))) (q0 : zb) (p1 : (List zl)) : Option (Except (Value × zb) ((List zh) × zb)) :=
 (zfF R_check_checker_list R_check_checker_stmt q0 p1).bind fun r => match r with
  | .ok c => (zdT (q0.scope.length : Int) c.2).bind fun q => some (.ok (c.1, q))
  | .error c => (zdT (q0.scope.length : Int) c.2).bind fun q => some (.error (c.1, q))
def zcM (x1008 : List zbi) (x1012 : List zH) (x1017 : List zL) (x1019 : Int) (x1023 : List zK) (x1025 : Int) (x1029 : List zC) (x1034 : List Int) (x1036 : UInt8) (x1037 : Int) (x1038 : Int) (x1039 : Int) (x1040 : Int) (x1043 : List zi) (x1047 : List zh) (x1051 : List zh) : Option (Except (Value × zb) (zh × zb)) :=
 some (.ok ((⟨x1036, x1037, x1038, x1039, x1040, x1043, x1047, x1051⟩ : zh), (⟨(⟨x1008, x1012⟩ : zm), (⟨x1017, x1019, x1023⟩ : zA), x1025, x1029, x1034⟩ : zb)))
def zdZ (R_check_checker_list : zb → (List zl) → Option (Except (Value × zb) ((List zh) × zb))) (q0 : zb) (p1 : zl) (x1348 : List zL) (x1353 : List zK) (x1358 : List zC) (x1363 : List Int) (x1365 : Bool) : Option (Except (Value × zb) (zh × zb)) :=
 (if x1365 = true then zJ (zcu (⟨(⟨q0.prog.Structs, q0.prog.Funcs⟩ : zm), (⟨x1348, q0.tree.Main, x1353⟩ : zA), q0.fn, x1358, x1363⟩ : zb) p1.Kids ([(2 : UInt8)] : List UInt8)) (fun x1377 => some (.error (x1377.1, x1377.2))) fun c1373 => zJ (R_check_checker_list c1373.2 p1.Body) (fun x1446 => some (.error (x1446.1, x1446.2))) fun c1442 => (if ((p1.Kind.toNat : Int) == 6) = true then zJ (R_check_checker_list c1442.2 p1.Else) (fun x1516 => some (.error (x1516.1, x1516.2))) fun c1512 => zcM c1512.2.prog.Structs c1512.2.prog.Funcs c1512.2.tree.Bodies c1512.2.tree.Main c1512.2.tree.Points c1512.2.fn c1512.2.vars c1512.2.scope p1.Kind (q0.tree.Points.length : Int) (-1) 0 (-1) c1373.1 c1442.1 c1512.1 else zcM c1442.2.prog.Structs c1442.2.prog.Funcs c1442.2.tree.Bodies c1442.2.tree.Main c1442.2.tree.Points c1442.2.fn c1442.2.vars c1442.2.scope p1.Kind (q0.tree.Points.length : Int) (-1) 0 (-1) c1373.1 c1442.1 ([])) else (if ((p1.Kind.toNat : Int) == 8) = true then zJ (zcu (⟨(⟨q0.prog.Structs, q0.prog.Funcs⟩ : zm), (⟨x1348, q0.tree.Main, x1353⟩ : zA), q0.fn, x1358, x1363⟩ : zb) p1.Kids ([(1 : UInt8)] : List UInt8)) (fun x1602 => some (.error (x1602.1, x1602.2))) fun c1598 => zcM c1598.2.prog.Structs c1598.2.prog.Funcs c1598.2.tree.Bodies c1598.2.tree.Main c1598.2.tree.Points c1598.2.fn c1598.2.vars c1598.2.scope p1.Kind (q0.tree.Points.length : Int) (-1) 0 (-1) c1598.1 ([]) ([]) else (if ((p1.Kind.toNat : Int) == 10) = true then (zt q0.prog.Funcs q0.fn).bind fun y1670 => (if ((y1670.Result.Kind.toNat : Int) != 0) = true then zJ (zcu (⟨(⟨q0.prog.Structs, q0.prog.Funcs⟩ : zm), (⟨x1348, q0.tree.Main, x1353⟩ : zA), q0.fn, x1358, x1363⟩ : zb) p1.Kids ([y1670.Result.Kind] : List UInt8)) (fun x1695 => some (.error (x1695.1, x1695.2))) fun c1691 => zcM c1691.2.prog.Structs c1691.2.prog.Funcs c1691.2.tree.Bodies c1691.2.tree.Main c1691.2.tree.Points c1691.2.fn c1691.2.vars c1691.2.scope p1.Kind (q0.tree.Points.length : Int) (-1) 0 (-1) c1691.1 ([]) ([]) else zJ (zcu (⟨(⟨q0.prog.Structs, q0.prog.Funcs⟩ : zm), (⟨x1348, q0.tree.Main, x1353⟩ : zA), q0.fn, x1358, x1363⟩ : zb) p1.Kids []) (fun x1766 => some (.error (x1766.1, x1766.2))) fun c1762 => zcM c1762.2.prog.Structs c1762.2.prog.Funcs c1762.2.tree.Bodies c1762.2.tree.Main c1762.2.tree.Points c1762.2.fn c1762.2.vars c1762.2.scope p1.Kind (q0.tree.Points.length : Int) (-1) 0 (-1) c1762.1 ([]) ([])) else zJ (zcu (⟨(⟨q0.prog.Structs, q0.prog.Funcs⟩ : zm), (⟨x1348, q0.tree.Main, x1353⟩ : zA), q0.fn, x1358, x1363⟩ : zb) p1.Kids []) (fun x1837 => some (.error (x1837.1, x1837.2))) fun c1833 => zJ (zby false 9) (fun x1906 => some (.error (x1906, c1833.2))) fun c1902 => zcM c1833.2.prog.Structs c1833.2.prog.Funcs c1833.2.tree.Bodies c1833.2.tree.Main c1833.2.tree.Points c1833.2.fn c1833.2.vars c1833.2.scope p1.Kind (q0.tree.Points.length : Int) (-1) 0 (-1) ([]) ([]) ([]))))
def zdB (R_check_checker_list : zb → (List zl) → Option (Except (Value × zb) ((List zh) × zb))) (q0 : zb) (p1 : zl) (x1148 : List zL) (x1153 : List zK) (x1158 : List zC) (x1163 : List Int) (x1165 : Bool) : Option (Except (Value × zb) (zh × zb)) :=
 (if x1165 = true then zJ (zgv (⟨(⟨q0.prog.Structs, q0.prog.Funcs⟩ : zm), (⟨x1148, q0.tree.Main, x1153⟩ : zA), q0.fn, x1158, x1163⟩ : zb) (⟨p1.Kind, (q0.tree.Points.length : Int), (-1), 0, (-1), [], [], []⟩ : zh) p1) (fun x1171 => some (.error (x1171.1, x1171.2.1))) fun c1167 => zcM c1167.1.prog.Structs c1167.1.prog.Funcs c1167.1.tree.Bodies c1167.1.tree.Main c1167.1.tree.Points c1167.1.fn c1167.1.vars c1167.1.scope c1167.2.Kind c1167.2.Point c1167.2.Var c1167.2.Field c1167.2.Call c1167.2.Kids c1167.2.Body c1167.2.Else else (if ((p1.Kind.toNat : Int) == 5) = true then zJ (zfx (⟨(⟨q0.prog.Structs, q0.prog.Funcs⟩ : zm), (⟨x1148, q0.tree.Main, x1153⟩ : zA), q0.fn, x1158, x1163⟩ : zb) (⟨p1.Kind, (q0.tree.Points.length : Int), (-1), 0, (-1), [], [], []⟩ : zh) p1) (fun x1260 => some (.error (x1260.1, x1260.2.1))) fun c1256 => zcM c1256.1.prog.Structs c1256.1.prog.Funcs c1256.1.tree.Bodies c1256.1.tree.Main c1256.1.tree.Points c1256.1.fn c1256.1.vars c1256.1.scope c1256.2.Kind c1256.2.Point c1256.2.Var c1256.2.Field c1256.2.Call c1256.2.Kids c1256.2.Body c1256.2.Else else (if ((p1.Kind.toNat : Int) == 6) = true then zdZ R_check_checker_list q0 p1 x1148 x1153 x1158 x1163 ((p1.Kind.toNat : Int) == 6) else zdZ R_check_checker_list q0 p1 x1148 x1153 x1158 x1163 ((p1.Kind.toNat : Int) == 7))))
def zge (R_check_checker_list : zb → (List zl) → Option (Except (Value × zb) ((List zh) × zb))) (R_check_checker_stmt : zb → zl → Option (Except (Value × zb) (zh × zb))) (q0 : zb) (p1 : zl) : Option (Except (Value × zb) (zh × zb)) :=
 (zgH q0.scope).bind fun c6 => (room (q0.tree.Points.length + ([(⟨q0.fn, p1.Line, c6⟩ : zK)] : List zK).length)).bind fun _ => (if ((p1.Kind.toNat : Int) == 1) = true then zJ (zfv (⟨(⟨q0.prog.Structs, q0.prog.Funcs⟩ : zm), (⟨q0.tree.Bodies, q0.tree.Main, (q0.tree.Points ++ ([(⟨q0.fn, p1.Line, c6⟩ : zK)] : List zK))⟩ : zA), q0.fn, q0.vars, q0.scope⟩ : zb) (⟨p1.Kind, (q0.tree.Points.length : Int), (-1), 0, (-1), [], [], []⟩ : zh) p1) (fun x1058 => some (.error (x1058.1, x1058.2.1))) fun c1054 => zcM c1054.1.prog.Structs c1054.1.prog.Funcs c1054.1.tree.Bodies c1054.1.tree.Main c1054.1.tree.Points c1054.1.fn c1054.1.vars c1054.1.scope c1054.2.Kind c1054.2.Point c1054.2.Var c1054.2.Field c1054.2.Call c1054.2.Kids c1054.2.Body c1054.2.Else else (if ((p1.Kind.toNat : Int) == 2) = true then zdB R_check_checker_list q0 p1 q0.tree.Bodies (q0.tree.Points ++ ([(⟨q0.fn, p1.Line, c6⟩ : zK)] : List zK)) q0.vars q0.scope ((p1.Kind.toNat : Int) == 2) else (if ((p1.Kind.toNat : Int) == 3) = true then zdB R_check_checker_list q0 p1 q0.tree.Bodies (q0.tree.Points ++ ([(⟨q0.fn, p1.Line, c6⟩ : zK)] : List zK)) q0.vars q0.scope ((p1.Kind.toNat : Int) == 3) else (if ((p1.Kind.toNat : Int) == 4) = true then zdB R_check_checker_list q0 p1 q0.tree.Bodies (q0.tree.Points ++ ([(⟨q0.fn, p1.Line, c6⟩ : zK)] : List zK)) q0.vars q0.scope ((p1.Kind.toNat : Int) == 4) else zdB R_check_checker_list q0 p1 q0.tree.Bodies (q0.tree.Points ++ ([(⟨q0.fn, p1.Line, c6⟩ : zK)] : List zK)) q0.vars q0.scope ((p1.Kind.toNat : Int) == 9)))))
def zb1 : Nat → (zb → (List zl) → Option (Except (Value × zb) ((List zh) × zb))) × (zb → zl → Option (Except (Value × zb) (zh × zb)))
 | 0 => (fun _ _ => none, fun _ _ => none)
 | gn + 1 => (zfZ ((zb1 gn).1) ((zb1 gn).2), zge ((zb1 gn).1) ((zb1 gn).2))
def zgr (q0 : zb) (p1 : (List zl)) : Option (Except (Value × zb) ((List zh) × zb)) := (zb1 big).1 q0 p1
def zf9 (R_check_returns : (List zl) → Option Bool) (p0 : (List zl)) : Option Bool :=
 (if ((p0.length : Int) == 0) = true then some false else (zt p0 (IntKind.i64.wrap ((p0.length : Int) - 1))).bind fun y3 => ((if ((y3.Kind.toNat : Int) == 10) = true then some true else (if ((y3.Kind.toNat : Int) == 6) = true then (R_check_returns y3.Body).bind fun c25 => (if c25 = true then (R_check_returns y3.Else).bind fun c30 => some c30 else some false) else (if false = true then (R_check_returns y3.Else).bind fun c35 => some c35 else some false)))).bind fun c21 => some c21)
def zff : Nat → ((List zl) → Option Bool)
 | 0 => fun _ => none
 | gn + 1 => zf9 (zff gn)
def zgO (p0 : (List zl)) : Option Bool := (zff big) p0
def zeH (q0 : zb) (p1 : ByteArray) : Option Int :=
 (zf8 q0.prog.Funcs p1).bind fun c6 => some c6
def zgl (rec4 : (List zL) → (List zK) → (List zC) → (List Int) → (List ByteArray) → Bool → Int → Option (Except (Value × zb) (zb))) (q0 : zb) (p1 : Int) (y3 : zH) (x241 : List zL) (x246 : List zK) (x251 : List zC) (x256 : List Int) (x263 : List ByteArray) (x265 : Bool) (x267 : Int) : Option (Except (Value × zb) (zb)) :=
 (if (decide (x267 < (y3.Params.length : Int))) = true then (zt y3.Params x267).bind fun y453 => (room (x263.length + 1)).bind fun _ => (zdb (⟨(⟨q0.prog.Structs, q0.prog.Funcs⟩ : zm), (⟨x241, q0.tree.Main, x246⟩ : zA), p1, x251, x256⟩ : zb) y453.Type_).bind fun c464 => ((if c464 = true then (zgf (x263 ++ [y453.Name])).bind fun c471 => some (!c471) else some false)).bind fun c468 => zJ (zby c468 8) (fun x479 => some (.error (x479, (⟨(⟨q0.prog.Structs, q0.prog.Funcs⟩ : zm), (⟨x241, q0.tree.Main, x246⟩ : zA), p1, x251, x256⟩ : zb)))) fun c475 => ((if x265 = true then (zc1 y453.Type_).bind fun c488 => some c488 else some false)).bind fun c485 => (room (x251.length + ([(⟨y453.Name, (⟨y453.Type_.Kind, y453.Type_.N, y453.Type_.Name⟩ : zD), 1, []⟩ : zC)] : List zC).length)).bind fun _ => (room (x256.length + 1)).bind fun _ => rec4 x241 x246 (x251 ++ ([(⟨y453.Name, (⟨y453.Type_.Kind, y453.Type_.N, y453.Type_.Name⟩ : zD), 1, []⟩ : zC)] : List zC)) (x256 ++ [x267]) (x263 ++ [y453.Name]) c485 (IntKind.i64.wrap (x267 + 1)) else (zdb (⟨(⟨q0.prog.Structs, q0.prog.Funcs⟩ : zm), (⟨x241, q0.tree.Main, x246⟩ : zA), p1, x251, x256⟩ : zb) y3.Result).bind fun c508 => zJ (zby c508 8) (fun x516 => some (.error (x516, (⟨(⟨q0.prog.Structs, q0.prog.Funcs⟩ : zm), (⟨x241, q0.tree.Main, x246⟩ : zA), p1, x251, x256⟩ : zb)))) fun c512 => zJ (zby x265 9) (fun x526 => some (.error (x526, (⟨(⟨q0.prog.Structs, q0.prog.Funcs⟩ : zm), (⟨x241, q0.tree.Main, x246⟩ : zA), p1, x251, x256⟩ : zb)))) fun c522 => zJ (zgr (⟨(⟨q0.prog.Structs, q0.prog.Funcs⟩ : zm), (⟨x241, q0.tree.Main, x246⟩ : zA), p1, x251, x256⟩ : zb) y3.Body) (fun x536 => some (.error (x536.1, x536.2))) fun c532 => ((if (!((y3.Result.Kind.toNat : Int) != 0)) = true then some true else (zgO y3.Body).bind fun c606 => some c606)).bind fun c603 => zJ (zby c603 10) (fun x614 => some (.error (x614, c532.2))) fun c610 => (room (c532.2.tree.Bodies.length + ([(⟨y3.Name, (y3.Params.length : Int), ((y3.Result.Kind.toNat : Int) != 0), c532.2.vars, c532.1⟩ : zL)] : List zL).length)).bind fun _ => some (.ok (⟨(⟨c532.2.prog.Structs, c532.2.prog.Funcs⟩ : zm), (⟨(c532.2.tree.Bodies ++ ([(⟨y3.Name, (y3.Params.length : Int), ((y3.Result.Kind.toNat : Int) != 0), c532.2.vars, c532.1⟩ : zL)] : List zL)), c532.2.tree.Main, c532.2.tree.Points⟩ : zA), c532.2.fn, c532.2.vars, c532.2.scope⟩ : zb)))
def zfd (q0 : zb) (p1 : Int) (y3 : zH) : Nat → (List zL) → (List zK) → (List zC) → (List Int) → (List ByteArray) → Bool → Int → Option (Except (Value × zb) (zb))
 | 0, _, _, _, _, _, _, _ => none
 | n + 1, x241, x246, x251, x256, x263, x265, x267 => zgl (zfd q0 p1 y3 n) q0 p1 y3 x241 x246 x251 x256 x263 x265 x267
def zdD (q0 : zb) (p1 : Int) : Option (Except (Value × zb) (zb)) :=
 (zt q0.prog.Funcs p1).bind fun y3 => (zeH q0 y3.Name).bind fun c17 => zJ (zby (c17 == p1) 8) (fun x25 => some (.error (x25, q0))) fun c21 => ((if (decide ((y3.Params.length : Int) ≤ 6)) = true then (if ((y3.Result.Kind.toNat : Int) == 0) = true then some true else (zc1 y3.Result).bind fun c33 => some c33) else some false)).bind fun c29 => zfd q0 p1 y3 big q0.tree.Bodies q0.tree.Points ([]) ([]) ([]) c29 0
def zdz (q0 : zb) (p1 : Int) : Option (Except (Value) (Unit)) :=
 (zt q0.prog.Structs p1).bind fun y3 => (zgJ q0.prog.Structs y3).bind fun c15 => ((if (c15 == p1) = true then (zgf y3.Fields).bind fun c22 => some (!c22) else some false)).bind fun c19 => zJ (zby c19 8) (fun x30 => some (.error x30)) fun c26 => ((if (decide ((y3.Fields.length : Int) ≥ 1)) = true then some (decide ((y3.Fields.length : Int) ≤ 8)) else some false)).bind fun c34 => zJ (zby c34 9) (fun x41 => some (.error x41)) fun c37 => some (.ok ())
def zdh : Value → Option Int
 | .iface 134 (.int .i64 k) => some k
 | _ => none
def wS (q : zb) : Nat → Int → Int → Option (Except (Int × Value) Int)
 | 0, _, _ => none
 | k + 1, n, i => if (decide (i < (q.prog.Structs.length : Int))) = true then (match zdz q i with
  | none => none
  | some (.error v) => some (.error (n, v))
  | some (.ok _) => wS q k (IntKind.i64.wrap (n + 1)) (IntKind.i64.wrap (i + 1))) else some (.ok n)
def wB (len : Nat) : Nat → zb → Int → Int → Option (Except (Int × Value × zb) (Int × zb))
 | 0, _, _, _ => none
 | k + 1, q, n, i => if (decide (i < (len : Int))) = true then (match zdD q i with
  | none => none
  | some (.error v) => some (.error (n, v.1, v.2))
  | some (.ok q') => wB len k q' (IntKind.i64.wrap (n + 1)) (IntKind.i64.wrap (i + 1))) else some (.ok (n, q))
def wM (q : zb) (m : Int) : zb := ⟨q.prog, ⟨q.tree.Bodies, m, q.tree.Points⟩, q.fn, q.vars, q.scope⟩
def wT (n : Int) (q : zb) : Option (Int × Int × zb) :=
 (zeH q zqC).bind fun m => match zby (decide (m ≥ 0)) 8 with
  | none => none
  | some (.error v) => (zdh v).map fun k => (n, k, wM q m)
  | some (.ok _) => (zt q.prog.Funcs m).bind fun d => match zby (((d.Params.length : Int) == 0) && ((d.Result.Kind.toNat : Int) == 0)) 8 with
   | none => none
   | some (.error v) => (zdh v).map fun k => (n, k, wM q m)
   | some (.ok _) => some (n, 0, wM q m)
def zdS (q0 : zb) : Option (Int × Int × zb) := match wS q0 big 0 0 with
 | none => none
 | some (.error x) => (zdh x.2).map fun k => (x.1, k, q0)
 | some (.ok n) => match wB q0.prog.Funcs.length big q0 n 0 with
  | none => none
  | some (.error x) => (zdh x.2.1).map fun k => (x.1, k, x.2.2)
  | some (.ok x) => wT x.1 x.2
def ziJ (p0 : zL) : Option Bool :=
 some (decide ((p0.Vars.length : Int) > 64))
def zie (rec4 : Int → Option Int) (p0 : (List zL)) (x22 : Int) : Option Int :=
 (if (decide (x22 < (p0.length : Int))) = true then (zt p0 x22).bind fun y44 => (ziJ y44).bind fun c57 => (if c57 = true then some x22 else rec4 (IntKind.i64.wrap (x22 + 1))) else some (-1))
def zhy (p0 : (List zL)) : Nat → Int → Option Int
 | 0, _ => none
 | n + 1, x22 => zie (zhy p0 n) p0 x22
def zhH (p0 : (List zL)) : Option Int :=
 zhy p0 big 0
def zho (p0 : (List zL)) : Option Bool :=
 (zhH p0).bind fun c3 => some (decide (c3 ≥ 0))
def zcE (p0 : zm) : Option (zA × Int × Int) :=
 (zdS (⟨(⟨p0.Structs, p0.Funcs⟩ : zm), (⟨([] : List zL), 0, ([] : List zK)⟩ : zA), 0, [], ([] : List Int)⟩ : zb)).bind fun c8 => (if (c8.2.1 != 0) = true then some ((⟨[], 0, []⟩ : zA), c8.1, c8.2.1) else (zho c8.2.2.tree.Bodies).bind fun c40 => (if ((c40 || (decide ((p0.Funcs.length : Int) > 64))) || (decide ((c8.2.2.tree.Points.length : Int) > 1000))) = true then some ((⟨[], 0, []⟩ : zA), 0, 11) else some (c8.2.2.tree, 0, 0)))
def zf6 (p0 : Int) : Option zc :=
 some (⟨(1 : UInt8), p0, zqA, zqA, zqA, []⟩ : zc)
def zgm (p0 : ByteArray) : Option zc :=
 some (⟨(3 : UInt8), 0, p0, zqA, zqA, []⟩ : zc)
def zhs (p0 : ByteArray) (p1 : zc) (p2 : zc) : Option zc :=
 some (⟨(7 : UInt8), 0, zqA, zqA, p0, ([(⟨p1.Kind, p1.Num, p1.Name, p1.Field, p1.Op, p1.Kids⟩ : zc), (⟨p2.Kind, p2.Num, p2.Name, p2.Field, p2.Op, p2.Kids⟩ : zc)] : List zc)⟩ : zc)
def zec (p0 : Int) : Option zm :=
 (zgm zqB).bind fun c3 => (zgm zqB).bind fun c15 => (zf6 1).bind fun c23 => (zhs zqG c15 c23).bind fun c31 => (zf6 p0).bind fun c51 => (zgm zqB).bind fun c63 => (zf6 0).bind fun c71 => (zhs zqH c63 c71).bind fun c79 => some (⟨[], ([(⟨zqC, 1, [], (⟨(0 : UInt8), 0, zqA⟩ : zD), ([(⟨(1 : UInt8), 1, zqB, zqA, zqA, (⟨(1 : UInt8), 0, zqA⟩ : zD), ([(⟨c51.Kind, c51.Num, c51.Name, c51.Field, c51.Op, c51.Kids⟩ : zc)] : List zc), [], []⟩ : zl), (⟨(7 : UInt8), 2, zqA, zqA, zqA, (⟨(0 : UInt8), 0, zqA⟩ : zD), ([(⟨c79.Kind, c79.Num, c79.Name, c79.Field, c79.Op, c79.Kids⟩ : zc)] : List zc), ([(⟨(8 : UInt8), 3, zqA, zqA, zqA, (⟨(0 : UInt8), 0, zqA⟩ : zD), ([(⟨c3.Kind, c3.Num, c3.Name, c3.Field, c3.Op, c3.Kids⟩ : zc)] : List zc), [], []⟩ : zl), (⟨(2 : UInt8), 4, zqB, zqA, zqA, (⟨(0 : UInt8), 0, zqA⟩ : zD), ([(⟨c31.Kind, c31.Num, c31.Name, c31.Field, c31.Op, c31.Kids⟩ : zc)] : List zc), [], []⟩ : zl)] : List zl), []⟩ : zl)] : List zl)⟩ : zH)] : List zH)⟩ : zm)
def zey  : Option Bool :=
 some true
def zd9 (rec4 : Int → Option Bool) (R_ref13_SameVals : (List zi) → (List zi) → Option Bool) (p0 : (List zi)) (p1 : (List zi)) (x112 : Int) : Option Bool :=
 (if (decide (x112 < (p0.length : Int))) = true then (zt p0 x112).bind fun y223 => (zt p1 x112).bind fun y232 => ((if ((y223.Kind.toNat : Int) != (y232.Kind.toNat : Int)) = true then some true else (zt p0 x112).bind fun y244 => (zt p1 x112).bind fun y253 => some ((y244.Op.toNat : Int) != (y253.Op.toNat : Int)))).bind fun c241 => ((if c241 = true then some true else (zt p0 x112).bind fun y265 => (zt p1 x112).bind fun y274 => some (y265.Var != y274.Var))).bind fun c262 => ((if c262 = true then some true else (zt p0 x112).bind fun y286 => (zt p1 x112).bind fun y295 => some (y286.Num != y295.Num))).bind fun c283 => ((if c283 = true then some true else (zt p0 x112).bind fun y307 => (zt p1 x112).bind fun y316 => (R_ref13_SameVals y307.Kids y316.Kids).bind fun c325 => some (!c325))).bind fun c304 => (if c304 = true then some false else rec4 (IntKind.i64.wrap (x112 + 1))) else some true)
def zfm (R_ref13_SameVals : (List zi) → (List zi) → Option Bool) (p0 : (List zi)) (p1 : (List zi)) : Nat → Int → Option Bool
 | 0, _ => none
 | n + 1, x112 => zd9 (zfm R_ref13_SameVals p0 p1 n) R_ref13_SameVals p0 p1 x112
def zfC (R_ref13_SameVals : (List zi) → (List zi) → Option Bool) (p0 : (List zi)) (p1 : (List zi)) : Option Bool :=
 (if ((p0.length : Int) != (p1.length : Int)) = true then some false else zfm R_ref13_SameVals p0 p1 big 0)
def zcS : Nat → ((List zi) → (List zi) → Option Bool)
 | 0 => fun _ _ => none
 | gn + 1 => zfC (zcS gn)
def ziN (p0 : (List zi)) (p1 : (List zi)) : Option Bool := (zcS big) p0 p1
def zee (rec4 : Int → Option Bool) (R_ref13_SameActs : (List zh) → (List zh) → Option Bool) (p0 : (List zh)) (p1 : (List zh)) (x63 : Int) : Option Bool :=
 (if (decide (x63 < (p0.length : Int))) = true then (zt p0 x63).bind fun y125 => (zt p1 x63).bind fun y143 => ((if ((((((y125.Kind.toNat : Int) != (y143.Kind.toNat : Int)) || (y125.Point != y143.Point)) || (y125.Var != y143.Var)) || (y125.Field != y143.Field)) || (y125.Call != y143.Call)) = true then some true else (ziN y125.Kids y143.Kids).bind fun c164 => some (!c164))).bind fun c161 => ((if c161 = true then some true else (R_ref13_SameActs y125.Body y143.Body).bind fun c171 => some (!c171))).bind fun c168 => ((if c168 = true then some true else (R_ref13_SameActs y125.Else y143.Else).bind fun c178 => some (!c178))).bind fun c175 => (if c175 = true then some false else rec4 (IntKind.i64.wrap (x63 + 1))) else some true)
def ze9 (R_ref13_SameActs : (List zh) → (List zh) → Option Bool) (p0 : (List zh)) (p1 : (List zh)) : Nat → Int → Option Bool
 | 0, _ => none
 | n + 1, x63 => zee (ze9 R_ref13_SameActs p0 p1 n) R_ref13_SameActs p0 p1 x63
def zgs (R_ref13_SameActs : (List zh) → (List zh) → Option Bool) (p0 : (List zh)) (p1 : (List zh)) : Option Bool :=
 (if ((p0.length : Int) != (p1.length : Int)) = true then some false else ze9 R_ref13_SameActs p0 p1 big 0)
def zcT : Nat → ((List zh) → (List zh) → Option Bool)
 | 0 => fun _ _ => none
 | gn + 1 => zgs (zcT gn)
def zhW (p0 : (List zh)) (p1 : (List zh)) : Option Bool := (zcT big) p0 p1
def zen (rec4 : Int → Option Bool) (p0 : (List ByteArray)) (p1 : (List ByteArray)) (x16 : Int) : Option Bool :=
 (if (decide (x16 < (p0.length : Int))) = true then (zt p0 x16).bind fun y31 => (zt p1 x16).bind fun y36 => (if (!(zG y31 y36)) = true then some false else rec4 (IntKind.i64.wrap (x16 + 1))) else some true)
def zfn (p0 : (List ByteArray)) (p1 : (List ByteArray)) : Nat → Int → Option Bool
 | 0, _ => none
 | n + 1, x16 => zen (zfn p0 p1 n) p0 p1 x16
def zgy (p0 : (List ByteArray)) (p1 : (List ByteArray)) : Option Bool :=
 (if ((p0.length : Int) != (p1.length : Int)) = true then some false else zfn p0 p1 big 0)
def zew (rec4 : Int → Option Bool) (p0 : (List zC)) (p1 : (List zC)) (x91 : Int) : Option Bool :=
 (if (decide (x91 < (p0.length : Int))) = true then (zt p0 x91).bind fun y181 => (zt p1 x91).bind fun y190 => ((if (!(zG y181.Name y190.Name)) = true then some true else (zt p0 x91).bind fun y202 => (zt p1 x91).bind fun y211 => some (!(( (y202.Type_.Kind.toNat : Int) == (y211.Type_.Kind.toNat : Int)) && (( y202.Type_.N == y211.Type_.N) && ((zG y202.Type_.Name y211.Type_.Name) && true)))))).bind fun c199 => ((if c199 = true then some true else (zt p0 x91).bind fun y223 => (zt p1 x91).bind fun y232 => some (y223.Words != y232.Words))).bind fun c220 => ((if c220 = true then some true else (zt p0 x91).bind fun y244 => (zt p1 x91).bind fun y253 => (zgy y244.Fields y253.Fields).bind fun c262 => some (!c262))).bind fun c241 => (if c241 = true then some false else rec4 (IntKind.i64.wrap (x91 + 1))) else some true)
def zfa (p0 : (List zC)) (p1 : (List zC)) : Nat → Int → Option Bool
 | 0, _ => none
 | n + 1, x91 => zew (zfa p0 p1 n) p0 p1 x91
def zfz (p0 : (List zC)) (p1 : (List zC)) : Option Bool :=
 (if ((p0.length : Int) != (p1.length : Int)) = true then some false else zfa p0 p1 big 0)
def zfN (rec4 : Int → Option Bool) (R_law13_calls : (List zl) → ByteArray → Option Bool) (p0 : (List zl)) (p1 : ByteArray) (x70 : Int) : Option Bool :=
 (if (decide (x70 < (p0.length : Int))) = true then (zt p0 x70).bind fun y140 => ((if (zG y140.Call p1) = true then some true else (zt p0 x70).bind fun y160 => (R_law13_calls y160.Body p1).bind fun c177 => some c177)).bind fun c157 => ((if c157 = true then some true else (zt p0 x70).bind fun y184 => (R_law13_calls y184.Else p1).bind fun c201 => some c201)).bind fun c181 => (if c181 = true then some true else rec4 (IntKind.i64.wrap (x70 + 1))) else some false)
def zem (R_law13_calls : (List zl) → ByteArray → Option Bool) (p0 : (List zl)) (p1 : ByteArray) : Nat → Int → Option Bool
 | 0, _ => none
 | n + 1, x70 => zfN (zem R_law13_calls p0 p1 n) R_law13_calls p0 p1 x70
def ziL (R_law13_calls : (List zl) → ByteArray → Option Bool) (p0 : (List zl)) (p1 : ByteArray) : Option Bool :=
 zem R_law13_calls p0 p1 big 0
def zdL : Nat → ((List zl) → ByteArray → Option Bool)
 | 0 => fun _ _ => none
 | gn + 1 => ziL (zdL gn)
def zhY (p0 : (List zl)) (p1 : ByteArray) : Option Bool := (zdL big) p0 p1
def zf4 (rec31 : Int → Option Bool) (rec29 : Int → Option Bool) (p0 : zm) (p1 : zm) (x514 : Int) (x1075 : Int) : Option Bool :=
 (if (decide (x1075 < (p0.Funcs.length : Int))) = true then (zt p1.Funcs x514).bind fun y1143 => (zt p0.Funcs x1075).bind fun y1156 => ((if (zG y1143.Name y1156.Name) = true then some true else (zt p0.Funcs x1075).bind fun y1172 => (zt p1.Funcs x514).bind fun y1185 => (zhY y1172.Body y1185.Name).bind fun c1198 => some c1198)).bind fun c1169 => (if c1169 = true then (zey ).bind fun c1203 => some c1203 else rec31 (IntKind.i64.wrap (x1075 + 1))) else rec29 (IntKind.i64.wrap (x514 + 1)))
def zeD (rec29 : Int → Option Bool) (p0 : zm) (p1 : zm) (x514 : Int) : Nat → Int → Option Bool
 | 0, _ => none
 | n + 1, x1075 => zf4 (zeD rec29 p0 p1 x514 n) rec29 p0 p1 x514 x1075
def zex (rec34 : Int → Option Bool) (c1228 : zA × Int × Int) (c1243 : zA × Int × Int) (x1347 : Int) : Option Bool :=
 (if (decide (x1347 < (c1228.1.Bodies.length : Int))) = true then (zt c1228.1.Bodies x1347).bind fun y1419 => (zt c1243.1.Bodies x1347).bind fun y1432 => (zhW y1419.Acts y1432.Acts).bind fun c1445 => ((if (!c1445) = true then some true else (zt c1228.1.Bodies x1347).bind fun y1452 => (zt c1243.1.Bodies x1347).bind fun y1465 => (zfz y1452.Vars y1465.Vars).bind fun c1478 => some (!c1478))).bind fun c1449 => (if c1449 = true then some false else rec34 (IntKind.i64.wrap (x1347 + 1))) else (zey ).bind fun c1483 => some c1483)
def zer (c1228 : zA × Int × Int) (c1243 : zA × Int × Int) : Nat → Int → Option Bool
 | 0, _ => none
 | n + 1, x1347 => zex (zer c1228 c1243 n) c1228 c1243 x1347
def zfM (p0 : zm) (x1226 : List zH) : Option Bool :=
 (zcE p0).bind fun c1228 => (zcE (⟨p0.Structs, x1226⟩ : zm)).bind fun c1243 => (if (((c1228.2.2 != 0) && (c1228.2.2 != 11)) && (decide (c1228.2.1 < (IntKind.i64.wrap ((p0.Structs.length : Int) + (p0.Funcs.length : Int)))))) = true then ((if ((c1243.2.1 == c1228.2.1) && (c1243.2.2 == c1228.2.2)) = true then (zey ).bind fun c1260 => some c1260 else some false)).bind fun c1257 => some c1257 else (if ((c1228.2.2 != 0) || (c1243.2.2 != 0)) = true then (zey ).bind fun c1265 => some c1265 else (if (decide ((c1243.1.Bodies.length : Int) < (c1228.1.Bodies.length : Int))) = true then some false else zer c1228 c1243 big 0)))
def zfK (rec29 : Int → Option Bool) (p0 : zm) (p1 : zm) (x514 : Int) : Option Bool :=
 (if (decide (x514 < (p1.Funcs.length : Int))) = true then zeD rec29 p0 p1 x514 big 0 else (room (([] : List zH).length + p0.Funcs.length)).bind fun _ => (room ((([] : List zH) ++ p0.Funcs).length + p1.Funcs.length)).bind fun _ => zfM p0 ((([] : List zH) ++ p0.Funcs) ++ p1.Funcs))
def zdp (p0 : zm) (p1 : zm) : Nat → Int → Option Bool
 | 0, _ => none
 | n + 1, x514 => zfK (zdp p0 p1 n) p0 p1 x514
def zgF (p0 : zm) (p1 : zm) : Option Bool :=
 (zeL p0).bind fun c5 => ((if (decide (c5 > 3000)) = true then some true else (zeL p1).bind fun c12 => some (decide (c12 > 3000)))).bind fun c9 => (if (c9 || (decide ((p1.Structs.length : Int) > 0))) = true then (zey ).bind fun c17 => some c17 else zdp p0 p1 big 0)
end Go.Proofs.Ytakcaekikfcbpaa
