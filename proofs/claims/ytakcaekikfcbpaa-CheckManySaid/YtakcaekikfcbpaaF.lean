import Derived.Test.YtakcaekikfcbpaaFM
namespace Go.Proofs.Ytakcaekikfcbpaa
open Go.Ab Go.RowKit
set_option linter.unusedVariables false
set_option linter.unusedSimpArgs false
set_option maxRecDepth 10000
set_option maxHeartbeats 1000000
structure zk where
 Kind : UInt8
 N : Int
 Name : ByteArray
 deriving DecidableEq
structure zc where
 Kind : UInt8
 Num : Int
 Name : ByteArray
 Field : ByteArray
 Op : ByteArray
 Kids : (List zc)
def zjc (T : Ty zc) : Ty zc where
 sz := 6
 R := fun σ x cs => ∃ v5, cs = [.int .u8 x.Kind.toNat, .int .i64 x.Num, .string x.Name, .string x.Field, .string x.Op, v5] ∧ RdT T σ v5 x.Kids
 len := by rintro σ x cs ⟨v5, rfl, h0⟩; rfl
 one := by rintro σ x cs ⟨v5, rfl, h0⟩; obtain ⟨_, ⟨_, _, rfl, _⟩, _⟩ := h0; rfl
 mono := by rintro σ σ' x cs hle ⟨v5, rfl, h0⟩; exact ⟨v5, rfl, h0.le hle⟩
theorem zg3 : Lvl zjc 6 := ⟨fun _ => rfl, fun T T' h => ⟨rfl, by rintro σ x cs ⟨v5, rfl, h0⟩; exact ⟨v5, rfl, h.rd h0⟩⟩⟩
def zZ : Ty zc := Ty.fix zjc 6 zg3
theorem zjF {σ : Hp} {x : zc} {cs : List Value} (h : zZ.R σ x cs) : ∃ v5, cs = [.int .u8 x.Kind.toNat, .int .i64 x.Num, .string x.Name, .string x.Field, .string x.Op, v5] ∧ RdT zZ σ v5 x.Kids := zkx zg3 h
theorem zb6 {σ : Hp} {x : zc} {cs : List Value} (h : ∃ v5, cs = [.int .u8 x.Kind.toNat, .int .i64 x.Num, .string x.Name, .string x.Field, .string x.Op, v5] ∧ RdT zZ σ v5 x.Kids) : zZ.R σ x cs := by
 obtain ⟨v5, rfl, h0⟩ := h
 obtain ⟨k0, g0⟩ := zeH zg3 h0
 exact ⟨k0 + 1, v5, rfl, g0 _ (by omega)⟩
structure zf where
 Kind : UInt8
 Line : Int
 Name : ByteArray
 Field : ByteArray
 Call : ByteArray
 Type_ : zk
 Kids : (List zc)
 Body : (List zf)
 Else : (List zf)
def zkn (T : Ty zf) : Ty zf where
 sz := 11
 R := fun σ x cs => ∃ v8 v9 v10, cs = [.int .u8 x.Kind.toNat, .int .i64 x.Line, .string x.Name, .string x.Field, .string x.Call, .int .u8 x.Type_.Kind.toNat, .int .i64 x.Type_.N, .string x.Type_.Name, v8, v9, v10] ∧ RdT zZ σ v8 x.Kids ∧ RdT T σ v9 x.Body ∧ RdT T σ v10 x.Else
 len := by rintro σ x cs ⟨v8, v9, v10, rfl, h0, h1, h2⟩; rfl
 one := by rintro σ x cs ⟨v8, v9, v10, rfl, h0, h1, h2⟩; obtain ⟨_, ⟨_, _, rfl, _⟩, _⟩ := h0; obtain ⟨_, ⟨_, _, rfl, _⟩, _⟩ := h1; obtain ⟨_, ⟨_, _, rfl, _⟩, _⟩ := h2; rfl
 mono := by rintro σ σ' x cs hle ⟨v8, v9, v10, rfl, h0, h1, h2⟩; exact ⟨v8, v9, v10, rfl, h0.le hle, h1.le hle, h2.le hle⟩
theorem zgz : Lvl zkn 11 := ⟨fun _ => rfl, fun T T' h => ⟨rfl, by rintro σ x cs ⟨v8, v9, v10, rfl, h0, h1, h2⟩; exact ⟨v8, v9, v10, rfl, h0, h.rd h1, h.rd h2⟩⟩⟩
def zH : Ty zf := Ty.fix zkn 11 zgz
theorem zgb {σ : Hp} {x : zf} {cs : List Value} (h : zH.R σ x cs) : ∃ v8 v9 v10, cs = [.int .u8 x.Kind.toNat, .int .i64 x.Line, .string x.Name, .string x.Field, .string x.Call, .int .u8 x.Type_.Kind.toNat, .int .i64 x.Type_.N, .string x.Type_.Name, v8, v9, v10] ∧ RdT zZ σ v8 x.Kids ∧ RdT zH σ v9 x.Body ∧ RdT zH σ v10 x.Else := zkx zgz h
theorem zbL {σ : Hp} {x : zf} {cs : List Value} (h : ∃ v8 v9 v10, cs = [.int .u8 x.Kind.toNat, .int .i64 x.Line, .string x.Name, .string x.Field, .string x.Call, .int .u8 x.Type_.Kind.toNat, .int .i64 x.Type_.N, .string x.Type_.Name, v8, v9, v10] ∧ RdT zZ σ v8 x.Kids ∧ RdT zH σ v9 x.Body ∧ RdT zH σ v10 x.Else) : zH.R σ x cs := by
 obtain ⟨v8, v9, v10, rfl, h0, h1, h2⟩ := h
 obtain ⟨k1, g1⟩ := zeH zgz h1
 obtain ⟨k2, g2⟩ := zeH zgz h2
 exact ⟨k1 + k2 + 1, v8, v9, v10, rfl, h0, g1 _ (by omega), g2 _ (by omega)⟩
structure zbj where
 Name : ByteArray
 Fields : (List ByteArray)
 deriving DecidableEq
def zw : Ty zbj where
 sz := 2
 R := fun σ x cs => ∃ v1, cs = [.string x.Name, v1] ∧ RdT Ty.str σ v1 x.Fields
 len := by rintro σ x cs ⟨v1, rfl, h0⟩; rfl
 one := by rintro σ x cs ⟨v1, rfl, h0⟩; obtain ⟨_, ⟨_, _, rfl, _⟩, _⟩ := h0; rfl
 mono := by rintro σ σ' x cs hle ⟨v1, rfl, h0⟩; exact ⟨v1, rfl, h0.le hle⟩
structure zfW where
 Name : ByteArray
 Type_ : zk
 deriving DecidableEq
def zcJ : Ty zfW where
 sz := 4
 R := fun σ x cs => cs = [.string x.Name, .int .u8 x.Type_.Kind.toNat, .int .i64 x.Type_.N, .string x.Type_.Name]
 len := by rintro σ x cs rfl; rfl
 one := by rintro σ x cs rfl; rfl
 mono := by rintro σ σ' x cs hle rfl; rfl
structure zB where
 Name : ByteArray
 Line : Int
 Params : (List zfW)
 Result : zk
 Body : (List zf)
def zt : Ty zB where
 sz := 7
 R := fun σ x cs => ∃ v2 v6, cs = [.string x.Name, .int .i64 x.Line, v2, .int .u8 x.Result.Kind.toNat, .int .i64 x.Result.N, .string x.Result.Name, v6] ∧ RdT zcJ σ v2 x.Params ∧ RdT zH σ v6 x.Body
 len := by rintro σ x cs ⟨v2, v6, rfl, h0, h1⟩; rfl
 one := by rintro σ x cs ⟨v2, v6, rfl, h0, h1⟩; obtain ⟨_, ⟨_, _, rfl, _⟩, _⟩ := h0; obtain ⟨_, ⟨_, _, rfl, _⟩, _⟩ := h1; rfl
 mono := by rintro σ σ' x cs hle ⟨v2, v6, rfl, h0, h1⟩; exact ⟨v2, v6, rfl, h0.le hle, h1.le hle⟩
structure zs where
 Structs : (List zbj)
 Funcs : (List zB)
structure zG where
 Name : ByteArray
 Type_ : zk
 Words : Int
 Fields : (List ByteArray)
 deriving DecidableEq
def zo : Ty zG where
 sz := 6
 R := fun σ x cs => ∃ v5, cs = [.string x.Name, .int .u8 x.Type_.Kind.toNat, .int .i64 x.Type_.N, .string x.Type_.Name, .int .i64 x.Words, v5] ∧ RdT Ty.str σ v5 x.Fields
 len := by rintro σ x cs ⟨v5, rfl, h0⟩; rfl
 one := by rintro σ x cs ⟨v5, rfl, h0⟩; obtain ⟨_, ⟨_, _, rfl, _⟩, _⟩ := h0; rfl
 mono := by rintro σ σ' x cs hle ⟨v5, rfl, h0⟩; exact ⟨v5, rfl, h0.le hle⟩
structure zl where
 Kind : UInt8
 Op : UInt8
 Var : Int
 Num : Int
 Kids : (List zl)
def zky (T : Ty zl) : Ty zl where
 sz := 5
 R := fun σ x cs => ∃ v4, cs = [.int .u8 x.Kind.toNat, .int .u8 x.Op.toNat, .int .i64 x.Var, .int .i64 x.Num, v4] ∧ RdT T σ v4 x.Kids
 len := by rintro σ x cs ⟨v4, rfl, h0⟩; rfl
 one := by rintro σ x cs ⟨v4, rfl, h0⟩; obtain ⟨_, ⟨_, _, rfl, _⟩, _⟩ := h0; rfl
 mono := by rintro σ σ' x cs hle ⟨v4, rfl, h0⟩; exact ⟨v4, rfl, h0.le hle⟩
theorem zjI : Lvl zky 5 := ⟨fun _ => rfl, fun T T' h => ⟨rfl, by rintro σ x cs ⟨v4, rfl, h0⟩; exact ⟨v4, rfl, h.rd h0⟩⟩⟩
def zbk : Ty zl := Ty.fix zky 5 zjI
theorem zj7 {σ : Hp} {x : zl} {cs : List Value} (h : ∃ v4, cs = [.int .u8 x.Kind.toNat, .int .u8 x.Op.toNat, .int .i64 x.Var, .int .i64 x.Num, v4] ∧ RdT zbk σ v4 x.Kids) : zbk.R σ x cs := by
 obtain ⟨v4, rfl, h0⟩ := h
 obtain ⟨k0, g0⟩ := zeH zjI h0
 exact ⟨k0 + 1, v4, rfl, g0 _ (by omega)⟩
structure zj where
 Kind : UInt8
 Point : Int
 Var : Int
 Field : Int
 Call : Int
 Kids : (List zl)
 Body : (List zj)
 Else : (List zj)
def zi8 (T : Ty zj) : Ty zj where
 sz := 8
 R := fun σ x cs => ∃ v5 v6 v7, cs = [.int .u8 x.Kind.toNat, .int .i64 x.Point, .int .i64 x.Var, .int .i64 x.Field, .int .i64 x.Call, v5, v6, v7] ∧ RdT zbk σ v5 x.Kids ∧ RdT T σ v6 x.Body ∧ RdT T σ v7 x.Else
 len := by rintro σ x cs ⟨v5, v6, v7, rfl, h0, h1, h2⟩; rfl
 one := by rintro σ x cs ⟨v5, v6, v7, rfl, h0, h1, h2⟩; obtain ⟨_, ⟨_, _, rfl, _⟩, _⟩ := h0; obtain ⟨_, ⟨_, _, rfl, _⟩, _⟩ := h1; obtain ⟨_, ⟨_, _, rfl, _⟩, _⟩ := h2; rfl
 mono := by rintro σ σ' x cs hle ⟨v5, v6, v7, rfl, h0, h1, h2⟩; exact ⟨v5, v6, v7, rfl, h0.le hle, h1.le hle, h2.le hle⟩
theorem zix : Lvl zi8 8 := ⟨fun _ => rfl, fun T T' h => ⟨rfl, by rintro σ x cs ⟨v5, v6, v7, rfl, h0, h1, h2⟩; exact ⟨v5, v6, v7, rfl, h0, h.rd h1, h.rd h2⟩⟩⟩
def zba : Ty zj := Ty.fix zi8 8 zix
theorem zno {σ : Hp} {x : zj} {cs : List Value} (h : ∃ v5 v6 v7, cs = [.int .u8 x.Kind.toNat, .int .i64 x.Point, .int .i64 x.Var, .int .i64 x.Field, .int .i64 x.Call, v5, v6, v7] ∧ RdT zbk σ v5 x.Kids ∧ RdT zba σ v6 x.Body ∧ RdT zba σ v7 x.Else) : zba.R σ x cs := by
 obtain ⟨v5, v6, v7, rfl, h0, h1, h2⟩ := h
 obtain ⟨k1, g1⟩ := zeH zix h1
 obtain ⟨k2, g2⟩ := zeH zix h2
 exact ⟨k1 + k2 + 1, v5, v6, v7, rfl, h0, g1 _ (by omega), g2 _ (by omega)⟩
structure zI where
 Name : ByteArray
 Params : Int
 Result : Bool
 Vars : (List zG)
 Acts : (List zj)
def zq : Ty zI where
 sz := 5
 R := fun σ x cs => ∃ v3 v4, cs = [.string x.Name, .int .i64 x.Params, .bool x.Result, v3, v4] ∧ RdT zo σ v3 x.Vars ∧ RdT zba σ v4 x.Acts
 len := by rintro σ x cs ⟨v3, v4, rfl, h0, h1⟩; rfl
 one := by rintro σ x cs ⟨v3, v4, rfl, h0, h1⟩; obtain ⟨_, ⟨_, _, rfl, _⟩, _⟩ := h0; obtain ⟨_, ⟨_, _, rfl, _⟩, _⟩ := h1; rfl
 mono := by rintro σ σ' x cs hle ⟨v3, v4, rfl, h0, h1⟩; exact ⟨v3, v4, rfl, h0.le hle, h1.le hle⟩
structure zE where
 Func : Int
 Line : Int
 Scope : (List Int)
 deriving DecidableEq
def zr : Ty zE where
 sz := 3
 R := fun σ x cs => ∃ v2, cs = [.int .i64 x.Func, .int .i64 x.Line, v2] ∧ RdT (Ty.int .i64) σ v2 x.Scope
 len := by rintro σ x cs ⟨v2, rfl, h0⟩; rfl
 one := by rintro σ x cs ⟨v2, rfl, h0⟩; obtain ⟨_, ⟨_, _, rfl, _⟩, _⟩ := h0; rfl
 mono := by rintro σ σ' x cs hle ⟨v2, rfl, h0⟩; exact ⟨v2, rfl, h0.le hle⟩
structure zx where
 Bodies : (List zI)
 Main : Int
 Points : (List zE)
structure zb where
 prog : zs
 tree : zx
 fn : Int
 vars : (List zG)
 scope : (List Int)
abbrev zcc (b : Nat) (x0 : ByteArray) (x1 : Int) (x2 : Value) (x3 : Int) (x4 : Int) (x5 : ByteArray) (x6 : Value) : Ob := some (b, ⟨[.string x0, .int .i64 x1, x2, .int .u8 x3, .int .i64 x4, .string x5, x6], 53, 7, true⟩)
abbrev zeE (b : Nat) (x0 : Int) (x1 : Int) (x2 : ByteArray) (x3 : ByteArray) (x4 : ByteArray) (x5 : Value) : Ob := some (b, ⟨[.int .u8 x0, .int .i64 x1, .string x2, .string x3, .string x4, x5], 71, 6, true⟩)
abbrev zek (b : Nat) (x0 : Int) (x1 : Int) (x2 : ByteArray) (x3 : ByteArray) (x4 : ByteArray) (x5 : Int) (x6 : Int) (x7 : ByteArray) (x8 : Value) (x9 : Value) (x10 : Value) : Ob := some (b, ⟨[.int .u8 x0, .int .i64 x1, .string x2, .string x3, .string x4, .int .u8 x5, .int .i64 x6, .string x7, x8, x9, x10], 73, 11, true⟩)
abbrev ziM (b : Nat) (x0 : ByteArray) (x1 : Int) (x2 : Int) (x3 : ByteArray) : Ob := some (b, ⟨[.string x0, .int .u8 x1, .int .i64 x2, .string x3], 78, 4, true⟩)
abbrev zmG (b : Nat) (x0 : ByteArray) (x1 : Int) (x2 : Int) (x3 : ByteArray) (x4 : Int) (x5 : Value) : Ob := some (b, ⟨[.string x0, .int .u8 x1, .int .i64 x2, .string x3, .int .i64 x4, x5], 82, 6, true⟩)
abbrev zm (b : Nat) (x0 : Value) (x1 : Value) (x2 : Value) (x3 : Int) (x4 : Value) (x5 : Int) (x6 : Value) (x7 : Value) : Ob := some (b, ⟨[x0, x1, x2, .int .i64 x3, x4, .int .i64 x5, x6, x7], 110, 8, true⟩)
abbrev zb0 (b : Nat) (x0 : Int) (x1 : Int) (x2 : Int) (x3 : Int) (x4 : Int) (x5 : Value) (x6 : Value) (x7 : Value) : Ob := some (b, ⟨[.int .u8 x0, .int .i64 x1, .int .i64 x2, .int .i64 x3, .int .i64 x4, x5, x6, x7], 115, 8, true⟩)
abbrev zdx (b : Nat) (x0 : Int) (x1 : Int) (x2 : Int) (x3 : Int) (x4 : Value) : Ob := some (b, ⟨[.int .u8 x0, .int .u8 x1, .int .i64 x2, .int .i64 x3, x4], 140, 5, true⟩)
def zmW (rec4 : Int → Option Bool) (p0 : (List ByteArray)) (p1 : Int) (x15 : Int) : Option Bool :=
 (if (decide (x15 < p1)) = true then (zL p0 x15).bind fun y30 => (zL p0 p1).bind fun y35 => (if (z9 y30 y35) = true then some true else rec4 (IntKind.i64.wrap (x15 + 1))) else some false)
def zlF (p0 : (List ByteArray)) (p1 : Int) : Nat → Int → Option Bool
 | 0, _ => none
 | n + 1, x15 => zmW (zlF p0 p1 n) p0 p1 x15
def znh (R_ref13_returns : (List zf) → Option Bool) (p0 : (List zf)) : Option Bool :=
 (if ((p0.length : Int) == 0) = true then some false else (zL p0 (IntKind.i64.wrap ((p0.length : Int) - 1))).bind fun y3 => ((if ((y3.Kind.toNat : Int) == 10) = true then some true else (if ((y3.Kind.toNat : Int) == 6) = true then (R_ref13_returns y3.Body).bind fun c25 => (if c25 = true then (R_ref13_returns y3.Else).bind fun c30 => some c30 else some false) else (if false = true then (R_ref13_returns y3.Else).bind fun c35 => some c35 else some false)))).bind fun c21 => some c21)
def zmi : Nat → ((List zf) → Option Bool)
 | 0 => fun _ => none
 | gn + 1 => znh (zmi gn)
def znc (rec4 : Int → Int → Option Int) (R_ref13_exps : (List zc) → Option Int) (p0 : (List zc)) (x16 : Int) (x17 : Int) : Option Int :=
 (if (decide (x17 < (p0.length : Int))) = true then (zL p0 x17).bind fun y34 => (R_ref13_exps y34.Kids).bind fun c43 => rec4 (IntKind.i64.wrap (x16 + c43)) (IntKind.i64.wrap (x17 + 1)) else some x16)
def zmY (R_ref13_exps : (List zc) → Option Int) (p0 : (List zc)) : Nat → Int → Int → Option Int
 | 0, _, _ => none
 | n + 1, x16, x17 => znc (zmY R_ref13_exps p0 n) R_ref13_exps p0 x16 x17
def zby (p0 : Bool) (p1 : Int) : Option (Except (Value) (Unit)) :=
 (if (!p0) = true then some (.error (.iface 134 (.int .i64 p1) : Value)) else some (.ok ()))
def zhZ (rec4 : Int → Option Int) (p0 : (List ByteArray)) (p1 : ByteArray) (x10 : Int) : Option Int :=
 (if (decide (x10 < (p0.length : Int))) = true then (zL p0 x10).bind fun y20 => (if (z9 p1 y20) = true then some x10 else rec4 (IntKind.i64.wrap (x10 + 1))) else some (-1))
def zgU (p0 : (List ByteArray)) (p1 : ByteArray) : Nat → Int → Option Int
 | 0, _ => none
 | n + 1, x10 => zhZ (zgU p0 p1 n) p0 p1 x10
def zfi (p0 : (List ByteArray)) (p1 : ByteArray) : Option Int :=
 zgU p0 p1 big 0
def zfe (p0 : (List ByteArray)) (p1 : ByteArray) : Option Bool :=
 (zfi p0 p1).bind fun c3 => some (decide (c3 ≥ 0))
def ze5 (rec4 : Int → Option Bool) (p0 : (List ByteArray)) (x18 : Int) : Option Bool :=
 (if (decide (x18 < (p0.length : Int))) = true then (zL p0 x18).bind fun y37 => (zdV p0 0 x18).bind fun y42 => (zfe y42 y37).bind fun c47 => (if c47 = true then some true else rec4 (IntKind.i64.wrap (x18 + 1))) else some false)
def zeO (p0 : (List ByteArray)) : Nat → Int → Option Bool
 | 0, _ => none
 | n + 1, x18 => ze5 (zeO p0 n) p0 x18
def zfx (p0 : (List ByteArray)) : Option Bool :=
 zeO p0 big 0
def zib (p0 : zbj) (qf0 : zbj) : Option Bool :=
 some (z9 p0.Name qf0.Name)
def zhv (rec4 : Int → Option Int) (p0 : (List zbj)) (q1_0 : zbj) (x18 : Int) : Option Int :=
 (if (decide (x18 < (p0.length : Int))) = true then (zL p0 x18).bind fun y36 => (zib y36 q1_0).bind fun c45 => (if c45 = true then some x18 else rec4 (IntKind.i64.wrap (x18 + 1))) else some (-1))
def zgl (p0 : (List zbj)) (q1_0 : zbj) : Nat → Int → Option Int
 | 0, _ => none
 | n + 1, x18 => zhv (zgl p0 q1_0 n) p0 q1_0 x18
def zgN (p0 : (List zbj)) (q1_0 : zbj) : Option Int :=
 zgl p0 q1_0 big 0
def zhn (p0 : zB) (qf0 : ByteArray) : Option Bool :=
 some (z9 p0.Name qf0)
def zil (rec4 : Int → Option Int) (p0 : (List zB)) (q1_0 : ByteArray) (x22 : Int) : Option Int :=
 (if (decide (x22 < (p0.length : Int))) = true then (zL p0 x22).bind fun y44 => (zhn y44 q1_0).bind fun c57 => (if c57 = true then some x22 else rec4 (IntKind.i64.wrap (x22 + 1))) else some (-1))
def zfU (p0 : (List zB)) (q1_0 : ByteArray) : Nat → Int → Option Int
 | 0, _ => none
 | n + 1, x22 => zil (zfU p0 q1_0 n) p0 q1_0 x22
def ze3 (p0 : (List zB)) (q1_0 : ByteArray) : Option Int :=
 zfU p0 q1_0 big 0
def zet (q0 : zb) (p1 : ByteArray) : Option Int :=
 (ze3 q0.prog.Funcs p1).bind fun c6 => some c6
def zcY (p0 : zk) : Option Bool :=
 some (((p0.Kind.toNat : Int) == 1) || ((p0.Kind.toNat : Int) == 2))
def zh2 (p0 : zbj) (qf0 : ByteArray) : Option Bool :=
 some (z9 p0.Name qf0)
def zhl (rec4 : Int → Option Int) (p0 : (List zbj)) (q1_0 : ByteArray) (x18 : Int) : Option Int :=
 (if (decide (x18 < (p0.length : Int))) = true then (zL p0 x18).bind fun y36 => (zh2 y36 q1_0).bind fun c45 => (if c45 = true then some x18 else rec4 (IntKind.i64.wrap (x18 + 1))) else some (-1))
def zf4 (p0 : (List zbj)) (q1_0 : ByteArray) : Nat → Int → Option Int
 | 0, _ => none
 | n + 1, x18 => zhl (zf4 p0 q1_0 n) p0 q1_0 x18
def zgh (p0 : (List zbj)) (q1_0 : ByteArray) : Option Int :=
 zf4 p0 q1_0 big 0
def zeX (q0 : zb) (p1 : ByteArray) : Option ((List ByteArray) × Bool) :=
 (zgh q0.prog.Structs p1).bind fun c6 => (if (decide (c6 < 0)) = true then some ([], false) else (zL q0.prog.Structs c6).bind fun y11 => some (y11.Fields, true))
def zc1 (q0 : zb) (p1 : zk) : Option Bool :=
 (zeX q0 p1.Name).bind fun c4 => some (((p1.Kind.toNat : Int) != 4) || c4.2)
def zgC (p0 : (List Int)) : Option (List Int) := (room p0.length).bind fun _ => some p0
def zio (p0 : zG) (qf0 : ByteArray) : Option Bool :=
 some (z9 p0.Name qf0)
def zia (rec4 : Int → Option Int) (p0 : (List zG)) (q1_0 : ByteArray) (x18 : Int) : Option Int :=
 (if (decide (x18 < (p0.length : Int))) = true then (zL p0 x18).bind fun y36 => (zio y36 q1_0).bind fun c45 => (if c45 = true then some x18 else rec4 (IntKind.i64.wrap (x18 + 1))) else some (-1))
def zgv (p0 : (List zG)) (q1_0 : ByteArray) : Nat → Int → Option Int
 | 0, _ => none
 | n + 1, x18 => zia (zgv p0 q1_0 n) p0 q1_0 x18
def zf9 (p0 : (List zG)) (q1_0 : ByteArray) : Option Int :=
 zgv p0 q1_0 big 0
def zes (q0 : zb) (p1 : ByteArray) : Option Int :=
 (zf9 q0.vars p1).bind fun c6 => some c6
def zg4 (rec4 : Int → Option Int) (p0 : (List Int)) (p1 : Int) (x10 : Int) : Option Int :=
 (if (decide (x10 < (p0.length : Int))) = true then (zL p0 x10).bind fun y20 => (if (p1 == y20) = true then some x10 else rec4 (IntKind.i64.wrap (x10 + 1))) else some (-1))
def zgk (p0 : (List Int)) (p1 : Int) : Nat → Int → Option Int
 | 0, _ => none
 | n + 1, x10 => zg4 (zgk p0 p1 n) p0 p1 x10
def zgp (p0 : (List Int)) (p1 : Int) : Option Int :=
 zgk p0 p1 big 0
def zfE (p0 : (List Int)) (p1 : Int) : Option Bool :=
 (zgp p0 p1).bind fun c3 => some (decide (c3 ≥ 0))
def zd6 (q0 : zb) (p1 : ByteArray) : Option (Except (Value) (Int)) :=
 (zes q0 p1).bind fun c3 => ((if (decide (c3 ≥ 0)) = true then (zfE q0.scope c3).bind fun c10 => some c10 else some false)).bind fun c7 => zC (zby c7 8) (fun x18 => some (.error x18)) fun c14 => some (.ok c3)
def zdp (q0 : zb) (p1 : Int) (p2 : Int) : Option (Except (Value) (Unit)) :=
 (zL q0.vars p1).bind fun y4 => zC (zby ((y4.Type_.Kind.toNat : Int) == p2) 9) (fun x19 => some (.error x19)) fun c15 => some (.ok ())
def zd3 (q0 : zb) (p1 : Int) (p2 : ByteArray) : Option (Except (Value) (Int)) :=
 (zL q0.vars p1).bind fun y4 => (zfi y4.Fields p2).bind fun c15 => zC (zby (decide (c15 ≥ 0)) 8) (fun x23 => some (.error x23)) fun c19 => some (.ok c15)
def zfo (rec4 : Int → Option Bool) (p0 : (List UInt8)) (p1 : (List UInt8)) (x16 : Int) : Option Bool :=
 (if (decide (x16 < (p0.length : Int))) = true then (zL p0 x16).bind fun y31 => (zL p1 x16).bind fun y36 => (if ((y31.toNat : Int) != (y36.toNat : Int)) = true then some false else rec4 (IntKind.i64.wrap (x16 + 1))) else some true)
def zeo (p0 : (List UInt8)) (p1 : (List UInt8)) : Nat → Int → Option Bool
 | 0, _ => none
 | n + 1, x16 => zfo (zeo p0 p1 n) p0 p1 x16
def zeP (p0 : (List UInt8)) (p1 : (List UInt8)) : Option Bool :=
 (if ((p0.length : Int) != (p1.length : Int)) = true then some false else zeo p0 p1 big 0)
def zhs (p0 : ByteArray) (p1 : ByteArray) : Option Bool :=
 ((if (decide ((p0.size : Int) ≥ (p1.size : Int))) = true then (zeF p0 (IntKind.i64.wrap ((p0.size : Int) - (p1.size : Int))) (p0.size : Int)).bind fun y6 => some (z9 y6 p1) else some false)).bind fun c3 => some c3
def zhw (p0 : ByteArray) (p1 : ByteArray) : Option ByteArray :=
 (zhs p0 p1).bind fun c3 => (if c3 = true then (zeF p0 0 (IntKind.i64.wrap ((p0.size : Int) - (p1.size : Int)))).bind fun y8 => some y8 else some p0)
def zgO (p0 : ByteArray) (p1 : ByteArray) : Option ByteArray :=
 (zhw p0 p1).bind fun c3 => some c3
def zfj (rec4 : Int → Option Int) (p0 : ByteArray) (x10 : Int) : Option Int :=
 (if (decide (x10 < 26)) = true then (zeF znV x10 (IntKind.i64.wrap (x10 + 2))).bind fun y21 => (zgO y21 zn1).bind fun c23 => (if (z9 p0 c23) = true then some (IntKind.u8.wrap (1 + (IntKind.u8.wrap (IntKind.i64.wrap (Int.tdiv x10 2))))) else rec4 (IntKind.i64.wrap (x10 + 2))) else some 0)
def zdT (p0 : ByteArray) : Nat → Int → Option Int
 | 0, _ => none
 | n + 1, x10 => zfj (zdT p0 n) p0 x10
def zev (p0 : ByteArray) : Option Int :=
 zdT p0 big 0
def zfA (rec4 : (List zbj) → (List zB) → (List zI) → Int → (List zE) → Int → (List zG) → (List Int) → (List zl) → (List UInt8) → Int → Option (Except (Value × zb) ((List zl) × zb))) (R_check_checker_exp : zb → zc → Option (Except (Value × zb) (zl × Int × zb))) (p1 : (List zc)) (p2 : (List UInt8)) (x131 : List zbj) (x135 : List zB) (x140 : List zI) (x142 : Int) (x146 : List zE) (x148 : Int) (x152 : List zG) (x157 : List Int) (x162 : List zl) (x167 : List UInt8) (x169 : Int) : Option (Except (Value × zb) ((List zl) × zb)) :=
 (if (decide (x169 < (p1.length : Int))) = true then (zL p1 x169).bind fun y275 => zC (R_check_checker_exp (⟨(⟨x131, x135⟩ : zs), (⟨x140, x142, x146⟩ : zx), x148, x152, x157⟩ : zb) y275) (fun x289 => some (.error (x289.1, x289.2))) fun c285 => (room (x162.length + 1)).bind fun _ => (u8o c285.2.1).bind fun z359 => (room (x167.length + 1)).bind fun _ => rec4 c285.2.2.prog.Structs c285.2.2.prog.Funcs c285.2.2.tree.Bodies c285.2.2.tree.Main c285.2.2.tree.Points c285.2.2.fn c285.2.2.vars c285.2.2.scope (x162 ++ [(⟨c285.1.Kind, c285.1.Op, c285.1.Var, c285.1.Num, c285.1.Kids⟩ : zl)]) (x167 ++ [z359]) (IntKind.i64.wrap (x169 + 1)) else (zeP x167 p2).bind fun c365 => zC (zby c365 9) (fun x373 => some (.error (x373, (⟨(⟨x131, x135⟩ : zs), (⟨x140, x142, x146⟩ : zx), x148, x152, x157⟩ : zb)))) fun c369 => some (.ok (x162, (⟨(⟨x131, x135⟩ : zs), (⟨x140, x142, x146⟩ : zx), x148, x152, x157⟩ : zb))))
def zdZ (R_check_checker_exp : zb → zc → Option (Except (Value × zb) (zl × Int × zb))) (p1 : (List zc)) (p2 : (List UInt8)) : Nat → (List zbj) → (List zB) → (List zI) → Int → (List zE) → Int → (List zG) → (List Int) → (List zl) → (List UInt8) → Int → Option (Except (Value × zb) ((List zl) × zb))
 | 0, _, _, _, _, _, _, _, _, _, _, _ => none
 | n + 1, x131, x135, x140, x142, x146, x148, x152, x157, x162, x167, x169 => zfA (zdZ R_check_checker_exp p1 p2 n) R_check_checker_exp p1 p2 x131 x135 x140 x142 x146 x148 x152 x157 x162 x167 x169
def zhD (R_check_checker_vals : zb → (List zc) → (List UInt8) → Option (Except (Value × zb) ((List zl) × zb))) (R_check_checker_exp : zb → zc → Option (Except (Value × zb) (zl × Int × zb))) (R_check_checker_place : zb → zc → Option (Except (Value × zb) (zl × Int × zb))) (R_check_checker_unary : zb → zc → Option (Except (Value × zb) (zl × Int × zb))) (R_check_checker_binary : zb → zc → Option (Except (Value × zb) (zl × Int × zb))) (q0 : zb) (p1 : (List zc)) (p2 : (List UInt8)) : Option (Except (Value × zb) ((List zl) × zb)) :=
 zdZ R_check_checker_exp p1 p2 big q0.prog.Structs q0.prog.Funcs q0.tree.Bodies q0.tree.Main q0.tree.Points q0.fn q0.vars q0.scope ([]) ([]) 0
def zgW (q0 : zb) (x12 : List zI) (x17 : List zE) (x22 : List zG) (x27 : List Int) (x29 : Int) : Option (Except (Value × zb) (zl × Int × zb)) :=
 some (.ok ((⟨(1 : UInt8), (0 : UInt8), 0, x29, []⟩ : zl), 2, (⟨(⟨q0.prog.Structs, q0.prog.Funcs⟩ : zs), (⟨x12, q0.tree.Main, x17⟩ : zx), q0.fn, x22, x27⟩ : zb)))
def zdU (R_check_checker_place : zb → zc → Option (Except (Value × zb) (zl × Int × zb))) (R_check_checker_unary : zb → zc → Option (Except (Value × zb) (zl × Int × zb))) (R_check_checker_binary : zb → zc → Option (Except (Value × zb) (zl × Int × zb))) (q0 : zb) (p1 : zc) (x36 : List zI) (x41 : List zE) (x46 : List zG) (x51 : List Int) (x53 : Bool) : Option (Except (Value × zb) (zl × Int × zb)) :=
 (if x53 = true then zC (R_check_checker_place (⟨(⟨q0.prog.Structs, q0.prog.Funcs⟩ : zs), (⟨x36, q0.tree.Main, x41⟩ : zx), q0.fn, x46, x51⟩ : zb) p1) (fun x59 => some (.error (x59.1, x59.2))) fun c55 => some (.ok (c55.1, c55.2.1, c55.2.2)) else (if ((p1.Kind.toNat : Int) == 6) = true then zC (R_check_checker_unary (⟨(⟨q0.prog.Structs, q0.prog.Funcs⟩ : zs), (⟨x36, q0.tree.Main, x41⟩ : zx), q0.fn, x46, x51⟩ : zb) p1) (fun x128 => some (.error (x128.1, x128.2))) fun c124 => some (.ok (c124.1, c124.2.1, c124.2.2)) else zC (R_check_checker_binary (⟨(⟨q0.prog.Structs, q0.prog.Funcs⟩ : zs), (⟨x36, q0.tree.Main, x41⟩ : zx), q0.fn, x46, x51⟩ : zb) p1) (fun x196 => some (.error (x196.1, x196.2))) fun c192 => some (.ok (c192.1, c192.2.1, c192.2.2))))
def zfc (R_check_checker_vals : zb → (List zc) → (List UInt8) → Option (Except (Value × zb) ((List zl) × zb))) (R_check_checker_exp : zb → zc → Option (Except (Value × zb) (zl × Int × zb))) (R_check_checker_place : zb → zc → Option (Except (Value × zb) (zl × Int × zb))) (R_check_checker_unary : zb → zc → Option (Except (Value × zb) (zl × Int × zb))) (R_check_checker_binary : zb → zc → Option (Except (Value × zb) (zl × Int × zb))) (q0 : zb) (p1 : zc) : Option (Except (Value × zb) (zl × Int × zb)) :=
 (if ((p1.Kind.toNat : Int) == 1) = true then some (.ok ((⟨(1 : UInt8), (0 : UInt8), 0, p1.Num, []⟩ : zl), 1, q0)) else (if ((p1.Kind.toNat : Int) == 2) = true then (if (p1.Num != 0) = true then zgW q0 q0.tree.Bodies q0.tree.Points q0.vars q0.scope 1 else zgW q0 q0.tree.Bodies q0.tree.Points q0.vars q0.scope 0) else (if ((p1.Kind.toNat : Int) == 3) = true then zdU R_check_checker_place R_check_checker_unary R_check_checker_binary q0 p1 q0.tree.Bodies q0.tree.Points q0.vars q0.scope ((p1.Kind.toNat : Int) == 3) else (if ((p1.Kind.toNat : Int) == 4) = true then zdU R_check_checker_place R_check_checker_unary R_check_checker_binary q0 p1 q0.tree.Bodies q0.tree.Points q0.vars q0.scope ((p1.Kind.toNat : Int) == 4) else zdU R_check_checker_place R_check_checker_unary R_check_checker_binary q0 p1 q0.tree.Bodies q0.tree.Points q0.vars q0.scope ((p1.Kind.toNat : Int) == 5)))))
def zfm (R_check_checker_vals : zb → (List zc) → (List UInt8) → Option (Except (Value × zb) ((List zl) × zb))) (R_check_checker_exp : zb → zc → Option (Except (Value × zb) (zl × Int × zb))) (R_check_checker_place : zb → zc → Option (Except (Value × zb) (zl × Int × zb))) (R_check_checker_unary : zb → zc → Option (Except (Value × zb) (zl × Int × zb))) (R_check_checker_binary : zb → zc → Option (Except (Value × zb) (zl × Int × zb))) (q0 : zb) (p1 : zc) : Option (Except (Value × zb) (zl × Int × zb)) :=
 zC (zd6 q0 p1.Name) (fun x9 => some (.error (x9, q0))) fun c5 => (if ((p1.Kind.toNat : Int) == 3) = true then (zL q0.vars c5).bind fun y14 => (zcY y14.Type_).bind fun c25 => zC (zby c25 9) (fun x33 => some (.error (x33, q0))) fun c29 => (zL q0.vars c5).bind fun y37 => some (.ok ((⟨(2 : UInt8), (0 : UInt8), c5, 0, []⟩ : zl), (y37.Type_.Kind.toNat : Int), q0)) else (if ((p1.Kind.toNat : Int) == 5) = true then zC (zdp q0 c5 4) (fun x54 => some (.error (x54, q0))) fun c50 => zC (zd3 q0 c5 p1.Field) (fun x62 => some (.error (x62, q0))) fun c58 => some (.ok ((⟨(4 : UInt8), (0 : UInt8), c5, c58, []⟩ : zl), 1, q0)) else zC (zdp q0 c5 3) (fun x70 => some (.error (x70, q0))) fun c66 => zC (R_check_checker_vals q0 p1.Kids ([(1 : UInt8)] : List UInt8)) (fun x84 => some (.error (x84.1, x84.2))) fun c80 => some (.ok ((⟨(3 : UInt8), (0 : UInt8), c5, 0, c80.1⟩ : zl), 1, c80.2))))
def zf0 (R_check_checker_vals : zb → (List zc) → (List UInt8) → Option (Except (Value × zb) ((List zl) × zb))) (q0 : zb) (p1 : zc) (x9 : List zI) (x14 : List zE) (x19 : List zG) (x24 : List Int) (x26 : Int) (x27 : Int) : Option (Except (Value × zb) (zl × Int × zb)) :=
 (u8o x27).bind fun z28 => zC (R_check_checker_vals (⟨(⟨q0.prog.Structs, q0.prog.Funcs⟩ : zs), (⟨x9, q0.tree.Main, x14⟩ : zx), q0.fn, x19, x24⟩ : zb) p1.Kids ([z28] : List UInt8)) (fun x39 => some (.error (x39.1, x39.2))) fun c35 => zC (zby ((z9 p1.Op znX) || (z9 p1.Op znY)) 9) (fun x109 => some (.error (x109, c35.2))) fun c105 => (u8o x26).bind fun z115 => some (.ok ((⟨(5 : UInt8), z115, 0, 0, c35.1⟩ : zl), x27, c35.2))
def zft (R_check_checker_vals : zb → (List zc) → (List UInt8) → Option (Except (Value × zb) ((List zl) × zb))) (R_check_checker_exp : zb → zc → Option (Except (Value × zb) (zl × Int × zb))) (R_check_checker_place : zb → zc → Option (Except (Value × zb) (zl × Int × zb))) (R_check_checker_unary : zb → zc → Option (Except (Value × zb) (zl × Int × zb))) (R_check_checker_binary : zb → zc → Option (Except (Value × zb) (zl × Int × zb))) (q0 : zb) (p1 : zc) : Option (Except (Value × zb) (zl × Int × zb)) :=
 (if (z9 p1.Op znX) = true then zf0 R_check_checker_vals q0 p1 q0.tree.Bodies q0.tree.Points q0.vars q0.scope 14 2 else zf0 R_check_checker_vals q0 p1 q0.tree.Bodies q0.tree.Points q0.vars q0.scope 15 1)
def zcu (p1 : zc) (x286 : List zbj) (x290 : List zB) (x297 : Int) (x303 : Int) (c750 : Int) (x849 : List zI) (x854 : List zE) (x859 : List zG) (x864 : List Int) (x869 : List zl) (x874 : List UInt8) (x876 : Int) (x877 : Int) : Option (Except (Value × zb) (zl × Int × zb)) :=
 ((if (((p1.Kind.toNat : Int) == 7) && (c750 != 0)) = true then (u8o x876).bind fun z881 => (u8o x876).bind fun z882 => (zeP x874 ([z881, z882] : List UInt8)).bind fun c887 => some c887 else some false)).bind fun c878 => zC (zby c878 9) (fun x895 => some (.error (x895, (⟨(⟨x286, x290⟩ : zs), (⟨x849, x297, x854⟩ : zx), x303, x859, x864⟩ : zb)))) fun c891 => (u8o c750).bind fun z901 => some (.ok ((⟨(6 : UInt8), z901, 0, 0, x869⟩ : zl), x877, (⟨(⟨x286, x290⟩ : zs), (⟨x849, x297, x854⟩ : zx), x303, x859, x864⟩ : zb)))
def zef (p1 : zc) (x286 : List zbj) (x290 : List zB) (x297 : Int) (x303 : Int) (c750 : Int) (x943 : List zI) (x948 : List zE) (x953 : List zG) (x958 : List Int) (x963 : List zl) (x968 : List UInt8) (x970 : Bool) : Option (Except (Value × zb) (zl × Int × zb)) :=
 (if x970 = true then ((if (decide ((x968.length : Int) > 0)) = true then (zL x968 0).bind fun y975 => some ((y975.toNat : Int) == 2) else some false)).bind fun c972 => (if c972 = true then zcu p1 x286 x290 x297 x303 c750 x943 x948 x953 x958 x963 x968 2 2 else zcu p1 x286 x290 x297 x303 c750 x943 x948 x953 x958 x963 x968 1 2) else (if (c750 == 8) = true then (if (c750 == 8) = true then zcu p1 x286 x290 x297 x303 c750 x943 x948 x953 x958 x963 x968 1 2 else zcu p1 x286 x290 x297 x303 c750 x943 x948 x953 x958 x963 x968 1 1) else (if (c750 == 9) = true then (if (c750 == 9) = true then zcu p1 x286 x290 x297 x303 c750 x943 x948 x953 x958 x963 x968 1 2 else zcu p1 x286 x290 x297 x303 c750 x943 x948 x953 x958 x963 x968 1 1) else (if (c750 == 10) = true then (if (c750 == 10) = true then zcu p1 x286 x290 x297 x303 c750 x943 x948 x953 x958 x963 x968 1 2 else zcu p1 x286 x290 x297 x303 c750 x943 x948 x953 x958 x963 x968 1 1) else (if (c750 == 11) = true then zcu p1 x286 x290 x297 x303 c750 x943 x948 x953 x958 x963 x968 1 2 else zcu p1 x286 x290 x297 x303 c750 x943 x948 x953 x958 x963 x968 1 1)))))
def zdy (p1 : zc) (x286 : List zbj) (x290 : List zB) (x297 : Int) (x303 : Int) (c750 : Int) (x908 : List zI) (x913 : List zE) (x918 : List zG) (x923 : List Int) (x928 : List zl) (x933 : List UInt8) (x935 : Bool) : Option (Except (Value × zb) (zl × Int × zb)) :=
 (if x935 = true then zcu p1 x286 x290 x297 x303 c750 x908 x913 x918 x923 x928 x933 2 2 else (if (c750 == 6) = true then zef p1 x286 x290 x297 x303 c750 x908 x913 x918 x923 x928 x933 (c750 == 6) else zef p1 x286 x290 x297 x303 c750 x908 x913 x918 x923 x928 x933 (c750 == 7)))
def zfC (rec29 : (List zbj) → (List zB) → (List zI) → Int → (List zE) → Int → (List zG) → (List Int) → (List zl) → (List UInt8) → Int → Option (Except (Value × zb) (zl × Int × zb))) (R_check_checker_exp : zb → zc → Option (Except (Value × zb) (zl × Int × zb))) (p1 : zc) (x286 : List zbj) (x290 : List zB) (x295 : List zI) (x297 : Int) (x301 : List zE) (x303 : Int) (x307 : List zG) (x312 : List Int) (x317 : List zl) (x322 : List UInt8) (x324 : Int) : Option (Except (Value × zb) (zl × Int × zb)) :=
 (if (decide (x324 < (p1.Kids.length : Int))) = true then (zL p1.Kids x324).bind fun y660 => zC (R_check_checker_exp (⟨(⟨x286, x290⟩ : zs), (⟨x295, x297, x301⟩ : zx), x303, x307, x312⟩ : zb) y660) (fun x674 => some (.error (x674.1, x674.2))) fun c670 => (room (x317.length + 1)).bind fun _ => (u8o c670.2.1).bind fun z744 => (room (x322.length + 1)).bind fun _ => rec29 c670.2.2.prog.Structs c670.2.2.prog.Funcs c670.2.2.tree.Bodies c670.2.2.tree.Main c670.2.2.tree.Points c670.2.2.fn c670.2.2.vars c670.2.2.scope (x317 ++ [(⟨c670.1.Kind, c670.1.Op, c670.1.Var, c670.1.Num, c670.1.Kids⟩ : zl)]) (x322 ++ [z744]) (IntKind.i64.wrap (x324 + 1)) else (zev p1.Op).bind fun c750 => (if (c750 == 12) = true then zdy p1 x286 x290 x297 x303 c750 x295 x301 x307 x312 x317 x322 (c750 == 12) else zdy p1 x286 x290 x297 x303 c750 x295 x301 x307 x312 x317 x322 (c750 == 13)))
def zd2 (R_check_checker_exp : zb → zc → Option (Except (Value × zb) (zl × Int × zb))) (p1 : zc) : Nat → (List zbj) → (List zB) → (List zI) → Int → (List zE) → Int → (List zG) → (List Int) → (List zl) → (List UInt8) → Int → Option (Except (Value × zb) (zl × Int × zb))
 | 0, _, _, _, _, _, _, _, _, _, _, _ => none
 | n + 1, x286, x290, x295, x297, x301, x303, x307, x312, x317, x322, x324 => zfC (zd2 R_check_checker_exp p1 n) R_check_checker_exp p1 x286 x290 x295 x297 x301 x303 x307 x312 x317 x322 x324
def zhm (R_check_checker_vals : zb → (List zc) → (List UInt8) → Option (Except (Value × zb) ((List zl) × zb))) (R_check_checker_exp : zb → zc → Option (Except (Value × zb) (zl × Int × zb))) (R_check_checker_place : zb → zc → Option (Except (Value × zb) (zl × Int × zb))) (R_check_checker_unary : zb → zc → Option (Except (Value × zb) (zl × Int × zb))) (R_check_checker_binary : zb → zc → Option (Except (Value × zb) (zl × Int × zb))) (q0 : zb) (p1 : zc) : Option (Except (Value × zb) (zl × Int × zb)) :=
 zd2 R_check_checker_exp p1 big q0.prog.Structs q0.prog.Funcs q0.tree.Bodies q0.tree.Main q0.tree.Points q0.fn q0.vars q0.scope ([]) ([]) 0
def zy : Nat → (zb → (List zc) → (List UInt8) → Option (Except (Value × zb) ((List zl) × zb))) × (zb → zc → Option (Except (Value × zb) (zl × Int × zb))) × (zb → zc → Option (Except (Value × zb) (zl × Int × zb))) × (zb → zc → Option (Except (Value × zb) (zl × Int × zb))) × (zb → zc → Option (Except (Value × zb) (zl × Int × zb)))
 | 0 => (fun _ _ _ => none, fun _ _ => none, fun _ _ => none, fun _ _ => none, fun _ _ => none)
 | gn + 1 => (zhD ((zy gn).1) ((zy gn).2.1) ((zy gn).2.2.1) ((zy gn).2.2.2.1) ((zy gn).2.2.2.2), zfc ((zy gn).1) ((zy gn).2.1) ((zy gn).2.2.1) ((zy gn).2.2.2.1) ((zy gn).2.2.2.2), zfm ((zy gn).1) ((zy gn).2.1) ((zy gn).2.2.1) ((zy gn).2.2.2.1) ((zy gn).2.2.2.2), zft ((zy gn).1) ((zy gn).2.1) ((zy gn).2.2.1) ((zy gn).2.2.2.1) ((zy gn).2.2.2.2), zhm ((zy gn).1) ((zy gn).2.1) ((zy gn).2.2.1) ((zy gn).2.2.2.1) ((zy gn).2.2.2.2))
def zcp (q0 : zb) (p1 : (List zc)) (p2 : (List UInt8)) : Option (Except (Value × zb) ((List zl) × zb)) := (zy big).1 q0 p1 p2
def zfZ (p0 : (List ByteArray)) : Option (List ByteArray) := (room p0.length).bind fun _ => some p0
def zd4 (q1 : zj) (p2 : zf) (x299 : List zbj) (x303 : List zB) (x308 : List zI) (x310 : Int) (x314 : List zE) (x316 : Int) (x320 : List zG) (x325 : List Int) (x329 : List zl) (x331 : Int) (x335 : List ByteArray) : Option (Except (Value × zb × zj) (zb × zj)) :=
 (room (x320.length + ([(⟨p2.Name, (⟨p2.Type_.Kind, p2.Type_.N, p2.Type_.Name⟩ : zk), x331, x335⟩ : zG)] : List zG).length)).bind fun _ => (room (x325.length + ([(x320.length : Int)] : List Int).length)).bind fun _ => some (.ok ((⟨(⟨x299, x303⟩ : zs), (⟨x308, x310, x314⟩ : zx), x316, (x320 ++ ([(⟨p2.Name, (⟨p2.Type_.Kind, p2.Type_.N, p2.Type_.Name⟩ : zk), x331, x335⟩ : zG)] : List zG)), (x325 ++ ([(x320.length : Int)] : List Int))⟩ : zb), (⟨q1.Kind, q1.Point, (x320.length : Int), q1.Field, q1.Call, x329, q1.Body, q1.Else⟩ : zj)))
def zfD (q0 : zb) (q1 : zj) (p2 : zf) : Option (Except (Value × zb × zj) (zb × zj)) :=
 (zes q0 p2.Name).bind fun c5 => ((if (decide (c5 < 0)) = true then (zc1 q0 p2.Type_).bind fun c12 => some c12 else some false)).bind fun c9 => zC (zby c9 8) (fun x20 => some (.error (x20, q0, q1))) fun c16 => (if ((p2.Type_.Kind.toNat : Int) == 3) = true then zC (zby ((decide (p2.Type_.N ≥ 1)) && (decide (p2.Type_.N ≤ 16))) 9) (fun x364 => some (.error (x364, q0, q1))) fun c360 => zC (zcp q0 p2.Kids []) (fun x372 => some (.error (x372.1, x372.2, q1))) fun c368 => zd4 q1 p2 c368.2.prog.Structs c368.2.prog.Funcs c368.2.tree.Bodies c368.2.tree.Main c368.2.tree.Points c368.2.fn c368.2.vars c368.2.scope q1.Kids p2.Type_.N ([]) else (if ((p2.Type_.Kind.toNat : Int) == 4) = true then (zeX q0 p2.Type_.Name).bind fun c438 => (zfZ c438.1).bind fun c446 => zC (zcp q0 p2.Kids []) (fun x459 => some (.error (x459.1, x459.2, q1))) fun c455 => zd4 q1 p2 c455.2.prog.Structs c455.2.prog.Funcs c455.2.tree.Bodies c455.2.tree.Main c455.2.tree.Points c455.2.fn c455.2.vars c455.2.scope q1.Kids (c438.1.length : Int) c446 else zC (zcp q0 p2.Kids ([p2.Type_.Kind] : List UInt8)) (fun x534 => some (.error (x534.1, x534.2, q1))) fun c530 => zd4 q1 p2 c530.2.prog.Structs c530.2.prog.Funcs c530.2.tree.Bodies c530.2.tree.Main c530.2.tree.Points c530.2.fn c530.2.vars c530.2.scope c530.1 1 ([])))
def zd0 (q1 : zj) (c5 : Int) (x409 : List zbj) (x413 : List zB) (x418 : List zI) (x420 : Int) (x424 : List zE) (x426 : Int) (x430 : List zG) (x435 : List Int) (x437 : Int) (x440 : List zl) : Option (Except (Value × zb × zj) (zb × zj)) :=
 some (.ok ((⟨(⟨x409, x413⟩ : zs), (⟨x418, x420, x424⟩ : zx), x426, x430, x435⟩ : zb), (⟨q1.Kind, q1.Point, c5, x437, q1.Call, x440, q1.Body, q1.Else⟩ : zj)))
def zfP (q0 : zb) (q1 : zj) (p2 : zf) : Option (Except (Value × zb × zj) (zb × zj)) :=
 zC (zd6 q0 p2.Name) (fun x9 => some (.error (x9, q0, q1))) fun c5 => (if ((p2.Kind.toNat : Int) == 2) = true then (zL q0.vars c5).bind fun y443 => (zcY y443.Type_).bind fun c456 => zC (zby c456 9) (fun x464 => some (.error (x464, q0, (⟨q1.Kind, q1.Point, c5, q1.Field, q1.Call, q1.Kids, q1.Body, q1.Else⟩ : zj)))) fun c460 => zC (zcp q0 p2.Kids ([y443.Type_.Kind] : List UInt8)) (fun x478 => some (.error (x478.1, x478.2, (⟨q1.Kind, q1.Point, c5, q1.Field, q1.Call, q1.Kids, q1.Body, q1.Else⟩ : zj)))) fun c474 => zd0 q1 c5 c474.2.prog.Structs c474.2.prog.Funcs c474.2.tree.Bodies c474.2.tree.Main c474.2.tree.Points c474.2.fn c474.2.vars c474.2.scope q1.Field c474.1 else (if ((p2.Kind.toNat : Int) == 9) = true then zC (zdp q0 c5 1) (fun x550 => some (.error (x550, q0, (⟨q1.Kind, q1.Point, c5, q1.Field, q1.Call, q1.Kids, q1.Body, q1.Else⟩ : zj)))) fun c546 => zC (zcp q0 p2.Kids []) (fun x558 => some (.error (x558.1, x558.2, (⟨q1.Kind, q1.Point, c5, q1.Field, q1.Call, q1.Kids, q1.Body, q1.Else⟩ : zj)))) fun c554 => zd0 q1 c5 c554.2.prog.Structs c554.2.prog.Funcs c554.2.tree.Bodies c554.2.tree.Main c554.2.tree.Points c554.2.fn c554.2.vars c554.2.scope q1.Field c554.1 else (if ((p2.Kind.toNat : Int) == 3) = true then zC (zdp q0 c5 3) (fun x630 => some (.error (x630, q0, (⟨q1.Kind, q1.Point, c5, q1.Field, q1.Call, q1.Kids, q1.Body, q1.Else⟩ : zj)))) fun c626 => zC (zcp q0 p2.Kids ([(1 : UInt8), (1 : UInt8)] : List UInt8)) (fun x644 => some (.error (x644.1, x644.2, (⟨q1.Kind, q1.Point, c5, q1.Field, q1.Call, q1.Kids, q1.Body, q1.Else⟩ : zj)))) fun c640 => zd0 q1 c5 c640.2.prog.Structs c640.2.prog.Funcs c640.2.tree.Bodies c640.2.tree.Main c640.2.tree.Points c640.2.fn c640.2.vars c640.2.scope q1.Field c640.1 else (if ((p2.Kind.toNat : Int) == 4) = true then zC (zdp q0 c5 4) (fun x716 => some (.error (x716, q0, (⟨q1.Kind, q1.Point, c5, q1.Field, q1.Call, q1.Kids, q1.Body, q1.Else⟩ : zj)))) fun c712 => zC (zd3 q0 c5 p2.Field) (fun x724 => some (.error (x724, q0, (⟨q1.Kind, q1.Point, c5, q1.Field, q1.Call, q1.Kids, q1.Body, q1.Else⟩ : zj)))) fun c720 => zC (zcp q0 p2.Kids ([(1 : UInt8)] : List UInt8)) (fun x738 => some (.error (x738.1, x738.2, (⟨q1.Kind, q1.Point, c5, c720, q1.Call, q1.Kids, q1.Body, q1.Else⟩ : zj)))) fun c734 => zd0 q1 c5 c734.2.prog.Structs c734.2.prog.Funcs c734.2.tree.Bodies c734.2.tree.Main c734.2.tree.Points c734.2.fn c734.2.vars c734.2.scope c720 c734.1 else zd0 q1 c5 q0.prog.Structs q0.prog.Funcs q0.tree.Bodies q0.tree.Main q0.tree.Points q0.fn q0.vars q0.scope q1.Field q1.Kids))))
def zfO (rec7 : (List zI) → (List zE) → (List zG) → (List Int) → (List UInt8) → Int → Option (Except (Value × zb × zj) (zb × zj))) (q0 : zb) (q1 : zj) (p2 : zf) (x57 : Int) (c58 : Int) (y70 : zB) (x218 : List zI) (x223 : List zE) (x228 : List zG) (x233 : List Int) (x240 : List UInt8) (x243 : Int) : Option (Except (Value × zb × zj) (zb × zj)) :=
 (if (decide (x243 < (y70.Params.length : Int))) = true then (zL y70.Params x243).bind fun y355 => (room (x240.length + 1)).bind fun _ => rec7 x218 x223 x228 x233 (x240 ++ [y355.Type_.Kind]) (IntKind.i64.wrap (x243 + 1)) else zC (zcp (⟨(⟨q0.prog.Structs, q0.prog.Funcs⟩ : zs), (⟨x218, q0.tree.Main, x223⟩ : zx), q0.fn, x228, x233⟩ : zb) p2.Kids x240) (fun x372 => some (.error (x372.1, x372.2, (⟨q1.Kind, q1.Point, x57, q1.Field, c58, q1.Kids, q1.Body, q1.Else⟩ : zj)))) fun c368 => ((if (decide (x57 < 0)) = true then some true else (zL c368.2.vars x57).bind fun y440 => some ((y440.Type_.Kind.toNat : Int) == (y70.Result.Kind.toNat : Int)))).bind fun c437 => zC (zby c437 9) (fun x455 => some (.error (x455, c368.2, (⟨q1.Kind, q1.Point, x57, q1.Field, c58, c368.1, q1.Body, q1.Else⟩ : zj)))) fun c451 => some (.ok (c368.2, (⟨q1.Kind, q1.Point, x57, q1.Field, c58, c368.1, q1.Body, q1.Else⟩ : zj))))
def zem (q0 : zb) (q1 : zj) (p2 : zf) (x57 : Int) (c58 : Int) (y70 : zB) : Nat → (List zI) → (List zE) → (List zG) → (List Int) → (List UInt8) → Int → Option (Except (Value × zb × zj) (zb × zj))
 | 0, _, _, _, _, _, _ => none
 | n + 1, x218, x223, x228, x233, x240, x243 => zfO (zem q0 q1 p2 x57 c58 y70 n) q0 q1 p2 x57 c58 y70 x218 x223 x228 x233 x240 x243
def zeD (q0 : zb) (q1 : zj) (p2 : zf) (x40 : List zI) (x45 : List zE) (x50 : List zG) (x55 : List Int) (x57 : Int) : Option (Except (Value × zb × zj) (zb × zj)) :=
 (zet (⟨(⟨q0.prog.Structs, q0.prog.Funcs⟩ : zs), (⟨x40, q0.tree.Main, x45⟩ : zx), q0.fn, x50, x55⟩ : zb) p2.Call).bind fun c58 => zC (zby (decide (c58 ≥ 0)) 8) (fun x66 => some (.error (x66, (⟨(⟨q0.prog.Structs, q0.prog.Funcs⟩ : zs), (⟨x40, q0.tree.Main, x45⟩ : zx), q0.fn, x50, x55⟩ : zb), (⟨q1.Kind, q1.Point, x57, q1.Field, c58, q1.Kids, q1.Body, q1.Else⟩ : zj)))) fun c62 => (zL q0.prog.Funcs c58).bind fun y70 => zem q0 q1 p2 x57 c58 y70 big x40 x45 x50 x55 ([]) 0
def zfw (q0 : zb) (q1 : zj) (p2 : zf) : Option (Except (Value × zb × zj) (zb × zj)) :=
 (if (!(z9 p2.Name znS)) = true then zC (zd6 q0 p2.Name) (fun x468 => some (.error (x468, q0, q1))) fun c464 => (zL q0.vars c464).bind fun y472 => (zcY y472.Type_).bind fun c483 => zC (zby c483 9) (fun x491 => some (.error (x491, q0, (⟨q1.Kind, q1.Point, c464, q1.Field, q1.Call, q1.Kids, q1.Body, q1.Else⟩ : zj)))) fun c487 => zeD q0 q1 p2 q0.tree.Bodies q0.tree.Points q0.vars q0.scope c464 else zeD q0 q1 p2 q0.tree.Bodies q0.tree.Points q0.vars q0.scope q1.Var)
def zdO (p0 : Int) (qf0 : zb) : Option zb :=
 (zdV qf0.scope 0 p0).bind fun y2 => some (⟨(⟨qf0.prog.Structs, qf0.prog.Funcs⟩ : zs), (⟨qf0.tree.Bodies, qf0.tree.Main, qf0.tree.Points⟩ : zx), qf0.fn, qf0.vars, y2⟩ : zb)
def zfq (rec4 : (List zbj) → (List zB) → (List zI) → Int → (List zE) → Int → (List zG) → (List Int) → (List zj) → Int → Option (Except (Value × zb) ((List zj) × zb))) (R_check_checker_stmt : zb → zf → Option (Except (Value × zb) (zj × zb))) (p1 : (List zf)) (x126 : List zbj) (x130 : List zB) (x135 : List zI) (x137 : Int) (x141 : List zE) (x143 : Int) (x147 : List zG) (x152 : List Int) (x157 : List zj) (x159 : Int) : Option (Except (Value × zb) ((List zj) × zb)) :=
 (if (decide (x159 < (p1.length : Int))) = true then (zL p1 x159).bind fun y262 => zC (R_check_checker_stmt (⟨(⟨x126, x130⟩ : zs), (⟨x135, x137, x141⟩ : zx), x143, x147, x152⟩ : zb) y262) (fun x284 => some (.error (x284.1, x284.2))) fun c280 => (room (x157.length + 1)).bind fun _ => rec4 c280.2.prog.Structs c280.2.prog.Funcs c280.2.tree.Bodies c280.2.tree.Main c280.2.tree.Points c280.2.fn c280.2.vars c280.2.scope (x157 ++ [(⟨c280.1.Kind, c280.1.Point, c280.1.Var, c280.1.Field, c280.1.Call, c280.1.Kids, c280.1.Body, c280.1.Else⟩ : zj)]) (IntKind.i64.wrap (x159 + 1)) else some (.ok (x157, (⟨(⟨x126, x130⟩ : zs), (⟨x135, x137, x141⟩ : zx), x143, x147, x152⟩ : zb))))
def zd7 (R_check_checker_stmt : zb → zf → Option (Except (Value × zb) (zj × zb))) (p1 : (List zf)) : Nat → (List zbj) → (List zB) → (List zI) → Int → (List zE) → Int → (List zG) → (List Int) → (List zj) → Int → Option (Except (Value × zb) ((List zj) × zb))
 | 0, _, _, _, _, _, _, _, _, _, _ => none
 | n + 1, x126, x130, x135, x137, x141, x143, x147, x152, x157, x159 => zfq (zd7 R_check_checker_stmt p1 n) R_check_checker_stmt p1 x126 x130 x135 x137 x141 x143 x147 x152 x157 x159
def zfL (R_check_checker_list : zb → (List zf) → Option (Except (Value × zb) ((List zj) × zb))) (R_check_checker_stmt : zb → zf → Option (Except (Value × zb) (zj × zb))) (q0 : zb) (p1 : (List zf)) : Option (Except (Value × zb) ((List zj) × zb)) :=
 zd7 R_check_checker_stmt p1 big q0.prog.Structs q0.prog.Funcs q0.tree.Bodies q0.tree.Main q0.tree.Points q0.fn q0.vars q0.scope ([]) 0
def zfJ (R_check_checker_list : zb → (List zf) → Option (Except (Value × zb) ((List zj) × zb))) (R_check_checker_stmt : zb → zf → Option (Except (Value × zb) (zj × zb))) (q0 : zb) (p1 : (List zf)) : Option (Except (Value × zb) ((List zj) × zb)) :=
 (zfL R_check_checker_list R_check_checker_stmt q0 p1).bind fun r => match r with
  | .ok c => (zdO (q0.scope.length : Int) c.2).bind fun q => some (.ok (c.1, q))
  | .error c => (zdO (q0.scope.length : Int) c.2).bind fun q => some (.error (c.1, q))
def zcB (x1008 : List zbj) (x1012 : List zB) (x1017 : List zI) (x1019 : Int) (x1023 : List zE) (x1025 : Int) (x1029 : List zG) (x1034 : List Int) (x1036 : UInt8) (x1037 : Int) (x1038 : Int) (x1039 : Int) (x1040 : Int) (x1043 : List zl) (x1047 : List zj) (x1051 : List zj) : Option (Except (Value × zb) (zj × zb)) :=
 some (.ok ((⟨x1036, x1037, x1038, x1039, x1040, x1043, x1047, x1051⟩ : zj), (⟨(⟨x1008, x1012⟩ : zs), (⟨x1017, x1019, x1023⟩ : zx), x1025, x1029, x1034⟩ : zb)))
def zdY (R_check_checker_list : zb → (List zf) → Option (Except (Value × zb) ((List zj) × zb))) (q0 : zb) (p1 : zf) (x1348 : List zI) (x1353 : List zE) (x1358 : List zG) (x1363 : List Int) (x1365 : Bool) : Option (Except (Value × zb) (zj × zb)) :=
 (if x1365 = true then zC (zcp (⟨(⟨q0.prog.Structs, q0.prog.Funcs⟩ : zs), (⟨x1348, q0.tree.Main, x1353⟩ : zx), q0.fn, x1358, x1363⟩ : zb) p1.Kids ([(2 : UInt8)] : List UInt8)) (fun x1377 => some (.error (x1377.1, x1377.2))) fun c1373 => zC (R_check_checker_list c1373.2 p1.Body) (fun x1446 => some (.error (x1446.1, x1446.2))) fun c1442 => (if ((p1.Kind.toNat : Int) == 6) = true then zC (R_check_checker_list c1442.2 p1.Else) (fun x1516 => some (.error (x1516.1, x1516.2))) fun c1512 => zcB c1512.2.prog.Structs c1512.2.prog.Funcs c1512.2.tree.Bodies c1512.2.tree.Main c1512.2.tree.Points c1512.2.fn c1512.2.vars c1512.2.scope p1.Kind (q0.tree.Points.length : Int) (-1) 0 (-1) c1373.1 c1442.1 c1512.1 else zcB c1442.2.prog.Structs c1442.2.prog.Funcs c1442.2.tree.Bodies c1442.2.tree.Main c1442.2.tree.Points c1442.2.fn c1442.2.vars c1442.2.scope p1.Kind (q0.tree.Points.length : Int) (-1) 0 (-1) c1373.1 c1442.1 ([])) else (if ((p1.Kind.toNat : Int) == 8) = true then zC (zcp (⟨(⟨q0.prog.Structs, q0.prog.Funcs⟩ : zs), (⟨x1348, q0.tree.Main, x1353⟩ : zx), q0.fn, x1358, x1363⟩ : zb) p1.Kids ([(1 : UInt8)] : List UInt8)) (fun x1602 => some (.error (x1602.1, x1602.2))) fun c1598 => zcB c1598.2.prog.Structs c1598.2.prog.Funcs c1598.2.tree.Bodies c1598.2.tree.Main c1598.2.tree.Points c1598.2.fn c1598.2.vars c1598.2.scope p1.Kind (q0.tree.Points.length : Int) (-1) 0 (-1) c1598.1 ([]) ([]) else (if ((p1.Kind.toNat : Int) == 10) = true then (zL q0.prog.Funcs q0.fn).bind fun y1670 => (if ((y1670.Result.Kind.toNat : Int) != 0) = true then zC (zcp (⟨(⟨q0.prog.Structs, q0.prog.Funcs⟩ : zs), (⟨x1348, q0.tree.Main, x1353⟩ : zx), q0.fn, x1358, x1363⟩ : zb) p1.Kids ([y1670.Result.Kind] : List UInt8)) (fun x1695 => some (.error (x1695.1, x1695.2))) fun c1691 => zcB c1691.2.prog.Structs c1691.2.prog.Funcs c1691.2.tree.Bodies c1691.2.tree.Main c1691.2.tree.Points c1691.2.fn c1691.2.vars c1691.2.scope p1.Kind (q0.tree.Points.length : Int) (-1) 0 (-1) c1691.1 ([]) ([]) else zC (zcp (⟨(⟨q0.prog.Structs, q0.prog.Funcs⟩ : zs), (⟨x1348, q0.tree.Main, x1353⟩ : zx), q0.fn, x1358, x1363⟩ : zb) p1.Kids []) (fun x1766 => some (.error (x1766.1, x1766.2))) fun c1762 => zcB c1762.2.prog.Structs c1762.2.prog.Funcs c1762.2.tree.Bodies c1762.2.tree.Main c1762.2.tree.Points c1762.2.fn c1762.2.vars c1762.2.scope p1.Kind (q0.tree.Points.length : Int) (-1) 0 (-1) c1762.1 ([]) ([])) else zC (zcp (⟨(⟨q0.prog.Structs, q0.prog.Funcs⟩ : zs), (⟨x1348, q0.tree.Main, x1353⟩ : zx), q0.fn, x1358, x1363⟩ : zb) p1.Kids []) (fun x1837 => some (.error (x1837.1, x1837.2))) fun c1833 => zC (zby false 9) (fun x1906 => some (.error (x1906, c1833.2))) fun c1902 => zcB c1833.2.prog.Structs c1833.2.prog.Funcs c1833.2.tree.Bodies c1833.2.tree.Main c1833.2.tree.Points c1833.2.fn c1833.2.vars c1833.2.scope p1.Kind (q0.tree.Points.length : Int) (-1) 0 (-1) ([]) ([]) ([]))))
def zdo (R_check_checker_list : zb → (List zf) → Option (Except (Value × zb) ((List zj) × zb))) (q0 : zb) (p1 : zf) (x1148 : List zI) (x1153 : List zE) (x1158 : List zG) (x1163 : List Int) (x1165 : Bool) : Option (Except (Value × zb) (zj × zb)) :=
 (if x1165 = true then zC (zfP (⟨(⟨q0.prog.Structs, q0.prog.Funcs⟩ : zs), (⟨x1148, q0.tree.Main, x1153⟩ : zx), q0.fn, x1158, x1163⟩ : zb) (⟨p1.Kind, (q0.tree.Points.length : Int), (-1), 0, (-1), [], [], []⟩ : zj) p1) (fun x1171 => some (.error (x1171.1, x1171.2.1))) fun c1167 => zcB c1167.1.prog.Structs c1167.1.prog.Funcs c1167.1.tree.Bodies c1167.1.tree.Main c1167.1.tree.Points c1167.1.fn c1167.1.vars c1167.1.scope c1167.2.Kind c1167.2.Point c1167.2.Var c1167.2.Field c1167.2.Call c1167.2.Kids c1167.2.Body c1167.2.Else else (if ((p1.Kind.toNat : Int) == 5) = true then zC (zfw (⟨(⟨q0.prog.Structs, q0.prog.Funcs⟩ : zs), (⟨x1148, q0.tree.Main, x1153⟩ : zx), q0.fn, x1158, x1163⟩ : zb) (⟨p1.Kind, (q0.tree.Points.length : Int), (-1), 0, (-1), [], [], []⟩ : zj) p1) (fun x1260 => some (.error (x1260.1, x1260.2.1))) fun c1256 => zcB c1256.1.prog.Structs c1256.1.prog.Funcs c1256.1.tree.Bodies c1256.1.tree.Main c1256.1.tree.Points c1256.1.fn c1256.1.vars c1256.1.scope c1256.2.Kind c1256.2.Point c1256.2.Var c1256.2.Field c1256.2.Call c1256.2.Kids c1256.2.Body c1256.2.Else else (if ((p1.Kind.toNat : Int) == 6) = true then zdY R_check_checker_list q0 p1 x1148 x1153 x1158 x1163 ((p1.Kind.toNat : Int) == 6) else zdY R_check_checker_list q0 p1 x1148 x1153 x1158 x1163 ((p1.Kind.toNat : Int) == 7))))
def zfa (R_check_checker_list : zb → (List zf) → Option (Except (Value × zb) ((List zj) × zb))) (R_check_checker_stmt : zb → zf → Option (Except (Value × zb) (zj × zb))) (q0 : zb) (p1 : zf) : Option (Except (Value × zb) (zj × zb)) :=
 (zgC q0.scope).bind fun c6 => (room (q0.tree.Points.length + ([(⟨q0.fn, p1.Line, c6⟩ : zE)] : List zE).length)).bind fun _ => (if ((p1.Kind.toNat : Int) == 1) = true then zC (zfD (⟨(⟨q0.prog.Structs, q0.prog.Funcs⟩ : zs), (⟨q0.tree.Bodies, q0.tree.Main, (q0.tree.Points ++ ([(⟨q0.fn, p1.Line, c6⟩ : zE)] : List zE))⟩ : zx), q0.fn, q0.vars, q0.scope⟩ : zb) (⟨p1.Kind, (q0.tree.Points.length : Int), (-1), 0, (-1), [], [], []⟩ : zj) p1) (fun x1058 => some (.error (x1058.1, x1058.2.1))) fun c1054 => zcB c1054.1.prog.Structs c1054.1.prog.Funcs c1054.1.tree.Bodies c1054.1.tree.Main c1054.1.tree.Points c1054.1.fn c1054.1.vars c1054.1.scope c1054.2.Kind c1054.2.Point c1054.2.Var c1054.2.Field c1054.2.Call c1054.2.Kids c1054.2.Body c1054.2.Else else (if ((p1.Kind.toNat : Int) == 2) = true then zdo R_check_checker_list q0 p1 q0.tree.Bodies (q0.tree.Points ++ ([(⟨q0.fn, p1.Line, c6⟩ : zE)] : List zE)) q0.vars q0.scope ((p1.Kind.toNat : Int) == 2) else (if ((p1.Kind.toNat : Int) == 3) = true then zdo R_check_checker_list q0 p1 q0.tree.Bodies (q0.tree.Points ++ ([(⟨q0.fn, p1.Line, c6⟩ : zE)] : List zE)) q0.vars q0.scope ((p1.Kind.toNat : Int) == 3) else (if ((p1.Kind.toNat : Int) == 4) = true then zdo R_check_checker_list q0 p1 q0.tree.Bodies (q0.tree.Points ++ ([(⟨q0.fn, p1.Line, c6⟩ : zE)] : List zE)) q0.vars q0.scope ((p1.Kind.toNat : Int) == 4) else zdo R_check_checker_list q0 p1 q0.tree.Bodies (q0.tree.Points ++ ([(⟨q0.fn, p1.Line, c6⟩ : zE)] : List zE)) q0.vars q0.scope ((p1.Kind.toNat : Int) == 9)))))
def zbP : Nat → (zb → (List zf) → Option (Except (Value × zb) ((List zj) × zb))) × (zb → zf → Option (Except (Value × zb) (zj × zb)))
 | 0 => (fun _ _ => none, fun _ _ => none)
 | gn + 1 => (zfJ ((zbP gn).1) ((zbP gn).2), zfa ((zbP gn).1) ((zbP gn).2))
def ze9 (q0 : zb) (p1 : (List zf)) : Option (Except (Value × zb) ((List zj) × zb)) := (zbP big).1 q0 p1
def zfd (R_check_returns : (List zf) → Option Bool) (p0 : (List zf)) : Option Bool :=
 (if ((p0.length : Int) == 0) = true then some false else (zL p0 (IntKind.i64.wrap ((p0.length : Int) - 1))).bind fun y3 => ((if ((y3.Kind.toNat : Int) == 10) = true then some true else (if ((y3.Kind.toNat : Int) == 6) = true then (R_check_returns y3.Body).bind fun c25 => (if c25 = true then (R_check_returns y3.Else).bind fun c30 => some c30 else some false) else (if false = true then (R_check_returns y3.Else).bind fun c35 => some c35 else some false)))).bind fun c21 => some c21)
def zeM : Nat → ((List zf) → Option Bool)
 | 0 => fun _ => none
 | gn + 1 => zfd (zeM gn)
def zgT (p0 : (List zf)) : Option Bool := (zeM big) p0
def zex (q0 : zb) (p1 : ByteArray) : Option Int :=
 (ze3 q0.prog.Funcs p1).bind fun c6 => some c6
def ze2 (rec4 : (List zI) → (List zE) → (List zG) → (List Int) → (List ByteArray) → Bool → Int → Option (Except (Value × zb) (zb))) (q0 : zb) (p1 : Int) (y3 : zB) (x241 : List zI) (x246 : List zE) (x251 : List zG) (x256 : List Int) (x263 : List ByteArray) (x265 : Bool) (x267 : Int) : Option (Except (Value × zb) (zb)) :=
 (if (decide (x267 < (y3.Params.length : Int))) = true then (zL y3.Params x267).bind fun y453 => (room (x263.length + 1)).bind fun _ => (zc1 (⟨(⟨q0.prog.Structs, q0.prog.Funcs⟩ : zs), (⟨x241, q0.tree.Main, x246⟩ : zx), p1, x251, x256⟩ : zb) y453.Type_).bind fun c464 => ((if c464 = true then (zfx (x263 ++ [y453.Name])).bind fun c471 => some (!c471) else some false)).bind fun c468 => zC (zby c468 8) (fun x479 => some (.error (x479, (⟨(⟨q0.prog.Structs, q0.prog.Funcs⟩ : zs), (⟨x241, q0.tree.Main, x246⟩ : zx), p1, x251, x256⟩ : zb)))) fun c475 => ((if x265 = true then (zcY y453.Type_).bind fun c488 => some c488 else some false)).bind fun c485 => (room (x251.length + ([(⟨y453.Name, (⟨y453.Type_.Kind, y453.Type_.N, y453.Type_.Name⟩ : zk), 1, []⟩ : zG)] : List zG).length)).bind fun _ => (room (x256.length + 1)).bind fun _ => rec4 x241 x246 (x251 ++ ([(⟨y453.Name, (⟨y453.Type_.Kind, y453.Type_.N, y453.Type_.Name⟩ : zk), 1, []⟩ : zG)] : List zG)) (x256 ++ [x267]) (x263 ++ [y453.Name]) c485 (IntKind.i64.wrap (x267 + 1)) else (zc1 (⟨(⟨q0.prog.Structs, q0.prog.Funcs⟩ : zs), (⟨x241, q0.tree.Main, x246⟩ : zx), p1, x251, x256⟩ : zb) y3.Result).bind fun c508 => zC (zby c508 8) (fun x516 => some (.error (x516, (⟨(⟨q0.prog.Structs, q0.prog.Funcs⟩ : zs), (⟨x241, q0.tree.Main, x246⟩ : zx), p1, x251, x256⟩ : zb)))) fun c512 => zC (zby x265 9) (fun x526 => some (.error (x526, (⟨(⟨q0.prog.Structs, q0.prog.Funcs⟩ : zs), (⟨x241, q0.tree.Main, x246⟩ : zx), p1, x251, x256⟩ : zb)))) fun c522 => zC (ze9 (⟨(⟨q0.prog.Structs, q0.prog.Funcs⟩ : zs), (⟨x241, q0.tree.Main, x246⟩ : zx), p1, x251, x256⟩ : zb) y3.Body) (fun x536 => some (.error (x536.1, x536.2))) fun c532 => ((if (!((y3.Result.Kind.toNat : Int) != 0)) = true then some true else (zgT y3.Body).bind fun c606 => some c606)).bind fun c603 => zC (zby c603 10) (fun x614 => some (.error (x614, c532.2))) fun c610 => (room (c532.2.tree.Bodies.length + ([(⟨y3.Name, (y3.Params.length : Int), ((y3.Result.Kind.toNat : Int) != 0), c532.2.vars, c532.1⟩ : zI)] : List zI).length)).bind fun _ => some (.ok (⟨(⟨c532.2.prog.Structs, c532.2.prog.Funcs⟩ : zs), (⟨(c532.2.tree.Bodies ++ ([(⟨y3.Name, (y3.Params.length : Int), ((y3.Result.Kind.toNat : Int) != 0), c532.2.vars, c532.1⟩ : zI)] : List zI)), c532.2.tree.Main, c532.2.tree.Points⟩ : zx), c532.2.fn, c532.2.vars, c532.2.scope⟩ : zb)))
def zeV (q0 : zb) (p1 : Int) (y3 : zB) : Nat → (List zI) → (List zE) → (List zG) → (List Int) → (List ByteArray) → Bool → Int → Option (Except (Value × zb) (zb))
 | 0, _, _, _, _, _, _, _ => none
 | n + 1, x241, x246, x251, x256, x263, x265, x267 => ze2 (zeV q0 p1 y3 n) q0 p1 y3 x241 x246 x251 x256 x263 x265 x267
def zdw (q0 : zb) (p1 : Int) : Option (Except (Value × zb) (zb)) :=
 (zL q0.prog.Funcs p1).bind fun y3 => (zex q0 y3.Name).bind fun c17 => zC (zby (c17 == p1) 8) (fun x25 => some (.error (x25, q0))) fun c21 => ((if (decide ((y3.Params.length : Int) ≤ 6)) = true then (if ((y3.Result.Kind.toNat : Int) == 0) = true then some true else (zcY y3.Result).bind fun c33 => some c33) else some false)).bind fun c29 => zeV q0 p1 y3 big q0.tree.Bodies q0.tree.Points ([]) ([]) ([]) c29 0
def zdv (q0 : zb) (p1 : Int) : Option (Except (Value) (Unit)) :=
 (zL q0.prog.Structs p1).bind fun y3 => (zgN q0.prog.Structs y3).bind fun c15 => ((if (c15 == p1) = true then (zfx y3.Fields).bind fun c22 => some (!c22) else some false)).bind fun c19 => zC (zby c19 8) (fun x30 => some (.error x30)) fun c26 => ((if (decide ((y3.Fields.length : Int) ≥ 1)) = true then some (decide ((y3.Fields.length : Int) ≤ 8)) else some false)).bind fun c34 => zC (zby c34 9) (fun x41 => some (.error x41)) fun c37 => some (.ok ())
def zdi : Value → Option Int
 | .iface 134 (.int .i64 k) => some k
 | _ => none
def wS (q : zb) : Nat → Int → Int → Option (Except (Int × Value) Int)
 | 0, _, _ => none
 | k + 1, n, i => if (decide (i < (q.prog.Structs.length : Int))) = true then (match zdv q i with
  | none => none
  | some (.error v) => some (.error (n, v))
  | some (.ok _) => wS q k (IntKind.i64.wrap (n + 1)) (IntKind.i64.wrap (i + 1))) else some (.ok n)
def wB (len : Nat) : Nat → zb → Int → Int → Option (Except (Int × Value × zb) (Int × zb))
 | 0, _, _, _ => none
 | k + 1, q, n, i => if (decide (i < (len : Int))) = true then (match zdw q i with
  | none => none
  | some (.error v) => some (.error (n, v.1, v.2))
  | some (.ok q') => wB len k q' (IntKind.i64.wrap (n + 1)) (IntKind.i64.wrap (i + 1))) else some (.ok (n, q))
def wM (q : zb) (m : Int) : zb := ⟨q.prog, ⟨q.tree.Bodies, m, q.tree.Points⟩, q.fn, q.vars, q.scope⟩
def wT (n : Int) (q : zb) : Option (Int × Int × zb) :=
 (zex q znT).bind fun m => match zby (decide (m ≥ 0)) 8 with
  | none => none
  | some (.error v) => (zdi v).map fun k => (n, k, wM q m)
  | some (.ok _) => (zL q.prog.Funcs m).bind fun d => match zby (((d.Params.length : Int) == 0) && ((d.Result.Kind.toNat : Int) == 0)) 8 with
   | none => none
   | some (.error v) => (zdi v).map fun k => (n, k, wM q m)
   | some (.ok _) => some (n, 0, wM q m)
def zdF (q0 : zb) : Option (Int × Int × zb) := match wS q0 big 0 0 with
 | none => none
 | some (.error x) => (zdi x.2).map fun k => (x.1, k, q0)
 | some (.ok n) => match wB q0.prog.Funcs.length big q0 n 0 with
  | none => none
  | some (.error x) => (zdi x.2.1).map fun k => (x.1, k, x.2.2)
  | some (.ok x) => wT x.1 x.2
def zh6 (p0 : zI) : Option Bool :=
 some (decide ((p0.Vars.length : Int) > 64))
def zhO (rec4 : Int → Option Int) (p0 : (List zI)) (x22 : Int) : Option Int :=
 (if (decide (x22 < (p0.length : Int))) = true then (zL p0 x22).bind fun y44 => (zh6 y44).bind fun c57 => (if c57 = true then some x22 else rec4 (IntKind.i64.wrap (x22 + 1))) else some (-1))
def zgQ (p0 : (List zI)) : Nat → Int → Option Int
 | 0, _ => none
 | n + 1, x22 => zhO (zgQ p0 n) p0 x22
def zf1 (p0 : (List zI)) : Option Int :=
 zgQ p0 big 0
def zgc (p0 : (List zI)) : Option Bool :=
 (zf1 p0).bind fun c3 => some (decide (c3 ≥ 0))
def zcD (p0 : zs) : Option (zx × Int × Int) :=
 (zdF (⟨(⟨p0.Structs, p0.Funcs⟩ : zs), (⟨([] : List zI), 0, ([] : List zE)⟩ : zx), 0, [], ([] : List Int)⟩ : zb)).bind fun c8 => (if (c8.2.1 != 0) = true then some ((⟨[], 0, []⟩ : zx), c8.1, c8.2.1) else (zgc c8.2.2.tree.Bodies).bind fun c40 => (if ((c40 || (decide ((p0.Funcs.length : Int) > 64))) || (decide ((c8.2.2.tree.Points.length : Int) > 1000))) = true then some ((⟨[], 0, []⟩ : zx), 0, 11) else some (c8.2.2.tree, 0, 0)))
def zfg (p0 : Int) : Option zc :=
 some (⟨(1 : UInt8), p0, znS, znS, znS, []⟩ : zc)
def zfR (p0 : ByteArray) : Option zc :=
 some (⟨(3 : UInt8), 0, p0, znS, znS, []⟩ : zc)
def zf2 (p0 : ByteArray) (p1 : zc) (p2 : zc) : Option zc :=
 some (⟨(7 : UInt8), 0, znS, znS, p0, ([(⟨p1.Kind, p1.Num, p1.Name, p1.Field, p1.Op, p1.Kids⟩ : zc), (⟨p2.Kind, p2.Num, p2.Name, p2.Field, p2.Op, p2.Kids⟩ : zc)] : List zc)⟩ : zc)
def zdf (p0 : Int) : Option zs :=
 (zfR znU).bind fun c3 => (zfR znU).bind fun c15 => (zfg 1).bind fun c23 => (zf2 znY c15 c23).bind fun c31 => (zfg p0).bind fun c51 => (zfR znU).bind fun c63 => (zfg 0).bind fun c71 => (zf2 zn0 c63 c71).bind fun c79 => some (⟨[], ([(⟨znT, 1, [], (⟨(0 : UInt8), 0, znS⟩ : zk), ([(⟨(1 : UInt8), 1, znU, znS, znS, (⟨(1 : UInt8), 0, znS⟩ : zk), ([(⟨c51.Kind, c51.Num, c51.Name, c51.Field, c51.Op, c51.Kids⟩ : zc)] : List zc), [], []⟩ : zf), (⟨(7 : UInt8), 2, znS, znS, znS, (⟨(0 : UInt8), 0, znS⟩ : zk), ([(⟨c79.Kind, c79.Num, c79.Name, c79.Field, c79.Op, c79.Kids⟩ : zc)] : List zc), ([(⟨(8 : UInt8), 3, znS, znS, znS, (⟨(0 : UInt8), 0, znS⟩ : zk), ([(⟨c3.Kind, c3.Num, c3.Name, c3.Field, c3.Op, c3.Kids⟩ : zc)] : List zc), [], []⟩ : zf), (⟨(2 : UInt8), 4, znU, znS, znS, (⟨(0 : UInt8), 0, znS⟩ : zk), ([(⟨c31.Kind, c31.Num, c31.Name, c31.Field, c31.Op, c31.Kids⟩ : zc)] : List zc), [], []⟩ : zf)] : List zf), []⟩ : zf)] : List zf)⟩ : zB)] : List zB)⟩ : zs)
def zir  : Option Bool :=
 some true
def plB (p : zs) : List zf := match p.Funcs with
 | d :: _ => d.Body
 | [] => []
def zdH (p1 : Bool) (x609 : List zB) : Option Bool :=
 (zcD (⟨[], x609⟩ : zs)).bind fun c613 => (if p1 = true then ((if (((c613.2.1 == 0) && (c613.2.2 == 11)) && ((c613.1.Bodies.length : Int) == 0)) = true then (zir ).bind fun c630 => some c630 else some false)).bind fun c627 => some c627 else ((if (c613.2.2 == 0) = true then (zir ).bind fun c637 => some c637 else some false)).bind fun c634 => some c634)
def zge (rec55 : (List zf) → Int → Option Bool) (x771 : Int) (x895 : List zf) (x925 : List zf) (x927 : ByteArray) (x931 : List zc) : Option Bool :=
 (zL x925 (x895.length : Int)).bind fun y933 => rec55 (x925.set (Int.toNat (x895.length : Int)) (⟨(1 : UInt8), 0, x927, znS, znS, (⟨(2 : UInt8), 0, znS⟩ : zk), x931, [], []⟩ : zf)) (IntKind.i64.wrap (x771 + 1))
def zeC (rec55 : (List zf) → Int → Option Bool) (x771 : Int) (x895 : List zf) (x897 : Bool) : Option Bool :=
 (if x897 = true then (u8o (IntKind.u8.wrap (97 + (IntKind.u8.wrap (IntKind.i64.wrap (Int.tdiv x771 26)))))).bind fun z956 => (u8o (IntKind.u8.wrap (97 + (IntKind.u8.wrap (Int.tmod x771 26))))).bind fun z957 => (zfH znZ (⟨([z956, z957] : List UInt8).toArray⟩ : ByteArray)).bind fun y962 => (room (2 * (x895.length + ([(⟨(0 : UInt8), 0, znS, znS, znS, (⟨(0 : UInt8), 0, znS⟩ : zk), [], [], []⟩ : zf)] : List zf).length))).bind fun _ => zge rec55 x771 x895 (x895 ++ ([(⟨(0 : UInt8), 0, znS, znS, znS, (⟨(0 : UInt8), 0, znS⟩ : zk), [], [], []⟩ : zf)] : List zf)) y962 ([(⟨(2 : UInt8), 0, znS, znS, znS, []⟩ : zc)] : List zc) else (u8o (IntKind.u8.wrap (97 + (IntKind.u8.wrap (IntKind.i64.wrap (Int.tdiv x771 26)))))).bind fun z979 => (u8o (IntKind.u8.wrap (97 + (IntKind.u8.wrap (Int.tmod x771 26))))).bind fun z980 => (zfH znZ (⟨([z979, z980] : List UInt8).toArray⟩ : ByteArray)).bind fun y985 => (room (2 * (x895.length + ([(⟨(1 : UInt8), 0, y985, znS, znS, (⟨(2 : UInt8), 0, znS⟩ : zk), ([(⟨(2 : UInt8), 0, znS, znS, znS, []⟩ : zc)] : List zc), [], []⟩ : zf)] : List zf).length))).bind fun _ => rec55 (x895 ++ ([(⟨(1 : UInt8), 0, y985, znS, znS, (⟨(2 : UInt8), 0, znS⟩ : zk), ([(⟨(2 : UInt8), 0, znS, znS, znS, []⟩ : zc)] : List zc), [], []⟩ : zf)] : List zf)) (IntKind.i64.wrap (x771 + 1)))
def zht (rec55 : (List zf) → Int → Option Bool) (p1 : Bool) (x20 : Int) (x768 : List zf) (x771 : Int) : Option Bool :=
 (if (decide (x771 < (IntKind.i64.wrap (63 + x20)))) = true then zeC rec55 x771 x768 false else zdH p1 ([(⟨znT, 1, [], (⟨(0 : UInt8), 0, znS⟩ : zk), x768⟩ : zB)] : List zB))
def zdB (p1 : Bool) (x20 : Int) : Nat → (List zf) → Int → Option Bool
 | 0, _, _ => none
 | n + 1, x768, x771 => zht (zdB p1 x20 n) p1 x20 x768 x771
def zhA (rec59 : (List zB) → Int → Option Bool) (p1 : Bool) (x20 : Int) (x1033 : List zB) (x1035 : Int) : Option Bool :=
 (if (decide (x1035 < (IntKind.i64.wrap (63 + x20)))) = true then (u8o (IntKind.u8.wrap (97 + (IntKind.u8.wrap (IntKind.i64.wrap (Int.tdiv x1035 26)))))).bind fun z1052 => (u8o (IntKind.u8.wrap (97 + (IntKind.u8.wrap (Int.tmod x1035 26))))).bind fun z1053 => (zfH (⟨#[102]⟩ : ByteArray) (⟨([z1052, z1053] : List UInt8).toArray⟩ : ByteArray)).bind fun y1058 => (room (x1033.length + 1)).bind fun _ => rec59 (x1033 ++ [(⟨y1058, 0, [], (⟨(0 : UInt8), 0, znS⟩ : zk), []⟩ : zB)]) (IntKind.i64.wrap (x1035 + 1)) else zdH p1 x1033)
def zel (p1 : Bool) (x20 : Int) : Nat → (List zB) → Int → Option Bool
 | 0, _, _ => none
 | n + 1, x1033, x1035 => zhA (zel p1 x20 n) p1 x20 x1033 x1035
def zeg (rec63 : (List zf) → Int → Option Bool) (x1126 : Int) (x1182 : List zf) (x1184 : Bool) : Option Bool :=
 (if x1184 = true then (room (2 * (x1182.length + 1))).bind fun _ => (zL (x1182 ++ [(⟨(0 : UInt8), 0, znS, znS, znS, (⟨(0 : UInt8), 0, znS⟩ : zk), [], [], []⟩ : zf)]) (x1182.length : Int)).bind fun y1191 => rec63 ((x1182 ++ [(⟨(0 : UInt8), 0, znS, znS, znS, (⟨(0 : UInt8), 0, znS⟩ : zk), [], [], []⟩ : zf)]).set (Int.toNat (x1182.length : Int)) (⟨(10 : UInt8), 0, znS, znS, znS, (⟨(0 : UInt8), 0, znS⟩ : zk), [], [], []⟩ : zf)) (IntKind.i64.wrap (x1126 + 1)) else (room (2 * (x1182.length + ([(⟨(10 : UInt8), 0, znS, znS, znS, (⟨(0 : UInt8), 0, znS⟩ : zk), [], [], []⟩ : zf)] : List zf).length))).bind fun _ => rec63 (x1182 ++ ([(⟨(10 : UInt8), 0, znS, znS, znS, (⟨(0 : UInt8), 0, znS⟩ : zk), [], [], []⟩ : zf)] : List zf)) (IntKind.i64.wrap (x1126 + 1)))
def zfK (rec63 : (List zf) → Int → Option Bool) (p1 : Bool) (x20 : Int) (x1123 : List zf) (x1126 : Int) : Option Bool :=
 (if (decide (x1126 < (IntKind.i64.wrap (996 + x20)))) = true then zeg rec63 x1126 x1123 false else zdH p1 ([(⟨znT, 1, [], (⟨(0 : UInt8), 0, znS⟩ : zk), x1123⟩ : zB)] : List zB))
def zdm (p1 : Bool) (x20 : Int) : Nat → (List zf) → Int → Option Bool
 | 0, _, _ => none
 | n + 1, x1123, x1126 => zfK (zdm p1 x20 n) p1 x20 x1123 x1126
def zeU (p0 : Int) (p1 : Bool) (x18 : List zf) (x20 : Int) : Option Bool :=
 (if ((Int.tmod p0 3) == 0) = true then zdB p1 x20 big x18 0 else (if ((Int.tmod p0 3) == 1) = true then zel p1 x20 big ([(⟨znT, 1, [], (⟨(0 : UInt8), 0, znS⟩ : zk), x18⟩ : zB)] : List zB) 0 else zdm p1 x20 big x18 0))
def zgV (p0 : Int) (p1 : Bool) : Option Bool :=
 (zdf 1).bind fun c3 => (if p1 = true then zeU p0 p1 (plB c3) 1 else zeU p0 p1 (plB c3) 0)
end Go.Proofs.Ytakcaekikfcbpaa
