import Derived.Test.YtnhboaaikehpoaaFM
namespace Go.Proofs.Ytnhboaaikehpoaa
open Go.Ab Go.RowKit
set_option linter.unusedVariables false
set_option linter.unusedSimpArgs false
set_option maxRecDepth 10000
set_option maxHeartbeats 1000000
structure zp where
 Kind : UInt8
 Text : ByteArray
 Num : Int
 Line : Int
 deriving DecidableEq
def zl : Ty zp where
 sz := 4
 R := fun σ x cs => cs = [.int .u8 x.Kind.toNat, .string x.Text, .int .i64 x.Num, .int .i64 x.Line]
 len := by rintro σ x cs rfl; rfl
 one := by rintro σ x cs rfl; rfl
 mono := by rintro σ σ' x cs hle rfl; rfl
structure zbd where
 tokens : (List zp)
 at_ : Int
 deriving DecidableEq
structure zw where
 Name : ByteArray
 Fields : (List ByteArray)
 deriving DecidableEq
def zu : Ty zw where
 sz := 2
 R := fun σ x cs => ∃ v1, cs = [.string x.Name, v1] ∧ RdT Ty.str σ v1 x.Fields
 len := by rintro σ x cs ⟨v1, rfl, h0⟩; rfl
 one := by rintro σ x cs ⟨v1, rfl, h0⟩; obtain ⟨_, ⟨_, _, rfl, _⟩, _⟩ := h0; rfl
 mono := by rintro σ σ' x cs hle ⟨v1, rfl, h0⟩; exact ⟨v1, rfl, h0.le hle⟩
structure zD where
 Kind : UInt8
 N : Int
 Name : ByteArray
 deriving DecidableEq
structure zbc where
 Name : ByteArray
 Type_ : zD
 deriving DecidableEq
def zcp : Ty zbc where
 sz := 4
 R := fun σ x cs => cs = [.string x.Name, .int .u8 x.Type_.Kind.toNat, .int .i64 x.Type_.N, .string x.Type_.Name]
 len := by rintro σ x cs rfl; rfl
 one := by rintro σ x cs rfl; rfl
 mono := by rintro σ σ' x cs hle rfl; rfl
theorem zk0 : zcp.Flat := fun _ _ _ _ h => h
structure zb where
 Kind : UInt8
 Num : Int
 Name : ByteArray
 Field : ByteArray
 Op : ByteArray
 Kids : (List zb)
def zl6 (T : Ty zb) : Ty zb where
 sz := 6
 R := fun σ x cs => ∃ v5, cs = [.int .u8 x.Kind.toNat, .int .i64 x.Num, .string x.Name, .string x.Field, .string x.Op, v5] ∧ RdT T σ v5 x.Kids
 len := by rintro σ x cs ⟨v5, rfl, h0⟩; rfl
 one := by rintro σ x cs ⟨v5, rfl, h0⟩; obtain ⟨_, ⟨_, _, rfl, _⟩, _⟩ := h0; rfl
 mono := by rintro σ σ' x cs hle ⟨v5, rfl, h0⟩; exact ⟨v5, rfl, h0.le hle⟩
theorem zj7 : Lvl zl6 6 := ⟨fun _ => rfl, fun T T' h => ⟨rfl, by rintro σ x cs ⟨v5, rfl, h0⟩; exact ⟨v5, rfl, h.rd h0⟩⟩⟩
def zr : Ty zb := Ty.fix zl6 6 zj7
theorem zcd {σ : Hp} {x : zb} {cs : List Value} (h : zr.R σ x cs) : ∃ v5, cs = [.int .u8 x.Kind.toNat, .int .i64 x.Num, .string x.Name, .string x.Field, .string x.Op, v5] ∧ RdT zr σ v5 x.Kids := zlT zj7 h
theorem zbI {σ : Hp} {x : zb} {cs : List Value} (h : ∃ v5, cs = [.int .u8 x.Kind.toNat, .int .i64 x.Num, .string x.Name, .string x.Field, .string x.Op, v5] ∧ RdT zr σ v5 x.Kids) : zr.R σ x cs := by
 obtain ⟨v5, rfl, h0⟩ := h
 obtain ⟨k0, g0⟩ := zjf zj7 h0
 exact ⟨k0 + 1, v5, rfl, g0 _ (by omega)⟩
structure zh where
 Kind : UInt8
 Line : Int
 Name : ByteArray
 Field : ByteArray
 Call : ByteArray
 Type_ : zD
 Kids : (List zb)
 Body : (List zh)
 Else : (List zh)
def zlA (T : Ty zh) : Ty zh where
 sz := 11
 R := fun σ x cs => ∃ v8 v9 v10, cs = [.int .u8 x.Kind.toNat, .int .i64 x.Line, .string x.Name, .string x.Field, .string x.Call, .int .u8 x.Type_.Kind.toNat, .int .i64 x.Type_.N, .string x.Type_.Name, v8, v9, v10] ∧ RdT zr σ v8 x.Kids ∧ RdT T σ v9 x.Body ∧ RdT T σ v10 x.Else
 len := by rintro σ x cs ⟨v8, v9, v10, rfl, h0, h1, h2⟩; rfl
 one := by rintro σ x cs ⟨v8, v9, v10, rfl, h0, h1, h2⟩; obtain ⟨_, ⟨_, _, rfl, _⟩, _⟩ := h0; obtain ⟨_, ⟨_, _, rfl, _⟩, _⟩ := h1; obtain ⟨_, ⟨_, _, rfl, _⟩, _⟩ := h2; rfl
 mono := by rintro σ σ' x cs hle ⟨v8, v9, v10, rfl, h0, h1, h2⟩; exact ⟨v8, v9, v10, rfl, h0.le hle, h1.le hle, h2.le hle⟩
theorem zib : Lvl zlA 11 := ⟨fun _ => rfl, fun T T' h => ⟨rfl, by rintro σ x cs ⟨v8, v9, v10, rfl, h0, h1, h2⟩; exact ⟨v8, v9, v10, rfl, h0, h.rd h1, h.rd h2⟩⟩⟩
def zv : Ty zh := Ty.fix zlA 11 zib
theorem zem {σ : Hp} {x : zh} {cs : List Value} (h : zv.R σ x cs) : ∃ v8 v9 v10, cs = [.int .u8 x.Kind.toNat, .int .i64 x.Line, .string x.Name, .string x.Field, .string x.Call, .int .u8 x.Type_.Kind.toNat, .int .i64 x.Type_.N, .string x.Type_.Name, v8, v9, v10] ∧ RdT zr σ v8 x.Kids ∧ RdT zv σ v9 x.Body ∧ RdT zv σ v10 x.Else := zlT zib h
theorem zk9 {σ : Hp} {x : zh} {cs : List Value} (h : ∃ v8 v9 v10, cs = [.int .u8 x.Kind.toNat, .int .i64 x.Line, .string x.Name, .string x.Field, .string x.Call, .int .u8 x.Type_.Kind.toNat, .int .i64 x.Type_.N, .string x.Type_.Name, v8, v9, v10] ∧ RdT zr σ v8 x.Kids ∧ RdT zv σ v9 x.Body ∧ RdT zv σ v10 x.Else) : zv.R σ x cs := by
 obtain ⟨v8, v9, v10, rfl, h0, h1, h2⟩ := h
 obtain ⟨k1, g1⟩ := zjf zib h1
 obtain ⟨k2, g2⟩ := zjf zib h2
 exact ⟨k1 + k2 + 1, v8, v9, v10, rfl, h0, g1 _ (by omega), g2 _ (by omega)⟩
structure zo where
 Name : ByteArray
 Line : Int
 Params : (List zbc)
 Result : zD
 Body : (List zh)
def zt : Ty zo where
 sz := 7
 R := fun σ x cs => ∃ v2 v6, cs = [.string x.Name, .int .i64 x.Line, v2, .int .u8 x.Result.Kind.toNat, .int .i64 x.Result.N, .string x.Result.Name, v6] ∧ RdT zcp σ v2 x.Params ∧ RdT zv σ v6 x.Body
 len := by rintro σ x cs ⟨v2, v6, rfl, h0, h1⟩; rfl
 one := by rintro σ x cs ⟨v2, v6, rfl, h0, h1⟩; obtain ⟨_, ⟨_, _, rfl, _⟩, _⟩ := h0; obtain ⟨_, ⟨_, _, rfl, _⟩, _⟩ := h1; rfl
 mono := by rintro σ σ' x cs hle ⟨v2, v6, rfl, h0, h1⟩; exact ⟨v2, v6, rfl, h0.le hle, h1.le hle⟩
structure zO where
 Structs : (List zw)
 Funcs : (List zo)
structure zd where
 cursor : zbd
 prog : zO
structure zj where
 L : (List zp)
 At : Int
 Failed : Bool
 deriving DecidableEq
abbrev zoZ (b : Nat) (x0 : Int) (x1 : Int) (x2 : ByteArray) : Ob := some (b, ⟨[.int .u8 x0, .int .i64 x1, .string x2], 47, 3, true⟩)
abbrev zdo (b : Nat) (x0 : ByteArray) (x1 : Int) (x2 : Value) (x3 : Int) (x4 : Int) (x5 : ByteArray) (x6 : Value) : Ob := some (b, ⟨[.string x0, .int .i64 x1, x2, .int .u8 x3, .int .i64 x4, .string x5, x6], 50, 7, true⟩)
abbrev zbQ (b : Nat) (x0 : Int) (x1 : Int) (x2 : ByteArray) (x3 : ByteArray) (x4 : ByteArray) (x5 : Int) (x6 : Int) (x7 : ByteArray) (x8 : Value) (x9 : Value) (x10 : Value) : Ob := some (b, ⟨[.int .u8 x0, .int .i64 x1, .string x2, .string x3, .string x4, .int .u8 x5, .int .i64 x6, .string x7, x8, x9, x10], 53, 11, true⟩)
abbrev zgj (b : Nat) (x0 : Int) (x1 : Int) (x2 : ByteArray) (x3 : ByteArray) (x4 : ByteArray) (x5 : Value) : Ob := some (b, ⟨[.int .u8 x0, .int .i64 x1, .string x2, .string x3, .string x4, x5], 55, 6, true⟩)
abbrev zx (b : Nat) (x0 : Value) (x1 : Int) (x2 : Value) (x3 : Value) : Ob := some (b, ⟨[x0, .int .i64 x1, x2, x3], 60, 4, true⟩)
abbrev zba (b : Nat) (x0 : Value) (x1 : Int) (x2 : Bool) : Ob := some (b, ⟨[x0, .int .i64 x1, .bool x2], 66, 3, true⟩)
abbrev zfD (b : Nat) (x0 : Int) (x1 : ByteArray) (x2 : Int) (x3 : Int) : Ob := some (b, ⟨[.int .u8 x0, .string x1, .int .i64 x2, .int .i64 x3], 79, 4, true⟩)
def zhv (rec4 : Int → Option Int) (p0 : (List ByteArray)) (p1 : ByteArray) (x10 : Int) : Option Int :=
 (if (decide (x10 < (p0.length : Int))) = true then (zA p0 x10).bind fun y20 => (if (zbl p1 y20) = true then some x10 else rec4 (IntKind.i64.wrap (x10 + 1))) else some (-1))
def zgq (p0 : (List ByteArray)) (p1 : ByteArray) : Nat → Int → Option Int
 | 0, _ => none
 | n + 1, x10 => zhv (zgq p0 p1 n) p0 p1 x10
def zim (p0 : (List ByteArray)) (p1 : ByteArray) : Option Int :=
 zgq p0 p1 big 0
def zgi (p0 : (List ByteArray)) (p1 : ByteArray) : Option Bool :=
 (zim p0 p1).bind fun c3 => some (decide (c3 ≥ 0))
def zhi (q0 : zbd) (p1 : Int) (p2 : (List ByteArray)) : Option Bool :=
 ((if (decide (q0.at_ ≥ (q0.tokens.length : Int))) = true then some true else (zA q0.tokens q0.at_).bind fun y7 => some ((y7.Kind.toNat : Int) != p1))).bind fun c4 => (if c4 = true then some false else ((if ((p2.length : Int) == 0) = true then some true else (zA q0.tokens q0.at_).bind fun y16 => (zgi p2 y16.Text).bind fun c21 => some c21)).bind fun c13 => some c13)
def zqm (q0 : zbd) : Option (Except (Value × zbd) (zp × zbd)) :=
 (zA q0.tokens (IntKind.i64.wrap ((IntKind.i64.wrap (q0.at_ + 1)) - 1))).bind fun y10 => some (.ok (y10, (⟨q0.tokens, (IntKind.i64.wrap (q0.at_ + 1))⟩ : zbd)))
def zn7 (q0 : zbd) (p1 : Int) (p2 : (List ByteArray)) : Option (Except (Value × zbd) (zp × zbd)) :=
 (zhi q0 p1 p2).bind fun c5 => (if (!c5) = true then some (.error ((.iface 92 (.agg #[]) : Value), q0)) else zqm q0)
def zn5 (rec4 : (List zp) → Int → Int → Option (Except (Value × zbd) (zbd))) (p1 : (List ByteArray)) (x33 : List zp) (x35 : Int) (x36 : Int) : Option (Except (Value × zbd) (zbd)) :=
 (if (decide (x36 < (p1.length : Int))) = true then (zA p1 x36).bind fun y67 => zG (zn7 (⟨x33, x35⟩ : zbd) 4 ([y67] : List ByteArray)) (fun x82 => some (.error (x82.1, x82.2))) fun c78 => rec4 c78.2.tokens c78.2.at_ (IntKind.i64.wrap (x36 + 1)) else some (.ok (⟨x33, x35⟩ : zbd)))
def zpn (p1 : (List ByteArray)) : Nat → (List zp) → Int → Int → Option (Except (Value × zbd) (zbd))
 | 0, _, _, _ => none
 | n + 1, x33, x35, x36 => zn5 (zpn p1 n) p1 x33 x35 x36
def zcM (q0 : zd) (p1 : Int) (p2 : (List ByteArray)) : Option Bool :=
 ((if (decide (q0.cursor.at_ ≥ (q0.cursor.tokens.length : Int))) = true then some true else (zA q0.cursor.tokens q0.cursor.at_).bind fun y7 => some ((y7.Kind.toNat : Int) != p1))).bind fun c4 => (if c4 = true then some false else ((if ((p2.length : Int) == 0) = true then some true else (zA q0.cursor.tokens q0.cursor.at_).bind fun y16 => (zgi p2 y16.Text).bind fun c21 => some c21)).bind fun c13 => some c13)
def ziM (q0 : zd) (x13 : List zw) (x18 : List zo) : Option (Except (Value × zd) (zp × zd)) :=
 (zA q0.cursor.tokens (IntKind.i64.wrap ((IntKind.i64.wrap (q0.cursor.at_ + 1)) - 1))).bind fun y20 => some (.ok (y20, (⟨(⟨q0.cursor.tokens, (IntKind.i64.wrap (q0.cursor.at_ + 1))⟩ : zbd), (⟨x13, x18⟩ : zO)⟩ : zd)))
def zc1 (q0 : zd) (p1 : Int) (p2 : (List ByteArray)) : Option (Except (Value × zd) (zp × zd)) :=
 (zcM q0 p1 p2).bind fun c5 => (if (!c5) = true then some (.error ((.iface 92 (.agg #[]) : Value), q0)) else ziM q0 q0.prog.Structs q0.prog.Funcs)
def zcT (q0 : zd) : Option (Except (Value × zd) (ByteArray × zd)) :=
 zG (zc1 q0 1 []) (fun x6 => some (.error (x6.1, x6.2))) fun c2 => some (.ok (c2.1.Text, c2.2))
def zhH (rec4 : (List zp) → Int → (List zw) → (List zo) → Int → Option (Except (Value × zd) (zd))) (p1 : (List ByteArray)) (x63 : List zp) (x65 : Int) (x69 : List zw) (x74 : List zo) (x76 : Int) : Option (Except (Value × zd) (zd)) :=
 (if (decide (x76 < (p1.length : Int))) = true then (zA p1 x76).bind fun y127 => zG (zc1 (⟨(⟨x63, x65⟩ : zbd), (⟨x69, x74⟩ : zO)⟩ : zd) 4 ([y127] : List ByteArray)) (fun x142 => some (.error (x142.1, x142.2))) fun c138 => rec4 c138.2.cursor.tokens c138.2.cursor.at_ c138.2.prog.Structs c138.2.prog.Funcs (IntKind.i64.wrap (x76 + 1)) else some (.ok (⟨(⟨x63, x65⟩ : zbd), (⟨x69, x74⟩ : zO)⟩ : zd)))
def zh7 (p1 : (List ByteArray)) : Nat → (List zp) → Int → (List zw) → (List zo) → Int → Option (Except (Value × zd) (zd))
 | 0, _, _, _, _, _ => none
 | n + 1, x63, x65, x69, x74, x76 => zhH (zh7 p1 n) p1 x63 x65 x69 x74 x76
def zch (q0 : zd) (p1 : (List ByteArray)) : Option (Except (Value × zd) (zd)) :=
 zh7 p1 big q0.cursor.tokens q0.cursor.at_ q0.prog.Structs q0.prog.Funcs 0
def zbJ (q0 : zd) (p1 : Int) (p2 : (List ByteArray)) : Option (Bool × zd) :=
 (zcM q0 p1 p2).bind fun c4 => (if (!c4) = true then some (false, q0) else some (true, (⟨(⟨q0.cursor.tokens, (IntKind.i64.wrap (q0.cursor.at_ + 1))⟩ : zbd), (⟨q0.prog.Structs, q0.prog.Funcs⟩ : zO)⟩ : zd)))
def zh5 (rec4 : (List zp) → Int → (List zw) → (List zo) → (List ByteArray) → Option (Except (Value × zd) (zd))) (c2 : ByteArray × zd) (x302 : List zp) (x304 : Int) (x308 : List zw) (x313 : List zo) (x318 : List ByteArray) : Option (Except (Value × zd) (zd)) :=
 (zbJ (⟨(⟨x302, x304⟩ : zbd), (⟨x308, x313⟩ : zO)⟩ : zd) 4 ([(⟨#[125]⟩ : ByteArray)] : List ByteArray)).bind fun c494 => (if (!c494.1) = true then zG (zcT c494.2) (fun x517 => some (.error (x517.1, x517.2))) fun c513 => (room (x318.length + ([c513.1] : List ByteArray).length)).bind fun _ => zG (zc1 c513.2 3 ([(⟨#[105, 110, 116]⟩ : ByteArray)] : List ByteArray)) (fun x568 => some (.error (x568.1, x568.2))) fun c564 => zG (zch c564.2 ([(⟨#[59]⟩ : ByteArray)] : List ByteArray)) (fun x610 => some (.error (x610.1, x610.2))) fun c606 => rec4 c606.cursor.tokens c606.cursor.at_ c606.prog.Structs c606.prog.Funcs (x318 ++ ([c513.1] : List ByteArray)) else (room (c494.2.prog.Structs.length + ([(⟨c2.1, x318⟩ : zw)] : List zw).length)).bind fun _ => some (.ok (⟨(⟨c494.2.cursor.tokens, c494.2.cursor.at_⟩ : zbd), (⟨(c494.2.prog.Structs ++ ([(⟨c2.1, x318⟩ : zw)] : List zw)), c494.2.prog.Funcs⟩ : zO)⟩ : zd)))
def zge (c2 : ByteArray × zd) : Nat → (List zp) → Int → (List zw) → (List zo) → (List ByteArray) → Option (Except (Value × zd) (zd))
 | 0, _, _, _, _, _ => none
 | n + 1, x302, x304, x308, x313, x318 => zh5 (zge c2 n) c2 x302 x304 x308 x313 x318
def zgV (q0 : zd) : Option (Except (Value × zd) (zd)) :=
 zG (zcT q0) (fun x6 => some (.error (x6.1, x6.2))) fun c2 => zG (zc1 c2.2 3 ([(⟨#[115, 116, 114, 117, 99, 116]⟩ : ByteArray)] : List ByteArray)) (fun x49 => some (.error (x49.1, x49.2))) fun c45 => zG (zch c45.2 ([(⟨#[123]⟩ : ByteArray)] : List ByteArray)) (fun x91 => some (.error (x91.1, x91.2))) fun c87 => zge c2 big c87.cursor.tokens c87.cursor.at_ c87.prog.Structs c87.prog.Funcs ([])
def zfk (q0 : zd) (p1 : Bool) : Option (Except (Value × zd) (zD × zd)) :=
 (zbJ q0 3 ([(⟨#[105, 110, 116]⟩ : ByteArray)] : List ByteArray)).bind fun c10 => (if c10.1 = true then some (.ok ((⟨(1 : UInt8), 0, (⟨#[]⟩ : ByteArray)⟩ : zD), c10.2)) else (zbJ c10.2 3 ([(⟨#[98, 111, 111, 108]⟩ : ByteArray)] : List ByteArray)).bind fun c35 => (if c35.1 = true then some (.ok ((⟨(2 : UInt8), 0, (⟨#[]⟩ : ByteArray)⟩ : zD), c35.2)) else (zbJ c35.2 4 ([(⟨#[91]⟩ : ByteArray)] : List ByteArray)).bind fun c60 => (if c60.1 = true then zG (zc1 c60.2 2 []) (fun x83 => some (.error (x83.1, x83.2))) fun c79 => zG (zch c79.2 ([(⟨#[93]⟩ : ByteArray)] : List ByteArray)) (fun x125 => some (.error (x125.1, x125.2))) fun c121 => zG (zc1 c121 3 ([(⟨#[105, 110, 116]⟩ : ByteArray)] : List ByteArray)) (fun x167 => some (.error (x167.1, x167.2))) fun c163 => some (.ok ((⟨(3 : UInt8), c79.1.Num, (⟨#[]⟩ : ByteArray)⟩ : zD), c163.2)) else ((if p1 = true then some true else (zcM c60.2 1 []).bind fun c202 => some c202)).bind fun c199 => (if c199 = true then zG (zcT c60.2) (fun x211 => some (.error (x211.1, x211.2))) fun c207 => some (.ok ((⟨(4 : UInt8), 0, c207.1⟩ : zD), c207.2)) else some (.ok ((⟨(0 : UInt8), 0, (⟨#[]⟩ : ByteArray)⟩ : zD), c60.2))))))
def zgc (q0 : zd) : Option (Except (Value × zd) (zbc × zd)) :=
 zG (zcT q0) (fun x7 => some (.error (x7.1, x7.2))) fun c3 => zG (zfk c3.2 true) (fun x44 => some (.error (x44.1, x44.2))) fun c40 => some (.ok ((⟨c3.1, (⟨c40.1.Kind, c40.1.N, c40.1.Name⟩ : zD)⟩ : zbc), c40.2))
def zi2  : Option (List (List ByteArray)) :=
 some ([([(⟨#[124, 124]⟩ : ByteArray)] : List ByteArray), ([(⟨#[38, 38]⟩ : ByteArray)] : List ByteArray), ([(⟨#[61, 61]⟩ : ByteArray), (⟨#[33, 61]⟩ : ByteArray), (⟨#[60]⟩ : ByteArray), (⟨#[60, 61]⟩ : ByteArray), (⟨#[62]⟩ : ByteArray), (⟨#[62, 61]⟩ : ByteArray)] : List ByteArray), ([(⟨#[43]⟩ : ByteArray), (⟨#[45]⟩ : ByteArray)] : List ByteArray), ([(⟨#[42]⟩ : ByteArray), (⟨#[47]⟩ : ByteArray), (⟨#[37]⟩ : ByteArray)] : List ByteArray)] : List (List ByteArray))
def zgE (R_syntax_parser_exp : zd → Option (Except (Value × zd) (zb × zd))) (R_syntax_parser_binary : zd → (List (List ByteArray)) → Option (Except (Value × zd) (zb × zd))) (R_syntax_parser_unary : zd → Option (Except (Value × zd) (zb × zd))) (R_syntax_parser_index : zd → Option (Except (Value × zd) (zb × zd))) (q0 : zd) : Option (Except (Value × zd) (zb × zd)) :=
 (zi2 ).bind fun c3 => zG (R_syntax_parser_binary q0 c3) (fun x18 => some (.error (x18.1, x18.2))) fun c14 => some (.ok (c14.1, c14.2))
def zgG (rec4 : (List zp) → Int → (List zw) → (List zo) → UInt8 → Int → ByteArray → ByteArray → ByteArray → (List zb) → Option (Except (Value × zd) (zb × zd))) (R_syntax_parser_binary : zd → (List (List ByteArray)) → Option (Except (Value × zd) (zb × zd))) (p1 : (List (List ByteArray))) (x226 : List zp) (x228 : Int) (x232 : List zw) (x237 : List zo) (x239 : UInt8) (x240 : Int) (x241 : ByteArray) (x242 : ByteArray) (x243 : ByteArray) (x246 : List zb) : Option (Except (Value × zd) (zb × zd)) :=
 (zA p1 0).bind fun y348 => (zcM (⟨(⟨x226, x228⟩ : zbd), (⟨x232, x237⟩ : zO)⟩ : zd) 4 y348).bind fun c357 => (if c357 = true then zG (zc1 (⟨(⟨x226, x228⟩ : zbd), (⟨x232, x237⟩ : zO)⟩ : zd) 4 []) (fun x366 => some (.error (x366.1, x366.2))) fun c362 => (zc0 p1 1 (p1.length : Int)).bind fun y398 => zG (R_syntax_parser_binary c362.2 y398) (fun x407 => some (.error (x407.1, x407.2))) fun c403 => rec4 c403.2.cursor.tokens c403.2.cursor.at_ c403.2.prog.Structs c403.2.prog.Funcs (7 : UInt8) 0 (⟨#[]⟩ : ByteArray) (⟨#[]⟩ : ByteArray) c362.1.Text ([(⟨x239, x240, x241, x242, x243, x246⟩ : zb), (⟨c403.1.Kind, c403.1.Num, c403.1.Name, c403.1.Field, c403.1.Op, c403.1.Kids⟩ : zb)] : List zb) else some (.ok ((⟨x239, x240, x241, x242, x243, x246⟩ : zb), (⟨(⟨x226, x228⟩ : zbd), (⟨x232, x237⟩ : zO)⟩ : zd))))
def zhG (R_syntax_parser_binary : zd → (List (List ByteArray)) → Option (Except (Value × zd) (zb × zd))) (p1 : (List (List ByteArray))) : Nat → (List zp) → Int → (List zw) → (List zo) → UInt8 → Int → ByteArray → ByteArray → ByteArray → (List zb) → Option (Except (Value × zd) (zb × zd))
 | 0, _, _, _, _, _, _, _, _, _, _ => none
 | n + 1, x226, x228, x232, x237, x239, x240, x241, x242, x243, x246 => zgG (zhG R_syntax_parser_binary p1 n) R_syntax_parser_binary p1 x226 x228 x232 x237 x239 x240 x241 x242 x243 x246
def zg9 (R_syntax_parser_exp : zd → Option (Except (Value × zd) (zb × zd))) (R_syntax_parser_binary : zd → (List (List ByteArray)) → Option (Except (Value × zd) (zb × zd))) (R_syntax_parser_unary : zd → Option (Except (Value × zd) (zb × zd))) (R_syntax_parser_index : zd → Option (Except (Value × zd) (zb × zd))) (q0 : zd) (p1 : (List (List ByteArray))) : Option (Except (Value × zd) (zb × zd)) :=
 (if ((p1.length : Int) == 0) = true then zG (R_syntax_parser_unary q0) (fun x9 => some (.error (x9.1, x9.2))) fun c5 => some (.ok (c5.1, c5.2)) else (zc0 p1 1 (p1.length : Int)).bind fun y45 => zG (R_syntax_parser_binary q0 y45) (fun x54 => some (.error (x54.1, x54.2))) fun c50 => zhG R_syntax_parser_binary p1 big c50.2.cursor.tokens c50.2.cursor.at_ c50.2.prog.Structs c50.2.prog.Funcs c50.1.Kind c50.1.Num c50.1.Name c50.1.Field c50.1.Op c50.1.Kids)
def zg2 (R_syntax_parser_exp : zd → Option (Except (Value × zd) (zb × zd))) (R_syntax_parser_binary : zd → (List (List ByteArray)) → Option (Except (Value × zd) (zb × zd))) (R_syntax_parser_unary : zd → Option (Except (Value × zd) (zb × zd))) (R_syntax_parser_index : zd → Option (Except (Value × zd) (zb × zd))) (q0 : zd) : Option (Except (Value × zd) (zb × zd)) :=
 (zcM q0 4 ([(⟨#[45]⟩ : ByteArray), (⟨#[33]⟩ : ByteArray)] : List ByteArray)).bind fun c9 => (if c9 = true then zG (zc1 q0 4 []) (fun x18 => some (.error (x18.1, x18.2))) fun c14 => zG (R_syntax_parser_unary c14.2) (fun x54 => some (.error (x54.1, x54.2))) fun c50 => some (.ok ((⟨(6 : UInt8), 0, (⟨#[]⟩ : ByteArray), (⟨#[]⟩ : ByteArray), c14.1.Text, ([(⟨c50.1.Kind, c50.1.Num, c50.1.Name, c50.1.Field, c50.1.Op, c50.1.Kids⟩ : zb)] : List zb)⟩ : zb), c50.2)) else (zbJ q0 4 ([(⟨#[40]⟩ : ByteArray)] : List ByteArray)).bind fun c102 => (if c102.1 = true then zG (R_syntax_parser_exp c102.2) (fun x125 => some (.error (x125.1, x125.2))) fun c121 => zG (zch c121.2 ([(⟨#[41]⟩ : ByteArray)] : List ByteArray)) (fun x172 => some (.error (x172.1, x172.2))) fun c168 => some (.ok (c121.1, c168)) else (zcM c102.2 2 []).bind fun c204 => (if c204 = true then zG (zc1 c102.2 2 []) (fun x213 => some (.error (x213.1, x213.2))) fun c209 => some (.ok ((⟨(1 : UInt8), c209.1.Num, (⟨#[]⟩ : ByteArray), (⟨#[]⟩ : ByteArray), (⟨#[]⟩ : ByteArray), []⟩ : zb), c209.2)) else (zbJ c102.2 3 ([(⟨#[116, 114, 117, 101]⟩ : ByteArray)] : List ByteArray)).bind fun c251 => (if c251.1 = true then some (.ok ((⟨(2 : UInt8), 1, (⟨#[]⟩ : ByteArray), (⟨#[]⟩ : ByteArray), (⟨#[]⟩ : ByteArray), []⟩ : zb), c251.2)) else (zbJ c251.2 3 ([(⟨#[102, 97, 108, 115, 101]⟩ : ByteArray)] : List ByteArray)).bind fun c276 => (if c276.1 = true then some (.ok ((⟨(2 : UInt8), 0, (⟨#[]⟩ : ByteArray), (⟨#[]⟩ : ByteArray), (⟨#[]⟩ : ByteArray), []⟩ : zb), c276.2)) else zG (zcT c276.2) (fun x299 => some (.error (x299.1, x299.2))) fun c295 => (zcM c295.2 4 ([(⟨#[91]⟩ : ByteArray)] : List ByteArray)).bind fun c337 => (if c337 = true then zG (R_syntax_parser_index c295.2) (fun x346 => some (.error (x346.1, x346.2))) fun c342 => some (.ok ((⟨(4 : UInt8), 0, c295.1, (⟨#[]⟩ : ByteArray), (⟨#[]⟩ : ByteArray), ([(⟨c342.1.Kind, c342.1.Num, c342.1.Name, c342.1.Field, c342.1.Op, c342.1.Kids⟩ : zb)] : List zb)⟩ : zb), c342.2)) else (zbJ c295.2 4 ([(⟨#[46]⟩ : ByteArray)] : List ByteArray)).bind fun c394 => (if c394.1 = true then zG (zcT c394.2) (fun x417 => some (.error (x417.1, x417.2))) fun c413 => some (.ok ((⟨(5 : UInt8), 0, c295.1, c413.1, (⟨#[]⟩ : ByteArray), []⟩ : zb), c413.2)) else some (.ok ((⟨(3 : UInt8), 0, c295.1, (⟨#[]⟩ : ByteArray), (⟨#[]⟩ : ByteArray), []⟩ : zb), c394.2)))))))))
def zh6 (R_syntax_parser_exp : zd → Option (Except (Value × zd) (zb × zd))) (R_syntax_parser_binary : zd → (List (List ByteArray)) → Option (Except (Value × zd) (zb × zd))) (R_syntax_parser_unary : zd → Option (Except (Value × zd) (zb × zd))) (R_syntax_parser_index : zd → Option (Except (Value × zd) (zb × zd))) (q0 : zd) : Option (Except (Value × zd) (zb × zd)) :=
 zG (zch q0 ([(⟨#[91]⟩ : ByteArray)] : List ByteArray)) (fun x13 => some (.error (x13.1, x13.2))) fun c9 => zG (R_syntax_parser_exp c9) (fun x49 => some (.error (x49.1, x49.2))) fun c45 => zG (zch c45.2 ([(⟨#[93]⟩ : ByteArray)] : List ByteArray)) (fun x96 => some (.error (x96.1, x96.2))) fun c92 => some (.ok (c45.1, c92))
def z6 : Nat → (zd → Option (Except (Value × zd) (zb × zd))) × (zd → (List (List ByteArray)) → Option (Except (Value × zd) (zb × zd))) × (zd → Option (Except (Value × zd) (zb × zd))) × (zd → Option (Except (Value × zd) (zb × zd)))
 | 0 => (fun _ => none, fun _ _ => none, fun _ => none, fun _ => none)
 | gn + 1 => (zgE ((z6 gn).1) ((z6 gn).2.1) ((z6 gn).2.2.1) ((z6 gn).2.2.2), zg9 ((z6 gn).1) ((z6 gn).2.1) ((z6 gn).2.2.1) ((z6 gn).2.2.2), zg2 ((z6 gn).1) ((z6 gn).2.1) ((z6 gn).2.2.1) ((z6 gn).2.2.2), zh6 ((z6 gn).1) ((z6 gn).2.1) ((z6 gn).2.2.1) ((z6 gn).2.2.2))
def zdg (q0 : zd) : Option (Except (Value × zd) (zb × zd)) := (z6 big).1 q0
def zkC (q0 : zd) : Option (Except (Value × zd) (zb × zd)) := (z6 big).2.2.2 q0
def zhx (q0 : zd) (q1 : zh) : Option (Except (Value × zd × zh) (zd × zh)) :=
 zG (zcT q0) (fun x7 => some (.error (x7.1, x7.2, q1))) fun c3 => zG (zfk c3.2 true) (fun x43 => some (.error (x43.1, x43.2, (⟨(1 : UInt8), q1.Line, c3.1, q1.Field, q1.Call, (⟨q1.Type_.Kind, q1.Type_.N, q1.Type_.Name⟩ : zD), q1.Kids, q1.Body, q1.Else⟩ : zh)))) fun c39 => (zbJ c39.2 4 ([(⟨#[61]⟩ : ByteArray)] : List ByteArray)).bind fun c81 => (if c81.1 = true then zG (zdg c81.2) (fun x104 => some (.error (x104.1, x104.2, (⟨(1 : UInt8), q1.Line, c3.1, q1.Field, q1.Call, (⟨c39.1.Kind, c39.1.N, c39.1.Name⟩ : zD), q1.Kids, q1.Body, q1.Else⟩ : zh)))) fun c100 => some (.ok (c100.2, (⟨(1 : UInt8), q1.Line, c3.1, q1.Field, q1.Call, (⟨c39.1.Kind, c39.1.N, c39.1.Name⟩ : zD), ([(⟨c100.1.Kind, c100.1.Num, c100.1.Name, c100.1.Field, c100.1.Op, c100.1.Kids⟩ : zb)] : List zb), q1.Body, q1.Else⟩ : zh))) else some (.ok (c81.2, (⟨(1 : UInt8), q1.Line, c3.1, q1.Field, q1.Call, (⟨c39.1.Kind, c39.1.N, c39.1.Name⟩ : zD), q1.Kids, q1.Body, q1.Else⟩ : zh))))
def zeX (q0 : zd) : Option Bool :=
 (zcM q0 1 []).bind fun c3 => ((if c3 = true then (zhi (⟨q0.cursor.tokens, (IntKind.i64.wrap (q0.cursor.at_ + 1))⟩ : zbd) 4 ([(⟨#[40]⟩ : ByteArray)] : List ByteArray)).bind fun c16 => some c16 else some false)).bind fun c7 => some c7
def zhV (rec4 : (List zp) → Int → (List zw) → (List zo) → (List zb) → Option (Except (Value × zd) ((List zb) × zd)))  (x243 : List zp) (x245 : Int) (x249 : List zw) (x254 : List zo) (x259 : List zb) : Option (Except (Value × zd) ((List zb) × zd)) :=
 (zbJ (⟨(⟨x243, x245⟩ : zbd), (⟨x249, x254⟩ : zO)⟩ : zd) 4 ([(⟨#[44]⟩ : ByteArray)] : List ByteArray)).bind fun c380 => (if c380.1 = true then zG (zdg c380.2) (fun x403 => some (.error (x403.1, x403.2))) fun c399 => (room (x259.length + 1)).bind fun _ => rec4 c399.2.cursor.tokens c399.2.cursor.at_ c399.2.prog.Structs c399.2.prog.Funcs (x259 ++ [(⟨c399.1.Kind, c399.1.Num, c399.1.Name, c399.1.Field, c399.1.Op, c399.1.Kids⟩ : zb)]) else zG (zch c380.2 ([(⟨#[41]⟩ : ByteArray)] : List ByteArray)) (fun x454 => some (.error (x454.1, x454.2))) fun c450 => some (.ok (x259, c450)))
def zgg  : Nat → (List zp) → Int → (List zw) → (List zo) → (List zb) → Option (Except (Value × zd) ((List zb) × zd))
 | 0, _, _, _, _, _ => none
 | n + 1, x243, x245, x249, x254, x259 => zhV (zgg  n)  x243 x245 x249 x254 x259
def zgp (q0 : zd) : Option (Except (Value × zd) ((List zb) × zd)) :=
 zG (zch q0 ([(⟨#[40]⟩ : ByteArray)] : List ByteArray)) (fun x12 => some (.error (x12.1, x12.2))) fun c8 => (zbJ c8 4 ([(⟨#[41]⟩ : ByteArray)] : List ByteArray)).bind fun c50 => (if c50.1 = true then some (.ok ([], c50.2)) else zG (zdg c50.2) (fun x73 => some (.error (x73.1, x73.2))) fun c69 => zgg  big c69.2.cursor.tokens c69.2.cursor.at_ c69.2.prog.Structs c69.2.prog.Funcs ([(⟨c69.1.Kind, c69.1.Num, c69.1.Name, c69.1.Field, c69.1.Op, c69.1.Kids⟩ : zb)] : List zb))
def zhA (q0 : zd) (q1 : zh) : Option (Except (Value × zd × zh) (zd × zh)) :=
 (zbJ q0 3 ([(⟨#[105, 110, 112, 117, 116]⟩ : ByteArray)] : List ByteArray)).bind fun c9 => (if c9.1 = true then zG (zch c9.2 ([(⟨#[40]⟩ : ByteArray), (⟨#[41]⟩ : ByteArray)] : List ByteArray)) (fun x38 => some (.error (x38.1, x38.2, q1))) fun c34 => some (.ok (c34, (⟨(9 : UInt8), q1.Line, q1.Name, q1.Field, q1.Call, (⟨q1.Type_.Kind, q1.Type_.N, q1.Type_.Name⟩ : zD), q1.Kids, q1.Body, q1.Else⟩ : zh))) else (zeX c9.2).bind fun c70 => (if c70 = true then zG (zcT c9.2) (fun x79 => some (.error (x79.1, x79.2, q1))) fun c75 => zG (zgp c75.2) (fun x115 => some (.error (x115.1, x115.2, (⟨(5 : UInt8), q1.Line, q1.Name, q1.Field, c75.1, (⟨q1.Type_.Kind, q1.Type_.N, q1.Type_.Name⟩ : zD), q1.Kids, q1.Body, q1.Else⟩ : zh)))) fun c111 => some (.ok (c111.2, (⟨(5 : UInt8), q1.Line, q1.Name, q1.Field, c75.1, (⟨q1.Type_.Kind, q1.Type_.N, q1.Type_.Name⟩ : zD), c111.1, q1.Body, q1.Else⟩ : zh))) else zG (zdg c9.2) (fun x158 => some (.error (x158.1, x158.2, q1))) fun c154 => some (.ok (c154.2, (⟨(2 : UInt8), q1.Line, q1.Name, q1.Field, q1.Call, (⟨q1.Type_.Kind, q1.Type_.N, q1.Type_.Name⟩ : zD), ([(⟨c154.1.Kind, c154.1.Num, c154.1.Name, c154.1.Field, c154.1.Op, c154.1.Kids⟩ : zb)] : List zb), q1.Body, q1.Else⟩ : zh)))))
def zgJ (q0 : zd) (q1 : zh) : Option (Except (Value × zd × zh) (zd × zh)) :=
 (zeX q0).bind fun c3 => (if c3 = true then zG (zcT q0) (fun x12 => some (.error (x12.1, x12.2, q1))) fun c8 => zG (zgp c8.2) (fun x48 => some (.error (x48.1, x48.2, (⟨(5 : UInt8), q1.Line, q1.Name, q1.Field, c8.1, (⟨q1.Type_.Kind, q1.Type_.N, q1.Type_.Name⟩ : zD), q1.Kids, q1.Body, q1.Else⟩ : zh)))) fun c44 => some (.ok (c44.2, (⟨(5 : UInt8), q1.Line, q1.Name, q1.Field, c8.1, (⟨q1.Type_.Kind, q1.Type_.N, q1.Type_.Name⟩ : zD), c44.1, q1.Body, q1.Else⟩ : zh))) else zG (zcT q0) (fun x91 => some (.error (x91.1, x91.2, q1))) fun c87 => (zcM c87.2 4 ([(⟨#[91]⟩ : ByteArray)] : List ByteArray)).bind fun c129 => (if c129 = true then zG (zkC c87.2) (fun x138 => some (.error (x138.1, x138.2, (⟨q1.Kind, q1.Line, c87.1, q1.Field, q1.Call, (⟨q1.Type_.Kind, q1.Type_.N, q1.Type_.Name⟩ : zD), q1.Kids, q1.Body, q1.Else⟩ : zh)))) fun c134 => zG (zch c134.2 ([(⟨#[61]⟩ : ByteArray)] : List ByteArray)) (fun x188 => some (.error (x188.1, x188.2, (⟨(3 : UInt8), q1.Line, c87.1, q1.Field, q1.Call, (⟨q1.Type_.Kind, q1.Type_.N, q1.Type_.Name⟩ : zD), ([(⟨c134.1.Kind, c134.1.Num, c134.1.Name, c134.1.Field, c134.1.Op, c134.1.Kids⟩ : zb)] : List zb), q1.Body, q1.Else⟩ : zh)))) fun c184 => zG (zdg c184) (fun x226 => some (.error (x226.1, x226.2, (⟨(3 : UInt8), q1.Line, c87.1, q1.Field, q1.Call, (⟨q1.Type_.Kind, q1.Type_.N, q1.Type_.Name⟩ : zD), ([(⟨c134.1.Kind, c134.1.Num, c134.1.Name, c134.1.Field, c134.1.Op, c134.1.Kids⟩ : zb)] : List zb), q1.Body, q1.Else⟩ : zh)))) fun c222 => (room (([(⟨c134.1.Kind, c134.1.Num, c134.1.Name, c134.1.Field, c134.1.Op, c134.1.Kids⟩ : zb)] : List zb).length + ([(⟨(0 : UInt8), 0, (⟨#[]⟩ : ByteArray), (⟨#[]⟩ : ByteArray), (⟨#[]⟩ : ByteArray), []⟩ : zb)] : List zb).length)).bind fun _ => (zA (([(⟨c134.1.Kind, c134.1.Num, c134.1.Name, c134.1.Field, c134.1.Op, c134.1.Kids⟩ : zb)] : List zb) ++ ([(⟨(0 : UInt8), 0, (⟨#[]⟩ : ByteArray), (⟨#[]⟩ : ByteArray), (⟨#[]⟩ : ByteArray), []⟩ : zb)] : List zb)) (([(⟨c134.1.Kind, c134.1.Num, c134.1.Name, c134.1.Field, c134.1.Op, c134.1.Kids⟩ : zb)] : List zb).length : Int)).bind fun y275 => some (.ok (c222.2, (⟨(3 : UInt8), q1.Line, c87.1, q1.Field, q1.Call, (⟨q1.Type_.Kind, q1.Type_.N, q1.Type_.Name⟩ : zD), ((([(⟨c134.1.Kind, c134.1.Num, c134.1.Name, c134.1.Field, c134.1.Op, c134.1.Kids⟩ : zb)] : List zb) ++ ([(⟨(0 : UInt8), 0, (⟨#[]⟩ : ByteArray), (⟨#[]⟩ : ByteArray), (⟨#[]⟩ : ByteArray), []⟩ : zb)] : List zb)).set (Int.toNat (([(⟨c134.1.Kind, c134.1.Num, c134.1.Name, c134.1.Field, c134.1.Op, c134.1.Kids⟩ : zb)] : List zb).length : Int)) (⟨c222.1.Kind, c222.1.Num, c222.1.Name, c222.1.Field, c222.1.Op, c222.1.Kids⟩ : zb)), q1.Body, q1.Else⟩ : zh))) else (zbJ c87.2 4 ([(⟨#[46]⟩ : ByteArray)] : List ByteArray)).bind fun c297 => (if c297.1 = true then zG (zcT c297.2) (fun x320 => some (.error (x320.1, x320.2, (⟨q1.Kind, q1.Line, c87.1, q1.Field, q1.Call, (⟨q1.Type_.Kind, q1.Type_.N, q1.Type_.Name⟩ : zD), q1.Kids, q1.Body, q1.Else⟩ : zh)))) fun c316 => zG (zch c316.2 ([(⟨#[61]⟩ : ByteArray)] : List ByteArray)) (fun x362 => some (.error (x362.1, x362.2, (⟨(4 : UInt8), q1.Line, c87.1, c316.1, q1.Call, (⟨q1.Type_.Kind, q1.Type_.N, q1.Type_.Name⟩ : zD), q1.Kids, q1.Body, q1.Else⟩ : zh)))) fun c358 => zG (zdg c358) (fun x398 => some (.error (x398.1, x398.2, (⟨(4 : UInt8), q1.Line, c87.1, c316.1, q1.Call, (⟨q1.Type_.Kind, q1.Type_.N, q1.Type_.Name⟩ : zD), q1.Kids, q1.Body, q1.Else⟩ : zh)))) fun c394 => some (.ok (c394.2, (⟨(4 : UInt8), q1.Line, c87.1, c316.1, q1.Call, (⟨q1.Type_.Kind, q1.Type_.N, q1.Type_.Name⟩ : zD), ([(⟨c394.1.Kind, c394.1.Num, c394.1.Name, c394.1.Field, c394.1.Op, c394.1.Kids⟩ : zb)] : List zb), q1.Body, q1.Else⟩ : zh))) else zG (zch c297.2 ([(⟨#[61]⟩ : ByteArray)] : List ByteArray)) (fun x450 => some (.error (x450.1, x450.2, (⟨q1.Kind, q1.Line, c87.1, q1.Field, q1.Call, (⟨q1.Type_.Kind, q1.Type_.N, q1.Type_.Name⟩ : zD), q1.Kids, q1.Body, q1.Else⟩ : zh)))) fun c446 => zG (zhA c446 (⟨q1.Kind, q1.Line, c87.1, q1.Field, q1.Call, (⟨q1.Type_.Kind, q1.Type_.N, q1.Type_.Name⟩ : zD), q1.Kids, q1.Body, q1.Else⟩ : zh)) (fun x486 => some (.error (x486.1, x486.2.1, x486.2.2))) fun c482 => some (.ok (c482.1, c482.2)))))
def zd8 (x412 : List zp) (x414 : Int) (x418 : List zw) (x423 : List zo) (x425 : UInt8) (x426 : Int) (x427 : ByteArray) (x428 : ByteArray) (x429 : ByteArray) (x430 : UInt8) (x431 : Int) (x432 : ByteArray) (x435 : List zb) (x439 : List zh) (x443 : List zh) : Option (Except (Value × zd × zh) (zd × zh)) :=
 zG (zch (⟨(⟨x412, x414⟩ : zbd), (⟨x418, x423⟩ : zO)⟩ : zd) ([(⟨#[59]⟩ : ByteArray)] : List ByteArray)) (fun x455 => some (.error (x455.1, x455.2, (⟨x425, x426, x427, x428, x429, (⟨x430, x431, x432⟩ : zD), x435, x439, x443⟩ : zh)))) fun c451 => some (.ok (c451, (⟨x425, x426, x427, x428, x429, (⟨x430, x431, x432⟩ : zD), x435, x439, x443⟩ : zh)))
def zh3 (q0 : zd) (q1 : zh) : Option (Except (Value × zd × zh) (zd × zh)) :=
 (zbJ q0 3 ([(⟨#[118, 97, 114]⟩ : ByteArray)] : List ByteArray)).bind fun c493 => (if c493.1 = true then zG (zhx c493.2 q1) (fun x516 => some (.error (x516.1, x516.2.1, x516.2.2))) fun c512 => zd8 c512.1.cursor.tokens c512.1.cursor.at_ c512.1.prog.Structs c512.1.prog.Funcs c512.2.Kind c512.2.Line c512.2.Name c512.2.Field c512.2.Call c512.2.Type_.Kind c512.2.Type_.N c512.2.Type_.Name c512.2.Kids c512.2.Body c512.2.Else else (zbJ c493.2 3 ([(⟨#[112, 114, 105, 110, 116]⟩ : ByteArray)] : List ByteArray)).bind fun c578 => (if c578.1 = true then zG (zch c578.2 ([(⟨#[40]⟩ : ByteArray)] : List ByteArray)) (fun x607 => some (.error (x607.1, x607.2, q1))) fun c603 => zG (zdg c603) (fun x643 => some (.error (x643.1, x643.2, q1))) fun c639 => zG (zch c639.2 ([(⟨#[41]⟩ : ByteArray)] : List ByteArray)) (fun x693 => some (.error (x693.1, x693.2, (⟨(8 : UInt8), q1.Line, q1.Name, q1.Field, q1.Call, (⟨q1.Type_.Kind, q1.Type_.N, q1.Type_.Name⟩ : zD), ([(⟨c639.1.Kind, c639.1.Num, c639.1.Name, c639.1.Field, c639.1.Op, c639.1.Kids⟩ : zb)] : List zb), q1.Body, q1.Else⟩ : zh)))) fun c689 => zd8 c689.cursor.tokens c689.cursor.at_ c689.prog.Structs c689.prog.Funcs (8 : UInt8) q1.Line q1.Name q1.Field q1.Call q1.Type_.Kind q1.Type_.N q1.Type_.Name ([(⟨c639.1.Kind, c639.1.Num, c639.1.Name, c639.1.Field, c639.1.Op, c639.1.Kids⟩ : zb)] : List zb) q1.Body q1.Else else (zbJ c578.2 3 ([(⟨#[114, 101, 116, 117, 114, 110]⟩ : ByteArray)] : List ByteArray)).bind fun c735 => (if c735.1 = true then (zcM c735.2 4 ([(⟨#[59]⟩ : ByteArray)] : List ByteArray)).bind fun c760 => (if (!c760) = true then zG (zdg c735.2) (fun x769 => some (.error (x769.1, x769.2, (⟨(10 : UInt8), q1.Line, q1.Name, q1.Field, q1.Call, (⟨q1.Type_.Kind, q1.Type_.N, q1.Type_.Name⟩ : zD), q1.Kids, q1.Body, q1.Else⟩ : zh)))) fun c765 => zd8 c765.2.cursor.tokens c765.2.cursor.at_ c765.2.prog.Structs c765.2.prog.Funcs (10 : UInt8) q1.Line q1.Name q1.Field q1.Call q1.Type_.Kind q1.Type_.N q1.Type_.Name ([(⟨c765.1.Kind, c765.1.Num, c765.1.Name, c765.1.Field, c765.1.Op, c765.1.Kids⟩ : zb)] : List zb) q1.Body q1.Else else zd8 c735.2.cursor.tokens c735.2.cursor.at_ c735.2.prog.Structs c735.2.prog.Funcs (10 : UInt8) q1.Line q1.Name q1.Field q1.Call q1.Type_.Kind q1.Type_.N q1.Type_.Name q1.Kids q1.Body q1.Else) else zG (zgJ c735.2 q1) (fun x815 => some (.error (x815.1, x815.2.1, x815.2.2))) fun c811 => zd8 c811.1.cursor.tokens c811.1.cursor.at_ c811.1.prog.Structs c811.1.prog.Funcs c811.2.Kind c811.2.Line c811.2.Name c811.2.Field c811.2.Call c811.2.Type_.Kind c811.2.Type_.N c811.2.Type_.Name c811.2.Kids c811.2.Body c811.2.Else)))
def zgH (rec4 : (List zp) → Int → (List zw) → (List zo) → (List zh) → Option (Except (Value × zd) ((List zh) × zd))) (R_syntax_parser_stmt : zd → Option (Except (Value × zd) (zh × zd))) (x136 : List zp) (x138 : Int) (x142 : List zw) (x147 : List zo) (x152 : List zh) : Option (Except (Value × zd) ((List zh) × zd)) :=
 (zbJ (⟨(⟨x136, x138⟩ : zbd), (⟨x142, x147⟩ : zO)⟩ : zd) 4 ([(⟨#[125]⟩ : ByteArray)] : List ByteArray)).bind fun c239 => (if (!c239.1) = true then zG (R_syntax_parser_stmt c239.2) (fun x262 => some (.error (x262.1, x262.2))) fun c258 => (room (2 * (x152.length + 1))).bind fun _ => rec4 c258.2.cursor.tokens c258.2.cursor.at_ c258.2.prog.Structs c258.2.prog.Funcs (x152 ++ [(⟨c258.1.Kind, c258.1.Line, c258.1.Name, c258.1.Field, c258.1.Call, (⟨c258.1.Type_.Kind, c258.1.Type_.N, c258.1.Type_.Name⟩ : zD), c258.1.Kids, c258.1.Body, c258.1.Else⟩ : zh)]) else some (.ok (x152, c239.2)))
def zfU (R_syntax_parser_stmt : zd → Option (Except (Value × zd) (zh × zd))) : Nat → (List zp) → Int → (List zw) → (List zo) → (List zh) → Option (Except (Value × zd) ((List zh) × zd))
 | 0, _, _, _, _, _ => none
 | n + 1, x136, x138, x142, x147, x152 => zgH (zfU R_syntax_parser_stmt n) R_syntax_parser_stmt x136 x138 x142 x147 x152
def zgA (R_syntax_parser_block : zd → Option (Except (Value × zd) ((List zh) × zd))) (R_syntax_parser_stmt : zd → Option (Except (Value × zd) (zh × zd))) (q0 : zd) : Option (Except (Value × zd) ((List zh) × zd)) :=
 zG (zch q0 ([(⟨#[123]⟩ : ByteArray)] : List ByteArray)) (fun x12 => some (.error (x12.1, x12.2))) fun c8 => zfU R_syntax_parser_stmt big c8.cursor.tokens c8.cursor.at_ c8.prog.Structs c8.prog.Funcs ([])
def zey (q0 : zd) : Option Int :=
 (if (decide (q0.cursor.at_ < (q0.cursor.tokens.length : Int))) = true then (zA q0.cursor.tokens q0.cursor.at_).bind fun y3 => some y3.Line else some 0)
def zfH (x451 : List zp) (x453 : Int) (x457 : List zw) (x462 : List zo) (x464 : UInt8) (x465 : Int) (x466 : ByteArray) (x467 : ByteArray) (x468 : ByteArray) (x469 : UInt8) (x470 : Int) (x471 : ByteArray) (x474 : List zb) (x478 : List zh) (x482 : List zh) : Option (Except (Value × zd) (zh × zd)) :=
 some (.ok ((⟨x464, x465, x466, x467, x468, (⟨x469, x470, x471⟩ : zD), x474, x478, x482⟩ : zh), (⟨(⟨x451, x453⟩ : zbd), (⟨x457, x462⟩ : zO)⟩ : zd)))
def zhM (R_syntax_parser_block : zd → Option (Except (Value × zd) ((List zh) × zd))) (R_syntax_parser_stmt : zd → Option (Except (Value × zd) (zh × zd))) (q0 : zd) : Option (Except (Value × zd) (zh × zd)) :=
 (zey q0).bind fun c3 => (zbJ q0 3 ([(⟨#[105, 102]⟩ : ByteArray)] : List ByteArray)).bind fun c490 => (if c490.1 = true then zG (zdg c490.2) (fun x513 => some (.error (x513.1, x513.2))) fun c509 => zG (R_syntax_parser_block c509.2) (fun x557 => some (.error (x557.1, x557.2))) fun c553 => (zbJ c553.2 3 ([(⟨#[101, 108, 115, 101]⟩ : ByteArray)] : List ByteArray)).bind fun c600 => (if c600.1 = true then zG (R_syntax_parser_block c600.2) (fun x623 => some (.error (x623.1, x623.2))) fun c619 => zfH c619.2.cursor.tokens c619.2.cursor.at_ c619.2.prog.Structs c619.2.prog.Funcs (6 : UInt8) c3 (⟨#[]⟩ : ByteArray) (⟨#[]⟩ : ByteArray) (⟨#[]⟩ : ByteArray) (0 : UInt8) 0 (⟨#[]⟩ : ByteArray) ([(⟨c509.1.Kind, c509.1.Num, c509.1.Name, c509.1.Field, c509.1.Op, c509.1.Kids⟩ : zb)] : List zb) c553.1 c619.1 else zfH c600.2.cursor.tokens c600.2.cursor.at_ c600.2.prog.Structs c600.2.prog.Funcs (6 : UInt8) c3 (⟨#[]⟩ : ByteArray) (⟨#[]⟩ : ByteArray) (⟨#[]⟩ : ByteArray) (0 : UInt8) 0 (⟨#[]⟩ : ByteArray) ([(⟨c509.1.Kind, c509.1.Num, c509.1.Name, c509.1.Field, c509.1.Op, c509.1.Kids⟩ : zb)] : List zb) c553.1 ([])) else (zbJ c490.2 3 ([(⟨#[102, 111, 114]⟩ : ByteArray)] : List ByteArray)).bind fun c676 => (if c676.1 = true then zG (zdg c676.2) (fun x699 => some (.error (x699.1, x699.2))) fun c695 => zG (R_syntax_parser_block c695.2) (fun x743 => some (.error (x743.1, x743.2))) fun c739 => zfH c739.2.cursor.tokens c739.2.cursor.at_ c739.2.prog.Structs c739.2.prog.Funcs (7 : UInt8) c3 (⟨#[]⟩ : ByteArray) (⟨#[]⟩ : ByteArray) (⟨#[]⟩ : ByteArray) (0 : UInt8) 0 (⟨#[]⟩ : ByteArray) ([(⟨c695.1.Kind, c695.1.Num, c695.1.Name, c695.1.Field, c695.1.Op, c695.1.Kids⟩ : zb)] : List zb) c739.1 ([]) else zG (zh3 c676.2 (⟨(0 : UInt8), c3, (⟨#[]⟩ : ByteArray), (⟨#[]⟩ : ByteArray), (⟨#[]⟩ : ByteArray), (⟨(0 : UInt8), 0, (⟨#[]⟩ : ByteArray)⟩ : zD), [], [], []⟩ : zh)) (fun x788 => some (.error (x788.1, x788.2.1))) fun c784 => zfH c784.1.cursor.tokens c784.1.cursor.at_ c784.1.prog.Structs c784.1.prog.Funcs c784.2.Kind c784.2.Line c784.2.Name c784.2.Field c784.2.Call c784.2.Type_.Kind c784.2.Type_.N c784.2.Type_.Name c784.2.Kids c784.2.Body c784.2.Else))
def zcq : Nat → (zd → Option (Except (Value × zd) ((List zh) × zd))) × (zd → Option (Except (Value × zd) (zh × zd)))
 | 0 => (fun _ => none, fun _ => none)
 | gn + 1 => (zgA ((zcq gn).1) ((zcq gn).2), zhM ((zcq gn).1) ((zcq gn).2))
def zjB (q0 : zd) : Option (Except (Value × zd) ((List zh) × zd)) := (zcq big).1 q0
def zfQ (c2 : Int) (c49 : ByteArray × zd) (x573 : List zp) (x575 : Int) (x579 : List zw) (x584 : List zo) (x589 : List zbc) : Option (Except (Value × zd) (zd)) :=
 zG (zfk (⟨(⟨x573, x575⟩ : zbd), (⟨x579, x584⟩ : zO)⟩ : zd) false) (fun x595 => some (.error (x595.1, x595.2))) fun c591 => zG (zjB c591.2) (fun x631 => some (.error (x631.1, x631.2))) fun c627 => (room (c627.2.prog.Funcs.length + ([(⟨c49.1, c2, x589, (⟨c591.1.Kind, c591.1.N, c591.1.Name⟩ : zD), c627.1⟩ : zo)] : List zo).length)).bind fun _ => some (.ok (⟨(⟨c627.2.cursor.tokens, c627.2.cursor.at_⟩ : zbd), (⟨c627.2.prog.Structs, (c627.2.prog.Funcs ++ ([(⟨c49.1, c2, x589, (⟨c591.1.Kind, c591.1.N, c591.1.Name⟩ : zD), c627.1⟩ : zo)] : List zo))⟩ : zO)⟩ : zd))
def zgS (rec10 : (List zp) → Int → (List zw) → (List zo) → (List zbc) → Option (Except (Value × zd) (zd))) (c2 : Int) (c49 : ByteArray × zd) (x860 : List zp) (x862 : Int) (x866 : List zw) (x871 : List zo) (x876 : List zbc) : Option (Except (Value × zd) (zd)) :=
 (zbJ (⟨(⟨x860, x862⟩ : zbd), (⟨x866, x871⟩ : zO)⟩ : zd) 4 ([(⟨#[44]⟩ : ByteArray)] : List ByteArray)).bind fun c997 => (if c997.1 = true then zG (zgc c997.2) (fun x1020 => some (.error (x1020.1, x1020.2))) fun c1016 => (room (x876.length + ([(⟨c1016.1.Name, (⟨c1016.1.Type_.Kind, c1016.1.Type_.N, c1016.1.Type_.Name⟩ : zD)⟩ : zbc)] : List zbc).length)).bind fun _ => rec10 c1016.2.cursor.tokens c1016.2.cursor.at_ c1016.2.prog.Structs c1016.2.prog.Funcs (x876 ++ ([(⟨c1016.1.Name, (⟨c1016.1.Type_.Kind, c1016.1.Type_.N, c1016.1.Type_.Name⟩ : zD)⟩ : zbc)] : List zbc)) else zG (zch c997.2 ([(⟨#[41]⟩ : ByteArray)] : List ByteArray)) (fun x1071 => some (.error (x1071.1, x1071.2))) fun c1067 => zfQ c2 c49 c1067.cursor.tokens c1067.cursor.at_ c1067.prog.Structs c1067.prog.Funcs x876)
def zfW (c2 : Int) (c49 : ByteArray × zd) : Nat → (List zp) → Int → (List zw) → (List zo) → (List zbc) → Option (Except (Value × zd) (zd))
 | 0, _, _, _, _, _ => none
 | n + 1, x860, x862, x866, x871, x876 => zgS (zfW c2 c49 n) c2 c49 x860 x862 x866 x871 x876
def zhu (q0 : zd) : Option (Except (Value × zd) (zd)) :=
 (zey q0).bind fun c2 => zG (zc1 q0 3 ([(⟨#[102, 117, 110, 99]⟩ : ByteArray)] : List ByteArray)) (fun x17 => some (.error (x17.1, x17.2))) fun c13 => zG (zcT c13.2) (fun x53 => some (.error (x53.1, x53.2))) fun c49 => zG (zch c49.2 ([(⟨#[40]⟩ : ByteArray)] : List ByteArray)) (fun x95 => some (.error (x95.1, x95.2))) fun c91 => (zbJ c91 4 ([(⟨#[41]⟩ : ByteArray)] : List ByteArray)).bind fun c133 => (if (!c133.1) = true then zG (zgc c133.2) (fun x688 => some (.error (x688.1, x688.2))) fun c684 => (room (([] : List zbc).length + ([(⟨c684.1.Name, (⟨c684.1.Type_.Kind, c684.1.Type_.N, c684.1.Type_.Name⟩ : zD)⟩ : zbc)] : List zbc).length)).bind fun _ => zfW c2 c49 big c684.2.cursor.tokens c684.2.cursor.at_ c684.2.prog.Structs c684.2.prog.Funcs (([] : List zbc) ++ ([(⟨c684.1.Name, (⟨c684.1.Type_.Kind, c684.1.Type_.N, c684.1.Type_.Name⟩ : zD)⟩ : zbc)] : List zbc)) else zfQ c2 c49 c133.2.cursor.tokens c133.2.cursor.at_ c133.2.prog.Structs c133.2.prog.Funcs ([]))
def ze1 (rec4 : (List zp) → Int → (List zw) → (List zo) → Option (Except (Value × zd × Bool) (zd × Bool))) (qf0 : Bool) (x112 : List zp) (x114 : Int) (x118 : List zw) (x123 : List zo) : Option (Except (Value × zd × Bool) (zd × Bool)) :=
 (if (decide (x114 < (x112.length : Int))) = true then (zbJ (⟨(⟨x112, x114⟩ : zbd), (⟨x118, x123⟩ : zO)⟩ : zd) 3 ([(⟨#[116, 121, 112, 101]⟩ : ByteArray)] : List ByteArray)).bind fun c231 => (if c231.1 = true then zG (zgV c231.2) (fun x254 => some (.error (x254.1, x254.2, qf0))) fun c250 => rec4 c250.cursor.tokens c250.cursor.at_ c250.prog.Structs c250.prog.Funcs else zG (zhu c231.2) (fun x290 => some (.error (x290.1, x290.2, qf0))) fun c286 => rec4 c286.cursor.tokens c286.cursor.at_ c286.prog.Structs c286.prog.Funcs) else some (.ok ((⟨(⟨x112, x114⟩ : zbd), (⟨x118, x123⟩ : zO)⟩ : zd), true)))
def zea (qf0 : Bool) : Nat → (List zp) → Int → (List zw) → (List zo) → Option (Except (Value × zd × Bool) (zd × Bool))
 | 0, _, _, _, _ => none
 | n + 1, x112, x114, x118, x123 => ze1 (zea qf0 n) qf0 x112 x114 x118 x123
def zhm (q0 : zd) (qf0 : Bool) : Option (Except (Value × zd × Bool) (zd × Bool)) :=
 zea qf0 big q0.cursor.tokens q0.cursor.at_ q0.prog.Structs q0.prog.Funcs
def zgU : Value → Bool
 | .iface t (.agg cs) => decide (t = 92) && decide (cs.size = 0)
 | _ => false
def ziO (q0 : zd) : Option (Bool × zd) :=
 match zhm q0 false with
  | none => none
  | some (.ok c) => some (c.2, c.1)
  | some (.error c) => if zgU c.1 = true then some (false, c.2.1) else none
def zgT (rec4 : Int → Int → Option Int) (R_syntax_depth : zb → Option Int) (p0 : zb) (x18 : Int) (x19 : Int) : Option Int :=
 (if (decide (x19 < (p0.Kids.length : Int))) = true then (zA p0.Kids x19).bind fun y37 => (R_syntax_depth y37).bind fun c47 => rec4 (zcU x18 c47) (IntKind.i64.wrap (x19 + 1)) else some (IntKind.i64.wrap (x18 + 1)))
def zfE (R_syntax_depth : zb → Option Int) (p0 : zb) : Nat → Int → Int → Option Int
 | 0, _, _ => none
 | n + 1, x18, x19 => zgT (zfE R_syntax_depth p0 n) R_syntax_depth p0 x18 x19
def zjZ (R_syntax_depth : zb → Option Int) (p0 : zb) : Option Int :=
 zfE R_syntax_depth p0 big 0 0
def zd4 : Nat → (zb → Option Int)
 | 0 => fun _ => none
 | gn + 1 => zjZ (zd4 gn)
def zjc (p0 : zb) : Option Int := (zd4 big) p0
def zgW (p0 : zb) : Option Bool :=
 (zjc p0).bind fun c3 => some (decide (c3 > 40))
def zhF (rec4 : Int → Option Int) (p0 : (List zb)) (x18 : Int) : Option Int :=
 (if (decide (x18 < (p0.length : Int))) = true then (zA p0 x18).bind fun y36 => (zgW y36).bind fun c45 => (if c45 = true then some x18 else rec4 (IntKind.i64.wrap (x18 + 1))) else some (-1))
def ze6 (p0 : (List zb)) : Nat → Int → Option Int
 | 0, _ => none
 | n + 1, x18 => zhF (ze6 p0 n) p0 x18
def ziP (p0 : (List zb)) : Option Int :=
 ze6 p0 big 0
def zhL (p0 : (List zb)) : Option Bool :=
 (ziP p0).bind fun c3 => some (decide (c3 ≥ 0))
def zhr (R_syntax_deep : (List zh) → Int → Option Bool) (p0 : zh) (qf0 : Int) : Option Bool :=
 ((if (qf0 == 0) = true then some true else (zhL p0.Kids).bind fun c6 => some c6)).bind fun c3 => ((if c3 = true then some true else (R_syntax_deep p0.Body (IntKind.i64.wrap (qf0 - 1))).bind fun c13 => some c13)).bind fun c10 => ((if c10 = true then some true else (R_syntax_deep p0.Else (IntKind.i64.wrap (qf0 - 1))).bind fun c20 => some c20)).bind fun c17 => some c17
def zgO (rec4 : Int → Option Int) (R_syntax_deep : (List zh) → Int → Option Bool) (p0 : (List zh)) (q1_0 : Int) (x26 : Int) : Option Int :=
 (if (decide (x26 < (p0.length : Int))) = true then (zA p0 x26).bind fun y52 => (zhr R_syntax_deep y52 q1_0).bind fun c69 => (if c69 = true then some x26 else rec4 (IntKind.i64.wrap (x26 + 1))) else some (-1))
def zfl (R_syntax_deep : (List zh) → Int → Option Bool) (p0 : (List zh)) (q1_0 : Int) : Nat → Int → Option Int
 | 0, _ => none
 | n + 1, x26 => zgO (zfl R_syntax_deep p0 q1_0 n) R_syntax_deep p0 q1_0 x26
def ziY (R_syntax_deep : (List zh) → Int → Option Bool) (p0 : (List zh)) (q1_0 : Int) : Option Int :=
 zfl R_syntax_deep p0 q1_0 big 0
def zhl (R_syntax_deep : (List zh) → Int → Option Bool) (p0 : (List zh)) (q1_0 : Int) : Option Bool :=
 (ziY R_syntax_deep p0 q1_0).bind fun c3 => some (decide (c3 ≥ 0))
def zjN (R_syntax_deep : (List zh) → Int → Option Bool) (p0 : (List zh)) (p1 : Int) : Option Bool :=
 (zhl R_syntax_deep p0 p1).bind fun c6 => some c6
def zc3 : Nat → ((List zh) → Int → Option Bool)
 | 0 => fun _ _ => none
 | gn + 1 => zjN (zc3 gn)
def zkm (p0 : (List zh)) (p1 : Int) : Option Bool := (zc3 big) p0 p1
def ziI (p0 : zo) : Option Bool :=
 (zkm p0.Body 40).bind fun c3 => some c3
def zhp (rec4 : Int → Option Int) (p0 : (List zo)) (x22 : Int) : Option Int :=
 (if (decide (x22 < (p0.length : Int))) = true then (zA p0 x22).bind fun y44 => (ziI y44).bind fun c57 => (if c57 = true then some x22 else rec4 (IntKind.i64.wrap (x22 + 1))) else some (-1))
def zfp (p0 : (List zo)) : Nat → Int → Option Int
 | 0, _ => none
 | n + 1, x22 => zhp (zfp p0 n) p0 x22
def ziR (p0 : (List zo)) : Option Int :=
 zfp p0 big 0
def zfT (p0 : (List zo)) : Option Bool :=
 (ziR p0).bind fun c3 => some (decide (c3 ≥ 0))
def zd9 (p0 : (List zp)) : Option (zO × Int × Int) :=
 (ziO (⟨(⟨p0, 0⟩ : zbd), (⟨([] : List zw), ([] : List zo)⟩ : zO)⟩ : zd)).bind fun c6 => (if (!c6.1) = true then some ((⟨[], []⟩ : zO), c6.2.cursor.at_, 7) else (zfT c6.2.prog.Funcs).bind fun c27 => (if c27 = true then some ((⟨[], []⟩ : zO), 0, 11) else some (c6.2.prog, 0, 0)))
def zhe (rec16 : Int → Option Int) (rec14 : Int → Option Int) (p0 : (List UInt8)) (x120 : Int) : Option Int :=
 ((if (decide (x120 < (p0.length : Int))) = true then (zA p0 x120).bind fun y134 => some ((y134.toNat : Int) != 10) else some false)).bind fun c131 => (if c131 = true then rec16 (IntKind.i64.wrap (x120 + 1)) else rec14 x120)
def zfN (rec14 : Int → Option Int) (p0 : (List UInt8)) : Nat → Int → Option Int
 | 0, _ => none
 | n + 1, x120 => zhe (zfN rec14 p0 n) rec14 p0 x120
def zhs (rec14 : Int → Option Int) (p0 : (List UInt8)) (x48 : Int) : Option Int :=
 (if (decide (x48 < (p0.length : Int))) = true then (zA p0 x48).bind fun y96 => (if (((((y96.toNat : Int) == 32) || ((y96.toNat : Int) == 9)) || ((y96.toNat : Int) == 13)) || ((y96.toNat : Int) == 10)) = true then rec14 (IntKind.i64.wrap (x48 + 1)) else ((if (((y96.toNat : Int) == 47) && (decide ((IntKind.i64.wrap (x48 + 1)) < (p0.length : Int)))) = true then (zA p0 (IntKind.i64.wrap (x48 + 1))).bind fun y105 => some ((y105.toNat : Int) == 47) else some false)).bind fun c102 => (if c102 = true then zfN rec14 p0 big x48 else some x48)) else some x48)
def zdV (p0 : (List UInt8)) : Nat → Int → Option Int
 | 0, _ => none
 | n + 1, x48 => zhs (zdV p0 n) p0 x48
def zfb (p0 : (List UInt8)) (p1 : Int) : Option Int :=
 zdV p0 big p1
def zei (p0 : Int) : Option Bool :=
 ((if ((decide (p0 ≥ 97)) && (decide (p0 ≤ 122))) = true then some true else (if (decide (p0 ≥ 65)) = true then some (decide (p0 ≤ 90)) else some false))).bind fun c2 => some (c2 || (p0 == 95))
def zex (p0 : Int) : Option Bool :=
 some ((decide (p0 ≥ 48)) && (decide (p0 ≤ 57)))
def zh1 (rec4 : Int → Option Bool) (p0 : (List ByteArray)) (p1 : ByteArray) (x10 : Int) : Option Bool :=
 (if (decide (x10 < (p0.length : Int))) = true then (zA p0 x10).bind fun y20 => (if (zbl y20 p1) = true then some true else rec4 (IntKind.i64.wrap (x10 + 1))) else some false)
def zf9 (p0 : (List ByteArray)) (p1 : ByteArray) : Nat → Int → Option Bool
 | 0, _ => none
 | n + 1, x10 => zh1 (zf9 p0 p1 n) p0 p1 x10
def zgw (p0 : (List ByteArray)) (p1 : ByteArray) : Option Bool :=
 zf9 p0 p1 big 0
def zg1  : Option (List ByteArray) :=
 some ([(⟨#[116, 121, 112, 101]⟩ : ByteArray), (⟨#[115, 116, 114, 117, 99, 116]⟩ : ByteArray), (⟨#[102, 117, 110, 99]⟩ : ByteArray), (⟨#[118, 97, 114]⟩ : ByteArray), (⟨#[105, 102]⟩ : ByteArray), (⟨#[101, 108, 115, 101]⟩ : ByteArray), (⟨#[102, 111, 114]⟩ : ByteArray), (⟨#[114, 101, 116, 117, 114, 110]⟩ : ByteArray), (⟨#[112, 114, 105, 110, 116]⟩ : ByteArray), (⟨#[105, 110, 112, 117, 116]⟩ : ByteArray), (⟨#[105, 110, 116]⟩ : ByteArray), (⟨#[98, 111, 111, 108]⟩ : ByteArray), (⟨#[116, 114, 117, 101]⟩ : ByteArray), (⟨#[102, 97, 108, 115, 101]⟩ : ByteArray)] : List ByteArray)
def zgX (rec4 : Int → Int → Option (Int × Bool)) (p0 : ByteArray) (x11 : Int) (x12 : Int) : Option (Int × Bool) :=
 (if (decide (x12 < (p0.size : Int))) = true then (zfd p0 x12).bind fun y24 => (if (decide (x11 > (IntKind.i64.wrap (Int.tdiv (IntKind.i64.wrap (9223372036854775807 - (IntKind.i64.wrap (IntKind.u8.wrap ((y24.toNat : Int) - 48))))) 10)))) = true then some (0, false) else rec4 (IntKind.i64.wrap ((IntKind.i64.wrap (10 * x11)) + (IntKind.i64.wrap (IntKind.u8.wrap ((y24.toNat : Int) - 48))))) (IntKind.i64.wrap (x12 + 1))) else ((if ((p0.size : Int) == 1) = true then some true else (zfd p0 0).bind fun y30 => some ((y30.toNat : Int) != 48))).bind fun c27 => some (x11, c27))
def zf6 (p0 : ByteArray) : Nat → Int → Int → Option (Int × Bool)
 | 0, _, _ => none
 | n + 1, x11, x12 => zgX (zf6 p0 n) p0 x11 x12
def zh0 (p0 : ByteArray) : Option (Int × Bool) :=
 zf6 p0 big 0 0
def zjk  : Option (List ByteArray) :=
 some ([(⟨#[38, 38]⟩ : ByteArray), (⟨#[124, 124]⟩ : ByteArray), (⟨#[61, 61]⟩ : ByteArray), (⟨#[33, 61]⟩ : ByteArray), (⟨#[60, 61]⟩ : ByteArray), (⟨#[62, 61]⟩ : ByteArray), (⟨#[40]⟩ : ByteArray), (⟨#[41]⟩ : ByteArray), (⟨#[123]⟩ : ByteArray), (⟨#[125]⟩ : ByteArray), (⟨#[91]⟩ : ByteArray), (⟨#[93]⟩ : ByteArray), (⟨#[44]⟩ : ByteArray), (⟨#[59]⟩ : ByteArray), (⟨#[46]⟩ : ByteArray), (⟨#[61]⟩ : ByteArray), (⟨#[43]⟩ : ByteArray), (⟨#[45]⟩ : ByteArray), (⟨#[42]⟩ : ByteArray), (⟨#[47]⟩ : ByteArray), (⟨#[37]⟩ : ByteArray), (⟨#[60]⟩ : ByteArray), (⟨#[62]⟩ : ByteArray), (⟨#[33]⟩ : ByteArray)] : List ByteArray)
def zha (rec8 : Int → Option (zp × Bool)) (p0 : (List UInt8)) (p1 : Int) (x58 : Int) : Option (zp × Bool) :=
 ((if (decide (x58 < (p0.length : Int))) = true then (zA p0 x58).bind fun y107 => (zei (y107.toNat : Int)).bind fun c112 => (if c112 = true then some true else (zA p0 x58).bind fun y117 => (zex (y117.toNat : Int)).bind fun c122 => some c122) else some false)).bind fun c104 => (if c104 = true then rec8 (IntKind.i64.wrap (x58 + 1)) else (zc0 p0 p1 x58).bind fun y127 => (zg1 ).bind fun c132 => (zgw c132 (⟨y127.toArray⟩ : ByteArray)).bind fun c143 => (if c143 = true then some ((⟨(3 : UInt8), (⟨y127.toArray⟩ : ByteArray), 0, 0⟩ : zp), true) else some ((⟨(1 : UInt8), (⟨y127.toArray⟩ : ByteArray), 0, 0⟩ : zp), (decide (((⟨y127.toArray⟩ : ByteArray).size : Int) ≤ 24)))))
def zfX (p0 : (List UInt8)) (p1 : Int) : Nat → Int → Option (zp × Bool)
 | 0, _ => none
 | n + 1, x58 => zha (zfX p0 p1 n) p0 p1 x58
def zhE (rec10 : Int → Option (zp × Bool)) (p0 : (List UInt8)) (p1 : Int) (x188 : Int) : Option (zp × Bool) :=
 ((if (decide (x188 < (p0.length : Int))) = true then (zA p0 x188).bind fun y228 => (zex (y228.toNat : Int)).bind fun c233 => some c233 else some false)).bind fun c225 => (if c225 = true then rec10 (IntKind.i64.wrap (x188 + 1)) else (zc0 p0 p1 x188).bind fun y238 => (zh0 (⟨y238.toArray⟩ : ByteArray)).bind fun c243 => ((if c243.2 = true then (if (x188 == (p0.length : Int)) = true then some true else (zA p0 x188).bind fun y251 => (zei (y251.toNat : Int)).bind fun c256 => some (!c256)) else some false)).bind fun c247 => some ((⟨(2 : UInt8), (⟨y238.toArray⟩ : ByteArray), c243.1, 0⟩ : zp), c247))
def zgk (p0 : (List UInt8)) (p1 : Int) : Nat → Int → Option (zp × Bool)
 | 0, _ => none
 | n + 1, x188 => zhE (zgk p0 p1 n) p0 p1 x188
def zh2 (rec12 : (List ByteArray) → Int → Option (zp × Bool)) (p0 : (List UInt8)) (p1 : Int) (x315 : List ByteArray) (x317 : Int) : Option (zp × Bool) :=
 (if (decide (x317 < (x315.length : Int))) = true then (zA x315 x317).bind fun y358 => ((if (decide ((IntKind.i64.wrap (p1 + (y358.size : Int))) ≤ (p0.length : Int))) = true then (zA x315 x317).bind fun y368 => (zc0 p0 p1 (IntKind.i64.wrap (p1 + (y368.size : Int)))).bind fun y375 => (zA x315 x317).bind fun y380 => some (zbl (⟨y375.toArray⟩ : ByteArray) y380) else some false)).bind fun c365 => (if c365 = true then (zA x315 x317).bind fun y388 => some ((⟨(4 : UInt8), y388, 0, 0⟩ : zp), true) else rec12 x315 (IntKind.i64.wrap (x317 + 1))) else some ((⟨(0 : UInt8), (⟨#[]⟩ : ByteArray), 0, 0⟩ : zp), false))
def zfI (p0 : (List UInt8)) (p1 : Int) : Nat → (List ByteArray) → Int → Option (zp × Bool)
 | 0, _, _ => none
 | n + 1, x315, x317 => zh2 (zfI p0 p1 n) p0 p1 x315 x317
def zgd (p0 : (List UInt8)) (p1 : Int) : Option (zp × Bool) :=
 (zA p0 p1).bind fun y4 => (zei (y4.toNat : Int)).bind fun c9 => (if c9 = true then zfX p0 p1 big p1 else (zex (y4.toNat : Int)).bind fun c148 => (if c148 = true then zgk p0 p1 big p1 else (zjk ).bind fun c260 => zfI p0 p1 big c260 0))
def zgN (rec16 : (List zp) → Int → Int → Option ((List zp) × Int × Int)) (rec14 : (List zp) → Int → Int → Int → Option ((List zp) × Int × Int)) (p0 : (List UInt8)) (x87 : Int) (x200 : List zp) (x202 : Int) (x203 : Int) : Option ((List zp) × Int × Int) :=
 (if (decide (x203 < x87)) = true then (zA p0 x203).bind fun y228 => (if ((y228.toNat : Int) == 10) = true then rec16 x200 (IntKind.i64.wrap (x202 + 1)) (IntKind.i64.wrap (x203 + 1)) else rec16 x200 x202 (IntKind.i64.wrap (x203 + 1))) else (zgd p0 x87).bind fun c234 => (if (!c234.2) = true then some ([], x202, 6) else (room (x200.length + 1)).bind fun _ => (zfb p0 (IntKind.i64.wrap (x87 + (c234.1.Text.size : Int)))).bind fun c245 => rec14 (x200 ++ [(⟨c234.1.Kind, c234.1.Text, c234.1.Num, x202⟩ : zp)]) x202 x203 c245))
def zfS (rec14 : (List zp) → Int → Int → Int → Option ((List zp) × Int × Int)) (p0 : (List UInt8)) (x87 : Int) : Nat → (List zp) → Int → Int → Option ((List zp) × Int × Int)
 | 0, _, _, _ => none
 | n + 1, x200, x202, x203 => zgN (zfS rec14 p0 x87 n) rec14 p0 x87 x200 x202 x203
def zgv (rec14 : (List zp) → Int → Int → Int → Option ((List zp) × Int × Int)) (p0 : (List UInt8)) (x83 : List zp) (x85 : Int) (x86 : Int) (x87 : Int) : Option ((List zp) × Int × Int) :=
 (if (decide (x87 < (p0.length : Int))) = true then zfS rec14 p0 x87 big x83 x85 x86 else some (x83, 0, 0))
def zd2 (p0 : (List UInt8)) : Nat → (List zp) → Int → Int → Int → Option ((List zp) × Int × Int)
 | 0, _, _, _, _ => none
 | n + 1, x83, x85, x86, x87 => zgv (zd2 p0 n) p0 x83 x85 x86 x87
def zf3 (p0 : (List UInt8)) : Option ((List zp) × Int × Int) :=
 (if (decide ((p0.length : Int) > 16384)) = true then some ([], 0, 11) else (zfb p0 0).bind fun c3 => zd2 p0 big ([]) 1 0 c3)
def ziZ (p0 : ByteArray) : Option (List zp) :=
 (zf3 (p0.data.toList)).bind fun c6 => some c6.1
def zfP  : Option Bool :=
 (ziZ (⟨#[102, 117, 110, 99, 32, 109, 97, 105, 110, 40, 41, 32, 123, 32, 120, 32, 61, 32, 49, 32, 45, 32, 50, 32, 45, 32, 51, 32, 42, 32, 45, 121, 59, 32, 125]⟩ : ByteArray)).bind fun c1 => (zd9 c1).bind fun c12 => (ziZ (⟨#[102, 117, 110, 99, 32, 109, 97, 105, 110, 40, 41, 32, 123, 32, 120, 32, 61, 32, 102, 40, 49, 41, 32, 43, 32, 50, 59, 32, 125]⟩ : ByteArray)).bind fun c25 => (zd9 c25).bind fun c36 => ((if (((c12.2.2 != 0) || (c12.2.1 != 0)) || ((c12.1.Funcs.length : Int) != 1)) = true then some true else (zA c12.1.Funcs 0).bind fun y52 => some ((y52.Body.length : Int) != 1))).bind fun c49 => ((if c49 = true then some true else (zA c12.1.Funcs 0).bind fun y68 => (zA y68.Body 0).bind fun y81 => some ((y81.Kids.length : Int) != 1))).bind fun c65 => (if c65 = true then some false else (zA c12.1.Funcs 0).bind fun y99 => (zA y99.Body 0).bind fun y112 => (zA y112.Kids 0).bind fun y129 => ((if ((zbl y129.Op (⟨#[45]⟩ : ByteArray)) && ((y129.Kids.length : Int) == 2)) = true then (zA y129.Kids 0).bind fun y142 => some (zbl y142.Op (⟨#[45]⟩ : ByteArray)) else some false)).bind fun c139 => ((if c139 = true then (zA y129.Kids 1).bind fun y154 => some (zbl y154.Op (⟨#[42]⟩ : ByteArray)) else some false)).bind fun c151 => some ((c151 && (c36.2.1 == 11)) && (c36.2.2 == 7)))
def zhB (rec4 : Int → Int → Option Int) (R_ref12_Depth : zb → Option Int) (p0 : zb) (x17 : Int) (x18 : Int) : Option Int :=
 (if (decide (x18 < (p0.Kids.length : Int))) = true then (zA p0.Kids x18).bind fun y35 => (R_ref12_Depth y35).bind fun c44 => rec4 (zcU x17 c44) (IntKind.i64.wrap (x18 + 1)) else some (IntKind.i64.wrap (x17 + 1)))
def zfo (R_ref12_Depth : zb → Option Int) (p0 : zb) : Nat → Int → Int → Option Int
 | 0, _, _ => none
 | n + 1, x17, x18 => zhB (zfo R_ref12_Depth p0 n) R_ref12_Depth p0 x17 x18
def zkQ (R_ref12_Depth : zb → Option Int) (p0 : zb) : Option Int :=
 zfo R_ref12_Depth p0 big 0 0
def zdP : Nat → (zb → Option Int)
 | 0 => fun _ => none
 | gn + 1 => zkQ (zdP gn)
def zjK (p0 : zb) : Option Int := (zdP big) p0
def zhZ (rec16 : Int → Option Int) (rec14 : Int → Int → Option Int) (p0 : (List zh)) (x194 : Int) (x195 : Int) (c424 : Int) (c428 : Int) (x481 : Int) : Option Int :=
 (zA p0 x195).bind fun y532 => (if (decide (x481 < (y532.Kids.length : Int))) = true then (zA p0 x195).bind fun y550 => (zA y550.Kids x481).bind fun y567 => (zjK y567).bind fun c576 => (if (decide (c576 > 40)) = true then some 41 else rec16 (IntKind.i64.wrap (x481 + 1))) else rec14 (zcU (zcU x194 (IntKind.i64.wrap (1 + c424))) (IntKind.i64.wrap (1 + c428))) (IntKind.i64.wrap (x195 + 1)))
def zeZ (rec14 : Int → Int → Option Int) (p0 : (List zh)) (x194 : Int) (x195 : Int) (c424 : Int) (c428 : Int) : Nat → Int → Option Int
 | 0, _ => none
 | n + 1, x481 => zhZ (zeZ rec14 p0 x194 x195 c424 c428 n) rec14 p0 x194 x195 c424 c428 x481
def zho (rec14 : Int → Int → Option Int) (R_ref12_deepest : (List zh) → Option Int) (p0 : (List zh)) (x194 : Int) (x195 : Int) : Option Int :=
 (if (decide (x195 < (p0.length : Int))) = true then (zA p0 x195).bind fun y390 => (zA p0 x195).bind fun y407 => (R_ref12_deepest y390.Body).bind fun c424 => (R_ref12_deepest y407.Else).bind fun c428 => zeZ rec14 p0 x194 x195 c424 c428 big 0 else some x194)
def zdt (R_ref12_deepest : (List zh) → Option Int) (p0 : (List zh)) : Nat → Int → Int → Option Int
 | 0, _, _ => none
 | n + 1, x194, x195 => zho (zdt R_ref12_deepest p0 n) R_ref12_deepest p0 x194 x195
def zkl (R_ref12_deepest : (List zh) → Option Int) (p0 : (List zh)) : Option Int :=
 zdt R_ref12_deepest p0 big 0 0
def zdH : Nat → ((List zh) → Option Int)
 | 0 => fun _ => none
 | gn + 1 => zkl (zdH gn)
def zj3 (p0 : (List zh)) : Option Int := (zdH big) p0
def zgC (rec4 : Int → Option Bool) (p0 : zO) (x22 : Int) : Option Bool :=
 (if (decide (x22 < (p0.Funcs.length : Int))) = true then (zA p0.Funcs x22).bind fun y44 => (zj3 y44.Body).bind fun c57 => (if (decide (c57 > 40)) = true then some true else rec4 (IntKind.i64.wrap (x22 + 1))) else some false)
def zf5 (p0 : zO) : Nat → Int → Option Bool
 | 0, _ => none
 | n + 1, x22 => zgC (zf5 p0 n) p0 x22
def ziN (p0 : zO) : Option Bool :=
 zf5 p0 big 0
def zbg (q0 : zj) (p1 : Int) (p2 : ByteArray) : Option Bool :=
 ((if ((!q0.Failed) && (decide (q0.At < (q0.L.length : Int)))) = true then (zA q0.L q0.At).bind fun y7 => some ((y7.Kind.toNat : Int) == p1) else some false)).bind fun c4 => ((if c4 = true then (if (zbl p2 (⟨#[]⟩ : ByteArray)) = true then some true else (zA q0.L q0.At).bind fun y16 => some (zbl y16.Text p2)) else some false)).bind fun c12 => some c12
def zde (q0 : zj) (p1 : Int) (p2 : ByteArray) : Option (zp × zj) :=
 (zbg q0 p1 p2).bind fun c5 => (if (!c5) = true then some ((⟨(0 : UInt8), (⟨#[]⟩ : ByteArray), 0, 0⟩ : zp), (⟨q0.L, q0.At, true⟩ : zj)) else (zA q0.L (IntKind.i64.wrap ((IntKind.i64.wrap (q0.At + 1)) - 1))).bind fun y10 => some (y10, (⟨q0.L, (IntKind.i64.wrap (q0.At + 1)), q0.Failed⟩ : zj)))
def zcF (q0 : zj) : Option (ByteArray × zj) :=
 (zde q0 1 (⟨#[]⟩ : ByteArray)).bind fun c2 => some (c2.1.Text, c2.2)
def zcY (q0 : zj) (p1 : ByteArray) : Option zj :=
 (zde q0 3 p1).bind fun c3 => some c3.2
def zbt (q0 : zj) (p1 : ByteArray) : Option zj :=
 (zde q0 4 p1).bind fun c3 => some c3.2
def zfx (q0 : zj) : Option Int :=
 (if (decide (q0.At < (q0.L.length : Int))) = true then (zA q0.L q0.At).bind fun y3 => some y3.Line else some 0)
def zdF (q0 : zj) (p1 : Bool) : Option (zD × zj) :=
 (zbg q0 3 (⟨#[105, 110, 116]⟩ : ByteArray)).bind fun c4 => (if c4 = true then some ((⟨(1 : UInt8), 0, (⟨#[]⟩ : ByteArray)⟩ : zD), (⟨q0.L, (IntKind.i64.wrap (q0.At + 1)), q0.Failed⟩ : zj)) else (zbg q0 3 (⟨#[98, 111, 111, 108]⟩ : ByteArray)).bind fun c9 => (if c9 = true then some ((⟨(2 : UInt8), 0, (⟨#[]⟩ : ByteArray)⟩ : zD), (⟨q0.L, (IntKind.i64.wrap (q0.At + 1)), q0.Failed⟩ : zj)) else (zbg q0 4 (⟨#[91]⟩ : ByteArray)).bind fun c14 => (if c14 = true then (zde (⟨q0.L, (IntKind.i64.wrap (q0.At + 1)), q0.Failed⟩ : zj) 2 (⟨#[]⟩ : ByteArray)).bind fun c19 => (zbt c19.2 (⟨#[93]⟩ : ByteArray)).bind fun c27 => (zcY c27 (⟨#[105, 110, 116]⟩ : ByteArray)).bind fun c35 => some ((⟨(3 : UInt8), c19.1.Num, (⟨#[]⟩ : ByteArray)⟩ : zD), c35) else (zbg q0 1 (⟨#[]⟩ : ByteArray)).bind fun c43 => (if c43 = true then (zcF q0).bind fun c48 => some ((⟨(4 : UInt8), 0, c48.1⟩ : zD), c48.2) else (if p1 = true then some ((⟨(0 : UInt8), 0, (⟨#[]⟩ : ByteArray)⟩ : zD), (⟨q0.L, q0.At, true⟩ : zj)) else some ((⟨(0 : UInt8), 0, (⟨#[]⟩ : ByteArray)⟩ : zD), q0))))))
def zfz  : Option (List (List ByteArray)) :=
 some ([([(⟨#[124, 124]⟩ : ByteArray)] : List ByteArray), ([(⟨#[38, 38]⟩ : ByteArray)] : List ByteArray), ([(⟨#[61, 61]⟩ : ByteArray), (⟨#[33, 61]⟩ : ByteArray), (⟨#[60]⟩ : ByteArray), (⟨#[60, 61]⟩ : ByteArray), (⟨#[62]⟩ : ByteArray), (⟨#[62, 61]⟩ : ByteArray)] : List ByteArray), ([(⟨#[43]⟩ : ByteArray), (⟨#[45]⟩ : ByteArray)] : List ByteArray), ([(⟨#[42]⟩ : ByteArray), (⟨#[47]⟩ : ByteArray), (⟨#[37]⟩ : ByteArray)] : List ByteArray)] : List (List ByteArray))
def zfe (rec4 : Int → Option ByteArray) (q0 : zj) (y12 : (List ByteArray)) (x41 : Int) : Option ByteArray :=
 (if (decide (x41 < (y12.length : Int))) = true then (zA y12 x41).bind fun y60 => (zbg q0 4 y60).bind fun c65 => (if c65 = true then (zA y12 x41).bind fun y70 => some y70 else rec4 (IntKind.i64.wrap (x41 + 1))) else some (⟨#[]⟩ : ByteArray))
def zeF (q0 : zj) (y12 : (List ByteArray)) : Nat → Int → Option ByteArray
 | 0, _ => none
 | n + 1, x41 => zfe (zeF q0 y12 n) q0 y12 x41
def zg3 (q0 : zj) (p1 : Int) : Option ByteArray :=
 (zfz ).bind fun c3 => (zA c3 p1).bind fun y12 => zeF q0 y12 big 0
def zfi (rec4 : (List zp) → Int → Bool → UInt8 → Int → ByteArray → ByteArray → ByteArray → (List zb) → Option (zb × zj)) (R_ref12_parser_exp : zj → Int → Option (zb × zj)) (p1 : Int) (x78 : List zp) (x80 : Int) (x81 : Bool) (x82 : UInt8) (x83 : Int) (x84 : ByteArray) (x85 : ByteArray) (x86 : ByteArray) (x89 : List zb) : Option (zb × zj) :=
 (zg3 (⟨x78, x80, x81⟩ : zj) p1).bind fun c114 => (if (zbl c114 (⟨#[]⟩ : ByteArray)) = true then some ((⟨x82, x83, x84, x85, x86, x89⟩ : zb), (⟨x78, x80, x81⟩ : zj)) else (R_ref12_parser_exp (⟨x78, (IntKind.i64.wrap (x80 + 1)), x81⟩ : zj) (IntKind.i64.wrap (p1 + 1))).bind fun c119 => rec4 c119.2.L c119.2.At c119.2.Failed (7 : UInt8) 0 (⟨#[]⟩ : ByteArray) (⟨#[]⟩ : ByteArray) c114 ([(⟨x82, x83, x84, x85, x86, x89⟩ : zb), (⟨c119.1.Kind, c119.1.Num, c119.1.Name, c119.1.Field, c119.1.Op, c119.1.Kids⟩ : zb)] : List zb))
def zeo (R_ref12_parser_exp : zj → Int → Option (zb × zj)) (p1 : Int) : Nat → (List zp) → Int → Bool → UInt8 → Int → ByteArray → ByteArray → ByteArray → (List zb) → Option (zb × zj)
 | 0, _, _, _, _, _, _, _, _, _ => none
 | n + 1, x78, x80, x81, x82, x83, x84, x85, x86, x89 => zfi (zeo R_ref12_parser_exp p1 n) R_ref12_parser_exp p1 x78 x80 x81 x82 x83 x84 x85 x86 x89
def zep (R_ref12_parser_exp : zj → Int → Option (zb × zj)) (R_ref12_parser_primary : zj → Option (zb × zj)) (q0 : zj) (p1 : Int) : Option (zb × zj) :=
 (zfz ).bind fun c4 => (if (decide (p1 ≥ (c4.length : Int))) = true then (R_ref12_parser_primary q0).bind fun c14 => some (c14.1, c14.2) else (R_ref12_parser_exp q0 (IntKind.i64.wrap (p1 + 1))).bind fun c26 => zeo R_ref12_parser_exp p1 big c26.2.L c26.2.At c26.2.Failed c26.1.Kind c26.1.Num c26.1.Name c26.1.Field c26.1.Op c26.1.Kids)
def zgl (R_ref12_parser_exp : zj → Int → Option (zb × zj)) (R_ref12_parser_primary : zj → Option (zb × zj)) (q0 : zj) (x12 : Bool) : Option (zb × zj) :=
 (if x12 = true then (zde q0 4 (⟨#[]⟩ : ByteArray)).bind fun c14 => (R_ref12_parser_primary c14.2).bind fun c22 => some ((⟨(6 : UInt8), 0, (⟨#[]⟩ : ByteArray), (⟨#[]⟩ : ByteArray), c14.1.Text, ([(⟨c22.1.Kind, c22.1.Num, c22.1.Name, c22.1.Field, c22.1.Op, c22.1.Kids⟩ : zb)] : List zb)⟩ : zb), c22.2) else (zbg q0 4 (⟨#[40]⟩ : ByteArray)).bind fun c40 => (if c40 = true then (R_ref12_parser_exp (⟨q0.L, (IntKind.i64.wrap (q0.At + 1)), q0.Failed⟩ : zj) 0).bind fun c45 => (zbt c45.2 (⟨#[41]⟩ : ByteArray)).bind fun c58 => some (c45.1, c58) else (zbg q0 2 (⟨#[]⟩ : ByteArray)).bind fun c66 => (if c66 = true then (zde q0 2 (⟨#[]⟩ : ByteArray)).bind fun c71 => some ((⟨(1 : UInt8), c71.1.Num, (⟨#[]⟩ : ByteArray), (⟨#[]⟩ : ByteArray), (⟨#[]⟩ : ByteArray), []⟩ : zb), c71.2) else (zbg q0 3 (⟨#[116, 114, 117, 101]⟩ : ByteArray)).bind fun c79 => (if c79 = true then some ((⟨(2 : UInt8), 1, (⟨#[]⟩ : ByteArray), (⟨#[]⟩ : ByteArray), (⟨#[]⟩ : ByteArray), []⟩ : zb), (⟨q0.L, (IntKind.i64.wrap (q0.At + 1)), q0.Failed⟩ : zj)) else (zbg q0 3 (⟨#[102, 97, 108, 115, 101]⟩ : ByteArray)).bind fun c84 => (if c84 = true then some ((⟨(2 : UInt8), 0, (⟨#[]⟩ : ByteArray), (⟨#[]⟩ : ByteArray), (⟨#[]⟩ : ByteArray), []⟩ : zb), (⟨q0.L, (IntKind.i64.wrap (q0.At + 1)), q0.Failed⟩ : zj)) else (zcF q0).bind fun c89 => (zbg c89.2 4 (⟨#[91]⟩ : ByteArray)).bind fun c97 => (if c97 = true then (R_ref12_parser_exp (⟨c89.2.L, (IntKind.i64.wrap (c89.2.At + 1)), c89.2.Failed⟩ : zj) 0).bind fun c102 => (zbt c102.2 (⟨#[93]⟩ : ByteArray)).bind fun c115 => some ((⟨(4 : UInt8), 0, c89.1, (⟨#[]⟩ : ByteArray), (⟨#[]⟩ : ByteArray), ([(⟨c102.1.Kind, c102.1.Num, c102.1.Name, c102.1.Field, c102.1.Op, c102.1.Kids⟩ : zb)] : List zb)⟩ : zb), c115) else (zbg c89.2 4 (⟨#[46]⟩ : ByteArray)).bind fun c129 => (if c129 = true then (zcF (⟨c89.2.L, (IntKind.i64.wrap (c89.2.At + 1)), c89.2.Failed⟩ : zj)).bind fun c134 => some ((⟨(5 : UInt8), 0, c89.1, c134.1, (⟨#[]⟩ : ByteArray), []⟩ : zb), c134.2) else some ((⟨(3 : UInt8), 0, c89.1, (⟨#[]⟩ : ByteArray), (⟨#[]⟩ : ByteArray), []⟩ : zb), c89.2))))))))
def zgm (R_ref12_parser_exp : zj → Int → Option (zb × zj)) (R_ref12_parser_primary : zj → Option (zb × zj)) (q0 : zj) : Option (zb × zj) :=
 (zbg q0 4 (⟨#[45]⟩ : ByteArray)).bind fun c3 => (if c3 = true then zgl R_ref12_parser_exp R_ref12_parser_primary q0 c3 else (zbg q0 4 (⟨#[33]⟩ : ByteArray)).bind fun c143 => zgl R_ref12_parser_exp R_ref12_parser_primary q0 c143)
def zbP : Nat → (zj → Int → Option (zb × zj)) × (zj → Option (zb × zj))
 | 0 => (fun _ _ => none, fun _ => none)
 | gn + 1 => (zep ((zbP gn).1) ((zbP gn).2), zgm ((zbP gn).1) ((zbP gn).2))
def zcj (q0 : zj) (p1 : Int) : Option (zb × zj) := (zbP big).1 q0 p1
def zgK (rec4 : (List zp) → Int → Bool → (List zb) → Option ((List zb) × zj))  (x69 : List zp) (x71 : Int) (x72 : Bool) (x76 : List zb) : Option ((List zb) × zj) :=
 (zbg (⟨x69, x71, x72⟩ : zj) 4 (⟨#[44]⟩ : ByteArray)).bind fun c109 => (if c109 = true then (zcj (⟨x69, (IntKind.i64.wrap (x71 + 1)), x72⟩ : zj) 0).bind fun c114 => (room (x76.length + 1)).bind fun _ => rec4 c114.2.L c114.2.At c114.2.Failed (x76 ++ [(⟨c114.1.Kind, c114.1.Num, c114.1.Name, c114.1.Field, c114.1.Op, c114.1.Kids⟩ : zb)]) else (zbt (⟨x69, x71, x72⟩ : zj) (⟨#[41]⟩ : ByteArray)).bind fun c131 => some (x76, c131))
def zfF  : Nat → (List zp) → Int → Bool → (List zb) → Option ((List zb) × zj)
 | 0, _, _, _, _ => none
 | n + 1, x69, x71, x72, x76 => zgK (zfF  n)  x69 x71 x72 x76
def ze0 (q0 : zj) : Option ((List zb) × zj) :=
 (zbt q0 (⟨#[40]⟩ : ByteArray)).bind fun c2 => (zbg c2 4 (⟨#[41]⟩ : ByteArray)).bind fun c10 => (if c10 = true then some ([], (⟨c2.L, (IntKind.i64.wrap (c2.At + 1)), c2.Failed⟩ : zj)) else (zcj c2 0).bind fun c15 => zfF  big c15.2.L c15.2.At c15.2.Failed ([(⟨c15.1.Kind, c15.1.Num, c15.1.Name, c15.1.Field, c15.1.Op, c15.1.Kids⟩ : zb)] : List zb))
def zeD (q0 : zj) (p1 : zh) : Option (zh × zj) :=
 (zbg q0 3 (⟨#[105, 110, 112, 117, 116]⟩ : ByteArray)).bind fun c5 => (if c5 = true then (zbt (⟨q0.L, (IntKind.i64.wrap (q0.At + 1)), q0.Failed⟩ : zj) (⟨#[40]⟩ : ByteArray)).bind fun c10 => (zbt c10 (⟨#[41]⟩ : ByteArray)).bind fun c18 => some ((⟨(9 : UInt8), p1.Line, p1.Name, p1.Field, p1.Call, (⟨p1.Type_.Kind, p1.Type_.N, p1.Type_.Name⟩ : zD), p1.Kids, p1.Body, p1.Else⟩ : zh), c18) else (zbg q0 1 (⟨#[]⟩ : ByteArray)).bind fun c26 => ((if (c26 && (decide ((IntKind.i64.wrap (q0.At + 1)) < (q0.L.length : Int)))) = true then (zA q0.L (IntKind.i64.wrap (q0.At + 1))).bind fun y33 => some ((y33.Kind.toNat : Int) == 4) else some false)).bind fun c30 => ((if c30 = true then (zA q0.L (IntKind.i64.wrap (q0.At + 1))).bind fun y41 => some (zbl y41.Text (⟨#[40]⟩ : ByteArray)) else some false)).bind fun c38 => (if c38 = true then (zcF q0).bind fun c47 => (ze0 c47.2).bind fun c55 => some ((⟨(5 : UInt8), p1.Line, p1.Name, p1.Field, c47.1, (⟨p1.Type_.Kind, p1.Type_.N, p1.Type_.Name⟩ : zD), c55.1, p1.Body, p1.Else⟩ : zh), c55.2) else (zcj q0 0).bind fun c70 => some ((⟨(2 : UInt8), p1.Line, p1.Name, p1.Field, p1.Call, (⟨p1.Type_.Kind, p1.Type_.N, p1.Type_.Name⟩ : zD), ([(⟨c70.1.Kind, c70.1.Num, c70.1.Name, c70.1.Field, c70.1.Op, c70.1.Kids⟩ : zb)] : List zb), p1.Body, p1.Else⟩ : zh), c70.2)))
def zeJ (x168 : List zp) (x170 : Int) (x171 : Bool) (x172 : UInt8) (x173 : Int) (x174 : ByteArray) (x175 : ByteArray) (x176 : ByteArray) (x177 : UInt8) (x178 : Int) (x179 : ByteArray) (x182 : List zb) (x186 : List zh) (x190 : List zh) : Option (zh × zj) :=
 (zbt (⟨x168, x170, x171⟩ : zj) (⟨#[59]⟩ : ByteArray)).bind fun c192 => some ((⟨x172, x173, x174, x175, x176, (⟨x177, x178, x179⟩ : zD), x182, x186, x190⟩ : zh), c192)
def zh8 (q0 : zj) (p1 : zh) : Option (zh × zj) :=
 (zcF q0).bind fun c5 => (zbg c5.2 4 (⟨#[40]⟩ : ByteArray)).bind fun c200 => (if c200 = true then (ze0 c5.2).bind fun c205 => zeJ c205.2.L c205.2.At c205.2.Failed (5 : UInt8) p1.Line (⟨#[]⟩ : ByteArray) p1.Field c5.1 p1.Type_.Kind p1.Type_.N p1.Type_.Name c205.1 p1.Body p1.Else else (zbg c5.2 4 (⟨#[91]⟩ : ByteArray)).bind fun c220 => (if c220 = true then (zcj (⟨c5.2.L, (IntKind.i64.wrap (c5.2.At + 1)), c5.2.Failed⟩ : zj) 0).bind fun c225 => (zbt c225.2 (⟨#[93]⟩ : ByteArray)).bind fun c238 => (zbt c238 (⟨#[61]⟩ : ByteArray)).bind fun c246 => (zcj c246 0).bind fun c254 => zeJ c254.2.L c254.2.At c254.2.Failed (3 : UInt8) p1.Line c5.1 p1.Field p1.Call p1.Type_.Kind p1.Type_.N p1.Type_.Name ([(⟨c225.1.Kind, c225.1.Num, c225.1.Name, c225.1.Field, c225.1.Op, c225.1.Kids⟩ : zb), (⟨c254.1.Kind, c254.1.Num, c254.1.Name, c254.1.Field, c254.1.Op, c254.1.Kids⟩ : zb)] : List zb) p1.Body p1.Else else (zbg c5.2 4 (⟨#[46]⟩ : ByteArray)).bind fun c272 => (if c272 = true then (zcF (⟨c5.2.L, (IntKind.i64.wrap (c5.2.At + 1)), c5.2.Failed⟩ : zj)).bind fun c277 => (zbt c277.2 (⟨#[61]⟩ : ByteArray)).bind fun c285 => (zcj c285 0).bind fun c293 => zeJ c293.2.L c293.2.At c293.2.Failed (4 : UInt8) p1.Line c5.1 c277.1 p1.Call p1.Type_.Kind p1.Type_.N p1.Type_.Name ([(⟨c293.1.Kind, c293.1.Num, c293.1.Name, c293.1.Field, c293.1.Op, c293.1.Kids⟩ : zb)] : List zb) p1.Body p1.Else else (zbt c5.2 (⟨#[61]⟩ : ByteArray)).bind fun c311 => (zeD c311 (⟨p1.Kind, p1.Line, c5.1, p1.Field, p1.Call, (⟨p1.Type_.Kind, p1.Type_.N, p1.Type_.Name⟩ : zD), p1.Kids, p1.Body, p1.Else⟩ : zh)).bind fun c319 => zeJ c319.2.L c319.2.At c319.2.Failed c319.1.Kind c319.1.Line c319.1.Name c319.1.Field c319.1.Call c319.1.Type_.Kind c319.1.Type_.N c319.1.Type_.Name c319.1.Kids c319.1.Body c319.1.Else)))
def zg5 (rec4 : (List zp) → Int → Bool → (List zh) → Option ((List zh) × zj)) (R_ref12_parser_stmt : zj → Option (zh × zj)) (x55 : List zp) (x57 : Int) (x58 : Bool) (x62 : List zh) : Option ((List zh) × zj) :=
 ((if (!x58) = true then (zbg (⟨x55, x57, x58⟩ : zj) 4 (⟨#[125]⟩ : ByteArray)).bind fun c109 => some (!c109) else some false)).bind fun c106 => (if c106 = true then (R_ref12_parser_stmt (⟨x55, x57, x58⟩ : zj)).bind fun c114 => (room (2 * (x62.length + 1))).bind fun _ => rec4 c114.2.L c114.2.At c114.2.Failed (x62 ++ [(⟨c114.1.Kind, c114.1.Line, c114.1.Name, c114.1.Field, c114.1.Call, (⟨c114.1.Type_.Kind, c114.1.Type_.N, c114.1.Type_.Name⟩ : zD), c114.1.Kids, c114.1.Body, c114.1.Else⟩ : zh)]) else (zbt (⟨x55, x57, x58⟩ : zj) (⟨#[125]⟩ : ByteArray)).bind fun c139 => some (x62, c139))
def zfB (R_ref12_parser_stmt : zj → Option (zh × zj)) : Nat → (List zp) → Int → Bool → (List zh) → Option ((List zh) × zj)
 | 0, _, _, _, _ => none
 | n + 1, x55, x57, x58, x62 => zg5 (zfB R_ref12_parser_stmt n) R_ref12_parser_stmt x55 x57 x58 x62
def zhT (R_ref12_parser_block : zj → Option ((List zh) × zj)) (R_ref12_parser_stmt : zj → Option (zh × zj)) (q0 : zj) : Option ((List zh) × zj) :=
 (zbt q0 (⟨#[123]⟩ : ByteArray)).bind fun c2 => zfB R_ref12_parser_stmt big c2.L c2.At c2.Failed ([])
def zdm (c3 : Int) (x261 : List zp) (x263 : Int) (x264 : Bool) (x265 : Int) (x266 : ByteArray) (x267 : UInt8) (x268 : Int) (x269 : ByteArray) (x273 : List zb) (x278 : List zh) (x283 : List zh) : Option (zh × zj) :=
 (u8o x265).bind fun z291 => some ((⟨z291, c3, x266, (⟨#[]⟩ : ByteArray), (⟨#[]⟩ : ByteArray), (⟨x267, x268, x269⟩ : zD), x273, x278, x283⟩ : zh), (⟨x261, x263, x264⟩ : zj))
def zhQ (R_ref12_parser_block : zj → Option ((List zh) × zj)) (R_ref12_parser_stmt : zj → Option (zh × zj)) (q0 : zj) : Option (zh × zj) :=
 (zfx q0).bind fun c3 => (zbg q0 3 (⟨#[118, 97, 114]⟩ : ByteArray)).bind fun c292 => (if c292 = true then (zcF (⟨q0.L, (IntKind.i64.wrap (q0.At + 1)), q0.Failed⟩ : zj)).bind fun c297 => (zdF c297.2 true).bind fun c305 => (zbg c305.2 4 (⟨#[61]⟩ : ByteArray)).bind fun c313 => (if c313 = true then (zcj (⟨c305.2.L, (IntKind.i64.wrap (c305.2.At + 1)), c305.2.Failed⟩ : zj) 0).bind fun c318 => (zbt c318.2 (⟨#[59]⟩ : ByteArray)).bind fun c334 => zdm c3 c334.L c334.At c334.Failed 1 c297.1 c305.1.Kind c305.1.N c305.1.Name ([(⟨c318.1.Kind, c318.1.Num, c318.1.Name, c318.1.Field, c318.1.Op, c318.1.Kids⟩ : zb)] : List zb) ([]) ([]) else (zbt c305.2 (⟨#[59]⟩ : ByteArray)).bind fun c342 => zdm c3 c342.L c342.At c342.Failed 1 c297.1 c305.1.Kind c305.1.N c305.1.Name ([]) ([]) ([])) else (zbg q0 3 (⟨#[105, 102]⟩ : ByteArray)).bind fun c350 => (if c350 = true then (zcj (⟨q0.L, (IntKind.i64.wrap (q0.At + 1)), q0.Failed⟩ : zj) 0).bind fun c355 => (R_ref12_parser_block c355.2).bind fun c371 => (zbg c371.2 3 (⟨#[101, 108, 115, 101]⟩ : ByteArray)).bind fun c384 => (if c384 = true then (R_ref12_parser_block (⟨c371.2.L, (IntKind.i64.wrap (c371.2.At + 1)), c371.2.Failed⟩ : zj)).bind fun c389 => zdm c3 c389.2.L c389.2.At c389.2.Failed 6 (⟨#[]⟩ : ByteArray) (0 : UInt8) 0 (⟨#[]⟩ : ByteArray) ([(⟨c355.1.Kind, c355.1.Num, c355.1.Name, c355.1.Field, c355.1.Op, c355.1.Kids⟩ : zb)] : List zb) c371.1 c389.1 else zdm c3 c371.2.L c371.2.At c371.2.Failed 6 (⟨#[]⟩ : ByteArray) (0 : UInt8) 0 (⟨#[]⟩ : ByteArray) ([(⟨c355.1.Kind, c355.1.Num, c355.1.Name, c355.1.Field, c355.1.Op, c355.1.Kids⟩ : zb)] : List zb) c371.1 ([])) else (zbg q0 3 (⟨#[102, 111, 114]⟩ : ByteArray)).bind fun c402 => (if c402 = true then (zcj (⟨q0.L, (IntKind.i64.wrap (q0.At + 1)), q0.Failed⟩ : zj) 0).bind fun c407 => (R_ref12_parser_block c407.2).bind fun c423 => zdm c3 c423.2.L c423.2.At c423.2.Failed 7 (⟨#[]⟩ : ByteArray) (0 : UInt8) 0 (⟨#[]⟩ : ByteArray) ([(⟨c407.1.Kind, c407.1.Num, c407.1.Name, c407.1.Field, c407.1.Op, c407.1.Kids⟩ : zb)] : List zb) c423.1 ([]) else (zbg q0 3 (⟨#[112, 114, 105, 110, 116]⟩ : ByteArray)).bind fun c436 => (if c436 = true then (zbt (⟨q0.L, (IntKind.i64.wrap (q0.At + 1)), q0.Failed⟩ : zj) (⟨#[40]⟩ : ByteArray)).bind fun c441 => (zcj c441 0).bind fun c449 => (zbt c449.2 (⟨#[41]⟩ : ByteArray)).bind fun c465 => (zbt c465 (⟨#[59]⟩ : ByteArray)).bind fun c473 => zdm c3 c473.L c473.At c473.Failed 8 (⟨#[]⟩ : ByteArray) (0 : UInt8) 0 (⟨#[]⟩ : ByteArray) ([(⟨c449.1.Kind, c449.1.Num, c449.1.Name, c449.1.Field, c449.1.Op, c449.1.Kids⟩ : zb)] : List zb) ([]) ([]) else (zbg q0 3 (⟨#[114, 101, 116, 117, 114, 110]⟩ : ByteArray)).bind fun c481 => (if c481 = true then (zbg (⟨q0.L, (IntKind.i64.wrap (q0.At + 1)), q0.Failed⟩ : zj) 4 (⟨#[59]⟩ : ByteArray)).bind fun c486 => (if (!c486) = true then (zcj (⟨q0.L, (IntKind.i64.wrap (q0.At + 1)), q0.Failed⟩ : zj) 0).bind fun c491 => (zbt c491.2 (⟨#[59]⟩ : ByteArray)).bind fun c507 => zdm c3 c507.L c507.At c507.Failed 10 (⟨#[]⟩ : ByteArray) (0 : UInt8) 0 (⟨#[]⟩ : ByteArray) ([(⟨c491.1.Kind, c491.1.Num, c491.1.Name, c491.1.Field, c491.1.Op, c491.1.Kids⟩ : zb)] : List zb) ([]) ([]) else (zbt (⟨q0.L, (IntKind.i64.wrap (q0.At + 1)), q0.Failed⟩ : zj) (⟨#[59]⟩ : ByteArray)).bind fun c515 => zdm c3 c515.L c515.At c515.Failed 10 (⟨#[]⟩ : ByteArray) (0 : UInt8) 0 (⟨#[]⟩ : ByteArray) ([]) ([]) ([])) else (zh8 q0 (⟨(0 : UInt8), c3, (⟨#[]⟩ : ByteArray), (⟨#[]⟩ : ByteArray), (⟨#[]⟩ : ByteArray), (⟨(0 : UInt8), 0, (⟨#[]⟩ : ByteArray)⟩ : zD), [], [], []⟩ : zh)).bind fun c523 => some (c523.1, c523.2))))))
def zcr : Nat → (zj → Option ((List zh) × zj)) × (zj → Option (zh × zj))
 | 0 => (fun _ => none, fun _ => none)
 | gn + 1 => (zhT ((zcr gn).1) ((zcr gn).2), zhQ ((zcr gn).1) ((zcr gn).2))
def zfh (q0 : zj) : Option ((List zh) × zj) := (zcr big).1 q0
def zeq (rec10 : (List zp) → Int → Bool → (List zbc) → Option (zo × zj)) (x231 : List zp) (x233 : Int) (x234 : Bool) (x238 : List zbc) : Option (zo × zj) :=
 (zcF (⟨x231, x233, x234⟩ : zj)).bind fun c240 => (zdF c240.2 true).bind fun c249 => (room (x238.length + 1)).bind fun _ => rec10 c249.2.L c249.2.At c249.2.Failed (x238 ++ [(⟨c240.1, (⟨c249.1.Kind, c249.1.N, c249.1.Name⟩ : zD)⟩ : zbc)])
def zfq (rec10 : (List zp) → Int → Bool → (List zbc) → Option (zo × zj)) (p1 : Int) (c4 : ByteArray × zj) (x110 : List zp) (x112 : Int) (x113 : Bool) (x117 : List zbc) : Option (zo × zj) :=
 ((if (!x113) = true then (zbg (⟨x110, x112, x113⟩ : zj) 4 (⟨#[41]⟩ : ByteArray)).bind fun c215 => some (!c215) else some false)).bind fun c212 => (if c212 = true then (if (decide ((x117.length : Int) > 0)) = true then (zbt (⟨x110, x112, x113⟩ : zj) (⟨#[44]⟩ : ByteArray)).bind fun c263 => zeq rec10 c263.L c263.At c263.Failed x117 else zeq rec10 x110 x112 x113 x117) else (zbt (⟨x110, x112, x113⟩ : zj) (⟨#[41]⟩ : ByteArray)).bind fun c271 => (zdF c271 false).bind fun c279 => (zfh c279.2).bind fun c287 => some ((⟨c4.1, p1, x117, (⟨c279.1.Kind, c279.1.N, c279.1.Name⟩ : zD), c287.1⟩ : zo), c287.2))
def zc6 (p1 : Int) (c4 : ByteArray × zj) : Nat → (List zp) → Int → Bool → (List zbc) → Option (zo × zj)
 | 0, _, _, _, _ => none
 | n + 1, x110, x112, x113, x117 => zfq (zc6 p1 c4 n) p1 c4 x110 x112 x113 x117
def zez (q0 : zj) (p1 : Int) : Option (zo × zj) :=
 (zcF q0).bind fun c4 => (zbt c4.2 (⟨#[40]⟩ : ByteArray)).bind fun c13 => zc6 p1 c4 big c13.L c13.At c13.Failed ([])
def zhO (rec16 : (List zp) → Int → Bool → (List zw) → (List zo) → (List ByteArray) → Option (zO × Int × Int)) (rec14 : (List zp) → Int → Bool → (List zw) → (List zo) → Option (zO × Int × Int)) (c567 : ByteArray × zj) (x660 : List zp) (x662 : Int) (x663 : Bool) (x667 : List zw) (x672 : List zo) (x677 : List ByteArray) : Option (zO × Int × Int) :=
 ((if (!x663) = true then (zbg (⟨x660, x662, x663⟩ : zj) 4 (⟨#[125]⟩ : ByteArray)).bind fun c739 => some (!c739) else some false)).bind fun c736 => (if c736 = true then (zcF (⟨x660, x662, x663⟩ : zj)).bind fun c744 => (room (x677.length + ([c744.1] : List ByteArray).length)).bind fun _ => (zcY c744.2 (⟨#[105, 110, 116]⟩ : ByteArray)).bind fun c761 => (zbt c761 (⟨#[59]⟩ : ByteArray)).bind fun c769 => rec16 c769.L c769.At c769.Failed x667 x672 (x677 ++ ([c744.1] : List ByteArray)) else (zbt (⟨x660, x662, x663⟩ : zj) (⟨#[125]⟩ : ByteArray)).bind fun c777 => (room (x667.length + 1)).bind fun _ => rec14 c777.L c777.At c777.Failed (x667 ++ [(⟨c567.1, x677⟩ : zw)]) x672)
def zd0 (rec14 : (List zp) → Int → Bool → (List zw) → (List zo) → Option (zO × Int × Int)) (c567 : ByteArray × zj) : Nat → (List zp) → Int → Bool → (List zw) → (List zo) → (List ByteArray) → Option (zO × Int × Int)
 | 0, _, _, _, _, _, _ => none
 | n + 1, x660, x662, x663, x667, x672, x677 => zhO (zd0 rec14 c567 n) rec14 c567 x660 x662 x663 x667 x672 x677
def zfj (rec14 : (List zp) → Int → Bool → (List zw) → (List zo) → Option (zO × Int × Int)) (p0 : (List zp)) (x266 : List zp) (x268 : Int) (x269 : Bool) (x273 : List zw) (x278 : List zo) : Option (zO × Int × Int) :=
 (if ((!x269) && (decide (x268 < (p0.length : Int)))) = true then (zbg (⟨x266, x268, x269⟩ : zj) 3 (⟨#[116, 121, 112, 101]⟩ : ByteArray)).bind fun c562 => (if c562 = true then (zcF (⟨x266, (IntKind.i64.wrap (x268 + 1)), x269⟩ : zj)).bind fun c567 => (zcY c567.2 (⟨#[115, 116, 114, 117, 99, 116]⟩ : ByteArray)).bind fun c576 => (zbt c576 (⟨#[123]⟩ : ByteArray)).bind fun c584 => zd0 rec14 c567 big c584.L c584.At c584.Failed x273 x278 ([]) else (zfx (⟨x266, x268, x269⟩ : zj)).bind fun c792 => (zcY (⟨x266, x268, x269⟩ : zj) (⟨#[102, 117, 110, 99]⟩ : ByteArray)).bind fun c796 => (zez c796 c792).bind fun c804 => (room (x278.length + ([(⟨c804.1.Name, c804.1.Line, c804.1.Params, (⟨c804.1.Result.Kind, c804.1.Result.N, c804.1.Result.Name⟩ : zD), c804.1.Body⟩ : zo)] : List zo).length)).bind fun _ => rec14 c804.2.L c804.2.At c804.2.Failed x273 (x278 ++ ([(⟨c804.1.Name, c804.1.Line, c804.1.Params, (⟨c804.1.Result.Kind, c804.1.Result.N, c804.1.Result.Name⟩ : zD), c804.1.Body⟩ : zo)] : List zo))) else (if x269 = true then some ((⟨[], []⟩ : zO), x268, 7) else (ziN (⟨x273, x278⟩ : zO)).bind fun c836 => (if c836 = true then some ((⟨[], []⟩ : zO), 0, 11) else some ((⟨x273, x278⟩ : zO), 0, 0))))
def zcE (p0 : (List zp)) : Nat → (List zp) → Int → Bool → (List zw) → (List zo) → Option (zO × Int × Int)
 | 0, _, _, _, _, _ => none
 | n + 1, x266, x268, x269, x273, x278 => zfj (zcE p0 n) p0 x266 x268 x269 x273 x278
def zil (p0 : (List zp)) : Option (zO × Int × Int) :=
 zcE p0 big p0 0 false ([]) ([])
def zgR (rec4 : Int → Option Bool) (R_ref12_sameExps : (List zb) → (List zb) → Option Bool) (p0 : (List zb)) (p1 : (List zb)) (x133 : Int) : Option Bool :=
 (if (decide (x133 < (p0.length : Int))) = true then (zA p0 x133).bind fun y265 => (zA p1 x133).bind fun y274 => ((if ((y265.Kind.toNat : Int) != (y274.Kind.toNat : Int)) = true then some true else (zA p0 x133).bind fun y286 => (zA p1 x133).bind fun y295 => some (y286.Num != y295.Num))).bind fun c283 => ((if c283 = true then some true else (zA p0 x133).bind fun y307 => (zA p1 x133).bind fun y316 => some (!(zbl y307.Name y316.Name)))).bind fun c304 => ((if c304 = true then some true else (zA p0 x133).bind fun y328 => (zA p1 x133).bind fun y337 => some (!(zbl y328.Field y337.Field)))).bind fun c325 => ((if c325 = true then some true else (zA p0 x133).bind fun y349 => (zA p1 x133).bind fun y358 => some (!(zbl y349.Op y358.Op)))).bind fun c346 => ((if c346 = true then some true else (zA p0 x133).bind fun y370 => (zA p1 x133).bind fun y379 => (R_ref12_sameExps y370.Kids y379.Kids).bind fun c388 => some (!c388))).bind fun c367 => (if c367 = true then some false else rec4 (IntKind.i64.wrap (x133 + 1))) else some true)
def zgr (R_ref12_sameExps : (List zb) → (List zb) → Option Bool) (p0 : (List zb)) (p1 : (List zb)) : Nat → Int → Option Bool
 | 0, _ => none
 | n + 1, x133 => zgR (zgr R_ref12_sameExps p0 p1 n) R_ref12_sameExps p0 p1 x133
def zgQ (R_ref12_sameExps : (List zb) → (List zb) → Option Bool) (p0 : (List zb)) (p1 : (List zb)) : Option Bool :=
 (if ((p0.length : Int) != (p1.length : Int)) = true then some false else zgr R_ref12_sameExps p0 p1 big 0)
def zeg : Nat → ((List zb) → (List zb) → Option Bool)
 | 0 => fun _ _ => none
 | gn + 1 => zgQ (zeg gn)
def zke (p0 : (List zb)) (p1 : (List zb)) : Option Bool := (zeg big) p0 p1
def zhh (rec4 : Int → Option Bool) (R_ref12_sameStmts : (List zh) → (List zh) → Option Bool) (p0 : (List zh)) (p1 : (List zh)) (x63 : Int) : Option Bool :=
 (if (decide (x63 < (p0.length : Int))) = true then (zA p0 x63).bind fun y125 => (zA p1 x63).bind fun y143 => ((if (((((((y125.Kind.toNat : Int) != (y143.Kind.toNat : Int)) || (y125.Line != y143.Line)) || (!(zbl y125.Name y143.Name))) || (!(zbl y125.Field y143.Field))) || (!(zbl y125.Call y143.Call))) || (!(( (y125.Type_.Kind.toNat : Int) == (y143.Type_.Kind.toNat : Int)) && (( y125.Type_.N == y143.Type_.N) && ((zbl y125.Type_.Name y143.Type_.Name) && true))))) = true then some true else (zke y125.Kids y143.Kids).bind fun c164 => some (!c164))).bind fun c161 => ((if c161 = true then some true else (R_ref12_sameStmts y125.Body y143.Body).bind fun c171 => some (!c171))).bind fun c168 => ((if c168 = true then some true else (R_ref12_sameStmts y125.Else y143.Else).bind fun c178 => some (!c178))).bind fun c175 => (if c175 = true then some false else rec4 (IntKind.i64.wrap (x63 + 1))) else some true)
def zgn (R_ref12_sameStmts : (List zh) → (List zh) → Option Bool) (p0 : (List zh)) (p1 : (List zh)) : Nat → Int → Option Bool
 | 0, _ => none
 | n + 1, x63 => zhh (zgn R_ref12_sameStmts p0 p1 n) R_ref12_sameStmts p0 p1 x63
def zhf (R_ref12_sameStmts : (List zh) → (List zh) → Option Bool) (p0 : (List zh)) (p1 : (List zh)) : Option Bool :=
 (if ((p0.length : Int) != (p1.length : Int)) = true then some false else zgn R_ref12_sameStmts p0 p1 big 0)
def zd7 : Nat → ((List zh) → (List zh) → Option Bool)
 | 0 => fun _ _ => none
 | gn + 1 => zhf (zd7 gn)
def zje (p0 : (List zh)) (p1 : (List zh)) : Option Bool := (zd7 big) p0 p1
def zhK (rec56 : Int → Option Bool) (rec54 : Int → Option Bool) (p0 : zO) (p1 : zO) (x417 : Int) (x910 : Int) : Option Bool :=
 (zA p0.Structs x417).bind fun y951 => (if (decide (x910 < (y951.Fields.length : Int))) = true then (zA p0.Structs x417).bind fun y961 => (zA y961.Fields x910).bind fun y970 => (zA p1.Structs x417).bind fun y975 => (zA y975.Fields x910).bind fun y984 => (if (!(zbl y970 y984)) = true then some false else rec56 (IntKind.i64.wrap (x910 + 1))) else rec54 (IntKind.i64.wrap (x417 + 1)))
def ze8 (rec54 : Int → Option Bool) (p0 : zO) (p1 : zO) (x417 : Int) : Nat → Int → Option Bool
 | 0, _ => none
 | n + 1, x910 => zhK (ze8 rec54 p0 p1 x417 n) rec54 p0 p1 x417 x910
def zhC (rec64 : Int → Option Bool) (rec62 : Int → Option Bool) (x1073 : Int) (y1159 : zo) (y1173 : zo) (x1215 : Int) : Option Bool :=
 (if (decide (x1215 < (y1159.Params.length : Int))) = true then (zA y1159.Params x1215).bind fun y1230 => (zA y1173.Params x1215).bind fun y1235 => (if (!((zbl y1230.Name y1235.Name) && (( (y1230.Type_.Kind.toNat : Int) == (y1235.Type_.Kind.toNat : Int)) && (( y1230.Type_.N == y1235.Type_.N) && ((zbl y1230.Type_.Name y1235.Type_.Name) && true))))) = true then some false else rec64 (IntKind.i64.wrap (x1215 + 1))) else rec62 (IntKind.i64.wrap (x1073 + 1)))
def zft (rec62 : Int → Option Bool) (x1073 : Int) (y1159 : zo) (y1173 : zo) : Nat → Int → Option Bool
 | 0, _ => none
 | n + 1, x1215 => zhC (zft rec62 x1073 y1159 y1173 n) rec62 x1073 y1159 y1173 x1215
def zhD (rec62 : Int → Option Bool) (p0 : zO) (p1 : zO) (x1073 : Int) : Option Bool :=
 (if (decide (x1073 < (p0.Funcs.length : Int))) = true then (zA p0.Funcs x1073).bind fun y1159 => (zA p1.Funcs x1073).bind fun y1173 => ((if ((((!(zbl y1159.Name y1173.Name)) || (y1159.Line != y1173.Line)) || (!(( (y1159.Result.Kind.toNat : Int) == (y1173.Result.Kind.toNat : Int)) && (( y1159.Result.N == y1173.Result.N) && ((zbl y1159.Result.Name y1173.Result.Name) && true))))) || ((y1159.Params.length : Int) != (y1173.Params.length : Int))) = true then some true else (zje y1159.Body y1173.Body).bind fun c1190 => some (!c1190))).bind fun c1187 => (if c1187 = true then some false else zft rec62 x1073 y1159 y1173 big 0) else some true)
def zdI (p0 : zO) (p1 : zO) : Nat → Int → Option Bool
 | 0, _ => none
 | n + 1, x1073 => zhD (zdI p0 p1 n) p0 p1 x1073
def zg6 (rec54 : Int → Option Bool) (p0 : zO) (p1 : zO) (x417 : Int) : Option Bool :=
 (if (decide (x417 < (p0.Structs.length : Int))) = true then (zA p0.Structs x417).bind fun y831 => (zA p1.Structs x417).bind fun y840 => ((if (!(zbl y831.Name y840.Name)) = true then some true else (zA p0.Structs x417).bind fun y852 => (zA p1.Structs x417).bind fun y861 => some ((y852.Fields.length : Int) != (y861.Fields.length : Int)))).bind fun c849 => (if c849 = true then some false else ze8 rec54 p0 p1 x417 big 0) else zdI p0 p1 big 0)
def zdz (p0 : zO) (p1 : zO) : Nat → Int → Option Bool
 | 0, _ => none
 | n + 1, x417 => zg6 (zdz p0 p1 n) p0 p1 x417
def zfr (p0 : zO) (p1 : zO) : Option Bool :=
 (if (((p0.Structs.length : Int) != (p1.Structs.length : Int)) || ((p0.Funcs.length : Int) != (p1.Funcs.length : Int))) = true then some false else zdz p0 p1 big 0)
def ziC (p0 : (List UInt8)) : Option Bool :=
 (if (decide ((p0.length : Int) > 8192)) = true then (zfP ).bind fun c3 => some c3 else (zf3 p0).bind fun c7 => (if (c7.2.2 != 0) = true then (zfP ).bind fun c17 => some c17 else (zd9 c7.1).bind fun c23 => (zil c7.1).bind fun c36 => ((if ((c23.2.1 == c36.2.1) && (c23.2.2 == c36.2.2)) = true then (zfr c23.1 c36.1).bind fun c52 => some c52 else some false)).bind fun c49 => ((if c49 = true then (zfP ).bind fun c59 => some c59 else some false)).bind fun c56 => some c56))
end Go.Proofs.Ytnhboaaikehpoaa
