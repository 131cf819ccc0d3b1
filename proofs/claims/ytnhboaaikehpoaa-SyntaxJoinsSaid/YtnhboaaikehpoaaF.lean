import Derived.Test.YtnhboaaikehpoaaFM
namespace Go.Proofs.Ytnhboaaikehpoaa
open Go.Ab Go.RowKit
set_option linter.unusedVariables false
set_option linter.unusedSimpArgs false
set_option maxRecDepth 10000
set_option maxHeartbeats 1000000
structure zr where
 Kind : UInt8
 Text : ByteArray
 Num : Int
 Line : Int
 deriving DecidableEq
def zt : Ty zr where
 sz := 4
 R := fun σ x cs => cs = [.int .u8 x.Kind.toNat, .string x.Text, .int .i64 x.Num, .int .i64 x.Line]
 len := by rintro σ x cs rfl; rfl
 one := by rintro σ x cs rfl; rfl
 mono := by rintro σ σ' x cs hle rfl; rfl
structure zbf where
 tokens : (List zr)
 at_ : Int
 deriving DecidableEq
structure zl where
 Name : ByteArray
 Fields : (List ByteArray)
 deriving DecidableEq
def zn : Ty zl where
 sz := 2
 R := fun σ x cs => ∃ v1, cs = [.string x.Name, v1] ∧ RdT Ty.str σ v1 x.Fields
 len := by rintro σ x cs ⟨v1, rfl, h0⟩; rfl
 one := by rintro σ x cs ⟨v1, rfl, h0⟩; obtain ⟨_, ⟨_, _, rfl, _⟩, _⟩ := h0; rfl
 mono := by rintro σ σ' x cs hle ⟨v1, rfl, h0⟩; exact ⟨v1, rfl, h0.le hle⟩
structure zI where
 Kind : UInt8
 N : Int
 Name : ByteArray
 deriving DecidableEq
structure zbh where
 Name : ByteArray
 Type_ : zI
 deriving DecidableEq
def zcW : Ty zbh where
 sz := 4
 R := fun σ x cs => cs = [.string x.Name, .int .u8 x.Type_.Kind.toNat, .int .i64 x.Type_.N, .string x.Type_.Name]
 len := by rintro σ x cs rfl; rfl
 one := by rintro σ x cs rfl; rfl
 mono := by rintro σ σ' x cs hle rfl; rfl
theorem zlV : zcW.Flat := fun _ _ _ _ h => h
structure zb where
 Kind : UInt8
 Num : Int
 Name : ByteArray
 Field : ByteArray
 Op : ByteArray
 Kids : (List zb)
def znF (T : Ty zb) : Ty zb where
 sz := 6
 R := fun σ x cs => ∃ v5, cs = [.int .u8 x.Kind.toNat, .int .i64 x.Num, .string x.Name, .string x.Field, .string x.Op, v5] ∧ RdT T σ v5 x.Kids
 len := by rintro σ x cs ⟨v5, rfl, h0⟩; rfl
 one := by rintro σ x cs ⟨v5, rfl, h0⟩; obtain ⟨_, ⟨_, _, rfl, _⟩, _⟩ := h0; rfl
 mono := by rintro σ σ' x cs hle ⟨v5, rfl, h0⟩; exact ⟨v5, rfl, h0.le hle⟩
theorem zkq : Lvl znF 6 := ⟨fun _ => rfl, fun T T' h => ⟨rfl, by rintro σ x cs ⟨v5, rfl, h0⟩; exact ⟨v5, rfl, h.rd h0⟩⟩⟩
def zC : Ty zb := Ty.fix znF 6 zkq
theorem zcB {σ : Hp} {x : zb} {cs : List Value} (h : zC.R σ x cs) : ∃ v5, cs = [.int .u8 x.Kind.toNat, .int .i64 x.Num, .string x.Name, .string x.Field, .string x.Op, v5] ∧ RdT zC σ v5 x.Kids := zmO zkq h
theorem zcz {σ : Hp} {x : zb} {cs : List Value} (h : ∃ v5, cs = [.int .u8 x.Kind.toNat, .int .i64 x.Num, .string x.Name, .string x.Field, .string x.Op, v5] ∧ RdT zC σ v5 x.Kids) : zC.R σ x cs := by
 obtain ⟨v5, rfl, h0⟩ := h
 obtain ⟨k0, g0⟩ := zjb zkq h0
 exact ⟨k0 + 1, v5, rfl, g0 _ (by omega)⟩
structure zg where
 Kind : UInt8
 Line : Int
 Name : ByteArray
 Field : ByteArray
 Call : ByteArray
 Type_ : zI
 Kids : (List zb)
 Body : (List zg)
 Else : (List zg)
def zml (T : Ty zg) : Ty zg where
 sz := 11
 R := fun σ x cs => ∃ v8 v9 v10, cs = [.int .u8 x.Kind.toNat, .int .i64 x.Line, .string x.Name, .string x.Field, .string x.Call, .int .u8 x.Type_.Kind.toNat, .int .i64 x.Type_.N, .string x.Type_.Name, v8, v9, v10] ∧ RdT zC σ v8 x.Kids ∧ RdT T σ v9 x.Body ∧ RdT T σ v10 x.Else
 len := by rintro σ x cs ⟨v8, v9, v10, rfl, h0, h1, h2⟩; rfl
 one := by rintro σ x cs ⟨v8, v9, v10, rfl, h0, h1, h2⟩; obtain ⟨_, ⟨_, _, rfl, _⟩, _⟩ := h0; obtain ⟨_, ⟨_, _, rfl, _⟩, _⟩ := h1; obtain ⟨_, ⟨_, _, rfl, _⟩, _⟩ := h2; rfl
 mono := by rintro σ σ' x cs hle ⟨v8, v9, v10, rfl, h0, h1, h2⟩; exact ⟨v8, v9, v10, rfl, h0.le hle, h1.le hle, h2.le hle⟩
theorem zip : Lvl zml 11 := ⟨fun _ => rfl, fun T T' h => ⟨rfl, by rintro σ x cs ⟨v8, v9, v10, rfl, h0, h1, h2⟩; exact ⟨v8, v9, v10, rfl, h0, h.rd h1, h.rd h2⟩⟩⟩
def zJ : Ty zg := Ty.fix zml 11 zip
theorem zgp {σ : Hp} {x : zg} {cs : List Value} (h : zJ.R σ x cs) : ∃ v8 v9 v10, cs = [.int .u8 x.Kind.toNat, .int .i64 x.Line, .string x.Name, .string x.Field, .string x.Call, .int .u8 x.Type_.Kind.toNat, .int .i64 x.Type_.N, .string x.Type_.Name, v8, v9, v10] ∧ RdT zC σ v8 x.Kids ∧ RdT zJ σ v9 x.Body ∧ RdT zJ σ v10 x.Else := zmO zip h
theorem zqW {σ : Hp} {x : zg} {cs : List Value} (h : ∃ v8 v9 v10, cs = [.int .u8 x.Kind.toNat, .int .i64 x.Line, .string x.Name, .string x.Field, .string x.Call, .int .u8 x.Type_.Kind.toNat, .int .i64 x.Type_.N, .string x.Type_.Name, v8, v9, v10] ∧ RdT zC σ v8 x.Kids ∧ RdT zJ σ v9 x.Body ∧ RdT zJ σ v10 x.Else) : zJ.R σ x cs := by
 obtain ⟨v8, v9, v10, rfl, h0, h1, h2⟩ := h
 obtain ⟨k1, g1⟩ := zjb zip h1
 obtain ⟨k2, g2⟩ := zjb zip h2
 exact ⟨k1 + k2 + 1, v8, v9, v10, rfl, h0, g1 _ (by omega), g2 _ (by omega)⟩
structure zi where
 Name : ByteArray
 Line : Int
 Params : (List zbh)
 Result : zI
 Body : (List zg)
def zk : Ty zi where
 sz := 7
 R := fun σ x cs => ∃ v2 v6, cs = [.string x.Name, .int .i64 x.Line, v2, .int .u8 x.Result.Kind.toNat, .int .i64 x.Result.N, .string x.Result.Name, v6] ∧ RdT zcW σ v2 x.Params ∧ RdT zJ σ v6 x.Body
 len := by rintro σ x cs ⟨v2, v6, rfl, h0, h1⟩; rfl
 one := by rintro σ x cs ⟨v2, v6, rfl, h0, h1⟩; obtain ⟨_, ⟨_, _, rfl, _⟩, _⟩ := h0; obtain ⟨_, ⟨_, _, rfl, _⟩, _⟩ := h1; rfl
 mono := by rintro σ σ' x cs hle ⟨v2, v6, rfl, h0, h1⟩; exact ⟨v2, v6, rfl, h0.le hle, h1.le hle⟩
structure zL where
 Structs : (List zl)
 Funcs : (List zi)
structure zc where
 cursor : zbf
 prog : zL
structure zq where
 L : (List zr)
 At : Int
 Failed : Bool
 deriving DecidableEq
abbrev zqJ (b : Nat) (x0 : Int) (x1 : Int) (x2 : ByteArray) : Ob := some (b, ⟨[.int .u8 x0, .int .i64 x1, .string x2], 47, 3, true⟩)
abbrev zfP (b : Nat) (x0 : ByteArray) (x1 : Int) (x2 : Value) (x3 : Int) (x4 : Int) (x5 : ByteArray) (x6 : Value) : Ob := some (b, ⟨[.string x0, .int .i64 x1, x2, .int .u8 x3, .int .i64 x4, .string x5, x6], 50, 7, true⟩)
abbrev zb5 (b : Nat) (x0 : Int) (x1 : Int) (x2 : ByteArray) (x3 : ByteArray) (x4 : ByteArray) (x5 : Int) (x6 : Int) (x7 : ByteArray) (x8 : Value) (x9 : Value) (x10 : Value) : Ob := some (b, ⟨[.int .u8 x0, .int .i64 x1, .string x2, .string x3, .string x4, .int .u8 x5, .int .i64 x6, .string x7, x8, x9, x10], 53, 11, true⟩)
abbrev znh (b : Nat) (x0 : Int) (x1 : Int) (x2 : ByteArray) (x3 : ByteArray) (x4 : ByteArray) (x5 : Value) : Ob := some (b, ⟨[.int .u8 x0, .int .i64 x1, .string x2, .string x3, .string x4, x5], 55, 6, true⟩)
abbrev zw (b : Nat) (x0 : Value) (x1 : Int) (x2 : Value) (x3 : Value) : Ob := some (b, ⟨[x0, .int .i64 x1, x2, x3], 60, 4, true⟩)
abbrev ze0 (b : Nat) (x0 : Int) (x1 : ByteArray) (x2 : Int) (x3 : Int) : Ob := some (b, ⟨[.int .u8 x0, .string x1, .int .i64 x2, .int .i64 x3], 79, 4, true⟩)
def zgJ (rec4 : Int → Option Int) (p0 : (List ByteArray)) (p1 : ByteArray) (x10 : Int) : Option Int :=
 (if (decide (x10 < (p0.length : Int))) = true then (zA p0 x10).bind fun y20 => (if (zbn p1 y20) = true then some x10 else rec4 (IntKind.i64.wrap (x10 + 1))) else some (-1))
def zgb (p0 : (List ByteArray)) (p1 : ByteArray) : Nat → Int → Option Int
 | 0, _ => none
 | n + 1, x10 => zgJ (zgb p0 p1 n) p0 p1 x10
def zh5 (p0 : (List ByteArray)) (p1 : ByteArray) : Option Int :=
 zgb p0 p1 big 0
def zgc (p0 : (List ByteArray)) (p1 : ByteArray) : Option Bool :=
 (zh5 p0 p1).bind fun c3 => some (decide (c3 ≥ 0))
def zgN (q0 : zbf) (p1 : Int) (p2 : (List ByteArray)) : Option Bool :=
 ((if (decide (q0.at_ ≥ (q0.tokens.length : Int))) = true then some true else (zA q0.tokens q0.at_).bind fun y7 => some ((y7.Kind.toNat : Int) != p1))).bind fun c4 => (if c4 = true then some false else ((if ((p2.length : Int) == 0) = true then some true else (zA q0.tokens q0.at_).bind fun y16 => (zgc p2 y16.Text).bind fun c21 => some c21)).bind fun c13 => some c13)
def zpc (q0 : zbf) : Option (Except (Value × zbf) (zr × zbf)) :=
 (zA q0.tokens (IntKind.i64.wrap ((IntKind.i64.wrap (q0.at_ + 1)) - 1))).bind fun y10 => some (.ok (y10, (⟨q0.tokens, (IntKind.i64.wrap (q0.at_ + 1))⟩ : zbf)))
def zqg (q0 : zbf) (p1 : Int) (p2 : (List ByteArray)) : Option (Except (Value × zbf) (zr × zbf)) :=
 (zgN q0 p1 p2).bind fun c5 => (if (!c5) = true then some (.error ((.iface 92 (.agg #[]) : Value), q0)) else zpc q0)
def zpB (rec4 : (List zr) → Int → Int → Option (Except (Value × zbf) (zbf))) (p1 : (List ByteArray)) (x33 : List zr) (x35 : Int) (x36 : Int) : Option (Except (Value × zbf) (zbf)) :=
 (if (decide (x36 < (p1.length : Int))) = true then (zA p1 x36).bind fun y67 => zF (zqg (⟨x33, x35⟩ : zbf) 4 ([y67] : List ByteArray)) (fun x82 => some (.error (x82.1, x82.2))) fun c78 => rec4 c78.2.tokens c78.2.at_ (IntKind.i64.wrap (x36 + 1)) else some (.ok (⟨x33, x35⟩ : zbf)))
def zoq (p1 : (List ByteArray)) : Nat → (List zr) → Int → Int → Option (Except (Value × zbf) (zbf))
 | 0, _, _, _ => none
 | n + 1, x33, x35, x36 => zpB (zoq p1 n) p1 x33 x35 x36
def zcR (q0 : zc) (p1 : Int) (p2 : (List ByteArray)) : Option Bool :=
 ((if (decide (q0.cursor.at_ ≥ (q0.cursor.tokens.length : Int))) = true then some true else (zA q0.cursor.tokens q0.cursor.at_).bind fun y7 => some ((y7.Kind.toNat : Int) != p1))).bind fun c4 => (if c4 = true then some false else ((if ((p2.length : Int) == 0) = true then some true else (zA q0.cursor.tokens q0.cursor.at_).bind fun y16 => (zgc p2 y16.Text).bind fun c21 => some c21)).bind fun c13 => some c13)
def ziJ (q0 : zc) (x13 : List zl) (x18 : List zi) : Option (Except (Value × zc) (zr × zc)) :=
 (zA q0.cursor.tokens (IntKind.i64.wrap ((IntKind.i64.wrap (q0.cursor.at_ + 1)) - 1))).bind fun y20 => some (.ok (y20, (⟨(⟨q0.cursor.tokens, (IntKind.i64.wrap (q0.cursor.at_ + 1))⟩ : zbf), (⟨x13, x18⟩ : zL)⟩ : zc)))
def zc9 (q0 : zc) (p1 : Int) (p2 : (List ByteArray)) : Option (Except (Value × zc) (zr × zc)) :=
 (zcR q0 p1 p2).bind fun c5 => (if (!c5) = true then some (.error ((.iface 92 (.agg #[]) : Value), q0)) else ziJ q0 q0.prog.Structs q0.prog.Funcs)
def zcZ (q0 : zc) : Option (Except (Value × zc) (ByteArray × zc)) :=
 zF (zc9 q0 1 []) (fun x6 => some (.error (x6.1, x6.2))) fun c2 => some (.ok (c2.1.Text, c2.2))
def zg4 (rec4 : (List zr) → Int → (List zl) → (List zi) → Int → Option (Except (Value × zc) (zc))) (p1 : (List ByteArray)) (x63 : List zr) (x65 : Int) (x69 : List zl) (x74 : List zi) (x76 : Int) : Option (Except (Value × zc) (zc)) :=
 (if (decide (x76 < (p1.length : Int))) = true then (zA p1 x76).bind fun y127 => zF (zc9 (⟨(⟨x63, x65⟩ : zbf), (⟨x69, x74⟩ : zL)⟩ : zc) 4 ([y127] : List ByteArray)) (fun x142 => some (.error (x142.1, x142.2))) fun c138 => rec4 c138.2.cursor.tokens c138.2.cursor.at_ c138.2.prog.Structs c138.2.prog.Funcs (IntKind.i64.wrap (x76 + 1)) else some (.ok (⟨(⟨x63, x65⟩ : zbf), (⟨x69, x74⟩ : zL)⟩ : zc)))
def zg2 (p1 : (List ByteArray)) : Nat → (List zr) → Int → (List zl) → (List zi) → Int → Option (Except (Value × zc) (zc))
 | 0, _, _, _, _, _ => none
 | n + 1, x63, x65, x69, x74, x76 => zg4 (zg2 p1 n) p1 x63 x65 x69 x74 x76
def zcj (q0 : zc) (p1 : (List ByteArray)) : Option (Except (Value × zc) (zc)) :=
 zg2 p1 big q0.cursor.tokens q0.cursor.at_ q0.prog.Structs q0.prog.Funcs 0
def zbK (q0 : zc) (p1 : Int) (p2 : (List ByteArray)) : Option (Bool × zc) :=
 (zcR q0 p1 p2).bind fun c4 => (if (!c4) = true then some (false, q0) else some (true, (⟨(⟨q0.cursor.tokens, (IntKind.i64.wrap (q0.cursor.at_ + 1))⟩ : zbf), (⟨q0.prog.Structs, q0.prog.Funcs⟩ : zL)⟩ : zc)))
def zhf (rec4 : (List zr) → Int → (List zl) → (List zi) → (List ByteArray) → Option (Except (Value × zc) (zc))) (c2 : ByteArray × zc) (x302 : List zr) (x304 : Int) (x308 : List zl) (x313 : List zi) (x318 : List ByteArray) : Option (Except (Value × zc) (zc)) :=
 (zbK (⟨(⟨x302, x304⟩ : zbf), (⟨x308, x313⟩ : zL)⟩ : zc) 4 ([(⟨#[125]⟩ : ByteArray)] : List ByteArray)).bind fun c494 => (if (!c494.1) = true then zF (zcZ c494.2) (fun x517 => some (.error (x517.1, x517.2))) fun c513 => (room (x318.length + ([c513.1] : List ByteArray).length)).bind fun _ => zF (zc9 c513.2 3 ([(⟨#[105, 110, 116]⟩ : ByteArray)] : List ByteArray)) (fun x568 => some (.error (x568.1, x568.2))) fun c564 => zF (zcj c564.2 ([(⟨#[59]⟩ : ByteArray)] : List ByteArray)) (fun x610 => some (.error (x610.1, x610.2))) fun c606 => rec4 c606.cursor.tokens c606.cursor.at_ c606.prog.Structs c606.prog.Funcs (x318 ++ ([c513.1] : List ByteArray)) else (room (c494.2.prog.Structs.length + ([(⟨c2.1, x318⟩ : zl)] : List zl).length)).bind fun _ => some (.ok (⟨(⟨c494.2.cursor.tokens, c494.2.cursor.at_⟩ : zbf), (⟨(c494.2.prog.Structs ++ ([(⟨c2.1, x318⟩ : zl)] : List zl)), c494.2.prog.Funcs⟩ : zL)⟩ : zc)))
def zf5 (c2 : ByteArray × zc) : Nat → (List zr) → Int → (List zl) → (List zi) → (List ByteArray) → Option (Except (Value × zc) (zc))
 | 0, _, _, _, _, _ => none
 | n + 1, x302, x304, x308, x313, x318 => zhf (zf5 c2 n) c2 x302 x304 x308 x313 x318
def zhJ (q0 : zc) : Option (Except (Value × zc) (zc)) :=
 zF (zcZ q0) (fun x6 => some (.error (x6.1, x6.2))) fun c2 => zF (zc9 c2.2 3 ([(⟨#[115, 116, 114, 117, 99, 116]⟩ : ByteArray)] : List ByteArray)) (fun x49 => some (.error (x49.1, x49.2))) fun c45 => zF (zcj c45.2 ([(⟨#[123]⟩ : ByteArray)] : List ByteArray)) (fun x91 => some (.error (x91.1, x91.2))) fun c87 => zf5 c2 big c87.cursor.tokens c87.cursor.at_ c87.prog.Structs c87.prog.Funcs ([])
def zfs (q0 : zc) (p1 : Bool) : Option (Except (Value × zc) (zI × zc)) :=
 (zbK q0 3 ([(⟨#[105, 110, 116]⟩ : ByteArray)] : List ByteArray)).bind fun c10 => (if c10.1 = true then some (.ok ((⟨(1 : UInt8), 0, (⟨#[]⟩ : ByteArray)⟩ : zI), c10.2)) else (zbK c10.2 3 ([(⟨#[98, 111, 111, 108]⟩ : ByteArray)] : List ByteArray)).bind fun c35 => (if c35.1 = true then some (.ok ((⟨(2 : UInt8), 0, (⟨#[]⟩ : ByteArray)⟩ : zI), c35.2)) else (zbK c35.2 4 ([(⟨#[91]⟩ : ByteArray)] : List ByteArray)).bind fun c60 => (if c60.1 = true then zF (zc9 c60.2 2 []) (fun x83 => some (.error (x83.1, x83.2))) fun c79 => zF (zcj c79.2 ([(⟨#[93]⟩ : ByteArray)] : List ByteArray)) (fun x125 => some (.error (x125.1, x125.2))) fun c121 => zF (zc9 c121 3 ([(⟨#[105, 110, 116]⟩ : ByteArray)] : List ByteArray)) (fun x167 => some (.error (x167.1, x167.2))) fun c163 => some (.ok ((⟨(3 : UInt8), c79.1.Num, (⟨#[]⟩ : ByteArray)⟩ : zI), c163.2)) else ((if p1 = true then some true else (zcR c60.2 1 []).bind fun c202 => some c202)).bind fun c199 => (if c199 = true then zF (zcZ c60.2) (fun x211 => some (.error (x211.1, x211.2))) fun c207 => some (.ok ((⟨(4 : UInt8), 0, c207.1⟩ : zI), c207.2)) else some (.ok ((⟨(0 : UInt8), 0, (⟨#[]⟩ : ByteArray)⟩ : zI), c60.2))))))
def zga (q0 : zc) : Option (Except (Value × zc) (zbh × zc)) :=
 zF (zcZ q0) (fun x7 => some (.error (x7.1, x7.2))) fun c3 => zF (zfs c3.2 true) (fun x44 => some (.error (x44.1, x44.2))) fun c40 => some (.ok ((⟨c3.1, (⟨c40.1.Kind, c40.1.N, c40.1.Name⟩ : zI)⟩ : zbh), c40.2))
def zid  : Option (List (List ByteArray)) :=
 some ([([(⟨#[124, 124]⟩ : ByteArray)] : List ByteArray), ([(⟨#[38, 38]⟩ : ByteArray)] : List ByteArray), ([(⟨#[61, 61]⟩ : ByteArray), (⟨#[33, 61]⟩ : ByteArray), (⟨#[60]⟩ : ByteArray), (⟨#[60, 61]⟩ : ByteArray), (⟨#[62]⟩ : ByteArray), (⟨#[62, 61]⟩ : ByteArray)] : List ByteArray), ([(⟨#[43]⟩ : ByteArray), (⟨#[45]⟩ : ByteArray)] : List ByteArray), ([(⟨#[42]⟩ : ByteArray), (⟨#[47]⟩ : ByteArray), (⟨#[37]⟩ : ByteArray)] : List ByteArray)] : List (List ByteArray))
def zgK (R_syntax_parser_exp : zc → Option (Except (Value × zc) (zb × zc))) (R_syntax_parser_binary : zc → (List (List ByteArray)) → Option (Except (Value × zc) (zb × zc))) (R_syntax_parser_unary : zc → Option (Except (Value × zc) (zb × zc))) (R_syntax_parser_index : zc → Option (Except (Value × zc) (zb × zc))) (q0 : zc) : Option (Except (Value × zc) (zb × zc)) :=
 (zid ).bind fun c3 => zF (R_syntax_parser_binary q0 c3) (fun x18 => some (.error (x18.1, x18.2))) fun c14 => some (.ok (c14.1, c14.2))
def zhF (rec4 : (List zr) → Int → (List zl) → (List zi) → UInt8 → Int → ByteArray → ByteArray → ByteArray → (List zb) → Option (Except (Value × zc) (zb × zc))) (R_syntax_parser_binary : zc → (List (List ByteArray)) → Option (Except (Value × zc) (zb × zc))) (p1 : (List (List ByteArray))) (x226 : List zr) (x228 : Int) (x232 : List zl) (x237 : List zi) (x239 : UInt8) (x240 : Int) (x241 : ByteArray) (x242 : ByteArray) (x243 : ByteArray) (x246 : List zb) : Option (Except (Value × zc) (zb × zc)) :=
 (zA p1 0).bind fun y348 => (zcR (⟨(⟨x226, x228⟩ : zbf), (⟨x232, x237⟩ : zL)⟩ : zc) 4 y348).bind fun c357 => (if c357 = true then zF (zc9 (⟨(⟨x226, x228⟩ : zbf), (⟨x232, x237⟩ : zL)⟩ : zc) 4 []) (fun x366 => some (.error (x366.1, x366.2))) fun c362 => (zdp p1 1 (p1.length : Int)).bind fun y398 => zF (R_syntax_parser_binary c362.2 y398) (fun x407 => some (.error (x407.1, x407.2))) fun c403 => rec4 c403.2.cursor.tokens c403.2.cursor.at_ c403.2.prog.Structs c403.2.prog.Funcs (7 : UInt8) 0 (⟨#[]⟩ : ByteArray) (⟨#[]⟩ : ByteArray) c362.1.Text ([(⟨x239, x240, x241, x242, x243, x246⟩ : zb), (⟨c403.1.Kind, c403.1.Num, c403.1.Name, c403.1.Field, c403.1.Op, c403.1.Kids⟩ : zb)] : List zb) else some (.ok ((⟨x239, x240, x241, x242, x243, x246⟩ : zb), (⟨(⟨x226, x228⟩ : zbf), (⟨x232, x237⟩ : zL)⟩ : zc))))
def zhG (R_syntax_parser_binary : zc → (List (List ByteArray)) → Option (Except (Value × zc) (zb × zc))) (p1 : (List (List ByteArray))) : Nat → (List zr) → Int → (List zl) → (List zi) → UInt8 → Int → ByteArray → ByteArray → ByteArray → (List zb) → Option (Except (Value × zc) (zb × zc))
 | 0, _, _, _, _, _, _, _, _, _, _ => none
 | n + 1, x226, x228, x232, x237, x239, x240, x241, x242, x243, x246 => zhF (zhG R_syntax_parser_binary p1 n) R_syntax_parser_binary p1 x226 x228 x232 x237 x239 x240 x241 x242 x243 x246
def zhd (R_syntax_parser_exp : zc → Option (Except (Value × zc) (zb × zc))) (R_syntax_parser_binary : zc → (List (List ByteArray)) → Option (Except (Value × zc) (zb × zc))) (R_syntax_parser_unary : zc → Option (Except (Value × zc) (zb × zc))) (R_syntax_parser_index : zc → Option (Except (Value × zc) (zb × zc))) (q0 : zc) (p1 : (List (List ByteArray))) : Option (Except (Value × zc) (zb × zc)) :=
 (if ((p1.length : Int) == 0) = true then zF (R_syntax_parser_unary q0) (fun x9 => some (.error (x9.1, x9.2))) fun c5 => some (.ok (c5.1, c5.2)) else (zdp p1 1 (p1.length : Int)).bind fun y45 => zF (R_syntax_parser_binary q0 y45) (fun x54 => some (.error (x54.1, x54.2))) fun c50 => zhG R_syntax_parser_binary p1 big c50.2.cursor.tokens c50.2.cursor.at_ c50.2.prog.Structs c50.2.prog.Funcs c50.1.Kind c50.1.Num c50.1.Name c50.1.Field c50.1.Op c50.1.Kids)
def zg8 (R_syntax_parser_exp : zc → Option (Except (Value × zc) (zb × zc))) (R_syntax_parser_binary : zc → (List (List ByteArray)) → Option (Except (Value × zc) (zb × zc))) (R_syntax_parser_unary : zc → Option (Except (Value × zc) (zb × zc))) (R_syntax_parser_index : zc → Option (Except (Value × zc) (zb × zc))) (q0 : zc) : Option (Except (Value × zc) (zb × zc)) :=
 (zcR q0 4 ([(⟨#[45]⟩ : ByteArray), (⟨#[33]⟩ : ByteArray)] : List ByteArray)).bind fun c9 => (if c9 = true then zF (zc9 q0 4 []) (fun x18 => some (.error (x18.1, x18.2))) fun c14 => zF (R_syntax_parser_unary c14.2) (fun x54 => some (.error (x54.1, x54.2))) fun c50 => some (.ok ((⟨(6 : UInt8), 0, (⟨#[]⟩ : ByteArray), (⟨#[]⟩ : ByteArray), c14.1.Text, ([(⟨c50.1.Kind, c50.1.Num, c50.1.Name, c50.1.Field, c50.1.Op, c50.1.Kids⟩ : zb)] : List zb)⟩ : zb), c50.2)) else (zbK q0 4 ([(⟨#[40]⟩ : ByteArray)] : List ByteArray)).bind fun c102 => (if c102.1 = true then zF (R_syntax_parser_exp c102.2) (fun x125 => some (.error (x125.1, x125.2))) fun c121 => zF (zcj c121.2 ([(⟨#[41]⟩ : ByteArray)] : List ByteArray)) (fun x172 => some (.error (x172.1, x172.2))) fun c168 => some (.ok (c121.1, c168)) else (zcR c102.2 2 []).bind fun c204 => (if c204 = true then zF (zc9 c102.2 2 []) (fun x213 => some (.error (x213.1, x213.2))) fun c209 => some (.ok ((⟨(1 : UInt8), c209.1.Num, (⟨#[]⟩ : ByteArray), (⟨#[]⟩ : ByteArray), (⟨#[]⟩ : ByteArray), []⟩ : zb), c209.2)) else (zbK c102.2 3 ([(⟨#[116, 114, 117, 101]⟩ : ByteArray)] : List ByteArray)).bind fun c251 => (if c251.1 = true then some (.ok ((⟨(2 : UInt8), 1, (⟨#[]⟩ : ByteArray), (⟨#[]⟩ : ByteArray), (⟨#[]⟩ : ByteArray), []⟩ : zb), c251.2)) else (zbK c251.2 3 ([(⟨#[102, 97, 108, 115, 101]⟩ : ByteArray)] : List ByteArray)).bind fun c276 => (if c276.1 = true then some (.ok ((⟨(2 : UInt8), 0, (⟨#[]⟩ : ByteArray), (⟨#[]⟩ : ByteArray), (⟨#[]⟩ : ByteArray), []⟩ : zb), c276.2)) else zF (zcZ c276.2) (fun x299 => some (.error (x299.1, x299.2))) fun c295 => (zcR c295.2 4 ([(⟨#[91]⟩ : ByteArray)] : List ByteArray)).bind fun c337 => (if c337 = true then zF (R_syntax_parser_index c295.2) (fun x346 => some (.error (x346.1, x346.2))) fun c342 => some (.ok ((⟨(4 : UInt8), 0, c295.1, (⟨#[]⟩ : ByteArray), (⟨#[]⟩ : ByteArray), ([(⟨c342.1.Kind, c342.1.Num, c342.1.Name, c342.1.Field, c342.1.Op, c342.1.Kids⟩ : zb)] : List zb)⟩ : zb), c342.2)) else (zbK c295.2 4 ([(⟨#[46]⟩ : ByteArray)] : List ByteArray)).bind fun c394 => (if c394.1 = true then zF (zcZ c394.2) (fun x417 => some (.error (x417.1, x417.2))) fun c413 => some (.ok ((⟨(5 : UInt8), 0, c295.1, c413.1, (⟨#[]⟩ : ByteArray), []⟩ : zb), c413.2)) else some (.ok ((⟨(3 : UInt8), 0, c295.1, (⟨#[]⟩ : ByteArray), (⟨#[]⟩ : ByteArray), []⟩ : zb), c394.2)))))))))
def zgv (R_syntax_parser_exp : zc → Option (Except (Value × zc) (zb × zc))) (R_syntax_parser_binary : zc → (List (List ByteArray)) → Option (Except (Value × zc) (zb × zc))) (R_syntax_parser_unary : zc → Option (Except (Value × zc) (zb × zc))) (R_syntax_parser_index : zc → Option (Except (Value × zc) (zb × zc))) (q0 : zc) : Option (Except (Value × zc) (zb × zc)) :=
 zF (zcj q0 ([(⟨#[91]⟩ : ByteArray)] : List ByteArray)) (fun x13 => some (.error (x13.1, x13.2))) fun c9 => zF (R_syntax_parser_exp c9) (fun x49 => some (.error (x49.1, x49.2))) fun c45 => zF (zcj c45.2 ([(⟨#[93]⟩ : ByteArray)] : List ByteArray)) (fun x96 => some (.error (x96.1, x96.2))) fun c92 => some (.ok (c45.1, c92))
def zZ : Nat → (zc → Option (Except (Value × zc) (zb × zc))) × (zc → (List (List ByteArray)) → Option (Except (Value × zc) (zb × zc))) × (zc → Option (Except (Value × zc) (zb × zc))) × (zc → Option (Except (Value × zc) (zb × zc)))
 | 0 => (fun _ => none, fun _ _ => none, fun _ => none, fun _ => none)
 | gn + 1 => (zgK ((zZ gn).1) ((zZ gn).2.1) ((zZ gn).2.2.1) ((zZ gn).2.2.2), zhd ((zZ gn).1) ((zZ gn).2.1) ((zZ gn).2.2.1) ((zZ gn).2.2.2), zg8 ((zZ gn).1) ((zZ gn).2.1) ((zZ gn).2.2.1) ((zZ gn).2.2.2), zgv ((zZ gn).1) ((zZ gn).2.1) ((zZ gn).2.2.1) ((zZ gn).2.2.2))
def zdu (q0 : zc) : Option (Except (Value × zc) (zb × zc)) := (zZ big).1 q0
def zjR (q0 : zc) : Option (Except (Value × zc) (zb × zc)) := (zZ big).2.2.2 q0
def zgI (q0 : zc) (q1 : zg) : Option (Except (Value × zc × zg) (zc × zg)) :=
 zF (zcZ q0) (fun x7 => some (.error (x7.1, x7.2, q1))) fun c3 => zF (zfs c3.2 true) (fun x43 => some (.error (x43.1, x43.2, (⟨(1 : UInt8), q1.Line, c3.1, q1.Field, q1.Call, (⟨q1.Type_.Kind, q1.Type_.N, q1.Type_.Name⟩ : zI), q1.Kids, q1.Body, q1.Else⟩ : zg)))) fun c39 => (zbK c39.2 4 ([(⟨#[61]⟩ : ByteArray)] : List ByteArray)).bind fun c81 => (if c81.1 = true then zF (zdu c81.2) (fun x104 => some (.error (x104.1, x104.2, (⟨(1 : UInt8), q1.Line, c3.1, q1.Field, q1.Call, (⟨c39.1.Kind, c39.1.N, c39.1.Name⟩ : zI), q1.Kids, q1.Body, q1.Else⟩ : zg)))) fun c100 => some (.ok (c100.2, (⟨(1 : UInt8), q1.Line, c3.1, q1.Field, q1.Call, (⟨c39.1.Kind, c39.1.N, c39.1.Name⟩ : zI), ([(⟨c100.1.Kind, c100.1.Num, c100.1.Name, c100.1.Field, c100.1.Op, c100.1.Kids⟩ : zb)] : List zb), q1.Body, q1.Else⟩ : zg))) else some (.ok (c81.2, (⟨(1 : UInt8), q1.Line, c3.1, q1.Field, q1.Call, (⟨c39.1.Kind, c39.1.N, c39.1.Name⟩ : zI), q1.Kids, q1.Body, q1.Else⟩ : zg))))
def zfe (q0 : zc) : Option Bool :=
 (zcR q0 1 []).bind fun c3 => ((if c3 = true then (zgN (⟨q0.cursor.tokens, (IntKind.i64.wrap (q0.cursor.at_ + 1))⟩ : zbf) 4 ([(⟨#[40]⟩ : ByteArray)] : List ByteArray)).bind fun c16 => some c16 else some false)).bind fun c7 => some c7
def zhL (rec4 : (List zr) → Int → (List zl) → (List zi) → (List zb) → Option (Except (Value × zc) ((List zb) × zc)))  (x243 : List zr) (x245 : Int) (x249 : List zl) (x254 : List zi) (x259 : List zb) : Option (Except (Value × zc) ((List zb) × zc)) :=
 (zbK (⟨(⟨x243, x245⟩ : zbf), (⟨x249, x254⟩ : zL)⟩ : zc) 4 ([(⟨#[44]⟩ : ByteArray)] : List ByteArray)).bind fun c380 => (if c380.1 = true then zF (zdu c380.2) (fun x403 => some (.error (x403.1, x403.2))) fun c399 => (room (x259.length + 1)).bind fun _ => rec4 c399.2.cursor.tokens c399.2.cursor.at_ c399.2.prog.Structs c399.2.prog.Funcs (x259 ++ [(⟨c399.1.Kind, c399.1.Num, c399.1.Name, c399.1.Field, c399.1.Op, c399.1.Kids⟩ : zb)]) else zF (zcj c380.2 ([(⟨#[41]⟩ : ByteArray)] : List ByteArray)) (fun x454 => some (.error (x454.1, x454.2))) fun c450 => some (.ok (x259, c450)))
def zfF  : Nat → (List zr) → Int → (List zl) → (List zi) → (List zb) → Option (Except (Value × zc) ((List zb) × zc))
 | 0, _, _, _, _, _ => none
 | n + 1, x243, x245, x249, x254, x259 => zhL (zfF  n)  x243 x245 x249 x254 x259
def zf7 (q0 : zc) : Option (Except (Value × zc) ((List zb) × zc)) :=
 zF (zcj q0 ([(⟨#[40]⟩ : ByteArray)] : List ByteArray)) (fun x12 => some (.error (x12.1, x12.2))) fun c8 => (zbK c8 4 ([(⟨#[41]⟩ : ByteArray)] : List ByteArray)).bind fun c50 => (if c50.1 = true then some (.ok ([], c50.2)) else zF (zdu c50.2) (fun x73 => some (.error (x73.1, x73.2))) fun c69 => zfF  big c69.2.cursor.tokens c69.2.cursor.at_ c69.2.prog.Structs c69.2.prog.Funcs ([(⟨c69.1.Kind, c69.1.Num, c69.1.Name, c69.1.Field, c69.1.Op, c69.1.Kids⟩ : zb)] : List zb))
def zhE (q0 : zc) (q1 : zg) : Option (Except (Value × zc × zg) (zc × zg)) :=
 (zbK q0 3 ([(⟨#[105, 110, 112, 117, 116]⟩ : ByteArray)] : List ByteArray)).bind fun c9 => (if c9.1 = true then zF (zcj c9.2 ([(⟨#[40]⟩ : ByteArray), (⟨#[41]⟩ : ByteArray)] : List ByteArray)) (fun x38 => some (.error (x38.1, x38.2, q1))) fun c34 => some (.ok (c34, (⟨(9 : UInt8), q1.Line, q1.Name, q1.Field, q1.Call, (⟨q1.Type_.Kind, q1.Type_.N, q1.Type_.Name⟩ : zI), q1.Kids, q1.Body, q1.Else⟩ : zg))) else (zfe c9.2).bind fun c70 => (if c70 = true then zF (zcZ c9.2) (fun x79 => some (.error (x79.1, x79.2, q1))) fun c75 => zF (zf7 c75.2) (fun x115 => some (.error (x115.1, x115.2, (⟨(5 : UInt8), q1.Line, q1.Name, q1.Field, c75.1, (⟨q1.Type_.Kind, q1.Type_.N, q1.Type_.Name⟩ : zI), q1.Kids, q1.Body, q1.Else⟩ : zg)))) fun c111 => some (.ok (c111.2, (⟨(5 : UInt8), q1.Line, q1.Name, q1.Field, c75.1, (⟨q1.Type_.Kind, q1.Type_.N, q1.Type_.Name⟩ : zI), c111.1, q1.Body, q1.Else⟩ : zg))) else zF (zdu c9.2) (fun x158 => some (.error (x158.1, x158.2, q1))) fun c154 => some (.ok (c154.2, (⟨(2 : UInt8), q1.Line, q1.Name, q1.Field, q1.Call, (⟨q1.Type_.Kind, q1.Type_.N, q1.Type_.Name⟩ : zI), ([(⟨c154.1.Kind, c154.1.Num, c154.1.Name, c154.1.Field, c154.1.Op, c154.1.Kids⟩ : zb)] : List zb), q1.Body, q1.Else⟩ : zg)))))
def zg5 (q0 : zc) (q1 : zg) : Option (Except (Value × zc × zg) (zc × zg)) :=
 (zfe q0).bind fun c3 => (if c3 = true then zF (zcZ q0) (fun x12 => some (.error (x12.1, x12.2, q1))) fun c8 => zF (zf7 c8.2) (fun x48 => some (.error (x48.1, x48.2, (⟨(5 : UInt8), q1.Line, q1.Name, q1.Field, c8.1, (⟨q1.Type_.Kind, q1.Type_.N, q1.Type_.Name⟩ : zI), q1.Kids, q1.Body, q1.Else⟩ : zg)))) fun c44 => some (.ok (c44.2, (⟨(5 : UInt8), q1.Line, q1.Name, q1.Field, c8.1, (⟨q1.Type_.Kind, q1.Type_.N, q1.Type_.Name⟩ : zI), c44.1, q1.Body, q1.Else⟩ : zg))) else zF (zcZ q0) (fun x91 => some (.error (x91.1, x91.2, q1))) fun c87 => (zcR c87.2 4 ([(⟨#[91]⟩ : ByteArray)] : List ByteArray)).bind fun c129 => (if c129 = true then zF (zjR c87.2) (fun x138 => some (.error (x138.1, x138.2, (⟨q1.Kind, q1.Line, c87.1, q1.Field, q1.Call, (⟨q1.Type_.Kind, q1.Type_.N, q1.Type_.Name⟩ : zI), q1.Kids, q1.Body, q1.Else⟩ : zg)))) fun c134 => zF (zcj c134.2 ([(⟨#[61]⟩ : ByteArray)] : List ByteArray)) (fun x188 => some (.error (x188.1, x188.2, (⟨(3 : UInt8), q1.Line, c87.1, q1.Field, q1.Call, (⟨q1.Type_.Kind, q1.Type_.N, q1.Type_.Name⟩ : zI), ([(⟨c134.1.Kind, c134.1.Num, c134.1.Name, c134.1.Field, c134.1.Op, c134.1.Kids⟩ : zb)] : List zb), q1.Body, q1.Else⟩ : zg)))) fun c184 => zF (zdu c184) (fun x226 => some (.error (x226.1, x226.2, (⟨(3 : UInt8), q1.Line, c87.1, q1.Field, q1.Call, (⟨q1.Type_.Kind, q1.Type_.N, q1.Type_.Name⟩ : zI), ([(⟨c134.1.Kind, c134.1.Num, c134.1.Name, c134.1.Field, c134.1.Op, c134.1.Kids⟩ : zb)] : List zb), q1.Body, q1.Else⟩ : zg)))) fun c222 => (room (([(⟨c134.1.Kind, c134.1.Num, c134.1.Name, c134.1.Field, c134.1.Op, c134.1.Kids⟩ : zb)] : List zb).length + ([(⟨(0 : UInt8), 0, (⟨#[]⟩ : ByteArray), (⟨#[]⟩ : ByteArray), (⟨#[]⟩ : ByteArray), []⟩ : zb)] : List zb).length)).bind fun _ => (zA (([(⟨c134.1.Kind, c134.1.Num, c134.1.Name, c134.1.Field, c134.1.Op, c134.1.Kids⟩ : zb)] : List zb) ++ ([(⟨(0 : UInt8), 0, (⟨#[]⟩ : ByteArray), (⟨#[]⟩ : ByteArray), (⟨#[]⟩ : ByteArray), []⟩ : zb)] : List zb)) (([(⟨c134.1.Kind, c134.1.Num, c134.1.Name, c134.1.Field, c134.1.Op, c134.1.Kids⟩ : zb)] : List zb).length : Int)).bind fun y275 => some (.ok (c222.2, (⟨(3 : UInt8), q1.Line, c87.1, q1.Field, q1.Call, (⟨q1.Type_.Kind, q1.Type_.N, q1.Type_.Name⟩ : zI), ((([(⟨c134.1.Kind, c134.1.Num, c134.1.Name, c134.1.Field, c134.1.Op, c134.1.Kids⟩ : zb)] : List zb) ++ ([(⟨(0 : UInt8), 0, (⟨#[]⟩ : ByteArray), (⟨#[]⟩ : ByteArray), (⟨#[]⟩ : ByteArray), []⟩ : zb)] : List zb)).set (Int.toNat (([(⟨c134.1.Kind, c134.1.Num, c134.1.Name, c134.1.Field, c134.1.Op, c134.1.Kids⟩ : zb)] : List zb).length : Int)) (⟨c222.1.Kind, c222.1.Num, c222.1.Name, c222.1.Field, c222.1.Op, c222.1.Kids⟩ : zb)), q1.Body, q1.Else⟩ : zg))) else (zbK c87.2 4 ([(⟨#[46]⟩ : ByteArray)] : List ByteArray)).bind fun c297 => (if c297.1 = true then zF (zcZ c297.2) (fun x320 => some (.error (x320.1, x320.2, (⟨q1.Kind, q1.Line, c87.1, q1.Field, q1.Call, (⟨q1.Type_.Kind, q1.Type_.N, q1.Type_.Name⟩ : zI), q1.Kids, q1.Body, q1.Else⟩ : zg)))) fun c316 => zF (zcj c316.2 ([(⟨#[61]⟩ : ByteArray)] : List ByteArray)) (fun x362 => some (.error (x362.1, x362.2, (⟨(4 : UInt8), q1.Line, c87.1, c316.1, q1.Call, (⟨q1.Type_.Kind, q1.Type_.N, q1.Type_.Name⟩ : zI), q1.Kids, q1.Body, q1.Else⟩ : zg)))) fun c358 => zF (zdu c358) (fun x398 => some (.error (x398.1, x398.2, (⟨(4 : UInt8), q1.Line, c87.1, c316.1, q1.Call, (⟨q1.Type_.Kind, q1.Type_.N, q1.Type_.Name⟩ : zI), q1.Kids, q1.Body, q1.Else⟩ : zg)))) fun c394 => some (.ok (c394.2, (⟨(4 : UInt8), q1.Line, c87.1, c316.1, q1.Call, (⟨q1.Type_.Kind, q1.Type_.N, q1.Type_.Name⟩ : zI), ([(⟨c394.1.Kind, c394.1.Num, c394.1.Name, c394.1.Field, c394.1.Op, c394.1.Kids⟩ : zb)] : List zb), q1.Body, q1.Else⟩ : zg))) else zF (zcj c297.2 ([(⟨#[61]⟩ : ByteArray)] : List ByteArray)) (fun x450 => some (.error (x450.1, x450.2, (⟨q1.Kind, q1.Line, c87.1, q1.Field, q1.Call, (⟨q1.Type_.Kind, q1.Type_.N, q1.Type_.Name⟩ : zI), q1.Kids, q1.Body, q1.Else⟩ : zg)))) fun c446 => zF (zhE c446 (⟨q1.Kind, q1.Line, c87.1, q1.Field, q1.Call, (⟨q1.Type_.Kind, q1.Type_.N, q1.Type_.Name⟩ : zI), q1.Kids, q1.Body, q1.Else⟩ : zg)) (fun x486 => some (.error (x486.1, x486.2.1, x486.2.2))) fun c482 => some (.ok (c482.1, c482.2)))))
def zei (x412 : List zr) (x414 : Int) (x418 : List zl) (x423 : List zi) (x425 : UInt8) (x426 : Int) (x427 : ByteArray) (x428 : ByteArray) (x429 : ByteArray) (x430 : UInt8) (x431 : Int) (x432 : ByteArray) (x435 : List zb) (x439 : List zg) (x443 : List zg) : Option (Except (Value × zc × zg) (zc × zg)) :=
 zF (zcj (⟨(⟨x412, x414⟩ : zbf), (⟨x418, x423⟩ : zL)⟩ : zc) ([(⟨#[59]⟩ : ByteArray)] : List ByteArray)) (fun x455 => some (.error (x455.1, x455.2, (⟨x425, x426, x427, x428, x429, (⟨x430, x431, x432⟩ : zI), x435, x439, x443⟩ : zg)))) fun c451 => some (.ok (c451, (⟨x425, x426, x427, x428, x429, (⟨x430, x431, x432⟩ : zI), x435, x439, x443⟩ : zg)))
def zg6 (q0 : zc) (q1 : zg) : Option (Except (Value × zc × zg) (zc × zg)) :=
 (zbK q0 3 ([(⟨#[118, 97, 114]⟩ : ByteArray)] : List ByteArray)).bind fun c493 => (if c493.1 = true then zF (zgI c493.2 q1) (fun x516 => some (.error (x516.1, x516.2.1, x516.2.2))) fun c512 => zei c512.1.cursor.tokens c512.1.cursor.at_ c512.1.prog.Structs c512.1.prog.Funcs c512.2.Kind c512.2.Line c512.2.Name c512.2.Field c512.2.Call c512.2.Type_.Kind c512.2.Type_.N c512.2.Type_.Name c512.2.Kids c512.2.Body c512.2.Else else (zbK c493.2 3 ([(⟨#[112, 114, 105, 110, 116]⟩ : ByteArray)] : List ByteArray)).bind fun c578 => (if c578.1 = true then zF (zcj c578.2 ([(⟨#[40]⟩ : ByteArray)] : List ByteArray)) (fun x607 => some (.error (x607.1, x607.2, q1))) fun c603 => zF (zdu c603) (fun x643 => some (.error (x643.1, x643.2, q1))) fun c639 => zF (zcj c639.2 ([(⟨#[41]⟩ : ByteArray)] : List ByteArray)) (fun x693 => some (.error (x693.1, x693.2, (⟨(8 : UInt8), q1.Line, q1.Name, q1.Field, q1.Call, (⟨q1.Type_.Kind, q1.Type_.N, q1.Type_.Name⟩ : zI), ([(⟨c639.1.Kind, c639.1.Num, c639.1.Name, c639.1.Field, c639.1.Op, c639.1.Kids⟩ : zb)] : List zb), q1.Body, q1.Else⟩ : zg)))) fun c689 => zei c689.cursor.tokens c689.cursor.at_ c689.prog.Structs c689.prog.Funcs (8 : UInt8) q1.Line q1.Name q1.Field q1.Call q1.Type_.Kind q1.Type_.N q1.Type_.Name ([(⟨c639.1.Kind, c639.1.Num, c639.1.Name, c639.1.Field, c639.1.Op, c639.1.Kids⟩ : zb)] : List zb) q1.Body q1.Else else (zbK c578.2 3 ([(⟨#[114, 101, 116, 117, 114, 110]⟩ : ByteArray)] : List ByteArray)).bind fun c735 => (if c735.1 = true then (zcR c735.2 4 ([(⟨#[59]⟩ : ByteArray)] : List ByteArray)).bind fun c760 => (if (!c760) = true then zF (zdu c735.2) (fun x769 => some (.error (x769.1, x769.2, (⟨(10 : UInt8), q1.Line, q1.Name, q1.Field, q1.Call, (⟨q1.Type_.Kind, q1.Type_.N, q1.Type_.Name⟩ : zI), q1.Kids, q1.Body, q1.Else⟩ : zg)))) fun c765 => zei c765.2.cursor.tokens c765.2.cursor.at_ c765.2.prog.Structs c765.2.prog.Funcs (10 : UInt8) q1.Line q1.Name q1.Field q1.Call q1.Type_.Kind q1.Type_.N q1.Type_.Name ([(⟨c765.1.Kind, c765.1.Num, c765.1.Name, c765.1.Field, c765.1.Op, c765.1.Kids⟩ : zb)] : List zb) q1.Body q1.Else else zei c735.2.cursor.tokens c735.2.cursor.at_ c735.2.prog.Structs c735.2.prog.Funcs (10 : UInt8) q1.Line q1.Name q1.Field q1.Call q1.Type_.Kind q1.Type_.N q1.Type_.Name q1.Kids q1.Body q1.Else) else zF (zg5 c735.2 q1) (fun x815 => some (.error (x815.1, x815.2.1, x815.2.2))) fun c811 => zei c811.1.cursor.tokens c811.1.cursor.at_ c811.1.prog.Structs c811.1.prog.Funcs c811.2.Kind c811.2.Line c811.2.Name c811.2.Field c811.2.Call c811.2.Type_.Kind c811.2.Type_.N c811.2.Type_.Name c811.2.Kids c811.2.Body c811.2.Else)))
def zhj (rec4 : (List zr) → Int → (List zl) → (List zi) → (List zg) → Option (Except (Value × zc) ((List zg) × zc))) (R_syntax_parser_stmt : zc → Option (Except (Value × zc) (zg × zc))) (x136 : List zr) (x138 : Int) (x142 : List zl) (x147 : List zi) (x152 : List zg) : Option (Except (Value × zc) ((List zg) × zc)) :=
 (zbK (⟨(⟨x136, x138⟩ : zbf), (⟨x142, x147⟩ : zL)⟩ : zc) 4 ([(⟨#[125]⟩ : ByteArray)] : List ByteArray)).bind fun c239 => (if (!c239.1) = true then zF (R_syntax_parser_stmt c239.2) (fun x262 => some (.error (x262.1, x262.2))) fun c258 => (room (2 * (x152.length + 1))).bind fun _ => rec4 c258.2.cursor.tokens c258.2.cursor.at_ c258.2.prog.Structs c258.2.prog.Funcs (x152 ++ [(⟨c258.1.Kind, c258.1.Line, c258.1.Name, c258.1.Field, c258.1.Call, (⟨c258.1.Type_.Kind, c258.1.Type_.N, c258.1.Type_.Name⟩ : zI), c258.1.Kids, c258.1.Body, c258.1.Else⟩ : zg)]) else some (.ok (x152, c239.2)))
def zfX (R_syntax_parser_stmt : zc → Option (Except (Value × zc) (zg × zc))) : Nat → (List zr) → Int → (List zl) → (List zi) → (List zg) → Option (Except (Value × zc) ((List zg) × zc))
 | 0, _, _, _, _, _ => none
 | n + 1, x136, x138, x142, x147, x152 => zhj (zfX R_syntax_parser_stmt n) R_syntax_parser_stmt x136 x138 x142 x147 x152
def zhu (R_syntax_parser_block : zc → Option (Except (Value × zc) ((List zg) × zc))) (R_syntax_parser_stmt : zc → Option (Except (Value × zc) (zg × zc))) (q0 : zc) : Option (Except (Value × zc) ((List zg) × zc)) :=
 zF (zcj q0 ([(⟨#[123]⟩ : ByteArray)] : List ByteArray)) (fun x12 => some (.error (x12.1, x12.2))) fun c8 => zfX R_syntax_parser_stmt big c8.cursor.tokens c8.cursor.at_ c8.prog.Structs c8.prog.Funcs ([])
def zeN (q0 : zc) : Option Int :=
 (if (decide (q0.cursor.at_ < (q0.cursor.tokens.length : Int))) = true then (zA q0.cursor.tokens q0.cursor.at_).bind fun y3 => some y3.Line else some 0)
def ze5 (x451 : List zr) (x453 : Int) (x457 : List zl) (x462 : List zi) (x464 : UInt8) (x465 : Int) (x466 : ByteArray) (x467 : ByteArray) (x468 : ByteArray) (x469 : UInt8) (x470 : Int) (x471 : ByteArray) (x474 : List zb) (x478 : List zg) (x482 : List zg) : Option (Except (Value × zc) (zg × zc)) :=
 some (.ok ((⟨x464, x465, x466, x467, x468, (⟨x469, x470, x471⟩ : zI), x474, x478, x482⟩ : zg), (⟨(⟨x451, x453⟩ : zbf), (⟨x457, x462⟩ : zL)⟩ : zc)))
def zhc (R_syntax_parser_block : zc → Option (Except (Value × zc) ((List zg) × zc))) (R_syntax_parser_stmt : zc → Option (Except (Value × zc) (zg × zc))) (q0 : zc) : Option (Except (Value × zc) (zg × zc)) :=
 (zeN q0).bind fun c3 => (zbK q0 3 ([(⟨#[105, 102]⟩ : ByteArray)] : List ByteArray)).bind fun c490 => (if c490.1 = true then zF (zdu c490.2) (fun x513 => some (.error (x513.1, x513.2))) fun c509 => zF (R_syntax_parser_block c509.2) (fun x557 => some (.error (x557.1, x557.2))) fun c553 => (zbK c553.2 3 ([(⟨#[101, 108, 115, 101]⟩ : ByteArray)] : List ByteArray)).bind fun c600 => (if c600.1 = true then zF (R_syntax_parser_block c600.2) (fun x623 => some (.error (x623.1, x623.2))) fun c619 => ze5 c619.2.cursor.tokens c619.2.cursor.at_ c619.2.prog.Structs c619.2.prog.Funcs (6 : UInt8) c3 (⟨#[]⟩ : ByteArray) (⟨#[]⟩ : ByteArray) (⟨#[]⟩ : ByteArray) (0 : UInt8) 0 (⟨#[]⟩ : ByteArray) ([(⟨c509.1.Kind, c509.1.Num, c509.1.Name, c509.1.Field, c509.1.Op, c509.1.Kids⟩ : zb)] : List zb) c553.1 c619.1 else ze5 c600.2.cursor.tokens c600.2.cursor.at_ c600.2.prog.Structs c600.2.prog.Funcs (6 : UInt8) c3 (⟨#[]⟩ : ByteArray) (⟨#[]⟩ : ByteArray) (⟨#[]⟩ : ByteArray) (0 : UInt8) 0 (⟨#[]⟩ : ByteArray) ([(⟨c509.1.Kind, c509.1.Num, c509.1.Name, c509.1.Field, c509.1.Op, c509.1.Kids⟩ : zb)] : List zb) c553.1 ([])) else (zbK c490.2 3 ([(⟨#[102, 111, 114]⟩ : ByteArray)] : List ByteArray)).bind fun c676 => (if c676.1 = true then zF (zdu c676.2) (fun x699 => some (.error (x699.1, x699.2))) fun c695 => zF (R_syntax_parser_block c695.2) (fun x743 => some (.error (x743.1, x743.2))) fun c739 => ze5 c739.2.cursor.tokens c739.2.cursor.at_ c739.2.prog.Structs c739.2.prog.Funcs (7 : UInt8) c3 (⟨#[]⟩ : ByteArray) (⟨#[]⟩ : ByteArray) (⟨#[]⟩ : ByteArray) (0 : UInt8) 0 (⟨#[]⟩ : ByteArray) ([(⟨c695.1.Kind, c695.1.Num, c695.1.Name, c695.1.Field, c695.1.Op, c695.1.Kids⟩ : zb)] : List zb) c739.1 ([]) else zF (zg6 c676.2 (⟨(0 : UInt8), c3, (⟨#[]⟩ : ByteArray), (⟨#[]⟩ : ByteArray), (⟨#[]⟩ : ByteArray), (⟨(0 : UInt8), 0, (⟨#[]⟩ : ByteArray)⟩ : zI), [], [], []⟩ : zg)) (fun x788 => some (.error (x788.1, x788.2.1))) fun c784 => ze5 c784.1.cursor.tokens c784.1.cursor.at_ c784.1.prog.Structs c784.1.prog.Funcs c784.2.Kind c784.2.Line c784.2.Name c784.2.Field c784.2.Call c784.2.Type_.Kind c784.2.Type_.N c784.2.Type_.Name c784.2.Kids c784.2.Body c784.2.Else))
def zcw : Nat → (zc → Option (Except (Value × zc) ((List zg) × zc))) × (zc → Option (Except (Value × zc) (zg × zc)))
 | 0 => (fun _ => none, fun _ => none)
 | gn + 1 => (zhu ((zcw gn).1) ((zcw gn).2), zhc ((zcw gn).1) ((zcw gn).2))
def zkr (q0 : zc) : Option (Except (Value × zc) ((List zg) × zc)) := (zcw big).1 q0
def zf0 (c2 : Int) (c49 : ByteArray × zc) (x573 : List zr) (x575 : Int) (x579 : List zl) (x584 : List zi) (x589 : List zbh) : Option (Except (Value × zc) (zc)) :=
 zF (zfs (⟨(⟨x573, x575⟩ : zbf), (⟨x579, x584⟩ : zL)⟩ : zc) false) (fun x595 => some (.error (x595.1, x595.2))) fun c591 => zF (zkr c591.2) (fun x631 => some (.error (x631.1, x631.2))) fun c627 => (room (c627.2.prog.Funcs.length + ([(⟨c49.1, c2, x589, (⟨c591.1.Kind, c591.1.N, c591.1.Name⟩ : zI), c627.1⟩ : zi)] : List zi).length)).bind fun _ => some (.ok (⟨(⟨c627.2.cursor.tokens, c627.2.cursor.at_⟩ : zbf), (⟨c627.2.prog.Structs, (c627.2.prog.Funcs ++ ([(⟨c49.1, c2, x589, (⟨c591.1.Kind, c591.1.N, c591.1.Name⟩ : zI), c627.1⟩ : zi)] : List zi))⟩ : zL)⟩ : zc))
def zgi (rec10 : (List zr) → Int → (List zl) → (List zi) → (List zbh) → Option (Except (Value × zc) (zc))) (c2 : Int) (c49 : ByteArray × zc) (x860 : List zr) (x862 : Int) (x866 : List zl) (x871 : List zi) (x876 : List zbh) : Option (Except (Value × zc) (zc)) :=
 (zbK (⟨(⟨x860, x862⟩ : zbf), (⟨x866, x871⟩ : zL)⟩ : zc) 4 ([(⟨#[44]⟩ : ByteArray)] : List ByteArray)).bind fun c997 => (if c997.1 = true then zF (zga c997.2) (fun x1020 => some (.error (x1020.1, x1020.2))) fun c1016 => (room (x876.length + ([(⟨c1016.1.Name, (⟨c1016.1.Type_.Kind, c1016.1.Type_.N, c1016.1.Type_.Name⟩ : zI)⟩ : zbh)] : List zbh).length)).bind fun _ => rec10 c1016.2.cursor.tokens c1016.2.cursor.at_ c1016.2.prog.Structs c1016.2.prog.Funcs (x876 ++ ([(⟨c1016.1.Name, (⟨c1016.1.Type_.Kind, c1016.1.Type_.N, c1016.1.Type_.Name⟩ : zI)⟩ : zbh)] : List zbh)) else zF (zcj c997.2 ([(⟨#[41]⟩ : ByteArray)] : List ByteArray)) (fun x1071 => some (.error (x1071.1, x1071.2))) fun c1067 => zf0 c2 c49 c1067.cursor.tokens c1067.cursor.at_ c1067.prog.Structs c1067.prog.Funcs x876)
def zf4 (c2 : Int) (c49 : ByteArray × zc) : Nat → (List zr) → Int → (List zl) → (List zi) → (List zbh) → Option (Except (Value × zc) (zc))
 | 0, _, _, _, _, _ => none
 | n + 1, x860, x862, x866, x871, x876 => zgi (zf4 c2 c49 n) c2 c49 x860 x862 x866 x871 x876
def zgo (q0 : zc) : Option (Except (Value × zc) (zc)) :=
 (zeN q0).bind fun c2 => zF (zc9 q0 3 ([(⟨#[102, 117, 110, 99]⟩ : ByteArray)] : List ByteArray)) (fun x17 => some (.error (x17.1, x17.2))) fun c13 => zF (zcZ c13.2) (fun x53 => some (.error (x53.1, x53.2))) fun c49 => zF (zcj c49.2 ([(⟨#[40]⟩ : ByteArray)] : List ByteArray)) (fun x95 => some (.error (x95.1, x95.2))) fun c91 => (zbK c91 4 ([(⟨#[41]⟩ : ByteArray)] : List ByteArray)).bind fun c133 => (if (!c133.1) = true then zF (zga c133.2) (fun x688 => some (.error (x688.1, x688.2))) fun c684 => (room (([] : List zbh).length + ([(⟨c684.1.Name, (⟨c684.1.Type_.Kind, c684.1.Type_.N, c684.1.Type_.Name⟩ : zI)⟩ : zbh)] : List zbh).length)).bind fun _ => zf4 c2 c49 big c684.2.cursor.tokens c684.2.cursor.at_ c684.2.prog.Structs c684.2.prog.Funcs (([] : List zbh) ++ ([(⟨c684.1.Name, (⟨c684.1.Type_.Kind, c684.1.Type_.N, c684.1.Type_.Name⟩ : zI)⟩ : zbh)] : List zbh)) else zf0 c2 c49 c133.2.cursor.tokens c133.2.cursor.at_ c133.2.prog.Structs c133.2.prog.Funcs ([]))
def zfg (rec4 : (List zr) → Int → (List zl) → (List zi) → Option (Except (Value × zc × Bool) (zc × Bool))) (qf0 : Bool) (x112 : List zr) (x114 : Int) (x118 : List zl) (x123 : List zi) : Option (Except (Value × zc × Bool) (zc × Bool)) :=
 (if (decide (x114 < (x112.length : Int))) = true then (zbK (⟨(⟨x112, x114⟩ : zbf), (⟨x118, x123⟩ : zL)⟩ : zc) 3 ([(⟨#[116, 121, 112, 101]⟩ : ByteArray)] : List ByteArray)).bind fun c231 => (if c231.1 = true then zF (zhJ c231.2) (fun x254 => some (.error (x254.1, x254.2, qf0))) fun c250 => rec4 c250.cursor.tokens c250.cursor.at_ c250.prog.Structs c250.prog.Funcs else zF (zgo c231.2) (fun x290 => some (.error (x290.1, x290.2, qf0))) fun c286 => rec4 c286.cursor.tokens c286.cursor.at_ c286.prog.Structs c286.prog.Funcs) else some (.ok ((⟨(⟨x112, x114⟩ : zbf), (⟨x118, x123⟩ : zL)⟩ : zc), true)))
def zeo (qf0 : Bool) : Nat → (List zr) → Int → (List zl) → (List zi) → Option (Except (Value × zc × Bool) (zc × Bool))
 | 0, _, _, _, _ => none
 | n + 1, x112, x114, x118, x123 => zfg (zeo qf0 n) qf0 x112 x114 x118 x123
def zgT (q0 : zc) (qf0 : Bool) : Option (Except (Value × zc × Bool) (zc × Bool)) :=
 zeo qf0 big q0.cursor.tokens q0.cursor.at_ q0.prog.Structs q0.prog.Funcs
def zgW : Value → Bool
 | .iface t (.agg cs) => decide (t = 92) && decide (cs.size = 0)
 | _ => false
def zit (q0 : zc) : Option (Bool × zc) :=
 match zgT q0 false with
  | none => none
  | some (.ok c) => some (c.2, c.1)
  | some (.error c) => if zgW c.1 = true then some (false, c.2.1) else none
def zgS (rec4 : Int → Int → Option Int) (R_syntax_depth : zb → Option Int) (p0 : zb) (x18 : Int) (x19 : Int) : Option Int :=
 (if (decide (x19 < (p0.Kids.length : Int))) = true then (zA p0.Kids x19).bind fun y37 => (R_syntax_depth y37).bind fun c47 => rec4 (zeF x18 c47) (IntKind.i64.wrap (x19 + 1)) else some (IntKind.i64.wrap (x18 + 1)))
def ze3 (R_syntax_depth : zb → Option Int) (p0 : zb) : Nat → Int → Int → Option Int
 | 0, _, _ => none
 | n + 1, x18, x19 => zgS (ze3 R_syntax_depth p0 n) R_syntax_depth p0 x18 x19
def zkf (R_syntax_depth : zb → Option Int) (p0 : zb) : Option Int :=
 ze3 R_syntax_depth p0 big 0 0
def zdY : Nat → (zb → Option Int)
 | 0 => fun _ => none
 | gn + 1 => zkf (zdY gn)
def zkV (p0 : zb) : Option Int := (zdY big) p0
def zhr (p0 : zb) : Option Bool :=
 (zkV p0).bind fun c3 => some (decide (c3 > 40))
def zgR (rec4 : Int → Option Int) (p0 : (List zb)) (x18 : Int) : Option Int :=
 (if (decide (x18 < (p0.length : Int))) = true then (zA p0 x18).bind fun y36 => (zhr y36).bind fun c45 => (if c45 = true then some x18 else rec4 (IntKind.i64.wrap (x18 + 1))) else some (-1))
def ze9 (p0 : (List zb)) : Nat → Int → Option Int
 | 0, _ => none
 | n + 1, x18 => zgR (ze9 p0 n) p0 x18
def zhT (p0 : (List zb)) : Option Int :=
 ze9 p0 big 0
def zhp (p0 : (List zb)) : Option Bool :=
 (zhT p0).bind fun c3 => some (decide (c3 ≥ 0))
def zgf (R_syntax_deep : (List zg) → Int → Option Bool) (p0 : zg) (qf0 : Int) : Option Bool :=
 ((if (qf0 == 0) = true then some true else (zhp p0.Kids).bind fun c6 => some c6)).bind fun c3 => ((if c3 = true then some true else (R_syntax_deep p0.Body (IntKind.i64.wrap (qf0 - 1))).bind fun c13 => some c13)).bind fun c10 => ((if c10 = true then some true else (R_syntax_deep p0.Else (IntKind.i64.wrap (qf0 - 1))).bind fun c20 => some c20)).bind fun c17 => some c17
def zht (rec4 : Int → Option Int) (R_syntax_deep : (List zg) → Int → Option Bool) (p0 : (List zg)) (q1_0 : Int) (x26 : Int) : Option Int :=
 (if (decide (x26 < (p0.length : Int))) = true then (zA p0 x26).bind fun y52 => (zgf R_syntax_deep y52 q1_0).bind fun c69 => (if c69 = true then some x26 else rec4 (IntKind.i64.wrap (x26 + 1))) else some (-1))
def zfm (R_syntax_deep : (List zg) → Int → Option Bool) (p0 : (List zg)) (q1_0 : Int) : Nat → Int → Option Int
 | 0, _ => none
 | n + 1, x26 => zht (zfm R_syntax_deep p0 q1_0 n) R_syntax_deep p0 q1_0 x26
def ziI (R_syntax_deep : (List zg) → Int → Option Bool) (p0 : (List zg)) (q1_0 : Int) : Option Int :=
 zfm R_syntax_deep p0 q1_0 big 0
def zgy (R_syntax_deep : (List zg) → Int → Option Bool) (p0 : (List zg)) (q1_0 : Int) : Option Bool :=
 (ziI R_syntax_deep p0 q1_0).bind fun c3 => some (decide (c3 ≥ 0))
def zkv (R_syntax_deep : (List zg) → Int → Option Bool) (p0 : (List zg)) (p1 : Int) : Option Bool :=
 (zgy R_syntax_deep p0 p1).bind fun c6 => some c6
def zdd : Nat → ((List zg) → Int → Option Bool)
 | 0 => fun _ _ => none
 | gn + 1 => zkv (zdd gn)
def zkg (p0 : (List zg)) (p1 : Int) : Option Bool := (zdd big) p0 p1
def zio (p0 : zi) : Option Bool :=
 (zkg p0.Body 40).bind fun c3 => some c3
def zgQ (rec4 : Int → Option Int) (p0 : (List zi)) (x22 : Int) : Option Int :=
 (if (decide (x22 < (p0.length : Int))) = true then (zA p0 x22).bind fun y44 => (zio y44).bind fun c57 => (if c57 = true then some x22 else rec4 (IntKind.i64.wrap (x22 + 1))) else some (-1))
def ze1 (p0 : (List zi)) : Nat → Int → Option Int
 | 0, _ => none
 | n + 1, x22 => zgQ (ze1 p0 n) p0 x22
def zh3 (p0 : (List zi)) : Option Int :=
 ze1 p0 big 0
def zfM (p0 : (List zi)) : Option Bool :=
 (zh3 p0).bind fun c3 => some (decide (c3 ≥ 0))
def zdM (p0 : (List zr)) : Option (zL × Int × Int) :=
 (zit (⟨(⟨p0, 0⟩ : zbf), (⟨([] : List zl), ([] : List zi)⟩ : zL)⟩ : zc)).bind fun c6 => (if (!c6.1) = true then some ((⟨[], []⟩ : zL), c6.2.cursor.at_, 7) else (zfM c6.2.prog.Funcs).bind fun c27 => (if c27 = true then some ((⟨[], []⟩ : zL), 0, 11) else some (c6.2.prog, 0, 0)))
def zkd (rec16 : Int → Option Int) (rec14 : Int → Option Int) (p0 : (List UInt8)) (x120 : Int) : Option Int :=
 ((if (decide (x120 < (p0.length : Int))) = true then (zA p0 x120).bind fun y134 => some ((y134.toNat : Int) != 10) else some false)).bind fun c131 => (if c131 = true then rec16 (IntKind.i64.wrap (x120 + 1)) else rec14 x120)
def zig (rec14 : Int → Option Int) (p0 : (List UInt8)) : Nat → Int → Option Int
 | 0, _ => none
 | n + 1, x120 => zkd (zig rec14 p0 n) rec14 p0 x120
def zkF (rec14 : Int → Option Int) (p0 : (List UInt8)) (x48 : Int) : Option Int :=
 (if (decide (x48 < (p0.length : Int))) = true then (zA p0 x48).bind fun y96 => (if (((((y96.toNat : Int) == 32) || ((y96.toNat : Int) == 9)) || ((y96.toNat : Int) == 13)) || ((y96.toNat : Int) == 10)) = true then rec14 (IntKind.i64.wrap (x48 + 1)) else ((if (((y96.toNat : Int) == 47) && (decide ((IntKind.i64.wrap (x48 + 1)) < (p0.length : Int)))) = true then (zA p0 (IntKind.i64.wrap (x48 + 1))).bind fun y105 => some ((y105.toNat : Int) == 47) else some false)).bind fun c102 => (if c102 = true then zig rec14 p0 big x48 else some x48)) else some x48)
def zff (p0 : (List UInt8)) : Nat → Int → Option Int
 | 0, _ => none
 | n + 1, x48 => zkF (zff p0 n) p0 x48
def ziw (p0 : (List UInt8)) (p1 : Int) : Option Int :=
 zff p0 big p1
def zhI (p0 : Int) : Option Bool :=
 ((if ((decide (p0 ≥ 97)) && (decide (p0 ≤ 122))) = true then some true else (if (decide (p0 ≥ 65)) = true then some (decide (p0 ≤ 90)) else some false))).bind fun c2 => some (c2 || (p0 == 95))
def zgl (p0 : Int) : Option Bool :=
 some ((decide (p0 ≥ 48)) && (decide (p0 ≤ 57)))
def zjX (rec4 : Int → Option Bool) (p0 : (List ByteArray)) (p1 : ByteArray) (x10 : Int) : Option Bool :=
 (if (decide (x10 < (p0.length : Int))) = true then (zA p0 x10).bind fun y20 => (if (zbn y20 p1) = true then some true else rec4 (IntKind.i64.wrap (x10 + 1))) else some false)
def ziA (p0 : (List ByteArray)) (p1 : ByteArray) : Nat → Int → Option Bool
 | 0, _ => none
 | n + 1, x10 => zjX (ziA p0 p1 n) p0 p1 x10
def zkt (p0 : (List ByteArray)) (p1 : ByteArray) : Option Bool :=
 ziA p0 p1 big 0
def zjZ  : Option (List ByteArray) :=
 some ([(⟨#[116, 121, 112, 101]⟩ : ByteArray), (⟨#[115, 116, 114, 117, 99, 116]⟩ : ByteArray), (⟨#[102, 117, 110, 99]⟩ : ByteArray), (⟨#[118, 97, 114]⟩ : ByteArray), (⟨#[105, 102]⟩ : ByteArray), (⟨#[101, 108, 115, 101]⟩ : ByteArray), (⟨#[102, 111, 114]⟩ : ByteArray), (⟨#[114, 101, 116, 117, 114, 110]⟩ : ByteArray), (⟨#[112, 114, 105, 110, 116]⟩ : ByteArray), (⟨#[105, 110, 112, 117, 116]⟩ : ByteArray), (⟨#[105, 110, 116]⟩ : ByteArray), (⟨#[98, 111, 111, 108]⟩ : ByteArray), (⟨#[116, 114, 117, 101]⟩ : ByteArray), (⟨#[102, 97, 108, 115, 101]⟩ : ByteArray)] : List ByteArray)
def zjF (rec4 : Int → Int → Option (Int × Bool)) (p0 : ByteArray) (x11 : Int) (x12 : Int) : Option (Int × Bool) :=
 (if (decide (x12 < (p0.size : Int))) = true then (ziv p0 x12).bind fun y24 => (if (decide (x11 > (IntKind.i64.wrap (Int.tdiv (IntKind.i64.wrap (9223372036854775807 - (IntKind.i64.wrap (IntKind.u8.wrap ((y24.toNat : Int) - 48))))) 10)))) = true then some (0, false) else rec4 (IntKind.i64.wrap ((IntKind.i64.wrap (10 * x11)) + (IntKind.i64.wrap (IntKind.u8.wrap ((y24.toNat : Int) - 48))))) (IntKind.i64.wrap (x12 + 1))) else ((if ((p0.size : Int) == 1) = true then some true else (ziv p0 0).bind fun y30 => some ((y30.toNat : Int) != 48))).bind fun c27 => some (x11, c27))
def ziX (p0 : ByteArray) : Nat → Int → Int → Option (Int × Bool)
 | 0, _, _ => none
 | n + 1, x11, x12 => zjF (ziX p0 n) p0 x11 x12
def zkR (p0 : ByteArray) : Option (Int × Bool) :=
 ziX p0 big 0 0
def zk8  : Option (List ByteArray) :=
 some ([(⟨#[38, 38]⟩ : ByteArray), (⟨#[124, 124]⟩ : ByteArray), (⟨#[61, 61]⟩ : ByteArray), (⟨#[33, 61]⟩ : ByteArray), (⟨#[60, 61]⟩ : ByteArray), (⟨#[62, 61]⟩ : ByteArray), (⟨#[40]⟩ : ByteArray), (⟨#[41]⟩ : ByteArray), (⟨#[123]⟩ : ByteArray), (⟨#[125]⟩ : ByteArray), (⟨#[91]⟩ : ByteArray), (⟨#[93]⟩ : ByteArray), (⟨#[44]⟩ : ByteArray), (⟨#[59]⟩ : ByteArray), (⟨#[46]⟩ : ByteArray), (⟨#[61]⟩ : ByteArray), (⟨#[43]⟩ : ByteArray), (⟨#[45]⟩ : ByteArray), (⟨#[42]⟩ : ByteArray), (⟨#[47]⟩ : ByteArray), (⟨#[37]⟩ : ByteArray), (⟨#[60]⟩ : ByteArray), (⟨#[62]⟩ : ByteArray), (⟨#[33]⟩ : ByteArray)] : List ByteArray)
def zkj (rec8 : Int → Option (zr × Bool)) (p0 : (List UInt8)) (p1 : Int) (x58 : Int) : Option (zr × Bool) :=
 ((if (decide (x58 < (p0.length : Int))) = true then (zA p0 x58).bind fun y107 => (zhI (y107.toNat : Int)).bind fun c112 => (if c112 = true then some true else (zA p0 x58).bind fun y117 => (zgl (y117.toNat : Int)).bind fun c122 => some c122) else some false)).bind fun c104 => (if c104 = true then rec8 (IntKind.i64.wrap (x58 + 1)) else (zdp p0 p1 x58).bind fun y127 => (zjZ ).bind fun c132 => (zkt c132 (⟨y127.toArray⟩ : ByteArray)).bind fun c143 => (if c143 = true then some ((⟨(3 : UInt8), (⟨y127.toArray⟩ : ByteArray), 0, 0⟩ : zr), true) else some ((⟨(1 : UInt8), (⟨y127.toArray⟩ : ByteArray), 0, 0⟩ : zr), (decide (((⟨y127.toArray⟩ : ByteArray).size : Int) ≤ 24)))))
def zhW (p0 : (List UInt8)) (p1 : Int) : Nat → Int → Option (zr × Bool)
 | 0, _ => none
 | n + 1, x58 => zkj (zhW p0 p1 n) p0 p1 x58
def zkW (rec10 : Int → Option (zr × Bool)) (p0 : (List UInt8)) (p1 : Int) (x188 : Int) : Option (zr × Bool) :=
 ((if (decide (x188 < (p0.length : Int))) = true then (zA p0 x188).bind fun y228 => (zgl (y228.toNat : Int)).bind fun c233 => some c233 else some false)).bind fun c225 => (if c225 = true then rec10 (IntKind.i64.wrap (x188 + 1)) else (zdp p0 p1 x188).bind fun y238 => (zkR (⟨y238.toArray⟩ : ByteArray)).bind fun c243 => ((if c243.2 = true then (if (x188 == (p0.length : Int)) = true then some true else (zA p0 x188).bind fun y251 => (zhI (y251.toNat : Int)).bind fun c256 => some (!c256)) else some false)).bind fun c247 => some ((⟨(2 : UInt8), (⟨y238.toArray⟩ : ByteArray), c243.1, 0⟩ : zr), c247))
def zhQ (p0 : (List UInt8)) (p1 : Int) : Nat → Int → Option (zr × Bool)
 | 0, _ => none
 | n + 1, x188 => zkW (zhQ p0 p1 n) p0 p1 x188
def zk0 (rec12 : (List ByteArray) → Int → Option (zr × Bool)) (p0 : (List UInt8)) (p1 : Int) (x315 : List ByteArray) (x317 : Int) : Option (zr × Bool) :=
 (if (decide (x317 < (x315.length : Int))) = true then (zA x315 x317).bind fun y358 => ((if (decide ((IntKind.i64.wrap (p1 + (y358.size : Int))) ≤ (p0.length : Int))) = true then (zA x315 x317).bind fun y368 => (zdp p0 p1 (IntKind.i64.wrap (p1 + (y368.size : Int)))).bind fun y375 => (zA x315 x317).bind fun y380 => some (zbn (⟨y375.toArray⟩ : ByteArray) y380) else some false)).bind fun c365 => (if c365 = true then (zA x315 x317).bind fun y388 => some ((⟨(4 : UInt8), y388, 0, 0⟩ : zr), true) else rec12 x315 (IntKind.i64.wrap (x317 + 1))) else some ((⟨(0 : UInt8), (⟨#[]⟩ : ByteArray), 0, 0⟩ : zr), false))
def zi1 (p0 : (List UInt8)) (p1 : Int) : Nat → (List ByteArray) → Int → Option (zr × Bool)
 | 0, _, _ => none
 | n + 1, x315, x317 => zk0 (zi1 p0 p1 n) p0 p1 x315 x317
def zkU (p0 : (List UInt8)) (p1 : Int) : Option (zr × Bool) :=
 (zA p0 p1).bind fun y4 => (zhI (y4.toNat : Int)).bind fun c9 => (if c9 = true then zhW p0 p1 big p1 else (zgl (y4.toNat : Int)).bind fun c148 => (if c148 = true then zhQ p0 p1 big p1 else (zk8 ).bind fun c260 => zi1 p0 p1 big c260 0))
def zjK (rec16 : (List zr) → Int → Int → Option ((List zr) × Int × Int)) (rec14 : (List zr) → Int → Int → Int → Option ((List zr) × Int × Int)) (p0 : (List UInt8)) (x87 : Int) (x200 : List zr) (x202 : Int) (x203 : Int) : Option ((List zr) × Int × Int) :=
 (if (decide (x203 < x87)) = true then (zA p0 x203).bind fun y228 => (if ((y228.toNat : Int) == 10) = true then rec16 x200 (IntKind.i64.wrap (x202 + 1)) (IntKind.i64.wrap (x203 + 1)) else rec16 x200 x202 (IntKind.i64.wrap (x203 + 1))) else (zkU p0 x87).bind fun c234 => (if (!c234.2) = true then some ([], x202, 6) else (room (x200.length + 1)).bind fun _ => (ziw p0 (IntKind.i64.wrap (x87 + (c234.1.Text.size : Int)))).bind fun c245 => rec14 (x200 ++ [(⟨c234.1.Kind, c234.1.Text, c234.1.Num, x202⟩ : zr)]) x202 x203 c245))
def zix (rec14 : (List zr) → Int → Int → Int → Option ((List zr) × Int × Int)) (p0 : (List UInt8)) (x87 : Int) : Nat → (List zr) → Int → Int → Option ((List zr) × Int × Int)
 | 0, _, _, _ => none
 | n + 1, x200, x202, x203 => zjK (zix rec14 p0 x87 n) rec14 p0 x87 x200 x202 x203
def zkQ (rec14 : (List zr) → Int → Int → Int → Option ((List zr) × Int × Int)) (p0 : (List UInt8)) (x83 : List zr) (x85 : Int) (x86 : Int) (x87 : Int) : Option ((List zr) × Int × Int) :=
 (if (decide (x87 < (p0.length : Int))) = true then zix rec14 p0 x87 big x83 x85 x86 else some (x83, 0, 0))
def zfq (p0 : (List UInt8)) : Nat → (List zr) → Int → Int → Int → Option ((List zr) × Int × Int)
 | 0, _, _, _, _ => none
 | n + 1, x83, x85, x86, x87 => zkQ (zfq p0 n) p0 x83 x85 x86 x87
def zk1 (p0 : (List UInt8)) : Option ((List zr) × Int × Int) :=
 (if (decide ((p0.length : Int) > 16384)) = true then some ([], 0, 11) else (ziw p0 0).bind fun c3 => zfq p0 big ([]) 1 0 c3)
def ziZ (p0 : ByteArray) : Option (List zr) :=
 (zk1 (p0.data.toList)).bind fun c6 => some c6.1
def zey  : Option Bool :=
 (ziZ (⟨#[102, 117, 110, 99, 32, 109, 97, 105, 110, 40, 41, 32, 123, 32, 120, 32, 61, 32, 49, 32, 45, 32, 50, 32, 45, 32, 51, 32, 42, 32, 45, 121, 59, 32, 125]⟩ : ByteArray)).bind fun c1 => (zdM c1).bind fun c12 => (ziZ (⟨#[102, 117, 110, 99, 32, 109, 97, 105, 110, 40, 41, 32, 123, 32, 120, 32, 61, 32, 102, 40, 49, 41, 32, 43, 32, 50, 59, 32, 125]⟩ : ByteArray)).bind fun c25 => (zdM c25).bind fun c36 => ((if (((c12.2.2 != 0) || (c12.2.1 != 0)) || ((c12.1.Funcs.length : Int) != 1)) = true then some true else (zA c12.1.Funcs 0).bind fun y52 => some ((y52.Body.length : Int) != 1))).bind fun c49 => ((if c49 = true then some true else (zA c12.1.Funcs 0).bind fun y68 => (zA y68.Body 0).bind fun y81 => some ((y81.Kids.length : Int) != 1))).bind fun c65 => (if c65 = true then some false else (zA c12.1.Funcs 0).bind fun y99 => (zA y99.Body 0).bind fun y112 => (zA y112.Kids 0).bind fun y129 => ((if ((zbn y129.Op (⟨#[45]⟩ : ByteArray)) && ((y129.Kids.length : Int) == 2)) = true then (zA y129.Kids 0).bind fun y142 => some (zbn y142.Op (⟨#[45]⟩ : ByteArray)) else some false)).bind fun c139 => ((if c139 = true then (zA y129.Kids 1).bind fun y154 => some (zbn y154.Op (⟨#[42]⟩ : ByteArray)) else some false)).bind fun c151 => some ((c151 && (c36.2.1 == 11)) && (c36.2.2 == 7)))
def zjL (rec4 : Int → Int → Option Int) (R_ref12_Depth : zb → Option Int) (p0 : zb) (x17 : Int) (x18 : Int) : Option Int :=
 (if (decide (x18 < (p0.Kids.length : Int))) = true then (zA p0.Kids x18).bind fun y35 => (R_ref12_Depth y35).bind fun c44 => rec4 (zeF x17 c44) (IntKind.i64.wrap (x18 + 1)) else some (IntKind.i64.wrap (x17 + 1)))
def zg9 (R_ref12_Depth : zb → Option Int) (p0 : zb) : Nat → Int → Int → Option Int
 | 0, _, _ => none
 | n + 1, x17, x18 => zjL (zg9 R_ref12_Depth p0 n) R_ref12_Depth p0 x17 x18
def znT (R_ref12_Depth : zb → Option Int) (p0 : zb) : Option Int :=
 zg9 R_ref12_Depth p0 big 0 0
def zgE : Nat → (zb → Option Int)
 | 0 => fun _ => none
 | gn + 1 => znT (zgE gn)
def zm2 (p0 : zb) : Option Int := (zgE big) p0
def zkb (rec16 : Int → Option Int) (rec14 : Int → Int → Option Int) (p0 : (List zg)) (x194 : Int) (x195 : Int) (c424 : Int) (c428 : Int) (x481 : Int) : Option Int :=
 (zA p0 x195).bind fun y532 => (if (decide (x481 < (y532.Kids.length : Int))) = true then (zA p0 x195).bind fun y550 => (zA y550.Kids x481).bind fun y567 => (zm2 y567).bind fun c576 => (if (decide (c576 > 40)) = true then some 41 else rec16 (IntKind.i64.wrap (x481 + 1))) else rec14 (zeF (zeF x194 (IntKind.i64.wrap (1 + c424))) (IntKind.i64.wrap (1 + c428))) (IntKind.i64.wrap (x195 + 1)))
def zgC (rec14 : Int → Int → Option Int) (p0 : (List zg)) (x194 : Int) (x195 : Int) (c424 : Int) (c428 : Int) : Nat → Int → Option Int
 | 0, _ => none
 | n + 1, x481 => zkb (zgC rec14 p0 x194 x195 c424 c428 n) rec14 p0 x194 x195 c424 c428 x481
def zj4 (rec14 : Int → Int → Option Int) (R_ref12_deepest : (List zg) → Option Int) (p0 : (List zg)) (x194 : Int) (x195 : Int) : Option Int :=
 (if (decide (x195 < (p0.length : Int))) = true then (zA p0 x195).bind fun y390 => (zA p0 x195).bind fun y407 => (R_ref12_deepest y390.Body).bind fun c424 => (R_ref12_deepest y407.Else).bind fun c428 => zgC rec14 p0 x194 x195 c424 c428 big 0 else some x194)
def zfT (R_ref12_deepest : (List zg) → Option Int) (p0 : (List zg)) : Nat → Int → Int → Option Int
 | 0, _, _ => none
 | n + 1, x194, x195 => zj4 (zfT R_ref12_deepest p0 n) R_ref12_deepest p0 x194 x195
def zoP (R_ref12_deepest : (List zg) → Option Int) (p0 : (List zg)) : Option Int :=
 zfT R_ref12_deepest p0 big 0 0
def zjp : Nat → ((List zg) → Option Int)
 | 0 => fun _ => none
 | gn + 1 => zoP (zjp gn)
def zmJ (p0 : (List zg)) : Option Int := (zjp big) p0
def zjt (rec4 : Int → Option Bool) (p0 : zL) (x22 : Int) : Option Bool :=
 (if (decide (x22 < (p0.Funcs.length : Int))) = true then (zA p0.Funcs x22).bind fun y44 => (zmJ y44.Body).bind fun c57 => (if (decide (c57 > 40)) = true then some true else rec4 (IntKind.i64.wrap (x22 + 1))) else some false)
def zhP (p0 : zL) : Nat → Int → Option Bool
 | 0, _ => none
 | n + 1, x22 => zjt (zhP p0 n) p0 x22
def zl9 (p0 : zL) : Option Bool :=
 zhP p0 big 0
def zbk (q0 : zq) (p1 : Int) (p2 : ByteArray) : Option Bool :=
 ((if ((!q0.Failed) && (decide (q0.At < (q0.L.length : Int)))) = true then (zA q0.L q0.At).bind fun y7 => some ((y7.Kind.toNat : Int) == p1) else some false)).bind fun c4 => ((if c4 = true then (if (zbn p2 (⟨#[]⟩ : ByteArray)) = true then some true else (zA q0.L q0.At).bind fun y16 => some (zbn y16.Text p2)) else some false)).bind fun c12 => some c12
def zdW (q0 : zq) (p1 : Int) (p2 : ByteArray) : Option (zr × zq) :=
 (zbk q0 p1 p2).bind fun c5 => (if (!c5) = true then some ((⟨(0 : UInt8), (⟨#[]⟩ : ByteArray), 0, 0⟩ : zr), (⟨q0.L, q0.At, true⟩ : zq)) else (zA q0.L (IntKind.i64.wrap ((IntKind.i64.wrap (q0.At + 1)) - 1))).bind fun y10 => some (y10, (⟨q0.L, (IntKind.i64.wrap (q0.At + 1)), q0.Failed⟩ : zq)))
def zcX (q0 : zq) : Option (ByteArray × zq) :=
 (zdW q0 1 (⟨#[]⟩ : ByteArray)).bind fun c2 => some (c2.1.Text, c2.2)
def zdo (q0 : zq) (p1 : ByteArray) : Option zq :=
 (zdW q0 3 p1).bind fun c3 => some c3.2
def zbA (q0 : zq) (p1 : ByteArray) : Option zq :=
 (zdW q0 4 p1).bind fun c3 => some c3.2
def zg0 (q0 : zq) : Option Int :=
 (if (decide (q0.At < (q0.L.length : Int))) = true then (zA q0.L q0.At).bind fun y3 => some y3.Line else some 0)
def zep (q0 : zq) (p1 : Bool) : Option (zI × zq) :=
 (zbk q0 3 (⟨#[105, 110, 116]⟩ : ByteArray)).bind fun c4 => (if c4 = true then some ((⟨(1 : UInt8), 0, (⟨#[]⟩ : ByteArray)⟩ : zI), (⟨q0.L, (IntKind.i64.wrap (q0.At + 1)), q0.Failed⟩ : zq)) else (zbk q0 3 (⟨#[98, 111, 111, 108]⟩ : ByteArray)).bind fun c9 => (if c9 = true then some ((⟨(2 : UInt8), 0, (⟨#[]⟩ : ByteArray)⟩ : zI), (⟨q0.L, (IntKind.i64.wrap (q0.At + 1)), q0.Failed⟩ : zq)) else (zbk q0 4 (⟨#[91]⟩ : ByteArray)).bind fun c14 => (if c14 = true then (zdW (⟨q0.L, (IntKind.i64.wrap (q0.At + 1)), q0.Failed⟩ : zq) 2 (⟨#[]⟩ : ByteArray)).bind fun c19 => (zbA c19.2 (⟨#[93]⟩ : ByteArray)).bind fun c27 => (zdo c27 (⟨#[105, 110, 116]⟩ : ByteArray)).bind fun c35 => some ((⟨(3 : UInt8), c19.1.Num, (⟨#[]⟩ : ByteArray)⟩ : zI), c35) else (zbk q0 1 (⟨#[]⟩ : ByteArray)).bind fun c43 => (if c43 = true then (zcX q0).bind fun c48 => some ((⟨(4 : UInt8), 0, c48.1⟩ : zI), c48.2) else (if p1 = true then some ((⟨(0 : UInt8), 0, (⟨#[]⟩ : ByteArray)⟩ : zI), (⟨q0.L, q0.At, true⟩ : zq)) else some ((⟨(0 : UInt8), 0, (⟨#[]⟩ : ByteArray)⟩ : zI), q0))))))
def zhg  : Option (List (List ByteArray)) :=
 some ([([(⟨#[124, 124]⟩ : ByteArray)] : List ByteArray), ([(⟨#[38, 38]⟩ : ByteArray)] : List ByteArray), ([(⟨#[61, 61]⟩ : ByteArray), (⟨#[33, 61]⟩ : ByteArray), (⟨#[60]⟩ : ByteArray), (⟨#[60, 61]⟩ : ByteArray), (⟨#[62]⟩ : ByteArray), (⟨#[62, 61]⟩ : ByteArray)] : List ByteArray), ([(⟨#[43]⟩ : ByteArray), (⟨#[45]⟩ : ByteArray)] : List ByteArray), ([(⟨#[42]⟩ : ByteArray), (⟨#[47]⟩ : ByteArray), (⟨#[37]⟩ : ByteArray)] : List ByteArray)] : List (List ByteArray))
def zgx (rec4 : Int → Option ByteArray) (q0 : zq) (y12 : (List ByteArray)) (x41 : Int) : Option ByteArray :=
 (if (decide (x41 < (y12.length : Int))) = true then (zA y12 x41).bind fun y60 => (zbk q0 4 y60).bind fun c65 => (if c65 = true then (zA y12 x41).bind fun y70 => some y70 else rec4 (IntKind.i64.wrap (x41 + 1))) else some (⟨#[]⟩ : ByteArray))
def zfO (q0 : zq) (y12 : (List ByteArray)) : Nat → Int → Option ByteArray
 | 0, _ => none
 | n + 1, x41 => zgx (zfO q0 y12 n) q0 y12 x41
def zkB (q0 : zq) (p1 : Int) : Option ByteArray :=
 (zhg ).bind fun c3 => (zA c3 p1).bind fun y12 => zfO q0 y12 big 0
def zhK (rec4 : (List zr) → Int → Bool → UInt8 → Int → ByteArray → ByteArray → ByteArray → (List zb) → Option (zb × zq)) (R_ref12_parser_exp : zq → Int → Option (zb × zq)) (p1 : Int) (x78 : List zr) (x80 : Int) (x81 : Bool) (x82 : UInt8) (x83 : Int) (x84 : ByteArray) (x85 : ByteArray) (x86 : ByteArray) (x89 : List zb) : Option (zb × zq) :=
 (zkB (⟨x78, x80, x81⟩ : zq) p1).bind fun c114 => (if (zbn c114 (⟨#[]⟩ : ByteArray)) = true then some ((⟨x82, x83, x84, x85, x86, x89⟩ : zb), (⟨x78, x80, x81⟩ : zq)) else (R_ref12_parser_exp (⟨x78, (IntKind.i64.wrap (x80 + 1)), x81⟩ : zq) (IntKind.i64.wrap (p1 + 1))).bind fun c119 => rec4 c119.2.L c119.2.At c119.2.Failed (7 : UInt8) 0 (⟨#[]⟩ : ByteArray) (⟨#[]⟩ : ByteArray) c114 ([(⟨x82, x83, x84, x85, x86, x89⟩ : zb), (⟨c119.1.Kind, c119.1.Num, c119.1.Name, c119.1.Field, c119.1.Op, c119.1.Kids⟩ : zb)] : List zb))
def zfy (R_ref12_parser_exp : zq → Int → Option (zb × zq)) (p1 : Int) : Nat → (List zr) → Int → Bool → UInt8 → Int → ByteArray → ByteArray → ByteArray → (List zb) → Option (zb × zq)
 | 0, _, _, _, _, _, _, _, _, _ => none
 | n + 1, x78, x80, x81, x82, x83, x84, x85, x86, x89 => zhK (zfy R_ref12_parser_exp p1 n) R_ref12_parser_exp p1 x78 x80 x81 x82 x83 x84 x85 x86 x89
def zfa (R_ref12_parser_exp : zq → Int → Option (zb × zq)) (R_ref12_parser_primary : zq → Option (zb × zq)) (q0 : zq) (p1 : Int) : Option (zb × zq) :=
 (zhg ).bind fun c4 => (if (decide (p1 ≥ (c4.length : Int))) = true then (R_ref12_parser_primary q0).bind fun c14 => some (c14.1, c14.2) else (R_ref12_parser_exp q0 (IntKind.i64.wrap (p1 + 1))).bind fun c26 => zfy R_ref12_parser_exp p1 big c26.2.L c26.2.At c26.2.Failed c26.1.Kind c26.1.Num c26.1.Name c26.1.Field c26.1.Op c26.1.Kids)
def ziH (R_ref12_parser_exp : zq → Int → Option (zb × zq)) (R_ref12_parser_primary : zq → Option (zb × zq)) (q0 : zq) (x12 : Bool) : Option (zb × zq) :=
 (if x12 = true then (zdW q0 4 (⟨#[]⟩ : ByteArray)).bind fun c14 => (R_ref12_parser_primary c14.2).bind fun c22 => some ((⟨(6 : UInt8), 0, (⟨#[]⟩ : ByteArray), (⟨#[]⟩ : ByteArray), c14.1.Text, ([(⟨c22.1.Kind, c22.1.Num, c22.1.Name, c22.1.Field, c22.1.Op, c22.1.Kids⟩ : zb)] : List zb)⟩ : zb), c22.2) else (zbk q0 4 (⟨#[40]⟩ : ByteArray)).bind fun c40 => (if c40 = true then (R_ref12_parser_exp (⟨q0.L, (IntKind.i64.wrap (q0.At + 1)), q0.Failed⟩ : zq) 0).bind fun c45 => (zbA c45.2 (⟨#[41]⟩ : ByteArray)).bind fun c58 => some (c45.1, c58) else (zbk q0 2 (⟨#[]⟩ : ByteArray)).bind fun c66 => (if c66 = true then (zdW q0 2 (⟨#[]⟩ : ByteArray)).bind fun c71 => some ((⟨(1 : UInt8), c71.1.Num, (⟨#[]⟩ : ByteArray), (⟨#[]⟩ : ByteArray), (⟨#[]⟩ : ByteArray), []⟩ : zb), c71.2) else (zbk q0 3 (⟨#[116, 114, 117, 101]⟩ : ByteArray)).bind fun c79 => (if c79 = true then some ((⟨(2 : UInt8), 1, (⟨#[]⟩ : ByteArray), (⟨#[]⟩ : ByteArray), (⟨#[]⟩ : ByteArray), []⟩ : zb), (⟨q0.L, (IntKind.i64.wrap (q0.At + 1)), q0.Failed⟩ : zq)) else (zbk q0 3 (⟨#[102, 97, 108, 115, 101]⟩ : ByteArray)).bind fun c84 => (if c84 = true then some ((⟨(2 : UInt8), 0, (⟨#[]⟩ : ByteArray), (⟨#[]⟩ : ByteArray), (⟨#[]⟩ : ByteArray), []⟩ : zb), (⟨q0.L, (IntKind.i64.wrap (q0.At + 1)), q0.Failed⟩ : zq)) else (zcX q0).bind fun c89 => (zbk c89.2 4 (⟨#[91]⟩ : ByteArray)).bind fun c97 => (if c97 = true then (R_ref12_parser_exp (⟨c89.2.L, (IntKind.i64.wrap (c89.2.At + 1)), c89.2.Failed⟩ : zq) 0).bind fun c102 => (zbA c102.2 (⟨#[93]⟩ : ByteArray)).bind fun c115 => some ((⟨(4 : UInt8), 0, c89.1, (⟨#[]⟩ : ByteArray), (⟨#[]⟩ : ByteArray), ([(⟨c102.1.Kind, c102.1.Num, c102.1.Name, c102.1.Field, c102.1.Op, c102.1.Kids⟩ : zb)] : List zb)⟩ : zb), c115) else (zbk c89.2 4 (⟨#[46]⟩ : ByteArray)).bind fun c129 => (if c129 = true then (zcX (⟨c89.2.L, (IntKind.i64.wrap (c89.2.At + 1)), c89.2.Failed⟩ : zq)).bind fun c134 => some ((⟨(5 : UInt8), 0, c89.1, c134.1, (⟨#[]⟩ : ByteArray), []⟩ : zb), c134.2) else some ((⟨(3 : UInt8), 0, c89.1, (⟨#[]⟩ : ByteArray), (⟨#[]⟩ : ByteArray), []⟩ : zb), c89.2))))))))
def ziG (R_ref12_parser_exp : zq → Int → Option (zb × zq)) (R_ref12_parser_primary : zq → Option (zb × zq)) (q0 : zq) : Option (zb × zq) :=
 (zbk q0 4 (⟨#[45]⟩ : ByteArray)).bind fun c3 => (if c3 = true then ziH R_ref12_parser_exp R_ref12_parser_primary q0 c3 else (zbk q0 4 (⟨#[33]⟩ : ByteArray)).bind fun c143 => ziH R_ref12_parser_exp R_ref12_parser_primary q0 c143)
def zcI : Nat → (zq → Int → Option (zb × zq)) × (zq → Option (zb × zq))
 | 0 => (fun _ _ => none, fun _ => none)
 | gn + 1 => (zfa ((zcI gn).1) ((zcI gn).2), ziG ((zcI gn).1) ((zcI gn).2))
def zcu (q0 : zq) (p1 : Int) : Option (zb × zq) := (zcI big).1 q0 p1
def zku (rec4 : (List zr) → Int → Bool → (List zb) → Option ((List zb) × zq))  (x69 : List zr) (x71 : Int) (x72 : Bool) (x76 : List zb) : Option ((List zb) × zq) :=
 (zbk (⟨x69, x71, x72⟩ : zq) 4 (⟨#[44]⟩ : ByteArray)).bind fun c109 => (if c109 = true then (zcu (⟨x69, (IntKind.i64.wrap (x71 + 1)), x72⟩ : zq) 0).bind fun c114 => (room (x76.length + 1)).bind fun _ => rec4 c114.2.L c114.2.At c114.2.Failed (x76 ++ [(⟨c114.1.Kind, c114.1.Num, c114.1.Name, c114.1.Field, c114.1.Op, c114.1.Kids⟩ : zb)]) else (zbA (⟨x69, x71, x72⟩ : zq) (⟨#[41]⟩ : ByteArray)).bind fun c131 => some (x76, c131))
def zgL  : Nat → (List zr) → Int → Bool → (List zb) → Option ((List zb) × zq)
 | 0, _, _, _, _ => none
 | n + 1, x69, x71, x72, x76 => zku (zgL  n)  x69 x71 x72 x76
def zgj (q0 : zq) : Option ((List zb) × zq) :=
 (zbA q0 (⟨#[40]⟩ : ByteArray)).bind fun c2 => (zbk c2 4 (⟨#[41]⟩ : ByteArray)).bind fun c10 => (if c10 = true then some ([], (⟨c2.L, (IntKind.i64.wrap (c2.At + 1)), c2.Failed⟩ : zq)) else (zcu c2 0).bind fun c15 => zgL  big c15.2.L c15.2.At c15.2.Failed ([(⟨c15.1.Kind, c15.1.Num, c15.1.Name, c15.1.Field, c15.1.Op, c15.1.Kids⟩ : zb)] : List zb))
def zfQ (q0 : zq) (p1 : zg) : Option (zg × zq) :=
 (zbk q0 3 (⟨#[105, 110, 112, 117, 116]⟩ : ByteArray)).bind fun c5 => (if c5 = true then (zbA (⟨q0.L, (IntKind.i64.wrap (q0.At + 1)), q0.Failed⟩ : zq) (⟨#[40]⟩ : ByteArray)).bind fun c10 => (zbA c10 (⟨#[41]⟩ : ByteArray)).bind fun c18 => some ((⟨(9 : UInt8), p1.Line, p1.Name, p1.Field, p1.Call, (⟨p1.Type_.Kind, p1.Type_.N, p1.Type_.Name⟩ : zI), p1.Kids, p1.Body, p1.Else⟩ : zg), c18) else (zbk q0 1 (⟨#[]⟩ : ByteArray)).bind fun c26 => ((if (c26 && (decide ((IntKind.i64.wrap (q0.At + 1)) < (q0.L.length : Int)))) = true then (zA q0.L (IntKind.i64.wrap (q0.At + 1))).bind fun y33 => some ((y33.Kind.toNat : Int) == 4) else some false)).bind fun c30 => ((if c30 = true then (zA q0.L (IntKind.i64.wrap (q0.At + 1))).bind fun y41 => some (zbn y41.Text (⟨#[40]⟩ : ByteArray)) else some false)).bind fun c38 => (if c38 = true then (zcX q0).bind fun c47 => (zgj c47.2).bind fun c55 => some ((⟨(5 : UInt8), p1.Line, p1.Name, p1.Field, c47.1, (⟨p1.Type_.Kind, p1.Type_.N, p1.Type_.Name⟩ : zI), c55.1, p1.Body, p1.Else⟩ : zg), c55.2) else (zcu q0 0).bind fun c70 => some ((⟨(2 : UInt8), p1.Line, p1.Name, p1.Field, p1.Call, (⟨p1.Type_.Kind, p1.Type_.N, p1.Type_.Name⟩ : zI), ([(⟨c70.1.Kind, c70.1.Num, c70.1.Name, c70.1.Field, c70.1.Op, c70.1.Kids⟩ : zb)] : List zb), p1.Body, p1.Else⟩ : zg), c70.2)))
def zfE (x168 : List zr) (x170 : Int) (x171 : Bool) (x172 : UInt8) (x173 : Int) (x174 : ByteArray) (x175 : ByteArray) (x176 : ByteArray) (x177 : UInt8) (x178 : Int) (x179 : ByteArray) (x182 : List zb) (x186 : List zg) (x190 : List zg) : Option (zg × zq) :=
 (zbA (⟨x168, x170, x171⟩ : zq) (⟨#[59]⟩ : ByteArray)).bind fun c192 => some ((⟨x172, x173, x174, x175, x176, (⟨x177, x178, x179⟩ : zI), x182, x186, x190⟩ : zg), c192)
def zjn (q0 : zq) (p1 : zg) : Option (zg × zq) :=
 (zcX q0).bind fun c5 => (zbk c5.2 4 (⟨#[40]⟩ : ByteArray)).bind fun c200 => (if c200 = true then (zgj c5.2).bind fun c205 => zfE c205.2.L c205.2.At c205.2.Failed (5 : UInt8) p1.Line (⟨#[]⟩ : ByteArray) p1.Field c5.1 p1.Type_.Kind p1.Type_.N p1.Type_.Name c205.1 p1.Body p1.Else else (zbk c5.2 4 (⟨#[91]⟩ : ByteArray)).bind fun c220 => (if c220 = true then (zcu (⟨c5.2.L, (IntKind.i64.wrap (c5.2.At + 1)), c5.2.Failed⟩ : zq) 0).bind fun c225 => (zbA c225.2 (⟨#[93]⟩ : ByteArray)).bind fun c238 => (zbA c238 (⟨#[61]⟩ : ByteArray)).bind fun c246 => (zcu c246 0).bind fun c254 => zfE c254.2.L c254.2.At c254.2.Failed (3 : UInt8) p1.Line c5.1 p1.Field p1.Call p1.Type_.Kind p1.Type_.N p1.Type_.Name ([(⟨c225.1.Kind, c225.1.Num, c225.1.Name, c225.1.Field, c225.1.Op, c225.1.Kids⟩ : zb), (⟨c254.1.Kind, c254.1.Num, c254.1.Name, c254.1.Field, c254.1.Op, c254.1.Kids⟩ : zb)] : List zb) p1.Body p1.Else else (zbk c5.2 4 (⟨#[46]⟩ : ByteArray)).bind fun c272 => (if c272 = true then (zcX (⟨c5.2.L, (IntKind.i64.wrap (c5.2.At + 1)), c5.2.Failed⟩ : zq)).bind fun c277 => (zbA c277.2 (⟨#[61]⟩ : ByteArray)).bind fun c285 => (zcu c285 0).bind fun c293 => zfE c293.2.L c293.2.At c293.2.Failed (4 : UInt8) p1.Line c5.1 c277.1 p1.Call p1.Type_.Kind p1.Type_.N p1.Type_.Name ([(⟨c293.1.Kind, c293.1.Num, c293.1.Name, c293.1.Field, c293.1.Op, c293.1.Kids⟩ : zb)] : List zb) p1.Body p1.Else else (zbA c5.2 (⟨#[61]⟩ : ByteArray)).bind fun c311 => (zfQ c311 (⟨p1.Kind, p1.Line, c5.1, p1.Field, p1.Call, (⟨p1.Type_.Kind, p1.Type_.N, p1.Type_.Name⟩ : zI), p1.Kids, p1.Body, p1.Else⟩ : zg)).bind fun c319 => zfE c319.2.L c319.2.At c319.2.Failed c319.1.Kind c319.1.Line c319.1.Name c319.1.Field c319.1.Call c319.1.Type_.Kind c319.1.Type_.N c319.1.Type_.Name c319.1.Kids c319.1.Body c319.1.Else)))
def zjB (rec4 : (List zr) → Int → Bool → (List zg) → Option ((List zg) × zq)) (R_ref12_parser_stmt : zq → Option (zg × zq)) (x55 : List zr) (x57 : Int) (x58 : Bool) (x62 : List zg) : Option ((List zg) × zq) :=
 ((if (!x58) = true then (zbk (⟨x55, x57, x58⟩ : zq) 4 (⟨#[125]⟩ : ByteArray)).bind fun c109 => some (!c109) else some false)).bind fun c106 => (if c106 = true then (R_ref12_parser_stmt (⟨x55, x57, x58⟩ : zq)).bind fun c114 => (room (2 * (x62.length + 1))).bind fun _ => rec4 c114.2.L c114.2.At c114.2.Failed (x62 ++ [(⟨c114.1.Kind, c114.1.Line, c114.1.Name, c114.1.Field, c114.1.Call, (⟨c114.1.Type_.Kind, c114.1.Type_.N, c114.1.Type_.Name⟩ : zI), c114.1.Kids, c114.1.Body, c114.1.Else⟩ : zg)]) else (zbA (⟨x55, x57, x58⟩ : zq) (⟨#[125]⟩ : ByteArray)).bind fun c139 => some (x62, c139))
def zgt (R_ref12_parser_stmt : zq → Option (zg × zq)) : Nat → (List zr) → Int → Bool → (List zg) → Option ((List zg) × zq)
 | 0, _, _, _, _ => none
 | n + 1, x55, x57, x58, x62 => zjB (zgt R_ref12_parser_stmt n) R_ref12_parser_stmt x55 x57 x58 x62
def zkT (R_ref12_parser_block : zq → Option ((List zg) × zq)) (R_ref12_parser_stmt : zq → Option (zg × zq)) (q0 : zq) : Option ((List zg) × zq) :=
 (zbA q0 (⟨#[123]⟩ : ByteArray)).bind fun c2 => zgt R_ref12_parser_stmt big c2.L c2.At c2.Failed ([])
def zed (c3 : Int) (x261 : List zr) (x263 : Int) (x264 : Bool) (x265 : Int) (x266 : ByteArray) (x267 : UInt8) (x268 : Int) (x269 : ByteArray) (x273 : List zb) (x278 : List zg) (x283 : List zg) : Option (zg × zq) :=
 (u8o x265).bind fun z291 => some ((⟨z291, c3, x266, (⟨#[]⟩ : ByteArray), (⟨#[]⟩ : ByteArray), (⟨x267, x268, x269⟩ : zI), x273, x278, x283⟩ : zg), (⟨x261, x263, x264⟩ : zq))
def zkz (R_ref12_parser_block : zq → Option ((List zg) × zq)) (R_ref12_parser_stmt : zq → Option (zg × zq)) (q0 : zq) : Option (zg × zq) :=
 (zg0 q0).bind fun c3 => (zbk q0 3 (⟨#[118, 97, 114]⟩ : ByteArray)).bind fun c292 => (if c292 = true then (zcX (⟨q0.L, (IntKind.i64.wrap (q0.At + 1)), q0.Failed⟩ : zq)).bind fun c297 => (zep c297.2 true).bind fun c305 => (zbk c305.2 4 (⟨#[61]⟩ : ByteArray)).bind fun c313 => (if c313 = true then (zcu (⟨c305.2.L, (IntKind.i64.wrap (c305.2.At + 1)), c305.2.Failed⟩ : zq) 0).bind fun c318 => (zbA c318.2 (⟨#[59]⟩ : ByteArray)).bind fun c334 => zed c3 c334.L c334.At c334.Failed 1 c297.1 c305.1.Kind c305.1.N c305.1.Name ([(⟨c318.1.Kind, c318.1.Num, c318.1.Name, c318.1.Field, c318.1.Op, c318.1.Kids⟩ : zb)] : List zb) ([]) ([]) else (zbA c305.2 (⟨#[59]⟩ : ByteArray)).bind fun c342 => zed c3 c342.L c342.At c342.Failed 1 c297.1 c305.1.Kind c305.1.N c305.1.Name ([]) ([]) ([])) else (zbk q0 3 (⟨#[105, 102]⟩ : ByteArray)).bind fun c350 => (if c350 = true then (zcu (⟨q0.L, (IntKind.i64.wrap (q0.At + 1)), q0.Failed⟩ : zq) 0).bind fun c355 => (R_ref12_parser_block c355.2).bind fun c371 => (zbk c371.2 3 (⟨#[101, 108, 115, 101]⟩ : ByteArray)).bind fun c384 => (if c384 = true then (R_ref12_parser_block (⟨c371.2.L, (IntKind.i64.wrap (c371.2.At + 1)), c371.2.Failed⟩ : zq)).bind fun c389 => zed c3 c389.2.L c389.2.At c389.2.Failed 6 (⟨#[]⟩ : ByteArray) (0 : UInt8) 0 (⟨#[]⟩ : ByteArray) ([(⟨c355.1.Kind, c355.1.Num, c355.1.Name, c355.1.Field, c355.1.Op, c355.1.Kids⟩ : zb)] : List zb) c371.1 c389.1 else zed c3 c371.2.L c371.2.At c371.2.Failed 6 (⟨#[]⟩ : ByteArray) (0 : UInt8) 0 (⟨#[]⟩ : ByteArray) ([(⟨c355.1.Kind, c355.1.Num, c355.1.Name, c355.1.Field, c355.1.Op, c355.1.Kids⟩ : zb)] : List zb) c371.1 ([])) else (zbk q0 3 (⟨#[102, 111, 114]⟩ : ByteArray)).bind fun c402 => (if c402 = true then (zcu (⟨q0.L, (IntKind.i64.wrap (q0.At + 1)), q0.Failed⟩ : zq) 0).bind fun c407 => (R_ref12_parser_block c407.2).bind fun c423 => zed c3 c423.2.L c423.2.At c423.2.Failed 7 (⟨#[]⟩ : ByteArray) (0 : UInt8) 0 (⟨#[]⟩ : ByteArray) ([(⟨c407.1.Kind, c407.1.Num, c407.1.Name, c407.1.Field, c407.1.Op, c407.1.Kids⟩ : zb)] : List zb) c423.1 ([]) else (zbk q0 3 (⟨#[112, 114, 105, 110, 116]⟩ : ByteArray)).bind fun c436 => (if c436 = true then (zbA (⟨q0.L, (IntKind.i64.wrap (q0.At + 1)), q0.Failed⟩ : zq) (⟨#[40]⟩ : ByteArray)).bind fun c441 => (zcu c441 0).bind fun c449 => (zbA c449.2 (⟨#[41]⟩ : ByteArray)).bind fun c465 => (zbA c465 (⟨#[59]⟩ : ByteArray)).bind fun c473 => zed c3 c473.L c473.At c473.Failed 8 (⟨#[]⟩ : ByteArray) (0 : UInt8) 0 (⟨#[]⟩ : ByteArray) ([(⟨c449.1.Kind, c449.1.Num, c449.1.Name, c449.1.Field, c449.1.Op, c449.1.Kids⟩ : zb)] : List zb) ([]) ([]) else (zbk q0 3 (⟨#[114, 101, 116, 117, 114, 110]⟩ : ByteArray)).bind fun c481 => (if c481 = true then (zbk (⟨q0.L, (IntKind.i64.wrap (q0.At + 1)), q0.Failed⟩ : zq) 4 (⟨#[59]⟩ : ByteArray)).bind fun c486 => (if (!c486) = true then (zcu (⟨q0.L, (IntKind.i64.wrap (q0.At + 1)), q0.Failed⟩ : zq) 0).bind fun c491 => (zbA c491.2 (⟨#[59]⟩ : ByteArray)).bind fun c507 => zed c3 c507.L c507.At c507.Failed 10 (⟨#[]⟩ : ByteArray) (0 : UInt8) 0 (⟨#[]⟩ : ByteArray) ([(⟨c491.1.Kind, c491.1.Num, c491.1.Name, c491.1.Field, c491.1.Op, c491.1.Kids⟩ : zb)] : List zb) ([]) ([]) else (zbA (⟨q0.L, (IntKind.i64.wrap (q0.At + 1)), q0.Failed⟩ : zq) (⟨#[59]⟩ : ByteArray)).bind fun c515 => zed c3 c515.L c515.At c515.Failed 10 (⟨#[]⟩ : ByteArray) (0 : UInt8) 0 (⟨#[]⟩ : ByteArray) ([]) ([]) ([])) else (zjn q0 (⟨(0 : UInt8), c3, (⟨#[]⟩ : ByteArray), (⟨#[]⟩ : ByteArray), (⟨#[]⟩ : ByteArray), (⟨(0 : UInt8), 0, (⟨#[]⟩ : ByteArray)⟩ : zI), [], [], []⟩ : zg)).bind fun c523 => some (c523.1, c523.2))))))
def zdN : Nat → (zq → Option ((List zg) × zq)) × (zq → Option (zg × zq))
 | 0 => (fun _ => none, fun _ => none)
 | gn + 1 => (zkT ((zdN gn).1) ((zdN gn).2), zkz ((zdN gn).1) ((zdN gn).2))
def zfz (q0 : zq) : Option ((List zg) × zq) := (zdN big).1 q0
def zfc (rec10 : (List zr) → Int → Bool → (List zbh) → Option (zi × zq)) (x231 : List zr) (x233 : Int) (x234 : Bool) (x238 : List zbh) : Option (zi × zq) :=
 (zcX (⟨x231, x233, x234⟩ : zq)).bind fun c240 => (zep c240.2 true).bind fun c249 => (room (x238.length + 1)).bind fun _ => rec10 c249.2.L c249.2.At c249.2.Failed (x238 ++ [(⟨c240.1, (⟨c249.1.Kind, c249.1.N, c249.1.Name⟩ : zI)⟩ : zbh)])
def zhn (rec10 : (List zr) → Int → Bool → (List zbh) → Option (zi × zq)) (p1 : Int) (c4 : ByteArray × zq) (x110 : List zr) (x112 : Int) (x113 : Bool) (x117 : List zbh) : Option (zi × zq) :=
 ((if (!x113) = true then (zbk (⟨x110, x112, x113⟩ : zq) 4 (⟨#[41]⟩ : ByteArray)).bind fun c215 => some (!c215) else some false)).bind fun c212 => (if c212 = true then (if (decide ((x117.length : Int) > 0)) = true then (zbA (⟨x110, x112, x113⟩ : zq) (⟨#[44]⟩ : ByteArray)).bind fun c263 => zfc rec10 c263.L c263.At c263.Failed x117 else zfc rec10 x110 x112 x113 x117) else (zbA (⟨x110, x112, x113⟩ : zq) (⟨#[41]⟩ : ByteArray)).bind fun c271 => (zep c271 false).bind fun c279 => (zfz c279.2).bind fun c287 => some ((⟨c4.1, p1, x117, (⟨c279.1.Kind, c279.1.N, c279.1.Name⟩ : zI), c287.1⟩ : zi), c287.2))
def zdH (p1 : Int) (c4 : ByteArray × zq) : Nat → (List zr) → Int → Bool → (List zbh) → Option (zi × zq)
 | 0, _, _, _, _ => none
 | n + 1, x110, x112, x113, x117 => zhn (zdH p1 c4 n) p1 c4 x110 x112 x113 x117
def zfJ (q0 : zq) (p1 : Int) : Option (zi × zq) :=
 (zcX q0).bind fun c4 => (zbA c4.2 (⟨#[40]⟩ : ByteArray)).bind fun c13 => zdH p1 c4 big c13.L c13.At c13.Failed ([])
def zkE (rec16 : (List zr) → Int → Bool → (List zl) → (List zi) → (List ByteArray) → Option (zL × Int × Int)) (rec14 : (List zr) → Int → Bool → (List zl) → (List zi) → Option (zL × Int × Int)) (c567 : ByteArray × zq) (x660 : List zr) (x662 : Int) (x663 : Bool) (x667 : List zl) (x672 : List zi) (x677 : List ByteArray) : Option (zL × Int × Int) :=
 ((if (!x663) = true then (zbk (⟨x660, x662, x663⟩ : zq) 4 (⟨#[125]⟩ : ByteArray)).bind fun c739 => some (!c739) else some false)).bind fun c736 => (if c736 = true then (zcX (⟨x660, x662, x663⟩ : zq)).bind fun c744 => (room (x677.length + ([c744.1] : List ByteArray).length)).bind fun _ => (zdo c744.2 (⟨#[105, 110, 116]⟩ : ByteArray)).bind fun c761 => (zbA c761 (⟨#[59]⟩ : ByteArray)).bind fun c769 => rec16 c769.L c769.At c769.Failed x667 x672 (x677 ++ ([c744.1] : List ByteArray)) else (zbA (⟨x660, x662, x663⟩ : zq) (⟨#[125]⟩ : ByteArray)).bind fun c777 => (room (x667.length + 1)).bind fun _ => rec14 c777.L c777.At c777.Failed (x667 ++ [(⟨c567.1, x677⟩ : zl)]) x672)
def zeP (rec14 : (List zr) → Int → Bool → (List zl) → (List zi) → Option (zL × Int × Int)) (c567 : ByteArray × zq) : Nat → (List zr) → Int → Bool → (List zl) → (List zi) → (List ByteArray) → Option (zL × Int × Int)
 | 0, _, _, _, _, _, _ => none
 | n + 1, x660, x662, x663, x667, x672, x677 => zkE (zeP rec14 c567 n) rec14 c567 x660 x662 x663 x667 x672 x677
def zg1 (rec14 : (List zr) → Int → Bool → (List zl) → (List zi) → Option (zL × Int × Int)) (p0 : (List zr)) (x266 : List zr) (x268 : Int) (x269 : Bool) (x273 : List zl) (x278 : List zi) : Option (zL × Int × Int) :=
 (if ((!x269) && (decide (x268 < (p0.length : Int)))) = true then (zbk (⟨x266, x268, x269⟩ : zq) 3 (⟨#[116, 121, 112, 101]⟩ : ByteArray)).bind fun c562 => (if c562 = true then (zcX (⟨x266, (IntKind.i64.wrap (x268 + 1)), x269⟩ : zq)).bind fun c567 => (zdo c567.2 (⟨#[115, 116, 114, 117, 99, 116]⟩ : ByteArray)).bind fun c576 => (zbA c576 (⟨#[123]⟩ : ByteArray)).bind fun c584 => zeP rec14 c567 big c584.L c584.At c584.Failed x273 x278 ([]) else (zg0 (⟨x266, x268, x269⟩ : zq)).bind fun c792 => (zdo (⟨x266, x268, x269⟩ : zq) (⟨#[102, 117, 110, 99]⟩ : ByteArray)).bind fun c796 => (zfJ c796 c792).bind fun c804 => (room (x278.length + ([(⟨c804.1.Name, c804.1.Line, c804.1.Params, (⟨c804.1.Result.Kind, c804.1.Result.N, c804.1.Result.Name⟩ : zI), c804.1.Body⟩ : zi)] : List zi).length)).bind fun _ => rec14 c804.2.L c804.2.At c804.2.Failed x273 (x278 ++ ([(⟨c804.1.Name, c804.1.Line, c804.1.Params, (⟨c804.1.Result.Kind, c804.1.Result.N, c804.1.Result.Name⟩ : zI), c804.1.Body⟩ : zi)] : List zi))) else (if x269 = true then some ((⟨[], []⟩ : zL), x268, 7) else (zl9 (⟨x273, x278⟩ : zL)).bind fun c836 => (if c836 = true then some ((⟨[], []⟩ : zL), 0, 11) else some ((⟨x273, x278⟩ : zL), 0, 0))))
def zdc (p0 : (List zr)) : Nat → (List zr) → Int → Bool → (List zl) → (List zi) → Option (zL × Int × Int)
 | 0, _, _, _, _, _ => none
 | n + 1, x266, x268, x269, x273, x278 => zg1 (zdc p0 n) p0 x266 x268 x269 x273 x278
def zpO (p0 : (List zr)) : Option (zL × Int × Int) :=
 zdc p0 big p0 0 false ([]) ([])
def zgM (rec4 : Int → Option Bool) (R_ref12_sameExps : (List zb) → (List zb) → Option Bool) (p0 : (List zb)) (p1 : (List zb)) (x133 : Int) : Option Bool :=
 (if (decide (x133 < (p0.length : Int))) = true then (zA p0 x133).bind fun y265 => (zA p1 x133).bind fun y274 => ((if ((y265.Kind.toNat : Int) != (y274.Kind.toNat : Int)) = true then some true else (zA p0 x133).bind fun y286 => (zA p1 x133).bind fun y295 => some (y286.Num != y295.Num))).bind fun c283 => ((if c283 = true then some true else (zA p0 x133).bind fun y307 => (zA p1 x133).bind fun y316 => some (!(zbn y307.Name y316.Name)))).bind fun c304 => ((if c304 = true then some true else (zA p0 x133).bind fun y328 => (zA p1 x133).bind fun y337 => some (!(zbn y328.Field y337.Field)))).bind fun c325 => ((if c325 = true then some true else (zA p0 x133).bind fun y349 => (zA p1 x133).bind fun y358 => some (!(zbn y349.Op y358.Op)))).bind fun c346 => ((if c346 = true then some true else (zA p0 x133).bind fun y370 => (zA p1 x133).bind fun y379 => (R_ref12_sameExps y370.Kids y379.Kids).bind fun c388 => some (!c388))).bind fun c367 => (if c367 = true then some false else rec4 (IntKind.i64.wrap (x133 + 1))) else some true)
def zf9 (R_ref12_sameExps : (List zb) → (List zb) → Option Bool) (p0 : (List zb)) (p1 : (List zb)) : Nat → Int → Option Bool
 | 0, _ => none
 | n + 1, x133 => zgM (zf9 R_ref12_sameExps p0 p1 n) R_ref12_sameExps p0 p1 x133
def zg7 (R_ref12_sameExps : (List zb) → (List zb) → Option Bool) (p0 : (List zb)) (p1 : (List zb)) : Option Bool :=
 (if ((p0.length : Int) != (p1.length : Int)) = true then some false else zf9 R_ref12_sameExps p0 p1 big 0)
def zef : Nat → ((List zb) → (List zb) → Option Bool)
 | 0 => fun _ _ => none
 | gn + 1 => zg7 (zef gn)
def zkp (p0 : (List zb)) (p1 : (List zb)) : Option Bool := (zef big) p0 p1
def zgG (rec4 : Int → Option Bool) (R_ref12_sameStmts : (List zg) → (List zg) → Option Bool) (p0 : (List zg)) (p1 : (List zg)) (x63 : Int) : Option Bool :=
 (if (decide (x63 < (p0.length : Int))) = true then (zA p0 x63).bind fun y125 => (zA p1 x63).bind fun y143 => ((if (((((((y125.Kind.toNat : Int) != (y143.Kind.toNat : Int)) || (y125.Line != y143.Line)) || (!(zbn y125.Name y143.Name))) || (!(zbn y125.Field y143.Field))) || (!(zbn y125.Call y143.Call))) || (!(( (y125.Type_.Kind.toNat : Int) == (y143.Type_.Kind.toNat : Int)) && (( y125.Type_.N == y143.Type_.N) && ((zbn y125.Type_.Name y143.Type_.Name) && true))))) = true then some true else (zkp y125.Kids y143.Kids).bind fun c164 => some (!c164))).bind fun c161 => ((if c161 = true then some true else (R_ref12_sameStmts y125.Body y143.Body).bind fun c171 => some (!c171))).bind fun c168 => ((if c168 = true then some true else (R_ref12_sameStmts y125.Else y143.Else).bind fun c178 => some (!c178))).bind fun c175 => (if c175 = true then some false else rec4 (IntKind.i64.wrap (x63 + 1))) else some true)
def zfG (R_ref12_sameStmts : (List zg) → (List zg) → Option Bool) (p0 : (List zg)) (p1 : (List zg)) : Nat → Int → Option Bool
 | 0, _ => none
 | n + 1, x63 => zgG (zfG R_ref12_sameStmts p0 p1 n) R_ref12_sameStmts p0 p1 x63
def zgX (R_ref12_sameStmts : (List zg) → (List zg) → Option Bool) (p0 : (List zg)) (p1 : (List zg)) : Option Bool :=
 (if ((p0.length : Int) != (p1.length : Int)) = true then some false else zfG R_ref12_sameStmts p0 p1 big 0)
def zeh : Nat → ((List zg) → (List zg) → Option Bool)
 | 0 => fun _ _ => none
 | gn + 1 => zgX (zeh gn)
def zjy (p0 : (List zg)) (p1 : (List zg)) : Option Bool := (zeh big) p0 p1
def zgk (rec56 : Int → Option Bool) (rec54 : Int → Option Bool) (p0 : zL) (p1 : zL) (x417 : Int) (x910 : Int) : Option Bool :=
 (zA p0.Structs x417).bind fun y951 => (if (decide (x910 < (y951.Fields.length : Int))) = true then (zA p0.Structs x417).bind fun y961 => (zA y961.Fields x910).bind fun y970 => (zA p1.Structs x417).bind fun y975 => (zA y975.Fields x910).bind fun y984 => (if (!(zbn y970 y984)) = true then some false else rec56 (IntKind.i64.wrap (x910 + 1))) else rec54 (IntKind.i64.wrap (x417 + 1)))
def zeV (rec54 : Int → Option Bool) (p0 : zL) (p1 : zL) (x417 : Int) : Nat → Int → Option Bool
 | 0, _ => none
 | n + 1, x910 => zgk (zeV rec54 p0 p1 x417 n) rec54 p0 p1 x417 x910
def zhH (rec64 : Int → Option Bool) (rec62 : Int → Option Bool) (x1073 : Int) (y1159 : zi) (y1173 : zi) (x1215 : Int) : Option Bool :=
 (if (decide (x1215 < (y1159.Params.length : Int))) = true then (zA y1159.Params x1215).bind fun y1230 => (zA y1173.Params x1215).bind fun y1235 => (if (!((zbn y1230.Name y1235.Name) && (( (y1230.Type_.Kind.toNat : Int) == (y1235.Type_.Kind.toNat : Int)) && (( y1230.Type_.N == y1235.Type_.N) && ((zbn y1230.Type_.Name y1235.Type_.Name) && true))))) = true then some false else rec64 (IntKind.i64.wrap (x1215 + 1))) else rec62 (IntKind.i64.wrap (x1073 + 1)))
def zfn (rec62 : Int → Option Bool) (x1073 : Int) (y1159 : zi) (y1173 : zi) : Nat → Int → Option Bool
 | 0, _ => none
 | n + 1, x1215 => zhH (zfn rec62 x1073 y1159 y1173 n) rec62 x1073 y1159 y1173 x1215
def zhB (rec62 : Int → Option Bool) (p0 : zL) (p1 : zL) (x1073 : Int) : Option Bool :=
 (if (decide (x1073 < (p0.Funcs.length : Int))) = true then (zA p0.Funcs x1073).bind fun y1159 => (zA p1.Funcs x1073).bind fun y1173 => ((if ((((!(zbn y1159.Name y1173.Name)) || (y1159.Line != y1173.Line)) || (!(( (y1159.Result.Kind.toNat : Int) == (y1173.Result.Kind.toNat : Int)) && (( y1159.Result.N == y1173.Result.N) && ((zbn y1159.Result.Name y1173.Result.Name) && true))))) || ((y1159.Params.length : Int) != (y1173.Params.length : Int))) = true then some true else (zjy y1159.Body y1173.Body).bind fun c1190 => some (!c1190))).bind fun c1187 => (if c1187 = true then some false else zfn rec62 x1073 y1159 y1173 big 0) else some true)
def zdB (p0 : zL) (p1 : zL) : Nat → Int → Option Bool
 | 0, _ => none
 | n + 1, x1073 => zhB (zdB p0 p1 n) p0 p1 x1073
def zgz (rec54 : Int → Option Bool) (p0 : zL) (p1 : zL) (x417 : Int) : Option Bool :=
 (if (decide (x417 < (p0.Structs.length : Int))) = true then (zA p0.Structs x417).bind fun y831 => (zA p1.Structs x417).bind fun y840 => ((if (!(zbn y831.Name y840.Name)) = true then some true else (zA p0.Structs x417).bind fun y852 => (zA p1.Structs x417).bind fun y861 => some ((y852.Fields.length : Int) != (y861.Fields.length : Int)))).bind fun c849 => (if c849 = true then some false else zeV rec54 p0 p1 x417 big 0) else zdB p0 p1 big 0)
def zdT (p0 : zL) (p1 : zL) : Nat → Int → Option Bool
 | 0, _ => none
 | n + 1, x417 => zgz (zdT p0 p1 n) p0 p1 x417
def zeY (p0 : zL) (p1 : zL) : Option Bool :=
 (if (((p0.Structs.length : Int) != (p1.Structs.length : Int)) || ((p0.Funcs.length : Int) != (p1.Funcs.length : Int))) = true then some false else zdT p0 p1 big 0)
def zif (c50 : zL × Int × Int) (x119 : List zl) (x124 : List zi) : Option Bool :=
 ((if (c50.2.2 == 0) = true then (zeY c50.1 (⟨x119, x124⟩ : zL)).bind fun c133 => some c133 else some false)).bind fun c130 => ((if c130 = true then (zey ).bind fun c140 => some c140 else some false)).bind fun c137 => some c137
def ziN (p0 : (List zr)) (p1 : (List zr)) : Option Bool :=
 (if (decide ((IntKind.i64.wrap ((p0.length : Int) + (p1.length : Int))) > 3000)) = true then (zey ).bind fun c4 => some c4 else (zdM p0).bind fun c8 => (zdM p1).bind fun c21 => (room (([] : List zr).length + p0.length)).bind fun _ => (room ((([] : List zr) ++ p0).length + p1.length)).bind fun _ => (zdM ((([] : List zr) ++ p0) ++ p1)).bind fun c50 => (if (c8.2.2 == 7) = true then (zey ).bind fun c64 => some c64 else (if (c21.2.2 == 7) = true then ((if ((c50.2.2 == c21.2.2) && (c50.2.1 == (IntKind.i64.wrap ((p0.length : Int) + c21.2.1)))) = true then (zey ).bind fun c72 => some c72 else some false)).bind fun c69 => some c69 else (if ((c8.2.2 == 11) || (c21.2.2 == 11)) = true then ((if (c50.2.2 == 11) = true then (zey ).bind fun c80 => some c80 else some false)).bind fun c77 => some c77 else (room (([] : List zl).length + c8.1.Structs.length)).bind fun _ => (room ((([] : List zl) ++ c8.1.Structs).length + c21.1.Structs.length)).bind fun _ => (room (([] : List zi).length + c8.1.Funcs.length)).bind fun _ => (room ((([] : List zi) ++ c8.1.Funcs).length + c21.1.Funcs.length)).bind fun _ => zif c50 ((([] : List zl) ++ c8.1.Structs) ++ c21.1.Structs) ((([] : List zi) ++ c8.1.Funcs) ++ c21.1.Funcs)))))
end Go.Proofs.Ytnhboaaikehpoaa
