import Derived.Test.YtnhboaaikehpoaaFM
namespace Go.Proofs.Ytnhboaaikehpoaa
open Go.Ab Go.RowKit
set_option linter.unusedVariables false
set_option linter.unusedSimpArgs false
set_option maxRecDepth 10000
set_option maxHeartbeats 1000000
structure zl where
 Kind : UInt8
 Text : ByteArray
 Num : Int
 Line : Int
 deriving DecidableEq
def zm : Ty zl where
 sz := 4
 R := fun σ x cs => cs = [.int .u8 x.Kind.toNat, .string x.Text, .int .i64 x.Num, .int .i64 x.Line]
 len := by rintro σ x cs rfl; rfl
 one := by rintro σ x cs rfl; rfl
 mono := by rintro σ σ' x cs hle rfl; rfl
structure zW where
 tokens : (List zl)
 at_ : Int
 deriving DecidableEq
structure zo where
 Name : ByteArray
 Fields : (List ByteArray)
 deriving DecidableEq
def zr : Ty zo where
 sz := 2
 R := fun σ x cs => ∃ v1, cs = [.string x.Name, v1] ∧ RdT Ty.str σ v1 x.Fields
 len := by rintro σ x cs ⟨v1, rfl, h0⟩; rfl
 one := by rintro σ x cs ⟨v1, rfl, h0⟩; obtain ⟨_, ⟨_, _, rfl, _⟩, _⟩ := h0; rfl
 mono := by rintro σ σ' x cs hle ⟨v1, rfl, h0⟩; exact ⟨v1, rfl, h0.le hle⟩
structure zz where
 Kind : UInt8
 N : Int
 Name : ByteArray
 deriving DecidableEq
structure z4 where
 Name : ByteArray
 Type_ : zz
 deriving DecidableEq
def zdT : Ty z4 where
 sz := 4
 R := fun σ x cs => cs = [.string x.Name, .int .u8 x.Type_.Kind.toNat, .int .i64 x.Type_.N, .string x.Type_.Name]
 len := by rintro σ x cs rfl; rfl
 one := by rintro σ x cs rfl; rfl
 mono := by rintro σ σ' x cs hle rfl; rfl
theorem zkY : zdT.Flat := fun _ _ _ _ h => h
structure za where
 Kind : UInt8
 Num : Int
 Name : ByteArray
 Field : ByteArray
 Op : ByteArray
 Kids : (List za)
def zlI (T : Ty za) : Ty za where
 sz := 6
 R := fun σ x cs => ∃ v5, cs = [.int .u8 x.Kind.toNat, .int .i64 x.Num, .string x.Name, .string x.Field, .string x.Op, v5] ∧ RdT T σ v5 x.Kids
 len := by rintro σ x cs ⟨v5, rfl, h0⟩; rfl
 one := by rintro σ x cs ⟨v5, rfl, h0⟩; obtain ⟨_, ⟨_, _, rfl, _⟩, _⟩ := h0; rfl
 mono := by rintro σ σ' x cs hle ⟨v5, rfl, h0⟩; exact ⟨v5, rfl, h0.le hle⟩
theorem zkP : Lvl zlI 6 := ⟨fun _ => rfl, fun T T' h => ⟨rfl, by rintro σ x cs ⟨v5, rfl, h0⟩; exact ⟨v5, rfl, h.rd h0⟩⟩⟩
def zH : Ty za := Ty.fix zlI 6 zkP
theorem zeX {σ : Hp} {x : za} {cs : List Value} (h : zH.R σ x cs) : ∃ v5, cs = [.int .u8 x.Kind.toNat, .int .i64 x.Num, .string x.Name, .string x.Field, .string x.Op, v5] ∧ RdT zH σ v5 x.Kids := znq zkP h
theorem zcc {σ : Hp} {x : za} {cs : List Value} (h : ∃ v5, cs = [.int .u8 x.Kind.toNat, .int .i64 x.Num, .string x.Name, .string x.Field, .string x.Op, v5] ∧ RdT zH σ v5 x.Kids) : zH.R σ x cs := by
 obtain ⟨v5, rfl, h0⟩ := h
 obtain ⟨k0, g0⟩ := zjH zkP h0
 exact ⟨k0 + 1, v5, rfl, g0 _ (by omega)⟩
structure ze where
 Kind : UInt8
 Line : Int
 Name : ByteArray
 Field : ByteArray
 Call : ByteArray
 Type_ : zz
 Kids : (List za)
 Body : (List ze)
 Else : (List ze)
def zmk (T : Ty ze) : Ty ze where
 sz := 11
 R := fun σ x cs => ∃ v8 v9 v10, cs = [.int .u8 x.Kind.toNat, .int .i64 x.Line, .string x.Name, .string x.Field, .string x.Call, .int .u8 x.Type_.Kind.toNat, .int .i64 x.Type_.N, .string x.Type_.Name, v8, v9, v10] ∧ RdT zH σ v8 x.Kids ∧ RdT T σ v9 x.Body ∧ RdT T σ v10 x.Else
 len := by rintro σ x cs ⟨v8, v9, v10, rfl, h0, h1, h2⟩; rfl
 one := by rintro σ x cs ⟨v8, v9, v10, rfl, h0, h1, h2⟩; obtain ⟨_, ⟨_, _, rfl, _⟩, _⟩ := h0; obtain ⟨_, ⟨_, _, rfl, _⟩, _⟩ := h1; obtain ⟨_, ⟨_, _, rfl, _⟩, _⟩ := h2; rfl
 mono := by rintro σ σ' x cs hle ⟨v8, v9, v10, rfl, h0, h1, h2⟩; exact ⟨v8, v9, v10, rfl, h0.le hle, h1.le hle, h2.le hle⟩
theorem zh5 : Lvl zmk 11 := ⟨fun _ => rfl, fun T T' h => ⟨rfl, by rintro σ x cs ⟨v8, v9, v10, rfl, h0, h1, h2⟩; exact ⟨v8, v9, v10, rfl, h0, h.rd h1, h.rd h2⟩⟩⟩
def zP : Ty ze := Ty.fix zmk 11 zh5
theorem zky {σ : Hp} {x : ze} {cs : List Value} (h : zP.R σ x cs) : ∃ v8 v9 v10, cs = [.int .u8 x.Kind.toNat, .int .i64 x.Line, .string x.Name, .string x.Field, .string x.Call, .int .u8 x.Type_.Kind.toNat, .int .i64 x.Type_.N, .string x.Type_.Name, v8, v9, v10] ∧ RdT zH σ v8 x.Kids ∧ RdT zP σ v9 x.Body ∧ RdT zP σ v10 x.Else := znq zh5 h
theorem zoR {σ : Hp} {x : ze} {cs : List Value} (h : ∃ v8 v9 v10, cs = [.int .u8 x.Kind.toNat, .int .i64 x.Line, .string x.Name, .string x.Field, .string x.Call, .int .u8 x.Type_.Kind.toNat, .int .i64 x.Type_.N, .string x.Type_.Name, v8, v9, v10] ∧ RdT zH σ v8 x.Kids ∧ RdT zP σ v9 x.Body ∧ RdT zP σ v10 x.Else) : zP.R σ x cs := by
 obtain ⟨v8, v9, v10, rfl, h0, h1, h2⟩ := h
 obtain ⟨k1, g1⟩ := zjH zh5 h1
 obtain ⟨k2, g2⟩ := zjH zh5 h2
 exact ⟨k1 + k2 + 1, v8, v9, v10, rfl, h0, g1 _ (by omega), g2 _ (by omega)⟩
structure zi where
 Name : ByteArray
 Line : Int
 Params : (List z4)
 Result : zz
 Body : (List ze)
def zn : Ty zi where
 sz := 7
 R := fun σ x cs => ∃ v2 v6, cs = [.string x.Name, .int .i64 x.Line, v2, .int .u8 x.Result.Kind.toNat, .int .i64 x.Result.N, .string x.Result.Name, v6] ∧ RdT zdT σ v2 x.Params ∧ RdT zP σ v6 x.Body
 len := by rintro σ x cs ⟨v2, v6, rfl, h0, h1⟩; rfl
 one := by rintro σ x cs ⟨v2, v6, rfl, h0, h1⟩; obtain ⟨_, ⟨_, _, rfl, _⟩, _⟩ := h0; obtain ⟨_, ⟨_, _, rfl, _⟩, _⟩ := h1; rfl
 mono := by rintro σ σ' x cs hle ⟨v2, v6, rfl, h0, h1⟩; exact ⟨v2, v6, rfl, h0.le hle, h1.le hle⟩
structure zN where
 Structs : (List zo)
 Funcs : (List zi)
structure zb where
 cursor : zW
 prog : zN
structure zj where
 L : (List zl)
 At : Int
 Failed : Bool
 deriving DecidableEq
abbrev zpm (b : Nat) (x0 : Int) (x1 : Int) (x2 : ByteArray) : Ob := some (b, ⟨[.int .u8 x0, .int .i64 x1, .string x2], 47, 3, true⟩)
abbrev zk3 (b : Nat) (x0 : ByteArray) (x1 : Int) (x2 : Value) (x3 : Int) (x4 : Int) (x5 : ByteArray) (x6 : Value) : Ob := some (b, ⟨[.string x0, .int .i64 x1, x2, .int .u8 x3, .int .i64 x4, .string x5, x6], 50, 7, true⟩)
abbrev zcy (b : Nat) (x0 : Int) (x1 : Int) (x2 : ByteArray) (x3 : ByteArray) (x4 : ByteArray) (x5 : Int) (x6 : Int) (x7 : ByteArray) (x8 : Value) (x9 : Value) (x10 : Value) : Ob := some (b, ⟨[.int .u8 x0, .int .i64 x1, .string x2, .string x3, .string x4, .int .u8 x5, .int .i64 x6, .string x7, x8, x9, x10], 53, 11, true⟩)
abbrev zlE (b : Nat) (x0 : Int) (x1 : Int) (x2 : ByteArray) (x3 : ByteArray) (x4 : ByteArray) (x5 : Value) : Ob := some (b, ⟨[.int .u8 x0, .int .i64 x1, .string x2, .string x3, .string x4, x5], 55, 6, true⟩)
abbrev zp (b : Nat) (x0 : Value) (x1 : Int) (x2 : Value) (x3 : Value) : Ob := some (b, ⟨[x0, .int .i64 x1, x2, x3], 60, 4, true⟩)
abbrev zfe (b : Nat) (x0 : Int) (x1 : ByteArray) (x2 : Int) (x3 : Int) : Ob := some (b, ⟨[.int .u8 x0, .string x1, .int .i64 x2, .int .i64 x3], 79, 4, true⟩)
def zgt (rec4 : Int → Option Int) (p0 : (List ByteArray)) (p1 : ByteArray) (x10 : Int) : Option Int :=
 (if (decide (x10 < (p0.length : Int))) = true then (zI p0 x10).bind fun y20 => (if (zb4 p1 y20) = true then some x10 else rec4 (IntKind.i64.wrap (x10 + 1))) else some (-1))
def zfD (p0 : (List ByteArray)) (p1 : ByteArray) : Nat → Int → Option Int
 | 0, _ => none
 | n + 1, x10 => zgt (zfD p0 p1 n) p0 p1 x10
def zit (p0 : (List ByteArray)) (p1 : ByteArray) : Option Int :=
 zfD p0 p1 big 0
def zft (p0 : (List ByteArray)) (p1 : ByteArray) : Option Bool :=
 (zit p0 p1).bind fun c3 => some (decide (c3 ≥ 0))
def zgk (q0 : zW) (p1 : Int) (p2 : (List ByteArray)) : Option Bool :=
 ((if (decide (q0.at_ ≥ (q0.tokens.length : Int))) = true then some true else (zI q0.tokens q0.at_).bind fun y7 => some ((y7.Kind.toNat : Int) != p1))).bind fun c4 => (if c4 = true then some false else ((if ((p2.length : Int) == 0) = true then some true else (zI q0.tokens q0.at_).bind fun y16 => (zft p2 y16.Text).bind fun c21 => some c21)).bind fun c13 => some c13)
def zpO (q0 : zW) : Option (Except (Value × zW) (zl × zW)) :=
 (zI q0.tokens (IntKind.i64.wrap ((IntKind.i64.wrap (q0.at_ + 1)) - 1))).bind fun y10 => some (.ok (y10, (⟨q0.tokens, (IntKind.i64.wrap (q0.at_ + 1))⟩ : zW)))
def zpp (q0 : zW) (p1 : Int) (p2 : (List ByteArray)) : Option (Except (Value × zW) (zl × zW)) :=
 (zgk q0 p1 p2).bind fun c5 => (if (!c5) = true then some (.error ((.iface 92 (.agg #[]) : Value), q0)) else zpO q0)
def zpN (rec4 : (List zl) → Int → Int → Option (Except (Value × zW) (zW))) (p1 : (List ByteArray)) (x33 : List zl) (x35 : Int) (x36 : Int) : Option (Except (Value × zW) (zW)) :=
 (if (decide (x36 < (p1.length : Int))) = true then (zI p1 x36).bind fun y67 => zx (zpp (⟨x33, x35⟩ : zW) 4 ([y67] : List ByteArray)) (fun x82 => some (.error (x82.1, x82.2))) fun c78 => rec4 c78.2.tokens c78.2.at_ (IntKind.i64.wrap (x36 + 1)) else some (.ok (⟨x33, x35⟩ : zW)))
def zqH (p1 : (List ByteArray)) : Nat → (List zl) → Int → Int → Option (Except (Value × zW) (zW))
 | 0, _, _, _ => none
 | n + 1, x33, x35, x36 => zpN (zqH p1 n) p1 x33 x35 x36
def zcD (q0 : zb) (p1 : Int) (p2 : (List ByteArray)) : Option Bool :=
 ((if (decide (q0.cursor.at_ ≥ (q0.cursor.tokens.length : Int))) = true then some true else (zI q0.cursor.tokens q0.cursor.at_).bind fun y7 => some ((y7.Kind.toNat : Int) != p1))).bind fun c4 => (if c4 = true then some false else ((if ((p2.length : Int) == 0) = true then some true else (zI q0.cursor.tokens q0.cursor.at_).bind fun y16 => (zft p2 y16.Text).bind fun c21 => some c21)).bind fun c13 => some c13)
def zhJ (q0 : zb) (x13 : List zo) (x18 : List zi) : Option (Except (Value × zb) (zl × zb)) :=
 (zI q0.cursor.tokens (IntKind.i64.wrap ((IntKind.i64.wrap (q0.cursor.at_ + 1)) - 1))).bind fun y20 => some (.ok (y20, (⟨(⟨q0.cursor.tokens, (IntKind.i64.wrap (q0.cursor.at_ + 1))⟩ : zW), (⟨x13, x18⟩ : zN)⟩ : zb)))
def zcY (q0 : zb) (p1 : Int) (p2 : (List ByteArray)) : Option (Except (Value × zb) (zl × zb)) :=
 (zcD q0 p1 p2).bind fun c5 => (if (!c5) = true then some (.error ((.iface 92 (.agg #[]) : Value), q0)) else zhJ q0 q0.prog.Structs q0.prog.Funcs)
def zcL (q0 : zb) : Option (Except (Value × zb) (ByteArray × zb)) :=
 zx (zcY q0 1 []) (fun x6 => some (.error (x6.1, x6.2))) fun c2 => some (.ok (c2.1.Text, c2.2))
def zgq (rec4 : (List zl) → Int → (List zo) → (List zi) → Int → Option (Except (Value × zb) (zb))) (p1 : (List ByteArray)) (x63 : List zl) (x65 : Int) (x69 : List zo) (x74 : List zi) (x76 : Int) : Option (Except (Value × zb) (zb)) :=
 (if (decide (x76 < (p1.length : Int))) = true then (zI p1 x76).bind fun y127 => zx (zcY (⟨(⟨x63, x65⟩ : zW), (⟨x69, x74⟩ : zN)⟩ : zb) 4 ([y127] : List ByteArray)) (fun x142 => some (.error (x142.1, x142.2))) fun c138 => rec4 c138.2.cursor.tokens c138.2.cursor.at_ c138.2.prog.Structs c138.2.prog.Funcs (IntKind.i64.wrap (x76 + 1)) else some (.ok (⟨(⟨x63, x65⟩ : zW), (⟨x69, x74⟩ : zN)⟩ : zb)))
def zf8 (p1 : (List ByteArray)) : Nat → (List zl) → Int → (List zo) → (List zi) → Int → Option (Except (Value × zb) (zb))
 | 0, _, _, _, _, _ => none
 | n + 1, x63, x65, x69, x74, x76 => zgq (zf8 p1 n) p1 x63 x65 x69 x74 x76
def zb6 (q0 : zb) (p1 : (List ByteArray)) : Option (Except (Value × zb) (zb)) :=
 zf8 p1 big q0.cursor.tokens q0.cursor.at_ q0.prog.Structs q0.prog.Funcs 0
def zbw (q0 : zb) (p1 : Int) (p2 : (List ByteArray)) : Option (Bool × zb) :=
 (zcD q0 p1 p2).bind fun c4 => (if (!c4) = true then some (false, q0) else some (true, (⟨(⟨q0.cursor.tokens, (IntKind.i64.wrap (q0.cursor.at_ + 1))⟩ : zW), (⟨q0.prog.Structs, q0.prog.Funcs⟩ : zN)⟩ : zb)))
def zgc (rec4 : (List zl) → Int → (List zo) → (List zi) → (List ByteArray) → Option (Except (Value × zb) (zb))) (c2 : ByteArray × zb) (x302 : List zl) (x304 : Int) (x308 : List zo) (x313 : List zi) (x318 : List ByteArray) : Option (Except (Value × zb) (zb)) :=
 (zbw (⟨(⟨x302, x304⟩ : zW), (⟨x308, x313⟩ : zN)⟩ : zb) 4 ([(⟨#[125]⟩ : ByteArray)] : List ByteArray)).bind fun c494 => (if (!c494.1) = true then zx (zcL c494.2) (fun x517 => some (.error (x517.1, x517.2))) fun c513 => (room (x318.length + ([c513.1] : List ByteArray).length)).bind fun _ => zx (zcY c513.2 3 ([(⟨#[105, 110, 116]⟩ : ByteArray)] : List ByteArray)) (fun x568 => some (.error (x568.1, x568.2))) fun c564 => zx (zb6 c564.2 ([(⟨#[59]⟩ : ByteArray)] : List ByteArray)) (fun x610 => some (.error (x610.1, x610.2))) fun c606 => rec4 c606.cursor.tokens c606.cursor.at_ c606.prog.Structs c606.prog.Funcs (x318 ++ ([c513.1] : List ByteArray)) else (room (c494.2.prog.Structs.length + ([(⟨c2.1, x318⟩ : zo)] : List zo).length)).bind fun _ => some (.ok (⟨(⟨c494.2.cursor.tokens, c494.2.cursor.at_⟩ : zW), (⟨(c494.2.prog.Structs ++ ([(⟨c2.1, x318⟩ : zo)] : List zo)), c494.2.prog.Funcs⟩ : zN)⟩ : zb)))
def zfW (c2 : ByteArray × zb) : Nat → (List zl) → Int → (List zo) → (List zi) → (List ByteArray) → Option (Except (Value × zb) (zb))
 | 0, _, _, _, _, _ => none
 | n + 1, x302, x304, x308, x313, x318 => zgc (zfW c2 n) c2 x302 x304 x308 x313 x318
def zf7 (q0 : zb) : Option (Except (Value × zb) (zb)) :=
 zx (zcL q0) (fun x6 => some (.error (x6.1, x6.2))) fun c2 => zx (zcY c2.2 3 ([(⟨#[115, 116, 114, 117, 99, 116]⟩ : ByteArray)] : List ByteArray)) (fun x49 => some (.error (x49.1, x49.2))) fun c45 => zx (zb6 c45.2 ([(⟨#[123]⟩ : ByteArray)] : List ByteArray)) (fun x91 => some (.error (x91.1, x91.2))) fun c87 => zfW c2 big c87.cursor.tokens c87.cursor.at_ c87.prog.Structs c87.prog.Funcs ([])
def zfb (q0 : zb) (p1 : Bool) : Option (Except (Value × zb) (zz × zb)) :=
 (zbw q0 3 ([(⟨#[105, 110, 116]⟩ : ByteArray)] : List ByteArray)).bind fun c10 => (if c10.1 = true then some (.ok ((⟨(1 : UInt8), 0, (⟨#[]⟩ : ByteArray)⟩ : zz), c10.2)) else (zbw c10.2 3 ([(⟨#[98, 111, 111, 108]⟩ : ByteArray)] : List ByteArray)).bind fun c35 => (if c35.1 = true then some (.ok ((⟨(2 : UInt8), 0, (⟨#[]⟩ : ByteArray)⟩ : zz), c35.2)) else (zbw c35.2 4 ([(⟨#[91]⟩ : ByteArray)] : List ByteArray)).bind fun c60 => (if c60.1 = true then zx (zcY c60.2 2 []) (fun x83 => some (.error (x83.1, x83.2))) fun c79 => zx (zb6 c79.2 ([(⟨#[93]⟩ : ByteArray)] : List ByteArray)) (fun x125 => some (.error (x125.1, x125.2))) fun c121 => zx (zcY c121 3 ([(⟨#[105, 110, 116]⟩ : ByteArray)] : List ByteArray)) (fun x167 => some (.error (x167.1, x167.2))) fun c163 => some (.ok ((⟨(3 : UInt8), c79.1.Num, (⟨#[]⟩ : ByteArray)⟩ : zz), c163.2)) else ((if p1 = true then some true else (zcD c60.2 1 []).bind fun c202 => some c202)).bind fun c199 => (if c199 = true then zx (zcL c60.2) (fun x211 => some (.error (x211.1, x211.2))) fun c207 => some (.ok ((⟨(4 : UInt8), 0, c207.1⟩ : zz), c207.2)) else some (.ok ((⟨(0 : UInt8), 0, (⟨#[]⟩ : ByteArray)⟩ : zz), c60.2))))))
def zfM (q0 : zb) : Option (Except (Value × zb) (z4 × zb)) :=
 zx (zcL q0) (fun x7 => some (.error (x7.1, x7.2))) fun c3 => zx (zfb c3.2 true) (fun x44 => some (.error (x44.1, x44.2))) fun c40 => some (.ok ((⟨c3.1, (⟨c40.1.Kind, c40.1.N, c40.1.Name⟩ : zz)⟩ : z4), c40.2))
def zhw  : Option (List (List ByteArray)) :=
 some ([([(⟨#[124, 124]⟩ : ByteArray)] : List ByteArray), ([(⟨#[38, 38]⟩ : ByteArray)] : List ByteArray), ([(⟨#[61, 61]⟩ : ByteArray), (⟨#[33, 61]⟩ : ByteArray), (⟨#[60]⟩ : ByteArray), (⟨#[60, 61]⟩ : ByteArray), (⟨#[62]⟩ : ByteArray), (⟨#[62, 61]⟩ : ByteArray)] : List ByteArray), ([(⟨#[43]⟩ : ByteArray), (⟨#[45]⟩ : ByteArray)] : List ByteArray), ([(⟨#[42]⟩ : ByteArray), (⟨#[47]⟩ : ByteArray), (⟨#[37]⟩ : ByteArray)] : List ByteArray)] : List (List ByteArray))
def zhe (R_syntax_parser_exp : zb → Option (Except (Value × zb) (za × zb))) (R_syntax_parser_binary : zb → (List (List ByteArray)) → Option (Except (Value × zb) (za × zb))) (R_syntax_parser_unary : zb → Option (Except (Value × zb) (za × zb))) (R_syntax_parser_index : zb → Option (Except (Value × zb) (za × zb))) (q0 : zb) : Option (Except (Value × zb) (za × zb)) :=
 (zhw ).bind fun c3 => zx (R_syntax_parser_binary q0 c3) (fun x18 => some (.error (x18.1, x18.2))) fun c14 => some (.ok (c14.1, c14.2))
def zgZ (rec4 : (List zl) → Int → (List zo) → (List zi) → UInt8 → Int → ByteArray → ByteArray → ByteArray → (List za) → Option (Except (Value × zb) (za × zb))) (R_syntax_parser_binary : zb → (List (List ByteArray)) → Option (Except (Value × zb) (za × zb))) (p1 : (List (List ByteArray))) (x226 : List zl) (x228 : Int) (x232 : List zo) (x237 : List zi) (x239 : UInt8) (x240 : Int) (x241 : ByteArray) (x242 : ByteArray) (x243 : ByteArray) (x246 : List za) : Option (Except (Value × zb) (za × zb)) :=
 (zI p1 0).bind fun y348 => (zcD (⟨(⟨x226, x228⟩ : zW), (⟨x232, x237⟩ : zN)⟩ : zb) 4 y348).bind fun c357 => (if c357 = true then zx (zcY (⟨(⟨x226, x228⟩ : zW), (⟨x232, x237⟩ : zN)⟩ : zb) 4 []) (fun x366 => some (.error (x366.1, x366.2))) fun c362 => (zcA p1 1 (p1.length : Int)).bind fun y398 => zx (R_syntax_parser_binary c362.2 y398) (fun x407 => some (.error (x407.1, x407.2))) fun c403 => rec4 c403.2.cursor.tokens c403.2.cursor.at_ c403.2.prog.Structs c403.2.prog.Funcs (7 : UInt8) 0 (⟨#[]⟩ : ByteArray) (⟨#[]⟩ : ByteArray) c362.1.Text ([(⟨x239, x240, x241, x242, x243, x246⟩ : za), (⟨c403.1.Kind, c403.1.Num, c403.1.Name, c403.1.Field, c403.1.Op, c403.1.Kids⟩ : za)] : List za) else some (.ok ((⟨x239, x240, x241, x242, x243, x246⟩ : za), (⟨(⟨x226, x228⟩ : zW), (⟨x232, x237⟩ : zN)⟩ : zb))))
def zg8 (R_syntax_parser_binary : zb → (List (List ByteArray)) → Option (Except (Value × zb) (za × zb))) (p1 : (List (List ByteArray))) : Nat → (List zl) → Int → (List zo) → (List zi) → UInt8 → Int → ByteArray → ByteArray → ByteArray → (List za) → Option (Except (Value × zb) (za × zb))
 | 0, _, _, _, _, _, _, _, _, _, _ => none
 | n + 1, x226, x228, x232, x237, x239, x240, x241, x242, x243, x246 => zgZ (zg8 R_syntax_parser_binary p1 n) R_syntax_parser_binary p1 x226 x228 x232 x237 x239 x240 x241 x242 x243 x246
def zgf (R_syntax_parser_exp : zb → Option (Except (Value × zb) (za × zb))) (R_syntax_parser_binary : zb → (List (List ByteArray)) → Option (Except (Value × zb) (za × zb))) (R_syntax_parser_unary : zb → Option (Except (Value × zb) (za × zb))) (R_syntax_parser_index : zb → Option (Except (Value × zb) (za × zb))) (q0 : zb) (p1 : (List (List ByteArray))) : Option (Except (Value × zb) (za × zb)) :=
 (if ((p1.length : Int) == 0) = true then zx (R_syntax_parser_unary q0) (fun x9 => some (.error (x9.1, x9.2))) fun c5 => some (.ok (c5.1, c5.2)) else (zcA p1 1 (p1.length : Int)).bind fun y45 => zx (R_syntax_parser_binary q0 y45) (fun x54 => some (.error (x54.1, x54.2))) fun c50 => zg8 R_syntax_parser_binary p1 big c50.2.cursor.tokens c50.2.cursor.at_ c50.2.prog.Structs c50.2.prog.Funcs c50.1.Kind c50.1.Num c50.1.Name c50.1.Field c50.1.Op c50.1.Kids)
def zg5 (R_syntax_parser_exp : zb → Option (Except (Value × zb) (za × zb))) (R_syntax_parser_binary : zb → (List (List ByteArray)) → Option (Except (Value × zb) (za × zb))) (R_syntax_parser_unary : zb → Option (Except (Value × zb) (za × zb))) (R_syntax_parser_index : zb → Option (Except (Value × zb) (za × zb))) (q0 : zb) : Option (Except (Value × zb) (za × zb)) :=
 (zcD q0 4 ([(⟨#[45]⟩ : ByteArray), (⟨#[33]⟩ : ByteArray)] : List ByteArray)).bind fun c9 => (if c9 = true then zx (zcY q0 4 []) (fun x18 => some (.error (x18.1, x18.2))) fun c14 => zx (R_syntax_parser_unary c14.2) (fun x54 => some (.error (x54.1, x54.2))) fun c50 => some (.ok ((⟨(6 : UInt8), 0, (⟨#[]⟩ : ByteArray), (⟨#[]⟩ : ByteArray), c14.1.Text, ([(⟨c50.1.Kind, c50.1.Num, c50.1.Name, c50.1.Field, c50.1.Op, c50.1.Kids⟩ : za)] : List za)⟩ : za), c50.2)) else (zbw q0 4 ([(⟨#[40]⟩ : ByteArray)] : List ByteArray)).bind fun c102 => (if c102.1 = true then zx (R_syntax_parser_exp c102.2) (fun x125 => some (.error (x125.1, x125.2))) fun c121 => zx (zb6 c121.2 ([(⟨#[41]⟩ : ByteArray)] : List ByteArray)) (fun x172 => some (.error (x172.1, x172.2))) fun c168 => some (.ok (c121.1, c168)) else (zcD c102.2 2 []).bind fun c204 => (if c204 = true then zx (zcY c102.2 2 []) (fun x213 => some (.error (x213.1, x213.2))) fun c209 => some (.ok ((⟨(1 : UInt8), c209.1.Num, (⟨#[]⟩ : ByteArray), (⟨#[]⟩ : ByteArray), (⟨#[]⟩ : ByteArray), []⟩ : za), c209.2)) else (zbw c102.2 3 ([(⟨#[116, 114, 117, 101]⟩ : ByteArray)] : List ByteArray)).bind fun c251 => (if c251.1 = true then some (.ok ((⟨(2 : UInt8), 1, (⟨#[]⟩ : ByteArray), (⟨#[]⟩ : ByteArray), (⟨#[]⟩ : ByteArray), []⟩ : za), c251.2)) else (zbw c251.2 3 ([(⟨#[102, 97, 108, 115, 101]⟩ : ByteArray)] : List ByteArray)).bind fun c276 => (if c276.1 = true then some (.ok ((⟨(2 : UInt8), 0, (⟨#[]⟩ : ByteArray), (⟨#[]⟩ : ByteArray), (⟨#[]⟩ : ByteArray), []⟩ : za), c276.2)) else zx (zcL c276.2) (fun x299 => some (.error (x299.1, x299.2))) fun c295 => (zcD c295.2 4 ([(⟨#[91]⟩ : ByteArray)] : List ByteArray)).bind fun c337 => (if c337 = true then zx (R_syntax_parser_index c295.2) (fun x346 => some (.error (x346.1, x346.2))) fun c342 => some (.ok ((⟨(4 : UInt8), 0, c295.1, (⟨#[]⟩ : ByteArray), (⟨#[]⟩ : ByteArray), ([(⟨c342.1.Kind, c342.1.Num, c342.1.Name, c342.1.Field, c342.1.Op, c342.1.Kids⟩ : za)] : List za)⟩ : za), c342.2)) else (zbw c295.2 4 ([(⟨#[46]⟩ : ByteArray)] : List ByteArray)).bind fun c394 => (if c394.1 = true then zx (zcL c394.2) (fun x417 => some (.error (x417.1, x417.2))) fun c413 => some (.ok ((⟨(5 : UInt8), 0, c295.1, c413.1, (⟨#[]⟩ : ByteArray), []⟩ : za), c413.2)) else some (.ok ((⟨(3 : UInt8), 0, c295.1, (⟨#[]⟩ : ByteArray), (⟨#[]⟩ : ByteArray), []⟩ : za), c394.2)))))))))
def zha (R_syntax_parser_exp : zb → Option (Except (Value × zb) (za × zb))) (R_syntax_parser_binary : zb → (List (List ByteArray)) → Option (Except (Value × zb) (za × zb))) (R_syntax_parser_unary : zb → Option (Except (Value × zb) (za × zb))) (R_syntax_parser_index : zb → Option (Except (Value × zb) (za × zb))) (q0 : zb) : Option (Except (Value × zb) (za × zb)) :=
 zx (zb6 q0 ([(⟨#[91]⟩ : ByteArray)] : List ByteArray)) (fun x13 => some (.error (x13.1, x13.2))) fun c9 => zx (R_syntax_parser_exp c9) (fun x49 => some (.error (x49.1, x49.2))) fun c45 => zx (zb6 c45.2 ([(⟨#[93]⟩ : ByteArray)] : List ByteArray)) (fun x96 => some (.error (x96.1, x96.2))) fun c92 => some (.ok (c45.1, c92))
def zM : Nat → (zb → Option (Except (Value × zb) (za × zb))) × (zb → (List (List ByteArray)) → Option (Except (Value × zb) (za × zb))) × (zb → Option (Except (Value × zb) (za × zb))) × (zb → Option (Except (Value × zb) (za × zb)))
 | 0 => (fun _ => none, fun _ _ => none, fun _ => none, fun _ => none)
 | gn + 1 => (zhe ((zM gn).1) ((zM gn).2.1) ((zM gn).2.2.1) ((zM gn).2.2.2), zgf ((zM gn).1) ((zM gn).2.1) ((zM gn).2.2.1) ((zM gn).2.2.2), zg5 ((zM gn).1) ((zM gn).2.1) ((zM gn).2.2.1) ((zM gn).2.2.2), zha ((zM gn).1) ((zM gn).2.1) ((zM gn).2.2.1) ((zM gn).2.2.2))
def zds (q0 : zb) : Option (Except (Value × zb) (za × zb)) := (zM big).1 q0
def zi6 (q0 : zb) : Option (Except (Value × zb) (za × zb)) := (zM big).2.2.2 q0
def zgR (q0 : zb) (q1 : ze) : Option (Except (Value × zb × ze) (zb × ze)) :=
 zx (zcL q0) (fun x7 => some (.error (x7.1, x7.2, q1))) fun c3 => zx (zfb c3.2 true) (fun x43 => some (.error (x43.1, x43.2, (⟨(1 : UInt8), q1.Line, c3.1, q1.Field, q1.Call, (⟨q1.Type_.Kind, q1.Type_.N, q1.Type_.Name⟩ : zz), q1.Kids, q1.Body, q1.Else⟩ : ze)))) fun c39 => (zbw c39.2 4 ([(⟨#[61]⟩ : ByteArray)] : List ByteArray)).bind fun c81 => (if c81.1 = true then zx (zds c81.2) (fun x104 => some (.error (x104.1, x104.2, (⟨(1 : UInt8), q1.Line, c3.1, q1.Field, q1.Call, (⟨c39.1.Kind, c39.1.N, c39.1.Name⟩ : zz), q1.Kids, q1.Body, q1.Else⟩ : ze)))) fun c100 => some (.ok (c100.2, (⟨(1 : UInt8), q1.Line, c3.1, q1.Field, q1.Call, (⟨c39.1.Kind, c39.1.N, c39.1.Name⟩ : zz), ([(⟨c100.1.Kind, c100.1.Num, c100.1.Name, c100.1.Field, c100.1.Op, c100.1.Kids⟩ : za)] : List za), q1.Body, q1.Else⟩ : ze))) else some (.ok (c81.2, (⟨(1 : UInt8), q1.Line, c3.1, q1.Field, q1.Call, (⟨c39.1.Kind, c39.1.N, c39.1.Name⟩ : zz), q1.Kids, q1.Body, q1.Else⟩ : ze))))
def zeQ (q0 : zb) : Option Bool :=
 (zcD q0 1 []).bind fun c3 => ((if c3 = true then (zgk (⟨q0.cursor.tokens, (IntKind.i64.wrap (q0.cursor.at_ + 1))⟩ : zW) 4 ([(⟨#[40]⟩ : ByteArray)] : List ByteArray)).bind fun c16 => some c16 else some false)).bind fun c7 => some c7
def zgh (rec4 : (List zl) → Int → (List zo) → (List zi) → (List za) → Option (Except (Value × zb) ((List za) × zb)))  (x243 : List zl) (x245 : Int) (x249 : List zo) (x254 : List zi) (x259 : List za) : Option (Except (Value × zb) ((List za) × zb)) :=
 (zbw (⟨(⟨x243, x245⟩ : zW), (⟨x249, x254⟩ : zN)⟩ : zb) 4 ([(⟨#[44]⟩ : ByteArray)] : List ByteArray)).bind fun c380 => (if c380.1 = true then zx (zds c380.2) (fun x403 => some (.error (x403.1, x403.2))) fun c399 => (room (x259.length + 1)).bind fun _ => rec4 c399.2.cursor.tokens c399.2.cursor.at_ c399.2.prog.Structs c399.2.prog.Funcs (x259 ++ [(⟨c399.1.Kind, c399.1.Num, c399.1.Name, c399.1.Field, c399.1.Op, c399.1.Kids⟩ : za)]) else zx (zb6 c380.2 ([(⟨#[41]⟩ : ByteArray)] : List ByteArray)) (fun x454 => some (.error (x454.1, x454.2))) fun c450 => some (.ok (x259, c450)))
def zfP  : Nat → (List zl) → Int → (List zo) → (List zi) → (List za) → Option (Except (Value × zb) ((List za) × zb))
 | 0, _, _, _, _, _ => none
 | n + 1, x243, x245, x249, x254, x259 => zgh (zfP  n)  x243 x245 x249 x254 x259
def zfF (q0 : zb) : Option (Except (Value × zb) ((List za) × zb)) :=
 zx (zb6 q0 ([(⟨#[40]⟩ : ByteArray)] : List ByteArray)) (fun x12 => some (.error (x12.1, x12.2))) fun c8 => (zbw c8 4 ([(⟨#[41]⟩ : ByteArray)] : List ByteArray)).bind fun c50 => (if c50.1 = true then some (.ok ([], c50.2)) else zx (zds c50.2) (fun x73 => some (.error (x73.1, x73.2))) fun c69 => zfP  big c69.2.cursor.tokens c69.2.cursor.at_ c69.2.prog.Structs c69.2.prog.Funcs ([(⟨c69.1.Kind, c69.1.Num, c69.1.Name, c69.1.Field, c69.1.Op, c69.1.Kids⟩ : za)] : List za))
def zgL (q0 : zb) (q1 : ze) : Option (Except (Value × zb × ze) (zb × ze)) :=
 (zbw q0 3 ([(⟨#[105, 110, 112, 117, 116]⟩ : ByteArray)] : List ByteArray)).bind fun c9 => (if c9.1 = true then zx (zb6 c9.2 ([(⟨#[40]⟩ : ByteArray), (⟨#[41]⟩ : ByteArray)] : List ByteArray)) (fun x38 => some (.error (x38.1, x38.2, q1))) fun c34 => some (.ok (c34, (⟨(9 : UInt8), q1.Line, q1.Name, q1.Field, q1.Call, (⟨q1.Type_.Kind, q1.Type_.N, q1.Type_.Name⟩ : zz), q1.Kids, q1.Body, q1.Else⟩ : ze))) else (zeQ c9.2).bind fun c70 => (if c70 = true then zx (zcL c9.2) (fun x79 => some (.error (x79.1, x79.2, q1))) fun c75 => zx (zfF c75.2) (fun x115 => some (.error (x115.1, x115.2, (⟨(5 : UInt8), q1.Line, q1.Name, q1.Field, c75.1, (⟨q1.Type_.Kind, q1.Type_.N, q1.Type_.Name⟩ : zz), q1.Kids, q1.Body, q1.Else⟩ : ze)))) fun c111 => some (.ok (c111.2, (⟨(5 : UInt8), q1.Line, q1.Name, q1.Field, c75.1, (⟨q1.Type_.Kind, q1.Type_.N, q1.Type_.Name⟩ : zz), c111.1, q1.Body, q1.Else⟩ : ze))) else zx (zds c9.2) (fun x158 => some (.error (x158.1, x158.2, q1))) fun c154 => some (.ok (c154.2, (⟨(2 : UInt8), q1.Line, q1.Name, q1.Field, q1.Call, (⟨q1.Type_.Kind, q1.Type_.N, q1.Type_.Name⟩ : zz), ([(⟨c154.1.Kind, c154.1.Num, c154.1.Name, c154.1.Field, c154.1.Op, c154.1.Kids⟩ : za)] : List za), q1.Body, q1.Else⟩ : ze)))))
def zgp (q0 : zb) (q1 : ze) : Option (Except (Value × zb × ze) (zb × ze)) :=
 (zeQ q0).bind fun c3 => (if c3 = true then zx (zcL q0) (fun x12 => some (.error (x12.1, x12.2, q1))) fun c8 => zx (zfF c8.2) (fun x48 => some (.error (x48.1, x48.2, (⟨(5 : UInt8), q1.Line, q1.Name, q1.Field, c8.1, (⟨q1.Type_.Kind, q1.Type_.N, q1.Type_.Name⟩ : zz), q1.Kids, q1.Body, q1.Else⟩ : ze)))) fun c44 => some (.ok (c44.2, (⟨(5 : UInt8), q1.Line, q1.Name, q1.Field, c8.1, (⟨q1.Type_.Kind, q1.Type_.N, q1.Type_.Name⟩ : zz), c44.1, q1.Body, q1.Else⟩ : ze))) else zx (zcL q0) (fun x91 => some (.error (x91.1, x91.2, q1))) fun c87 => (zcD c87.2 4 ([(⟨#[91]⟩ : ByteArray)] : List ByteArray)).bind fun c129 => (if c129 = true then zx (zi6 c87.2) (fun x138 => some (.error (x138.1, x138.2, (⟨q1.Kind, q1.Line, c87.1, q1.Field, q1.Call, (⟨q1.Type_.Kind, q1.Type_.N, q1.Type_.Name⟩ : zz), q1.Kids, q1.Body, q1.Else⟩ : ze)))) fun c134 => zx (zb6 c134.2 ([(⟨#[61]⟩ : ByteArray)] : List ByteArray)) (fun x188 => some (.error (x188.1, x188.2, (⟨(3 : UInt8), q1.Line, c87.1, q1.Field, q1.Call, (⟨q1.Type_.Kind, q1.Type_.N, q1.Type_.Name⟩ : zz), ([(⟨c134.1.Kind, c134.1.Num, c134.1.Name, c134.1.Field, c134.1.Op, c134.1.Kids⟩ : za)] : List za), q1.Body, q1.Else⟩ : ze)))) fun c184 => zx (zds c184) (fun x226 => some (.error (x226.1, x226.2, (⟨(3 : UInt8), q1.Line, c87.1, q1.Field, q1.Call, (⟨q1.Type_.Kind, q1.Type_.N, q1.Type_.Name⟩ : zz), ([(⟨c134.1.Kind, c134.1.Num, c134.1.Name, c134.1.Field, c134.1.Op, c134.1.Kids⟩ : za)] : List za), q1.Body, q1.Else⟩ : ze)))) fun c222 => (room (([(⟨c134.1.Kind, c134.1.Num, c134.1.Name, c134.1.Field, c134.1.Op, c134.1.Kids⟩ : za)] : List za).length + ([(⟨(0 : UInt8), 0, (⟨#[]⟩ : ByteArray), (⟨#[]⟩ : ByteArray), (⟨#[]⟩ : ByteArray), []⟩ : za)] : List za).length)).bind fun _ => (zI (([(⟨c134.1.Kind, c134.1.Num, c134.1.Name, c134.1.Field, c134.1.Op, c134.1.Kids⟩ : za)] : List za) ++ ([(⟨(0 : UInt8), 0, (⟨#[]⟩ : ByteArray), (⟨#[]⟩ : ByteArray), (⟨#[]⟩ : ByteArray), []⟩ : za)] : List za)) (([(⟨c134.1.Kind, c134.1.Num, c134.1.Name, c134.1.Field, c134.1.Op, c134.1.Kids⟩ : za)] : List za).length : Int)).bind fun y275 => some (.ok (c222.2, (⟨(3 : UInt8), q1.Line, c87.1, q1.Field, q1.Call, (⟨q1.Type_.Kind, q1.Type_.N, q1.Type_.Name⟩ : zz), ((([(⟨c134.1.Kind, c134.1.Num, c134.1.Name, c134.1.Field, c134.1.Op, c134.1.Kids⟩ : za)] : List za) ++ ([(⟨(0 : UInt8), 0, (⟨#[]⟩ : ByteArray), (⟨#[]⟩ : ByteArray), (⟨#[]⟩ : ByteArray), []⟩ : za)] : List za)).set (Int.toNat (([(⟨c134.1.Kind, c134.1.Num, c134.1.Name, c134.1.Field, c134.1.Op, c134.1.Kids⟩ : za)] : List za).length : Int)) (⟨c222.1.Kind, c222.1.Num, c222.1.Name, c222.1.Field, c222.1.Op, c222.1.Kids⟩ : za)), q1.Body, q1.Else⟩ : ze))) else (zbw c87.2 4 ([(⟨#[46]⟩ : ByteArray)] : List ByteArray)).bind fun c297 => (if c297.1 = true then zx (zcL c297.2) (fun x320 => some (.error (x320.1, x320.2, (⟨q1.Kind, q1.Line, c87.1, q1.Field, q1.Call, (⟨q1.Type_.Kind, q1.Type_.N, q1.Type_.Name⟩ : zz), q1.Kids, q1.Body, q1.Else⟩ : ze)))) fun c316 => zx (zb6 c316.2 ([(⟨#[61]⟩ : ByteArray)] : List ByteArray)) (fun x362 => some (.error (x362.1, x362.2, (⟨(4 : UInt8), q1.Line, c87.1, c316.1, q1.Call, (⟨q1.Type_.Kind, q1.Type_.N, q1.Type_.Name⟩ : zz), q1.Kids, q1.Body, q1.Else⟩ : ze)))) fun c358 => zx (zds c358) (fun x398 => some (.error (x398.1, x398.2, (⟨(4 : UInt8), q1.Line, c87.1, c316.1, q1.Call, (⟨q1.Type_.Kind, q1.Type_.N, q1.Type_.Name⟩ : zz), q1.Kids, q1.Body, q1.Else⟩ : ze)))) fun c394 => some (.ok (c394.2, (⟨(4 : UInt8), q1.Line, c87.1, c316.1, q1.Call, (⟨q1.Type_.Kind, q1.Type_.N, q1.Type_.Name⟩ : zz), ([(⟨c394.1.Kind, c394.1.Num, c394.1.Name, c394.1.Field, c394.1.Op, c394.1.Kids⟩ : za)] : List za), q1.Body, q1.Else⟩ : ze))) else zx (zb6 c297.2 ([(⟨#[61]⟩ : ByteArray)] : List ByteArray)) (fun x450 => some (.error (x450.1, x450.2, (⟨q1.Kind, q1.Line, c87.1, q1.Field, q1.Call, (⟨q1.Type_.Kind, q1.Type_.N, q1.Type_.Name⟩ : zz), q1.Kids, q1.Body, q1.Else⟩ : ze)))) fun c446 => zx (zgL c446 (⟨q1.Kind, q1.Line, c87.1, q1.Field, q1.Call, (⟨q1.Type_.Kind, q1.Type_.N, q1.Type_.Name⟩ : zz), q1.Kids, q1.Body, q1.Else⟩ : ze)) (fun x486 => some (.error (x486.1, x486.2.1, x486.2.2))) fun c482 => some (.ok (c482.1, c482.2)))))
def zed (x412 : List zl) (x414 : Int) (x418 : List zo) (x423 : List zi) (x425 : UInt8) (x426 : Int) (x427 : ByteArray) (x428 : ByteArray) (x429 : ByteArray) (x430 : UInt8) (x431 : Int) (x432 : ByteArray) (x435 : List za) (x439 : List ze) (x443 : List ze) : Option (Except (Value × zb × ze) (zb × ze)) :=
 zx (zb6 (⟨(⟨x412, x414⟩ : zW), (⟨x418, x423⟩ : zN)⟩ : zb) ([(⟨#[59]⟩ : ByteArray)] : List ByteArray)) (fun x455 => some (.error (x455.1, x455.2, (⟨x425, x426, x427, x428, x429, (⟨x430, x431, x432⟩ : zz), x435, x439, x443⟩ : ze)))) fun c451 => some (.ok (c451, (⟨x425, x426, x427, x428, x429, (⟨x430, x431, x432⟩ : zz), x435, x439, x443⟩ : ze)))
def zho (q0 : zb) (q1 : ze) : Option (Except (Value × zb × ze) (zb × ze)) :=
 (zbw q0 3 ([(⟨#[118, 97, 114]⟩ : ByteArray)] : List ByteArray)).bind fun c493 => (if c493.1 = true then zx (zgR c493.2 q1) (fun x516 => some (.error (x516.1, x516.2.1, x516.2.2))) fun c512 => zed c512.1.cursor.tokens c512.1.cursor.at_ c512.1.prog.Structs c512.1.prog.Funcs c512.2.Kind c512.2.Line c512.2.Name c512.2.Field c512.2.Call c512.2.Type_.Kind c512.2.Type_.N c512.2.Type_.Name c512.2.Kids c512.2.Body c512.2.Else else (zbw c493.2 3 ([(⟨#[112, 114, 105, 110, 116]⟩ : ByteArray)] : List ByteArray)).bind fun c578 => (if c578.1 = true then zx (zb6 c578.2 ([(⟨#[40]⟩ : ByteArray)] : List ByteArray)) (fun x607 => some (.error (x607.1, x607.2, q1))) fun c603 => zx (zds c603) (fun x643 => some (.error (x643.1, x643.2, q1))) fun c639 => zx (zb6 c639.2 ([(⟨#[41]⟩ : ByteArray)] : List ByteArray)) (fun x693 => some (.error (x693.1, x693.2, (⟨(8 : UInt8), q1.Line, q1.Name, q1.Field, q1.Call, (⟨q1.Type_.Kind, q1.Type_.N, q1.Type_.Name⟩ : zz), ([(⟨c639.1.Kind, c639.1.Num, c639.1.Name, c639.1.Field, c639.1.Op, c639.1.Kids⟩ : za)] : List za), q1.Body, q1.Else⟩ : ze)))) fun c689 => zed c689.cursor.tokens c689.cursor.at_ c689.prog.Structs c689.prog.Funcs (8 : UInt8) q1.Line q1.Name q1.Field q1.Call q1.Type_.Kind q1.Type_.N q1.Type_.Name ([(⟨c639.1.Kind, c639.1.Num, c639.1.Name, c639.1.Field, c639.1.Op, c639.1.Kids⟩ : za)] : List za) q1.Body q1.Else else (zbw c578.2 3 ([(⟨#[114, 101, 116, 117, 114, 110]⟩ : ByteArray)] : List ByteArray)).bind fun c735 => (if c735.1 = true then (zcD c735.2 4 ([(⟨#[59]⟩ : ByteArray)] : List ByteArray)).bind fun c760 => (if (!c760) = true then zx (zds c735.2) (fun x769 => some (.error (x769.1, x769.2, (⟨(10 : UInt8), q1.Line, q1.Name, q1.Field, q1.Call, (⟨q1.Type_.Kind, q1.Type_.N, q1.Type_.Name⟩ : zz), q1.Kids, q1.Body, q1.Else⟩ : ze)))) fun c765 => zed c765.2.cursor.tokens c765.2.cursor.at_ c765.2.prog.Structs c765.2.prog.Funcs (10 : UInt8) q1.Line q1.Name q1.Field q1.Call q1.Type_.Kind q1.Type_.N q1.Type_.Name ([(⟨c765.1.Kind, c765.1.Num, c765.1.Name, c765.1.Field, c765.1.Op, c765.1.Kids⟩ : za)] : List za) q1.Body q1.Else else zed c735.2.cursor.tokens c735.2.cursor.at_ c735.2.prog.Structs c735.2.prog.Funcs (10 : UInt8) q1.Line q1.Name q1.Field q1.Call q1.Type_.Kind q1.Type_.N q1.Type_.Name q1.Kids q1.Body q1.Else) else zx (zgp c735.2 q1) (fun x815 => some (.error (x815.1, x815.2.1, x815.2.2))) fun c811 => zed c811.1.cursor.tokens c811.1.cursor.at_ c811.1.prog.Structs c811.1.prog.Funcs c811.2.Kind c811.2.Line c811.2.Name c811.2.Field c811.2.Call c811.2.Type_.Kind c811.2.Type_.N c811.2.Type_.Name c811.2.Kids c811.2.Body c811.2.Else)))
def zgm (rec4 : (List zl) → Int → (List zo) → (List zi) → (List ze) → Option (Except (Value × zb) ((List ze) × zb))) (R_syntax_parser_stmt : zb → Option (Except (Value × zb) (ze × zb))) (x136 : List zl) (x138 : Int) (x142 : List zo) (x147 : List zi) (x152 : List ze) : Option (Except (Value × zb) ((List ze) × zb)) :=
 (zbw (⟨(⟨x136, x138⟩ : zW), (⟨x142, x147⟩ : zN)⟩ : zb) 4 ([(⟨#[125]⟩ : ByteArray)] : List ByteArray)).bind fun c239 => (if (!c239.1) = true then zx (R_syntax_parser_stmt c239.2) (fun x262 => some (.error (x262.1, x262.2))) fun c258 => (room (2 * (x152.length + 1))).bind fun _ => rec4 c258.2.cursor.tokens c258.2.cursor.at_ c258.2.prog.Structs c258.2.prog.Funcs (x152 ++ [(⟨c258.1.Kind, c258.1.Line, c258.1.Name, c258.1.Field, c258.1.Call, (⟨c258.1.Type_.Kind, c258.1.Type_.N, c258.1.Type_.Name⟩ : zz), c258.1.Kids, c258.1.Body, c258.1.Else⟩ : ze)]) else some (.ok (x152, c239.2)))
def zfp (R_syntax_parser_stmt : zb → Option (Except (Value × zb) (ze × zb))) : Nat → (List zl) → Int → (List zo) → (List zi) → (List ze) → Option (Except (Value × zb) ((List ze) × zb))
 | 0, _, _, _, _, _ => none
 | n + 1, x136, x138, x142, x147, x152 => zgm (zfp R_syntax_parser_stmt n) R_syntax_parser_stmt x136 x138 x142 x147 x152
def zhd (R_syntax_parser_block : zb → Option (Except (Value × zb) ((List ze) × zb))) (R_syntax_parser_stmt : zb → Option (Except (Value × zb) (ze × zb))) (q0 : zb) : Option (Except (Value × zb) ((List ze) × zb)) :=
 zx (zb6 q0 ([(⟨#[123]⟩ : ByteArray)] : List ByteArray)) (fun x12 => some (.error (x12.1, x12.2))) fun c8 => zfp R_syntax_parser_stmt big c8.cursor.tokens c8.cursor.at_ c8.prog.Structs c8.prog.Funcs ([])
def zeB (q0 : zb) : Option Int :=
 (if (decide (q0.cursor.at_ < (q0.cursor.tokens.length : Int))) = true then (zI q0.cursor.tokens q0.cursor.at_).bind fun y3 => some y3.Line else some 0)
def ze2 (x451 : List zl) (x453 : Int) (x457 : List zo) (x462 : List zi) (x464 : UInt8) (x465 : Int) (x466 : ByteArray) (x467 : ByteArray) (x468 : ByteArray) (x469 : UInt8) (x470 : Int) (x471 : ByteArray) (x474 : List za) (x478 : List ze) (x482 : List ze) : Option (Except (Value × zb) (ze × zb)) :=
 some (.ok ((⟨x464, x465, x466, x467, x468, (⟨x469, x470, x471⟩ : zz), x474, x478, x482⟩ : ze), (⟨(⟨x451, x453⟩ : zW), (⟨x457, x462⟩ : zN)⟩ : zb)))
def zhm (R_syntax_parser_block : zb → Option (Except (Value × zb) ((List ze) × zb))) (R_syntax_parser_stmt : zb → Option (Except (Value × zb) (ze × zb))) (q0 : zb) : Option (Except (Value × zb) (ze × zb)) :=
 (zeB q0).bind fun c3 => (zbw q0 3 ([(⟨#[105, 102]⟩ : ByteArray)] : List ByteArray)).bind fun c490 => (if c490.1 = true then zx (zds c490.2) (fun x513 => some (.error (x513.1, x513.2))) fun c509 => zx (R_syntax_parser_block c509.2) (fun x557 => some (.error (x557.1, x557.2))) fun c553 => (zbw c553.2 3 ([(⟨#[101, 108, 115, 101]⟩ : ByteArray)] : List ByteArray)).bind fun c600 => (if c600.1 = true then zx (R_syntax_parser_block c600.2) (fun x623 => some (.error (x623.1, x623.2))) fun c619 => ze2 c619.2.cursor.tokens c619.2.cursor.at_ c619.2.prog.Structs c619.2.prog.Funcs (6 : UInt8) c3 (⟨#[]⟩ : ByteArray) (⟨#[]⟩ : ByteArray) (⟨#[]⟩ : ByteArray) (0 : UInt8) 0 (⟨#[]⟩ : ByteArray) ([(⟨c509.1.Kind, c509.1.Num, c509.1.Name, c509.1.Field, c509.1.Op, c509.1.Kids⟩ : za)] : List za) c553.1 c619.1 else ze2 c600.2.cursor.tokens c600.2.cursor.at_ c600.2.prog.Structs c600.2.prog.Funcs (6 : UInt8) c3 (⟨#[]⟩ : ByteArray) (⟨#[]⟩ : ByteArray) (⟨#[]⟩ : ByteArray) (0 : UInt8) 0 (⟨#[]⟩ : ByteArray) ([(⟨c509.1.Kind, c509.1.Num, c509.1.Name, c509.1.Field, c509.1.Op, c509.1.Kids⟩ : za)] : List za) c553.1 ([])) else (zbw c490.2 3 ([(⟨#[102, 111, 114]⟩ : ByteArray)] : List ByteArray)).bind fun c676 => (if c676.1 = true then zx (zds c676.2) (fun x699 => some (.error (x699.1, x699.2))) fun c695 => zx (R_syntax_parser_block c695.2) (fun x743 => some (.error (x743.1, x743.2))) fun c739 => ze2 c739.2.cursor.tokens c739.2.cursor.at_ c739.2.prog.Structs c739.2.prog.Funcs (7 : UInt8) c3 (⟨#[]⟩ : ByteArray) (⟨#[]⟩ : ByteArray) (⟨#[]⟩ : ByteArray) (0 : UInt8) 0 (⟨#[]⟩ : ByteArray) ([(⟨c695.1.Kind, c695.1.Num, c695.1.Name, c695.1.Field, c695.1.Op, c695.1.Kids⟩ : za)] : List za) c739.1 ([]) else zx (zho c676.2 (⟨(0 : UInt8), c3, (⟨#[]⟩ : ByteArray), (⟨#[]⟩ : ByteArray), (⟨#[]⟩ : ByteArray), (⟨(0 : UInt8), 0, (⟨#[]⟩ : ByteArray)⟩ : zz), [], [], []⟩ : ze)) (fun x788 => some (.error (x788.1, x788.2.1))) fun c784 => ze2 c784.1.cursor.tokens c784.1.cursor.at_ c784.1.prog.Structs c784.1.prog.Funcs c784.2.Kind c784.2.Line c784.2.Name c784.2.Field c784.2.Call c784.2.Type_.Kind c784.2.Type_.N c784.2.Type_.Name c784.2.Kids c784.2.Body c784.2.Else))
def zcd : Nat → (zb → Option (Except (Value × zb) ((List ze) × zb))) × (zb → Option (Except (Value × zb) (ze × zb)))
 | 0 => (fun _ => none, fun _ => none)
 | gn + 1 => (zhd ((zcd gn).1) ((zcd gn).2), zhm ((zcd gn).1) ((zcd gn).2))
def zjh (q0 : zb) : Option (Except (Value × zb) ((List ze) × zb)) := (zcd big).1 q0
def zfT (c2 : Int) (c49 : ByteArray × zb) (x573 : List zl) (x575 : Int) (x579 : List zo) (x584 : List zi) (x589 : List z4) : Option (Except (Value × zb) (zb)) :=
 zx (zfb (⟨(⟨x573, x575⟩ : zW), (⟨x579, x584⟩ : zN)⟩ : zb) false) (fun x595 => some (.error (x595.1, x595.2))) fun c591 => zx (zjh c591.2) (fun x631 => some (.error (x631.1, x631.2))) fun c627 => (room (c627.2.prog.Funcs.length + ([(⟨c49.1, c2, x589, (⟨c591.1.Kind, c591.1.N, c591.1.Name⟩ : zz), c627.1⟩ : zi)] : List zi).length)).bind fun _ => some (.ok (⟨(⟨c627.2.cursor.tokens, c627.2.cursor.at_⟩ : zW), (⟨c627.2.prog.Structs, (c627.2.prog.Funcs ++ ([(⟨c49.1, c2, x589, (⟨c591.1.Kind, c591.1.N, c591.1.Name⟩ : zz), c627.1⟩ : zi)] : List zi))⟩ : zN)⟩ : zb))
def zf9 (rec10 : (List zl) → Int → (List zo) → (List zi) → (List z4) → Option (Except (Value × zb) (zb))) (c2 : Int) (c49 : ByteArray × zb) (x860 : List zl) (x862 : Int) (x866 : List zo) (x871 : List zi) (x876 : List z4) : Option (Except (Value × zb) (zb)) :=
 (zbw (⟨(⟨x860, x862⟩ : zW), (⟨x866, x871⟩ : zN)⟩ : zb) 4 ([(⟨#[44]⟩ : ByteArray)] : List ByteArray)).bind fun c997 => (if c997.1 = true then zx (zfM c997.2) (fun x1020 => some (.error (x1020.1, x1020.2))) fun c1016 => (room (x876.length + ([(⟨c1016.1.Name, (⟨c1016.1.Type_.Kind, c1016.1.Type_.N, c1016.1.Type_.Name⟩ : zz)⟩ : z4)] : List z4).length)).bind fun _ => rec10 c1016.2.cursor.tokens c1016.2.cursor.at_ c1016.2.prog.Structs c1016.2.prog.Funcs (x876 ++ ([(⟨c1016.1.Name, (⟨c1016.1.Type_.Kind, c1016.1.Type_.N, c1016.1.Type_.Name⟩ : zz)⟩ : z4)] : List z4)) else zx (zb6 c997.2 ([(⟨#[41]⟩ : ByteArray)] : List ByteArray)) (fun x1071 => some (.error (x1071.1, x1071.2))) fun c1067 => zfT c2 c49 c1067.cursor.tokens c1067.cursor.at_ c1067.prog.Structs c1067.prog.Funcs x876)
def zfX (c2 : Int) (c49 : ByteArray × zb) : Nat → (List zl) → Int → (List zo) → (List zi) → (List z4) → Option (Except (Value × zb) (zb))
 | 0, _, _, _, _, _ => none
 | n + 1, x860, x862, x866, x871, x876 => zf9 (zfX c2 c49 n) c2 c49 x860 x862 x866 x871 x876
def zhh (q0 : zb) : Option (Except (Value × zb) (zb)) :=
 (zeB q0).bind fun c2 => zx (zcY q0 3 ([(⟨#[102, 117, 110, 99]⟩ : ByteArray)] : List ByteArray)) (fun x17 => some (.error (x17.1, x17.2))) fun c13 => zx (zcL c13.2) (fun x53 => some (.error (x53.1, x53.2))) fun c49 => zx (zb6 c49.2 ([(⟨#[40]⟩ : ByteArray)] : List ByteArray)) (fun x95 => some (.error (x95.1, x95.2))) fun c91 => (zbw c91 4 ([(⟨#[41]⟩ : ByteArray)] : List ByteArray)).bind fun c133 => (if (!c133.1) = true then zx (zfM c133.2) (fun x688 => some (.error (x688.1, x688.2))) fun c684 => (room (([] : List z4).length + ([(⟨c684.1.Name, (⟨c684.1.Type_.Kind, c684.1.Type_.N, c684.1.Type_.Name⟩ : zz)⟩ : z4)] : List z4).length)).bind fun _ => zfX c2 c49 big c684.2.cursor.tokens c684.2.cursor.at_ c684.2.prog.Structs c684.2.prog.Funcs (([] : List z4) ++ ([(⟨c684.1.Name, (⟨c684.1.Type_.Kind, c684.1.Type_.N, c684.1.Type_.Name⟩ : zz)⟩ : z4)] : List z4)) else zfT c2 c49 c133.2.cursor.tokens c133.2.cursor.at_ c133.2.prog.Structs c133.2.prog.Funcs ([]))
def ze3 (rec4 : (List zl) → Int → (List zo) → (List zi) → Option (Except (Value × zb × Bool) (zb × Bool))) (qf0 : Bool) (x112 : List zl) (x114 : Int) (x118 : List zo) (x123 : List zi) : Option (Except (Value × zb × Bool) (zb × Bool)) :=
 (if (decide (x114 < (x112.length : Int))) = true then (zbw (⟨(⟨x112, x114⟩ : zW), (⟨x118, x123⟩ : zN)⟩ : zb) 3 ([(⟨#[116, 121, 112, 101]⟩ : ByteArray)] : List ByteArray)).bind fun c231 => (if c231.1 = true then zx (zf7 c231.2) (fun x254 => some (.error (x254.1, x254.2, qf0))) fun c250 => rec4 c250.cursor.tokens c250.cursor.at_ c250.prog.Structs c250.prog.Funcs else zx (zhh c231.2) (fun x290 => some (.error (x290.1, x290.2, qf0))) fun c286 => rec4 c286.cursor.tokens c286.cursor.at_ c286.prog.Structs c286.prog.Funcs) else some (.ok ((⟨(⟨x112, x114⟩ : zW), (⟨x118, x123⟩ : zN)⟩ : zb), true)))
def zej (qf0 : Bool) : Nat → (List zl) → Int → (List zo) → (List zi) → Option (Except (Value × zb × Bool) (zb × Bool))
 | 0, _, _, _, _ => none
 | n + 1, x112, x114, x118, x123 => ze3 (zej qf0 n) qf0 x112 x114 x118 x123
def zga (q0 : zb) (qf0 : Bool) : Option (Except (Value × zb × Bool) (zb × Bool)) :=
 zej qf0 big q0.cursor.tokens q0.cursor.at_ q0.prog.Structs q0.prog.Funcs
def zg6 : Value → Bool
 | .iface t (.agg cs) => decide (t = 92) && decide (cs.size = 0)
 | _ => false
def zik (q0 : zb) : Option (Bool × zb) :=
 match zga q0 false with
  | none => none
  | some (.ok c) => some (c.2, c.1)
  | some (.error c) => if zg6 c.1 = true then some (false, c.2.1) else none
def zgz (rec4 : Int → Int → Option Int) (R_syntax_depth : za → Option Int) (p0 : za) (x18 : Int) (x19 : Int) : Option Int :=
 (if (decide (x19 < (p0.Kids.length : Int))) = true then (zI p0.Kids x19).bind fun y37 => (R_syntax_depth y37).bind fun c47 => rec4 (zem x18 c47) (IntKind.i64.wrap (x19 + 1)) else some (IntKind.i64.wrap (x18 + 1)))
def zfd (R_syntax_depth : za → Option Int) (p0 : za) : Nat → Int → Int → Option Int
 | 0, _, _ => none
 | n + 1, x18, x19 => zgz (zfd R_syntax_depth p0 n) R_syntax_depth p0 x18 x19
def zi8 (R_syntax_depth : za → Option Int) (p0 : za) : Option Int :=
 zfd R_syntax_depth p0 big 0 0
def zdR : Nat → (za → Option Int)
 | 0 => fun _ => none
 | gn + 1 => zi8 (zdR gn)
def zi7 (p0 : za) : Option Int := (zdR big) p0
def zgu (p0 : za) : Option Bool :=
 (zi7 p0).bind fun c3 => some (decide (c3 > 40))
def zgV (rec4 : Int → Option Int) (p0 : (List za)) (x18 : Int) : Option Int :=
 (if (decide (x18 < (p0.length : Int))) = true then (zI p0 x18).bind fun y36 => (zgu y36).bind fun c45 => (if c45 = true then some x18 else rec4 (IntKind.i64.wrap (x18 + 1))) else some (-1))
def zeT (p0 : (List za)) : Nat → Int → Option Int
 | 0, _ => none
 | n + 1, x18 => zgV (zeT p0 n) p0 x18
def zir (p0 : (List za)) : Option Int :=
 zeT p0 big 0
def zhb (p0 : (List za)) : Option Bool :=
 (zir p0).bind fun c3 => some (decide (c3 ≥ 0))
def zhk (R_syntax_deep : (List ze) → Int → Option Bool) (p0 : ze) (qf0 : Int) : Option Bool :=
 ((if (qf0 == 0) = true then some true else (zhb p0.Kids).bind fun c6 => some c6)).bind fun c3 => ((if c3 = true then some true else (R_syntax_deep p0.Body (IntKind.i64.wrap (qf0 - 1))).bind fun c13 => some c13)).bind fun c10 => ((if c10 = true then some true else (R_syntax_deep p0.Else (IntKind.i64.wrap (qf0 - 1))).bind fun c20 => some c20)).bind fun c17 => some c17
def zgY (rec4 : Int → Option Int) (R_syntax_deep : (List ze) → Int → Option Bool) (p0 : (List ze)) (q1_0 : Int) (x26 : Int) : Option Int :=
 (if (decide (x26 < (p0.length : Int))) = true then (zI p0 x26).bind fun y52 => (zhk R_syntax_deep y52 q1_0).bind fun c69 => (if c69 = true then some x26 else rec4 (IntKind.i64.wrap (x26 + 1))) else some (-1))
def ze6 (R_syntax_deep : (List ze) → Int → Option Bool) (p0 : (List ze)) (q1_0 : Int) : Nat → Int → Option Int
 | 0, _ => none
 | n + 1, x26 => zgY (ze6 R_syntax_deep p0 q1_0 n) R_syntax_deep p0 q1_0 x26
def zh2 (R_syntax_deep : (List ze) → Int → Option Bool) (p0 : (List ze)) (q1_0 : Int) : Option Int :=
 ze6 R_syntax_deep p0 q1_0 big 0
def zgH (R_syntax_deep : (List ze) → Int → Option Bool) (p0 : (List ze)) (q1_0 : Int) : Option Bool :=
 (zh2 R_syntax_deep p0 q1_0).bind fun c3 => some (decide (c3 ≥ 0))
def zj2 (R_syntax_deep : (List ze) → Int → Option Bool) (p0 : (List ze)) (p1 : Int) : Option Bool :=
 (zgH R_syntax_deep p0 p1).bind fun c6 => some c6
def zcX : Nat → ((List ze) → Int → Option Bool)
 | 0 => fun _ _ => none
 | gn + 1 => zj2 (zcX gn)
def zi9 (p0 : (List ze)) (p1 : Int) : Option Bool := (zcX big) p0 p1
def zhB (p0 : zi) : Option Bool :=
 (zi9 p0.Body 40).bind fun c3 => some c3
def zgw (rec4 : Int → Option Int) (p0 : (List zi)) (x22 : Int) : Option Int :=
 (if (decide (x22 < (p0.length : Int))) = true then (zI p0 x22).bind fun y44 => (zhB y44).bind fun c57 => (if c57 = true then some x22 else rec4 (IntKind.i64.wrap (x22 + 1))) else some (-1))
def ze4 (p0 : (List zi)) : Nat → Int → Option Int
 | 0, _ => none
 | n + 1, x22 => zgw (ze4 p0 n) p0 x22
def ziH (p0 : (List zi)) : Option Int :=
 ze4 p0 big 0
def zfS (p0 : (List zi)) : Option Bool :=
 (ziH p0).bind fun c3 => some (decide (c3 ≥ 0))
def zdk (p0 : (List zl)) : Option (zN × Int × Int) :=
 (zik (⟨(⟨p0, 0⟩ : zW), (⟨([] : List zo), ([] : List zi)⟩ : zN)⟩ : zb)).bind fun c6 => (if (!c6.1) = true then some ((⟨[], []⟩ : zN), c6.2.cursor.at_, 7) else (zfS c6.2.prog.Funcs).bind fun c27 => (if c27 = true then some ((⟨[], []⟩ : zN), 0, 11) else some (c6.2.prog, 0, 0)))
def zj5 (rec16 : Int → Option Int) (rec14 : Int → Option Int) (p0 : (List UInt8)) (x120 : Int) : Option Int :=
 ((if (decide (x120 < (p0.length : Int))) = true then (zI p0 x120).bind fun y134 => some ((y134.toNat : Int) != 10) else some false)).bind fun c131 => (if c131 = true then rec16 (IntKind.i64.wrap (x120 + 1)) else rec14 x120)
def ziu (rec14 : Int → Option Int) (p0 : (List UInt8)) : Nat → Int → Option Int
 | 0, _ => none
 | n + 1, x120 => zj5 (ziu rec14 p0 n) rec14 p0 x120
def zkS (rec14 : Int → Option Int) (p0 : (List UInt8)) (x48 : Int) : Option Int :=
 (if (decide (x48 < (p0.length : Int))) = true then (zI p0 x48).bind fun y96 => (if (((((y96.toNat : Int) == 32) || ((y96.toNat : Int) == 9)) || ((y96.toNat : Int) == 13)) || ((y96.toNat : Int) == 10)) = true then rec14 (IntKind.i64.wrap (x48 + 1)) else ((if (((y96.toNat : Int) == 47) && (decide ((IntKind.i64.wrap (x48 + 1)) < (p0.length : Int)))) = true then (zI p0 (IntKind.i64.wrap (x48 + 1))).bind fun y105 => some ((y105.toNat : Int) == 47) else some false)).bind fun c102 => (if c102 = true then ziu rec14 p0 big x48 else some x48)) else some x48)
def zeS (p0 : (List UInt8)) : Nat → Int → Option Int
 | 0, _ => none
 | n + 1, x48 => zkS (zeS p0 n) p0 x48
def zih (p0 : (List UInt8)) (p1 : Int) : Option Int :=
 zeS p0 big p1
def zgr (p0 : Int) : Option Bool :=
 ((if ((decide (p0 ≥ 97)) && (decide (p0 ≤ 122))) = true then some true else (if (decide (p0 ≥ 65)) = true then some (decide (p0 ≤ 90)) else some false))).bind fun c2 => some (c2 || (p0 == 95))
def zf6 (p0 : Int) : Option Bool :=
 some ((decide (p0 ≥ 48)) && (decide (p0 ≤ 57)))
def zkf (rec4 : Int → Option Bool) (p0 : (List ByteArray)) (p1 : ByteArray) (x10 : Int) : Option Bool :=
 (if (decide (x10 < (p0.length : Int))) = true then (zI p0 x10).bind fun y20 => (if (zb4 y20 p1) = true then some true else rec4 (IntKind.i64.wrap (x10 + 1))) else some false)
def zib (p0 : (List ByteArray)) (p1 : ByteArray) : Nat → Int → Option Bool
 | 0, _ => none
 | n + 1, x10 => zkf (zib p0 p1 n) p0 p1 x10
def zkj (p0 : (List ByteArray)) (p1 : ByteArray) : Option Bool :=
 zib p0 p1 big 0
def zjb  : Option (List ByteArray) :=
 some ([(⟨#[116, 121, 112, 101]⟩ : ByteArray), (⟨#[115, 116, 114, 117, 99, 116]⟩ : ByteArray), (⟨#[102, 117, 110, 99]⟩ : ByteArray), (⟨#[118, 97, 114]⟩ : ByteArray), (⟨#[105, 102]⟩ : ByteArray), (⟨#[101, 108, 115, 101]⟩ : ByteArray), (⟨#[102, 111, 114]⟩ : ByteArray), (⟨#[114, 101, 116, 117, 114, 110]⟩ : ByteArray), (⟨#[112, 114, 105, 110, 116]⟩ : ByteArray), (⟨#[105, 110, 112, 117, 116]⟩ : ByteArray), (⟨#[105, 110, 116]⟩ : ByteArray), (⟨#[98, 111, 111, 108]⟩ : ByteArray), (⟨#[116, 114, 117, 101]⟩ : ByteArray), (⟨#[102, 97, 108, 115, 101]⟩ : ByteArray)] : List ByteArray)
def zjW (rec4 : Int → Int → Option (Int × Bool)) (p0 : ByteArray) (x11 : Int) (x12 : Int) : Option (Int × Bool) :=
 (if (decide (x12 < (p0.size : Int))) = true then (zhN p0 x12).bind fun y24 => (if (decide (x11 > (IntKind.i64.wrap (Int.tdiv (IntKind.i64.wrap (9223372036854775807 - (IntKind.i64.wrap (IntKind.u8.wrap ((y24.toNat : Int) - 48))))) 10)))) = true then some (0, false) else rec4 (IntKind.i64.wrap ((IntKind.i64.wrap (10 * x11)) + (IntKind.i64.wrap (IntKind.u8.wrap ((y24.toNat : Int) - 48))))) (IntKind.i64.wrap (x12 + 1))) else ((if ((p0.size : Int) == 1) = true then some true else (zhN p0 0).bind fun y30 => some ((y30.toNat : Int) != 48))).bind fun c27 => some (x11, c27))
def zhy (p0 : ByteArray) : Nat → Int → Int → Option (Int × Bool)
 | 0, _, _ => none
 | n + 1, x11, x12 => zjW (zhy p0 n) p0 x11 x12
def zjq (p0 : ByteArray) : Option (Int × Bool) :=
 zhy p0 big 0 0
def zjR  : Option (List ByteArray) :=
 some ([(⟨#[38, 38]⟩ : ByteArray), (⟨#[124, 124]⟩ : ByteArray), (⟨#[61, 61]⟩ : ByteArray), (⟨#[33, 61]⟩ : ByteArray), (⟨#[60, 61]⟩ : ByteArray), (⟨#[62, 61]⟩ : ByteArray), (⟨#[40]⟩ : ByteArray), (⟨#[41]⟩ : ByteArray), (⟨#[123]⟩ : ByteArray), (⟨#[125]⟩ : ByteArray), (⟨#[91]⟩ : ByteArray), (⟨#[93]⟩ : ByteArray), (⟨#[44]⟩ : ByteArray), (⟨#[59]⟩ : ByteArray), (⟨#[46]⟩ : ByteArray), (⟨#[61]⟩ : ByteArray), (⟨#[43]⟩ : ByteArray), (⟨#[45]⟩ : ByteArray), (⟨#[42]⟩ : ByteArray), (⟨#[47]⟩ : ByteArray), (⟨#[37]⟩ : ByteArray), (⟨#[60]⟩ : ByteArray), (⟨#[62]⟩ : ByteArray), (⟨#[33]⟩ : ByteArray)] : List ByteArray)
def zjF (rec8 : Int → Option (zl × Bool)) (p0 : (List UInt8)) (p1 : Int) (x58 : Int) : Option (zl × Bool) :=
 ((if (decide (x58 < (p0.length : Int))) = true then (zI p0 x58).bind fun y107 => (zgr (y107.toNat : Int)).bind fun c112 => (if c112 = true then some true else (zI p0 x58).bind fun y117 => (zf6 (y117.toNat : Int)).bind fun c122 => some c122) else some false)).bind fun c104 => (if c104 = true then rec8 (IntKind.i64.wrap (x58 + 1)) else (zcA p0 p1 x58).bind fun y127 => (zjb ).bind fun c132 => (zkj c132 (⟨y127.toArray⟩ : ByteArray)).bind fun c143 => (if c143 = true then some ((⟨(3 : UInt8), (⟨y127.toArray⟩ : ByteArray), 0, 0⟩ : zl), true) else some ((⟨(1 : UInt8), (⟨y127.toArray⟩ : ByteArray), 0, 0⟩ : zl), (decide (((⟨y127.toArray⟩ : ByteArray).size : Int) ≤ 24)))))
def zim (p0 : (List UInt8)) (p1 : Int) : Nat → Int → Option (zl × Bool)
 | 0, _ => none
 | n + 1, x58 => zjF (zim p0 p1 n) p0 p1 x58
def zjd (rec10 : Int → Option (zl × Bool)) (p0 : (List UInt8)) (p1 : Int) (x188 : Int) : Option (zl × Bool) :=
 ((if (decide (x188 < (p0.length : Int))) = true then (zI p0 x188).bind fun y228 => (zf6 (y228.toNat : Int)).bind fun c233 => some c233 else some false)).bind fun c225 => (if c225 = true then rec10 (IntKind.i64.wrap (x188 + 1)) else (zcA p0 p1 x188).bind fun y238 => (zjq (⟨y238.toArray⟩ : ByteArray)).bind fun c243 => ((if c243.2 = true then (if (x188 == (p0.length : Int)) = true then some true else (zI p0 x188).bind fun y251 => (zgr (y251.toNat : Int)).bind fun c256 => some (!c256)) else some false)).bind fun c247 => some ((⟨(2 : UInt8), (⟨y238.toArray⟩ : ByteArray), c243.1, 0⟩ : zl), c247))
def zhC (p0 : (List UInt8)) (p1 : Int) : Nat → Int → Option (zl × Bool)
 | 0, _ => none
 | n + 1, x188 => zjd (zhC p0 p1 n) p0 p1 x188
def zi3 (rec12 : (List ByteArray) → Int → Option (zl × Bool)) (p0 : (List UInt8)) (p1 : Int) (x315 : List ByteArray) (x317 : Int) : Option (zl × Bool) :=
 (if (decide (x317 < (x315.length : Int))) = true then (zI x315 x317).bind fun y358 => ((if (decide ((IntKind.i64.wrap (p1 + (y358.size : Int))) ≤ (p0.length : Int))) = true then (zI x315 x317).bind fun y368 => (zcA p0 p1 (IntKind.i64.wrap (p1 + (y368.size : Int)))).bind fun y375 => (zI x315 x317).bind fun y380 => some (zb4 (⟨y375.toArray⟩ : ByteArray) y380) else some false)).bind fun c365 => (if c365 = true then (zI x315 x317).bind fun y388 => some ((⟨(4 : UInt8), y388, 0, 0⟩ : zl), true) else rec12 x315 (IntKind.i64.wrap (x317 + 1))) else some ((⟨(0 : UInt8), (⟨#[]⟩ : ByteArray), 0, 0⟩ : zl), false))
def zhA (p0 : (List UInt8)) (p1 : Int) : Nat → (List ByteArray) → Int → Option (zl × Bool)
 | 0, _, _ => none
 | n + 1, x315, x317 => zi3 (zhA p0 p1 n) p0 p1 x315 x317
def zi2 (p0 : (List UInt8)) (p1 : Int) : Option (zl × Bool) :=
 (zI p0 p1).bind fun y4 => (zgr (y4.toNat : Int)).bind fun c9 => (if c9 = true then zim p0 p1 big p1 else (zf6 (y4.toNat : Int)).bind fun c148 => (if c148 = true then zhC p0 p1 big p1 else (zjR ).bind fun c260 => zhA p0 p1 big c260 0))
def zkM (rec16 : (List zl) → Int → Int → Option ((List zl) × Int × Int)) (rec14 : (List zl) → Int → Int → Int → Option ((List zl) × Int × Int)) (p0 : (List UInt8)) (x87 : Int) (x200 : List zl) (x202 : Int) (x203 : Int) : Option ((List zl) × Int × Int) :=
 (if (decide (x203 < x87)) = true then (zI p0 x203).bind fun y228 => (if ((y228.toNat : Int) == 10) = true then rec16 x200 (IntKind.i64.wrap (x202 + 1)) (IntKind.i64.wrap (x203 + 1)) else rec16 x200 x202 (IntKind.i64.wrap (x203 + 1))) else (zi2 p0 x87).bind fun c234 => (if (!c234.2) = true then some ([], x202, 6) else (room (x200.length + 1)).bind fun _ => (zih p0 (IntKind.i64.wrap (x87 + (c234.1.Text.size : Int)))).bind fun c245 => rec14 (x200 ++ [(⟨c234.1.Kind, c234.1.Text, c234.1.Num, x202⟩ : zl)]) x202 x203 c245))
def zhL (rec14 : (List zl) → Int → Int → Int → Option ((List zl) × Int × Int)) (p0 : (List UInt8)) (x87 : Int) : Nat → (List zl) → Int → Int → Option ((List zl) × Int × Int)
 | 0, _, _, _ => none
 | n + 1, x200, x202, x203 => zkM (zhL rec14 p0 x87 n) rec14 p0 x87 x200 x202 x203
def zja (rec14 : (List zl) → Int → Int → Int → Option ((List zl) × Int × Int)) (p0 : (List UInt8)) (x83 : List zl) (x85 : Int) (x86 : Int) (x87 : Int) : Option ((List zl) × Int × Int) :=
 (if (decide (x87 < (p0.length : Int))) = true then zhL rec14 p0 x87 big x83 x85 x86 else some (x83, 0, 0))
def zff (p0 : (List UInt8)) : Nat → (List zl) → Int → Int → Int → Option ((List zl) × Int × Int)
 | 0, _, _, _, _ => none
 | n + 1, x83, x85, x86, x87 => zja (zff p0 n) p0 x83 x85 x86 x87
def zkt (p0 : (List UInt8)) : Option ((List zl) × Int × Int) :=
 (if (decide ((p0.length : Int) > 16384)) = true then some ([], 0, 11) else (zih p0 0).bind fun c3 => zff p0 big ([]) 1 0 c3)
def ziN (p0 : ByteArray) : Option (List zl) :=
 (zkt (p0.data.toList)).bind fun c6 => some c6.1
def zfJ  : Option Bool :=
 (ziN (⟨#[102, 117, 110, 99, 32, 109, 97, 105, 110, 40, 41, 32, 123, 32, 120, 32, 61, 32, 49, 32, 45, 32, 50, 32, 45, 32, 51, 32, 42, 32, 45, 121, 59, 32, 125]⟩ : ByteArray)).bind fun c1 => (zdk c1).bind fun c12 => (ziN (⟨#[102, 117, 110, 99, 32, 109, 97, 105, 110, 40, 41, 32, 123, 32, 120, 32, 61, 32, 102, 40, 49, 41, 32, 43, 32, 50, 59, 32, 125]⟩ : ByteArray)).bind fun c25 => (zdk c25).bind fun c36 => ((if (((c12.2.2 != 0) || (c12.2.1 != 0)) || ((c12.1.Funcs.length : Int) != 1)) = true then some true else (zI c12.1.Funcs 0).bind fun y52 => some ((y52.Body.length : Int) != 1))).bind fun c49 => ((if c49 = true then some true else (zI c12.1.Funcs 0).bind fun y68 => (zI y68.Body 0).bind fun y81 => some ((y81.Kids.length : Int) != 1))).bind fun c65 => (if c65 = true then some false else (zI c12.1.Funcs 0).bind fun y99 => (zI y99.Body 0).bind fun y112 => (zI y112.Kids 0).bind fun y129 => ((if ((zb4 y129.Op (⟨#[45]⟩ : ByteArray)) && ((y129.Kids.length : Int) == 2)) = true then (zI y129.Kids 0).bind fun y142 => some (zb4 y142.Op (⟨#[45]⟩ : ByteArray)) else some false)).bind fun c139 => ((if c139 = true then (zI y129.Kids 1).bind fun y154 => some (zb4 y154.Op (⟨#[42]⟩ : ByteArray)) else some false)).bind fun c151 => some ((c151 && (c36.2.1 == 11)) && (c36.2.2 == 7)))
def zjp (rec4 : Int → Int → Option Int) (R_ref12_Depth : za → Option Int) (p0 : za) (x17 : Int) (x18 : Int) : Option Int :=
 (if (decide (x18 < (p0.Kids.length : Int))) = true then (zI p0.Kids x18).bind fun y35 => (R_ref12_Depth y35).bind fun c44 => rec4 (zem x17 c44) (IntKind.i64.wrap (x18 + 1)) else some (IntKind.i64.wrap (x17 + 1)))
def zhn (R_ref12_Depth : za → Option Int) (p0 : za) : Nat → Int → Int → Option Int
 | 0, _, _ => none
 | n + 1, x17, x18 => zjp (zhn R_ref12_Depth p0 n) R_ref12_Depth p0 x17 x18
def zot (R_ref12_Depth : za → Option Int) (p0 : za) : Option Int :=
 zhn R_ref12_Depth p0 big 0 0
def zgM : Nat → (za → Option Int)
 | 0 => fun _ => none
 | gn + 1 => zot (zgM gn)
def zmD (p0 : za) : Option Int := (zgM big) p0
def zkU (rec16 : Int → Option Int) (rec14 : Int → Int → Option Int) (p0 : (List ze)) (x194 : Int) (x195 : Int) (c424 : Int) (c428 : Int) (x481 : Int) : Option Int :=
 (zI p0 x195).bind fun y532 => (if (decide (x481 < (y532.Kids.length : Int))) = true then (zI p0 x195).bind fun y550 => (zI y550.Kids x481).bind fun y567 => (zmD y567).bind fun c576 => (if (decide (c576 > 40)) = true then some 41 else rec16 (IntKind.i64.wrap (x481 + 1))) else rec14 (zem (zem x194 (IntKind.i64.wrap (1 + c424))) (IntKind.i64.wrap (1 + c428))) (IntKind.i64.wrap (x195 + 1)))
def zgC (rec14 : Int → Int → Option Int) (p0 : (List ze)) (x194 : Int) (x195 : Int) (c424 : Int) (c428 : Int) : Nat → Int → Option Int
 | 0, _ => none
 | n + 1, x481 => zkU (zgC rec14 p0 x194 x195 c424 c428 n) rec14 p0 x194 x195 c424 c428 x481
def zjY (rec14 : Int → Int → Option Int) (R_ref12_deepest : (List ze) → Option Int) (p0 : (List ze)) (x194 : Int) (x195 : Int) : Option Int :=
 (if (decide (x195 < (p0.length : Int))) = true then (zI p0 x195).bind fun y390 => (zI p0 x195).bind fun y407 => (R_ref12_deepest y390.Body).bind fun c424 => (R_ref12_deepest y407.Else).bind fun c428 => zgC rec14 p0 x194 x195 c424 c428 big 0 else some x194)
def zfz (R_ref12_deepest : (List ze) → Option Int) (p0 : (List ze)) : Nat → Int → Int → Option Int
 | 0, _, _ => none
 | n + 1, x194, x195 => zjY (zfz R_ref12_deepest p0 n) R_ref12_deepest p0 x194 x195
def zps (R_ref12_deepest : (List ze) → Option Int) (p0 : (List ze)) : Option Int :=
 zfz R_ref12_deepest p0 big 0 0
def zkN : Nat → ((List ze) → Option Int)
 | 0 => fun _ => none
 | gn + 1 => zps (zkN gn)
def zl7 (p0 : (List ze)) : Option Int := (zkN big) p0
def zjD (rec4 : Int → Option Bool) (p0 : zN) (x22 : Int) : Option Bool :=
 (if (decide (x22 < (p0.Funcs.length : Int))) = true then (zI p0.Funcs x22).bind fun y44 => (zl7 y44.Body).bind fun c57 => (if (decide (c57 > 40)) = true then some true else rec4 (IntKind.i64.wrap (x22 + 1))) else some false)
def ziI (p0 : zN) : Nat → Int → Option Bool
 | 0, _ => none
 | n + 1, x22 => zjD (ziI p0 n) p0 x22
def zlz (p0 : zN) : Option Bool :=
 ziI p0 big 0
def z7 (q0 : zj) (p1 : Int) (p2 : ByteArray) : Option Bool :=
 ((if ((!q0.Failed) && (decide (q0.At < (q0.L.length : Int)))) = true then (zI q0.L q0.At).bind fun y7 => some ((y7.Kind.toNat : Int) == p1) else some false)).bind fun c4 => ((if c4 = true then (if (zb4 p2 (⟨#[]⟩ : ByteArray)) = true then some true else (zI q0.L q0.At).bind fun y16 => some (zb4 y16.Text p2)) else some false)).bind fun c12 => some c12
def zdZ (q0 : zj) (p1 : Int) (p2 : ByteArray) : Option (zl × zj) :=
 (z7 q0 p1 p2).bind fun c5 => (if (!c5) = true then some ((⟨(0 : UInt8), (⟨#[]⟩ : ByteArray), 0, 0⟩ : zl), (⟨q0.L, q0.At, true⟩ : zj)) else (zI q0.L (IntKind.i64.wrap ((IntKind.i64.wrap (q0.At + 1)) - 1))).bind fun y10 => some (y10, (⟨q0.L, (IntKind.i64.wrap (q0.At + 1)), q0.Failed⟩ : zj)))
def zcM (q0 : zj) : Option (ByteArray × zj) :=
 (zdZ q0 1 (⟨#[]⟩ : ByteArray)).bind fun c2 => some (c2.1.Text, c2.2)
def zde (q0 : zj) (p1 : ByteArray) : Option zj :=
 (zdZ q0 3 p1).bind fun c3 => some c3.2
def zbi (q0 : zj) (p1 : ByteArray) : Option zj :=
 (zdZ q0 4 p1).bind fun c3 => some c3.2
def zgA (q0 : zj) : Option Int :=
 (if (decide (q0.At < (q0.L.length : Int))) = true then (zI q0.L q0.At).bind fun y3 => some y3.Line else some 0)
def zea (q0 : zj) (p1 : Bool) : Option (zz × zj) :=
 (z7 q0 3 (⟨#[105, 110, 116]⟩ : ByteArray)).bind fun c4 => (if c4 = true then some ((⟨(1 : UInt8), 0, (⟨#[]⟩ : ByteArray)⟩ : zz), (⟨q0.L, (IntKind.i64.wrap (q0.At + 1)), q0.Failed⟩ : zj)) else (z7 q0 3 (⟨#[98, 111, 111, 108]⟩ : ByteArray)).bind fun c9 => (if c9 = true then some ((⟨(2 : UInt8), 0, (⟨#[]⟩ : ByteArray)⟩ : zz), (⟨q0.L, (IntKind.i64.wrap (q0.At + 1)), q0.Failed⟩ : zj)) else (z7 q0 4 (⟨#[91]⟩ : ByteArray)).bind fun c14 => (if c14 = true then (zdZ (⟨q0.L, (IntKind.i64.wrap (q0.At + 1)), q0.Failed⟩ : zj) 2 (⟨#[]⟩ : ByteArray)).bind fun c19 => (zbi c19.2 (⟨#[93]⟩ : ByteArray)).bind fun c27 => (zde c27 (⟨#[105, 110, 116]⟩ : ByteArray)).bind fun c35 => some ((⟨(3 : UInt8), c19.1.Num, (⟨#[]⟩ : ByteArray)⟩ : zz), c35) else (z7 q0 1 (⟨#[]⟩ : ByteArray)).bind fun c43 => (if c43 = true then (zcM q0).bind fun c48 => some ((⟨(4 : UInt8), 0, c48.1⟩ : zz), c48.2) else (if p1 = true then some ((⟨(0 : UInt8), 0, (⟨#[]⟩ : ByteArray)⟩ : zz), (⟨q0.L, q0.At, true⟩ : zj)) else some ((⟨(0 : UInt8), 0, (⟨#[]⟩ : ByteArray)⟩ : zz), q0))))))
def zgj  : Option (List (List ByteArray)) :=
 some ([([(⟨#[124, 124]⟩ : ByteArray)] : List ByteArray), ([(⟨#[38, 38]⟩ : ByteArray)] : List ByteArray), ([(⟨#[61, 61]⟩ : ByteArray), (⟨#[33, 61]⟩ : ByteArray), (⟨#[60]⟩ : ByteArray), (⟨#[60, 61]⟩ : ByteArray), (⟨#[62]⟩ : ByteArray), (⟨#[62, 61]⟩ : ByteArray)] : List ByteArray), ([(⟨#[43]⟩ : ByteArray), (⟨#[45]⟩ : ByteArray)] : List ByteArray), ([(⟨#[42]⟩ : ByteArray), (⟨#[47]⟩ : ByteArray), (⟨#[37]⟩ : ByteArray)] : List ByteArray)] : List (List ByteArray))
def zhg (rec4 : Int → Option ByteArray) (q0 : zj) (y12 : (List ByteArray)) (x41 : Int) : Option ByteArray :=
 (if (decide (x41 < (y12.length : Int))) = true then (zI y12 x41).bind fun y60 => (z7 q0 4 y60).bind fun c65 => (if c65 = true then (zI y12 x41).bind fun y70 => some y70 else rec4 (IntKind.i64.wrap (x41 + 1))) else some (⟨#[]⟩ : ByteArray))
def zfI (q0 : zj) (y12 : (List ByteArray)) : Nat → Int → Option ByteArray
 | 0, _ => none
 | n + 1, x41 => zhg (zfI q0 y12 n) q0 y12 x41
def zjl (q0 : zj) (p1 : Int) : Option ByteArray :=
 (zgj ).bind fun c3 => (zI c3 p1).bind fun y12 => zfI q0 y12 big 0
def zgO (rec4 : (List zl) → Int → Bool → UInt8 → Int → ByteArray → ByteArray → ByteArray → (List za) → Option (za × zj)) (R_ref12_parser_exp : zj → Int → Option (za × zj)) (p1 : Int) (x78 : List zl) (x80 : Int) (x81 : Bool) (x82 : UInt8) (x83 : Int) (x84 : ByteArray) (x85 : ByteArray) (x86 : ByteArray) (x89 : List za) : Option (za × zj) :=
 (zjl (⟨x78, x80, x81⟩ : zj) p1).bind fun c114 => (if (zb4 c114 (⟨#[]⟩ : ByteArray)) = true then some ((⟨x82, x83, x84, x85, x86, x89⟩ : za), (⟨x78, x80, x81⟩ : zj)) else (R_ref12_parser_exp (⟨x78, (IntKind.i64.wrap (x80 + 1)), x81⟩ : zj) (IntKind.i64.wrap (p1 + 1))).bind fun c119 => rec4 c119.2.L c119.2.At c119.2.Failed (7 : UInt8) 0 (⟨#[]⟩ : ByteArray) (⟨#[]⟩ : ByteArray) c114 ([(⟨x82, x83, x84, x85, x86, x89⟩ : za), (⟨c119.1.Kind, c119.1.Num, c119.1.Name, c119.1.Field, c119.1.Op, c119.1.Kids⟩ : za)] : List za))
def zeZ (R_ref12_parser_exp : zj → Int → Option (za × zj)) (p1 : Int) : Nat → (List zl) → Int → Bool → UInt8 → Int → ByteArray → ByteArray → ByteArray → (List za) → Option (za × zj)
 | 0, _, _, _, _, _, _, _, _, _ => none
 | n + 1, x78, x80, x81, x82, x83, x84, x85, x86, x89 => zgO (zeZ R_ref12_parser_exp p1 n) R_ref12_parser_exp p1 x78 x80 x81 x82 x83 x84 x85 x86 x89
def zeW (R_ref12_parser_exp : zj → Int → Option (za × zj)) (R_ref12_parser_primary : zj → Option (za × zj)) (q0 : zj) (p1 : Int) : Option (za × zj) :=
 (zgj ).bind fun c4 => (if (decide (p1 ≥ (c4.length : Int))) = true then (R_ref12_parser_primary q0).bind fun c14 => some (c14.1, c14.2) else (R_ref12_parser_exp q0 (IntKind.i64.wrap (p1 + 1))).bind fun c26 => zeZ R_ref12_parser_exp p1 big c26.2.L c26.2.At c26.2.Failed c26.1.Kind c26.1.Num c26.1.Name c26.1.Field c26.1.Op c26.1.Kids)
def zhO (R_ref12_parser_exp : zj → Int → Option (za × zj)) (R_ref12_parser_primary : zj → Option (za × zj)) (q0 : zj) (x12 : Bool) : Option (za × zj) :=
 (if x12 = true then (zdZ q0 4 (⟨#[]⟩ : ByteArray)).bind fun c14 => (R_ref12_parser_primary c14.2).bind fun c22 => some ((⟨(6 : UInt8), 0, (⟨#[]⟩ : ByteArray), (⟨#[]⟩ : ByteArray), c14.1.Text, ([(⟨c22.1.Kind, c22.1.Num, c22.1.Name, c22.1.Field, c22.1.Op, c22.1.Kids⟩ : za)] : List za)⟩ : za), c22.2) else (z7 q0 4 (⟨#[40]⟩ : ByteArray)).bind fun c40 => (if c40 = true then (R_ref12_parser_exp (⟨q0.L, (IntKind.i64.wrap (q0.At + 1)), q0.Failed⟩ : zj) 0).bind fun c45 => (zbi c45.2 (⟨#[41]⟩ : ByteArray)).bind fun c58 => some (c45.1, c58) else (z7 q0 2 (⟨#[]⟩ : ByteArray)).bind fun c66 => (if c66 = true then (zdZ q0 2 (⟨#[]⟩ : ByteArray)).bind fun c71 => some ((⟨(1 : UInt8), c71.1.Num, (⟨#[]⟩ : ByteArray), (⟨#[]⟩ : ByteArray), (⟨#[]⟩ : ByteArray), []⟩ : za), c71.2) else (z7 q0 3 (⟨#[116, 114, 117, 101]⟩ : ByteArray)).bind fun c79 => (if c79 = true then some ((⟨(2 : UInt8), 1, (⟨#[]⟩ : ByteArray), (⟨#[]⟩ : ByteArray), (⟨#[]⟩ : ByteArray), []⟩ : za), (⟨q0.L, (IntKind.i64.wrap (q0.At + 1)), q0.Failed⟩ : zj)) else (z7 q0 3 (⟨#[102, 97, 108, 115, 101]⟩ : ByteArray)).bind fun c84 => (if c84 = true then some ((⟨(2 : UInt8), 0, (⟨#[]⟩ : ByteArray), (⟨#[]⟩ : ByteArray), (⟨#[]⟩ : ByteArray), []⟩ : za), (⟨q0.L, (IntKind.i64.wrap (q0.At + 1)), q0.Failed⟩ : zj)) else (zcM q0).bind fun c89 => (z7 c89.2 4 (⟨#[91]⟩ : ByteArray)).bind fun c97 => (if c97 = true then (R_ref12_parser_exp (⟨c89.2.L, (IntKind.i64.wrap (c89.2.At + 1)), c89.2.Failed⟩ : zj) 0).bind fun c102 => (zbi c102.2 (⟨#[93]⟩ : ByteArray)).bind fun c115 => some ((⟨(4 : UInt8), 0, c89.1, (⟨#[]⟩ : ByteArray), (⟨#[]⟩ : ByteArray), ([(⟨c102.1.Kind, c102.1.Num, c102.1.Name, c102.1.Field, c102.1.Op, c102.1.Kids⟩ : za)] : List za)⟩ : za), c115) else (z7 c89.2 4 (⟨#[46]⟩ : ByteArray)).bind fun c129 => (if c129 = true then (zcM (⟨c89.2.L, (IntKind.i64.wrap (c89.2.At + 1)), c89.2.Failed⟩ : zj)).bind fun c134 => some ((⟨(5 : UInt8), 0, c89.1, c134.1, (⟨#[]⟩ : ByteArray), []⟩ : za), c134.2) else some ((⟨(3 : UInt8), 0, c89.1, (⟨#[]⟩ : ByteArray), (⟨#[]⟩ : ByteArray), []⟩ : za), c89.2))))))))
def zhH (R_ref12_parser_exp : zj → Int → Option (za × zj)) (R_ref12_parser_primary : zj → Option (za × zj)) (q0 : zj) : Option (za × zj) :=
 (z7 q0 4 (⟨#[45]⟩ : ByteArray)).bind fun c3 => (if c3 = true then zhO R_ref12_parser_exp R_ref12_parser_primary q0 c3 else (z7 q0 4 (⟨#[33]⟩ : ByteArray)).bind fun c143 => zhO R_ref12_parser_exp R_ref12_parser_primary q0 c143)
def zcv : Nat → (zj → Int → Option (za × zj)) × (zj → Option (za × zj))
 | 0 => (fun _ _ => none, fun _ => none)
 | gn + 1 => (zeW ((zcv gn).1) ((zcv gn).2), zhH ((zcv gn).1) ((zcv gn).2))
def zb8 (q0 : zj) (p1 : Int) : Option (za × zj) := (zcv big).1 q0 p1
def zjg (rec4 : (List zl) → Int → Bool → (List za) → Option ((List za) × zj))  (x69 : List zl) (x71 : Int) (x72 : Bool) (x76 : List za) : Option ((List za) × zj) :=
 (z7 (⟨x69, x71, x72⟩ : zj) 4 (⟨#[44]⟩ : ByteArray)).bind fun c109 => (if c109 = true then (zb8 (⟨x69, (IntKind.i64.wrap (x71 + 1)), x72⟩ : zj) 0).bind fun c114 => (room (x76.length + 1)).bind fun _ => rec4 c114.2.L c114.2.At c114.2.Failed (x76 ++ [(⟨c114.1.Kind, c114.1.Num, c114.1.Name, c114.1.Field, c114.1.Op, c114.1.Kids⟩ : za)]) else (zbi (⟨x69, x71, x72⟩ : zj) (⟨#[41]⟩ : ByteArray)).bind fun c131 => some (x76, c131))
def zhi  : Nat → (List zl) → Int → Bool → (List za) → Option ((List za) × zj)
 | 0, _, _, _, _ => none
 | n + 1, x69, x71, x72, x76 => zjg (zhi  n)  x69 x71 x72 x76
def zgx (q0 : zj) : Option ((List za) × zj) :=
 (zbi q0 (⟨#[40]⟩ : ByteArray)).bind fun c2 => (z7 c2 4 (⟨#[41]⟩ : ByteArray)).bind fun c10 => (if c10 = true then some ([], (⟨c2.L, (IntKind.i64.wrap (c2.At + 1)), c2.Failed⟩ : zj)) else (zb8 c2 0).bind fun c15 => zhi  big c15.2.L c15.2.At c15.2.Failed ([(⟨c15.1.Kind, c15.1.Num, c15.1.Name, c15.1.Field, c15.1.Op, c15.1.Kids⟩ : za)] : List za))
def zfw (q0 : zj) (p1 : ze) : Option (ze × zj) :=
 (z7 q0 3 (⟨#[105, 110, 112, 117, 116]⟩ : ByteArray)).bind fun c5 => (if c5 = true then (zbi (⟨q0.L, (IntKind.i64.wrap (q0.At + 1)), q0.Failed⟩ : zj) (⟨#[40]⟩ : ByteArray)).bind fun c10 => (zbi c10 (⟨#[41]⟩ : ByteArray)).bind fun c18 => some ((⟨(9 : UInt8), p1.Line, p1.Name, p1.Field, p1.Call, (⟨p1.Type_.Kind, p1.Type_.N, p1.Type_.Name⟩ : zz), p1.Kids, p1.Body, p1.Else⟩ : ze), c18) else (z7 q0 1 (⟨#[]⟩ : ByteArray)).bind fun c26 => ((if (c26 && (decide ((IntKind.i64.wrap (q0.At + 1)) < (q0.L.length : Int)))) = true then (zI q0.L (IntKind.i64.wrap (q0.At + 1))).bind fun y33 => some ((y33.Kind.toNat : Int) == 4) else some false)).bind fun c30 => ((if c30 = true then (zI q0.L (IntKind.i64.wrap (q0.At + 1))).bind fun y41 => some (zb4 y41.Text (⟨#[40]⟩ : ByteArray)) else some false)).bind fun c38 => (if c38 = true then (zcM q0).bind fun c47 => (zgx c47.2).bind fun c55 => some ((⟨(5 : UInt8), p1.Line, p1.Name, p1.Field, c47.1, (⟨p1.Type_.Kind, p1.Type_.N, p1.Type_.Name⟩ : zz), c55.1, p1.Body, p1.Else⟩ : ze), c55.2) else (zb8 q0 0).bind fun c70 => some ((⟨(2 : UInt8), p1.Line, p1.Name, p1.Field, p1.Call, (⟨p1.Type_.Kind, p1.Type_.N, p1.Type_.Name⟩ : zz), ([(⟨c70.1.Kind, c70.1.Num, c70.1.Name, c70.1.Field, c70.1.Op, c70.1.Kids⟩ : za)] : List za), p1.Body, p1.Else⟩ : ze), c70.2)))
def zfn (x168 : List zl) (x170 : Int) (x171 : Bool) (x172 : UInt8) (x173 : Int) (x174 : ByteArray) (x175 : ByteArray) (x176 : ByteArray) (x177 : UInt8) (x178 : Int) (x179 : ByteArray) (x182 : List za) (x186 : List ze) (x190 : List ze) : Option (ze × zj) :=
 (zbi (⟨x168, x170, x171⟩ : zj) (⟨#[59]⟩ : ByteArray)).bind fun c192 => some ((⟨x172, x173, x174, x175, x176, (⟨x177, x178, x179⟩ : zz), x182, x186, x190⟩ : ze), c192)
def zi1 (q0 : zj) (p1 : ze) : Option (ze × zj) :=
 (zcM q0).bind fun c5 => (z7 c5.2 4 (⟨#[40]⟩ : ByteArray)).bind fun c200 => (if c200 = true then (zgx c5.2).bind fun c205 => zfn c205.2.L c205.2.At c205.2.Failed (5 : UInt8) p1.Line (⟨#[]⟩ : ByteArray) p1.Field c5.1 p1.Type_.Kind p1.Type_.N p1.Type_.Name c205.1 p1.Body p1.Else else (z7 c5.2 4 (⟨#[91]⟩ : ByteArray)).bind fun c220 => (if c220 = true then (zb8 (⟨c5.2.L, (IntKind.i64.wrap (c5.2.At + 1)), c5.2.Failed⟩ : zj) 0).bind fun c225 => (zbi c225.2 (⟨#[93]⟩ : ByteArray)).bind fun c238 => (zbi c238 (⟨#[61]⟩ : ByteArray)).bind fun c246 => (zb8 c246 0).bind fun c254 => zfn c254.2.L c254.2.At c254.2.Failed (3 : UInt8) p1.Line c5.1 p1.Field p1.Call p1.Type_.Kind p1.Type_.N p1.Type_.Name ([(⟨c225.1.Kind, c225.1.Num, c225.1.Name, c225.1.Field, c225.1.Op, c225.1.Kids⟩ : za), (⟨c254.1.Kind, c254.1.Num, c254.1.Name, c254.1.Field, c254.1.Op, c254.1.Kids⟩ : za)] : List za) p1.Body p1.Else else (z7 c5.2 4 (⟨#[46]⟩ : ByteArray)).bind fun c272 => (if c272 = true then (zcM (⟨c5.2.L, (IntKind.i64.wrap (c5.2.At + 1)), c5.2.Failed⟩ : zj)).bind fun c277 => (zbi c277.2 (⟨#[61]⟩ : ByteArray)).bind fun c285 => (zb8 c285 0).bind fun c293 => zfn c293.2.L c293.2.At c293.2.Failed (4 : UInt8) p1.Line c5.1 c277.1 p1.Call p1.Type_.Kind p1.Type_.N p1.Type_.Name ([(⟨c293.1.Kind, c293.1.Num, c293.1.Name, c293.1.Field, c293.1.Op, c293.1.Kids⟩ : za)] : List za) p1.Body p1.Else else (zbi c5.2 (⟨#[61]⟩ : ByteArray)).bind fun c311 => (zfw c311 (⟨p1.Kind, p1.Line, c5.1, p1.Field, p1.Call, (⟨p1.Type_.Kind, p1.Type_.N, p1.Type_.Name⟩ : zz), p1.Kids, p1.Body, p1.Else⟩ : ze)).bind fun c319 => zfn c319.2.L c319.2.At c319.2.Failed c319.1.Kind c319.1.Line c319.1.Name c319.1.Field c319.1.Call c319.1.Type_.Kind c319.1.Type_.N c319.1.Type_.Name c319.1.Kids c319.1.Body c319.1.Else)))
def zj4 (rec4 : (List zl) → Int → Bool → (List ze) → Option ((List ze) × zj)) (R_ref12_parser_stmt : zj → Option (ze × zj)) (x55 : List zl) (x57 : Int) (x58 : Bool) (x62 : List ze) : Option ((List ze) × zj) :=
 ((if (!x58) = true then (z7 (⟨x55, x57, x58⟩ : zj) 4 (⟨#[125]⟩ : ByteArray)).bind fun c109 => some (!c109) else some false)).bind fun c106 => (if c106 = true then (R_ref12_parser_stmt (⟨x55, x57, x58⟩ : zj)).bind fun c114 => (room (2 * (x62.length + 1))).bind fun _ => rec4 c114.2.L c114.2.At c114.2.Failed (x62 ++ [(⟨c114.1.Kind, c114.1.Line, c114.1.Name, c114.1.Field, c114.1.Call, (⟨c114.1.Type_.Kind, c114.1.Type_.N, c114.1.Type_.Name⟩ : zz), c114.1.Kids, c114.1.Body, c114.1.Else⟩ : ze)]) else (zbi (⟨x55, x57, x58⟩ : zj) (⟨#[125]⟩ : ByteArray)).bind fun c139 => some (x62, c139))
def zhj (R_ref12_parser_stmt : zj → Option (ze × zj)) : Nat → (List zl) → Int → Bool → (List ze) → Option ((List ze) × zj)
 | 0, _, _, _, _ => none
 | n + 1, x55, x57, x58, x62 => zj4 (zhj R_ref12_parser_stmt n) R_ref12_parser_stmt x55 x57 x58 x62
def zkp (R_ref12_parser_block : zj → Option ((List ze) × zj)) (R_ref12_parser_stmt : zj → Option (ze × zj)) (q0 : zj) : Option ((List ze) × zj) :=
 (zbi q0 (⟨#[123]⟩ : ByteArray)).bind fun c2 => zhj R_ref12_parser_stmt big c2.L c2.At c2.Failed ([])
def zdY (c3 : Int) (x261 : List zl) (x263 : Int) (x264 : Bool) (x265 : Int) (x266 : ByteArray) (x267 : UInt8) (x268 : Int) (x269 : ByteArray) (x273 : List za) (x278 : List ze) (x283 : List ze) : Option (ze × zj) :=
 (u8o x265).bind fun z291 => some ((⟨z291, c3, x266, (⟨#[]⟩ : ByteArray), (⟨#[]⟩ : ByteArray), (⟨x267, x268, x269⟩ : zz), x273, x278, x283⟩ : ze), (⟨x261, x263, x264⟩ : zj))
def zjj (R_ref12_parser_block : zj → Option ((List ze) × zj)) (R_ref12_parser_stmt : zj → Option (ze × zj)) (q0 : zj) : Option (ze × zj) :=
 (zgA q0).bind fun c3 => (z7 q0 3 (⟨#[118, 97, 114]⟩ : ByteArray)).bind fun c292 => (if c292 = true then (zcM (⟨q0.L, (IntKind.i64.wrap (q0.At + 1)), q0.Failed⟩ : zj)).bind fun c297 => (zea c297.2 true).bind fun c305 => (z7 c305.2 4 (⟨#[61]⟩ : ByteArray)).bind fun c313 => (if c313 = true then (zb8 (⟨c305.2.L, (IntKind.i64.wrap (c305.2.At + 1)), c305.2.Failed⟩ : zj) 0).bind fun c318 => (zbi c318.2 (⟨#[59]⟩ : ByteArray)).bind fun c334 => zdY c3 c334.L c334.At c334.Failed 1 c297.1 c305.1.Kind c305.1.N c305.1.Name ([(⟨c318.1.Kind, c318.1.Num, c318.1.Name, c318.1.Field, c318.1.Op, c318.1.Kids⟩ : za)] : List za) ([]) ([]) else (zbi c305.2 (⟨#[59]⟩ : ByteArray)).bind fun c342 => zdY c3 c342.L c342.At c342.Failed 1 c297.1 c305.1.Kind c305.1.N c305.1.Name ([]) ([]) ([])) else (z7 q0 3 (⟨#[105, 102]⟩ : ByteArray)).bind fun c350 => (if c350 = true then (zb8 (⟨q0.L, (IntKind.i64.wrap (q0.At + 1)), q0.Failed⟩ : zj) 0).bind fun c355 => (R_ref12_parser_block c355.2).bind fun c371 => (z7 c371.2 3 (⟨#[101, 108, 115, 101]⟩ : ByteArray)).bind fun c384 => (if c384 = true then (R_ref12_parser_block (⟨c371.2.L, (IntKind.i64.wrap (c371.2.At + 1)), c371.2.Failed⟩ : zj)).bind fun c389 => zdY c3 c389.2.L c389.2.At c389.2.Failed 6 (⟨#[]⟩ : ByteArray) (0 : UInt8) 0 (⟨#[]⟩ : ByteArray) ([(⟨c355.1.Kind, c355.1.Num, c355.1.Name, c355.1.Field, c355.1.Op, c355.1.Kids⟩ : za)] : List za) c371.1 c389.1 else zdY c3 c371.2.L c371.2.At c371.2.Failed 6 (⟨#[]⟩ : ByteArray) (0 : UInt8) 0 (⟨#[]⟩ : ByteArray) ([(⟨c355.1.Kind, c355.1.Num, c355.1.Name, c355.1.Field, c355.1.Op, c355.1.Kids⟩ : za)] : List za) c371.1 ([])) else (z7 q0 3 (⟨#[102, 111, 114]⟩ : ByteArray)).bind fun c402 => (if c402 = true then (zb8 (⟨q0.L, (IntKind.i64.wrap (q0.At + 1)), q0.Failed⟩ : zj) 0).bind fun c407 => (R_ref12_parser_block c407.2).bind fun c423 => zdY c3 c423.2.L c423.2.At c423.2.Failed 7 (⟨#[]⟩ : ByteArray) (0 : UInt8) 0 (⟨#[]⟩ : ByteArray) ([(⟨c407.1.Kind, c407.1.Num, c407.1.Name, c407.1.Field, c407.1.Op, c407.1.Kids⟩ : za)] : List za) c423.1 ([]) else (z7 q0 3 (⟨#[112, 114, 105, 110, 116]⟩ : ByteArray)).bind fun c436 => (if c436 = true then (zbi (⟨q0.L, (IntKind.i64.wrap (q0.At + 1)), q0.Failed⟩ : zj) (⟨#[40]⟩ : ByteArray)).bind fun c441 => (zb8 c441 0).bind fun c449 => (zbi c449.2 (⟨#[41]⟩ : ByteArray)).bind fun c465 => (zbi c465 (⟨#[59]⟩ : ByteArray)).bind fun c473 => zdY c3 c473.L c473.At c473.Failed 8 (⟨#[]⟩ : ByteArray) (0 : UInt8) 0 (⟨#[]⟩ : ByteArray) ([(⟨c449.1.Kind, c449.1.Num, c449.1.Name, c449.1.Field, c449.1.Op, c449.1.Kids⟩ : za)] : List za) ([]) ([]) else (z7 q0 3 (⟨#[114, 101, 116, 117, 114, 110]⟩ : ByteArray)).bind fun c481 => (if c481 = true then (z7 (⟨q0.L, (IntKind.i64.wrap (q0.At + 1)), q0.Failed⟩ : zj) 4 (⟨#[59]⟩ : ByteArray)).bind fun c486 => (if (!c486) = true then (zb8 (⟨q0.L, (IntKind.i64.wrap (q0.At + 1)), q0.Failed⟩ : zj) 0).bind fun c491 => (zbi c491.2 (⟨#[59]⟩ : ByteArray)).bind fun c507 => zdY c3 c507.L c507.At c507.Failed 10 (⟨#[]⟩ : ByteArray) (0 : UInt8) 0 (⟨#[]⟩ : ByteArray) ([(⟨c491.1.Kind, c491.1.Num, c491.1.Name, c491.1.Field, c491.1.Op, c491.1.Kids⟩ : za)] : List za) ([]) ([]) else (zbi (⟨q0.L, (IntKind.i64.wrap (q0.At + 1)), q0.Failed⟩ : zj) (⟨#[59]⟩ : ByteArray)).bind fun c515 => zdY c3 c515.L c515.At c515.Failed 10 (⟨#[]⟩ : ByteArray) (0 : UInt8) 0 (⟨#[]⟩ : ByteArray) ([]) ([]) ([])) else (zi1 q0 (⟨(0 : UInt8), c3, (⟨#[]⟩ : ByteArray), (⟨#[]⟩ : ByteArray), (⟨#[]⟩ : ByteArray), (⟨(0 : UInt8), 0, (⟨#[]⟩ : ByteArray)⟩ : zz), [], [], []⟩ : ze)).bind fun c523 => some (c523.1, c523.2))))))
def zdy : Nat → (zj → Option ((List ze) × zj)) × (zj → Option (ze × zj))
 | 0 => (fun _ => none, fun _ => none)
 | gn + 1 => (zkp ((zdy gn).1) ((zdy gn).2), zjj ((zdy gn).1) ((zdy gn).2))
def zfV (q0 : zj) : Option ((List ze) × zj) := (zdy big).1 q0
def zfa (rec10 : (List zl) → Int → Bool → (List z4) → Option (zi × zj)) (x231 : List zl) (x233 : Int) (x234 : Bool) (x238 : List z4) : Option (zi × zj) :=
 (zcM (⟨x231, x233, x234⟩ : zj)).bind fun c240 => (zea c240.2 true).bind fun c249 => (room (x238.length + 1)).bind fun _ => rec10 c249.2.L c249.2.At c249.2.Failed (x238 ++ [(⟨c240.1, (⟨c249.1.Kind, c249.1.N, c249.1.Name⟩ : zz)⟩ : z4)])
def zg2 (rec10 : (List zl) → Int → Bool → (List z4) → Option (zi × zj)) (p1 : Int) (c4 : ByteArray × zj) (x110 : List zl) (x112 : Int) (x113 : Bool) (x117 : List z4) : Option (zi × zj) :=
 ((if (!x113) = true then (z7 (⟨x110, x112, x113⟩ : zj) 4 (⟨#[41]⟩ : ByteArray)).bind fun c215 => some (!c215) else some false)).bind fun c212 => (if c212 = true then (if (decide ((x117.length : Int) > 0)) = true then (zbi (⟨x110, x112, x113⟩ : zj) (⟨#[44]⟩ : ByteArray)).bind fun c263 => zfa rec10 c263.L c263.At c263.Failed x117 else zfa rec10 x110 x112 x113 x117) else (zbi (⟨x110, x112, x113⟩ : zj) (⟨#[41]⟩ : ByteArray)).bind fun c271 => (zea c271 false).bind fun c279 => (zfV c279.2).bind fun c287 => some ((⟨c4.1, p1, x117, (⟨c279.1.Kind, c279.1.N, c279.1.Name⟩ : zz), c287.1⟩ : zi), c287.2))
def zdG (p1 : Int) (c4 : ByteArray × zj) : Nat → (List zl) → Int → Bool → (List z4) → Option (zi × zj)
 | 0, _, _, _, _ => none
 | n + 1, x110, x112, x113, x117 => zg2 (zdG p1 c4 n) p1 c4 x110 x112 x113 x117
def zfR (q0 : zj) (p1 : Int) : Option (zi × zj) :=
 (zcM q0).bind fun c4 => (zbi c4.2 (⟨#[40]⟩ : ByteArray)).bind fun c13 => zdG p1 c4 big c13.L c13.At c13.Failed ([])
def zjA (rec16 : (List zl) → Int → Bool → (List zo) → (List zi) → (List ByteArray) → Option (zN × Int × Int)) (rec14 : (List zl) → Int → Bool → (List zo) → (List zi) → Option (zN × Int × Int)) (c567 : ByteArray × zj) (x660 : List zl) (x662 : Int) (x663 : Bool) (x667 : List zo) (x672 : List zi) (x677 : List ByteArray) : Option (zN × Int × Int) :=
 ((if (!x663) = true then (z7 (⟨x660, x662, x663⟩ : zj) 4 (⟨#[125]⟩ : ByteArray)).bind fun c739 => some (!c739) else some false)).bind fun c736 => (if c736 = true then (zcM (⟨x660, x662, x663⟩ : zj)).bind fun c744 => (room (x677.length + ([c744.1] : List ByteArray).length)).bind fun _ => (zde c744.2 (⟨#[105, 110, 116]⟩ : ByteArray)).bind fun c761 => (zbi c761 (⟨#[59]⟩ : ByteArray)).bind fun c769 => rec16 c769.L c769.At c769.Failed x667 x672 (x677 ++ ([c744.1] : List ByteArray)) else (zbi (⟨x660, x662, x663⟩ : zj) (⟨#[125]⟩ : ByteArray)).bind fun c777 => (room (x667.length + 1)).bind fun _ => rec14 c777.L c777.At c777.Failed (x667 ++ [(⟨c567.1, x677⟩ : zo)]) x672)
def zev (rec14 : (List zl) → Int → Bool → (List zo) → (List zi) → Option (zN × Int × Int)) (c567 : ByteArray × zj) : Nat → (List zl) → Int → Bool → (List zo) → (List zi) → (List ByteArray) → Option (zN × Int × Int)
 | 0, _, _, _, _, _, _ => none
 | n + 1, x660, x662, x663, x667, x672, x677 => zjA (zev rec14 c567 n) rec14 c567 x660 x662 x663 x667 x672 x677
def zhl (rec14 : (List zl) → Int → Bool → (List zo) → (List zi) → Option (zN × Int × Int)) (p0 : (List zl)) (x266 : List zl) (x268 : Int) (x269 : Bool) (x273 : List zo) (x278 : List zi) : Option (zN × Int × Int) :=
 (if ((!x269) && (decide (x268 < (p0.length : Int)))) = true then (z7 (⟨x266, x268, x269⟩ : zj) 3 (⟨#[116, 121, 112, 101]⟩ : ByteArray)).bind fun c562 => (if c562 = true then (zcM (⟨x266, (IntKind.i64.wrap (x268 + 1)), x269⟩ : zj)).bind fun c567 => (zde c567.2 (⟨#[115, 116, 114, 117, 99, 116]⟩ : ByteArray)).bind fun c576 => (zbi c576 (⟨#[123]⟩ : ByteArray)).bind fun c584 => zev rec14 c567 big c584.L c584.At c584.Failed x273 x278 ([]) else (zgA (⟨x266, x268, x269⟩ : zj)).bind fun c792 => (zde (⟨x266, x268, x269⟩ : zj) (⟨#[102, 117, 110, 99]⟩ : ByteArray)).bind fun c796 => (zfR c796 c792).bind fun c804 => (room (x278.length + ([(⟨c804.1.Name, c804.1.Line, c804.1.Params, (⟨c804.1.Result.Kind, c804.1.Result.N, c804.1.Result.Name⟩ : zz), c804.1.Body⟩ : zi)] : List zi).length)).bind fun _ => rec14 c804.2.L c804.2.At c804.2.Failed x273 (x278 ++ ([(⟨c804.1.Name, c804.1.Line, c804.1.Params, (⟨c804.1.Result.Kind, c804.1.Result.N, c804.1.Result.Name⟩ : zz), c804.1.Body⟩ : zi)] : List zi))) else (if x269 = true then some ((⟨[], []⟩ : zN), x268, 7) else (zlz (⟨x273, x278⟩ : zN)).bind fun c836 => (if c836 = true then some ((⟨[], []⟩ : zN), 0, 11) else some ((⟨x273, x278⟩ : zN), 0, 0))))
def zc3 (p0 : (List zl)) : Nat → (List zl) → Int → Bool → (List zo) → (List zi) → Option (zN × Int × Int)
 | 0, _, _, _, _, _ => none
 | n + 1, x266, x268, x269, x273, x278 => zhl (zc3 p0 n) p0 x266 x268 x269 x273 x278
def zqu (p0 : (List zl)) : Option (zN × Int × Int) :=
 zc3 p0 big p0 0 false ([]) ([])
def zf3  : Option Bool :=
 (zfJ ).bind fun c79 => some c79
def zh4 (p0 : (List zl)) (p1 : (List zl)) (p2 : Int) : Option Bool :=
 (if ((decide ((p0.length : Int) > 2000)) || (decide ((p1.length : Int) > 1000))) = true then (zfJ ).bind fun c5 => some c5 else (zdk p0).bind fun c9 => (if (c9.2.2 == 7) = true then (if ((decide (c9.2.1 < 0)) || (decide (c9.2.1 > (p0.length : Int)))) = true then some false else (zcA p0 0 c9.2.1).bind fun y24 => (zdk y24).bind fun c29 => (if ((c29.2.2 == 7) && (c29.2.1 != c9.2.1)) = true then some false else (if (decide (c9.2.1 < (p0.length : Int))) = true then (zcA p0 0 (IntKind.i64.wrap (c9.2.1 + 1))).bind fun y88 => (room (([] : List zl).length + y88.length)).bind fun _ => (room ((([] : List zl) ++ y88).length + p1.length)).bind fun _ => (zdk ((([] : List zl) ++ y88) ++ p1)).bind fun c105 => (if ((c105.2.2 != 7) || (c105.2.1 != c9.2.1)) = true then some false else zf3 ) else zf3 ))) else ((if (c9.2.1 != 0) = true then some true else (if (c9.2.2 != 0) = true then some (c9.2.2 != 11) else some false))).bind fun c119 => (if c119 = true then some false else (zgQ .i64 (IntKind.i64.wrap p2) (IntKind.i64.wrap ((p0.length : Int) + 1))).bind fun y124 => (zcA p0 0 y124).bind fun y126 => (zdk y126).bind fun c131 => ((if ((c131.2.2 != 7) || (c131.2.1 == y124)) = true then (zfJ ).bind fun c147 => some c147 else some false)).bind fun c144 => some c144)))
end Go.Proofs.Ytnhboaaikehpoaa
