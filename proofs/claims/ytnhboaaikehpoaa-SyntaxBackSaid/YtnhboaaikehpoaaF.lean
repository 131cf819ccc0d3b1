import Derived.Test.YtnhboaaikehpoaaFM
namespace Go.Proofs.Ytnhboaaikehpoaa
open Go.Ab Go.RowKit
set_option linter.unusedVariables false
set_option linter.unusedSimpArgs false
set_option maxRecDepth 10000
set_option maxHeartbeats 1000000
structure zl where
 Kind : UInt8
 Text : ByteArray
 Num : Int
 Line : Int
 deriving DecidableEq
def zm : Ty zl where
 sz := 4
 R := fun σ x cs => cs = [.int .u8 x.Kind.toNat, .string x.Text, .int .i64 x.Num, .int .i64 x.Line]
 len := by rintro σ x cs rfl; rfl
 one := by rintro σ x cs rfl; rfl
 mono := by rintro σ σ' x cs hle rfl; rfl
theorem znw : zm.Flat := fun _ _ _ _ h => h
structure zbe where
 tokens : (List zl)
 at_ : Int
 deriving DecidableEq
structure zq where
 Name : ByteArray
 Fields : (List ByteArray)
 deriving DecidableEq
def zs : Ty zq where
 sz := 2
 R := fun σ x cs => ∃ v1, cs = [.string x.Name, v1] ∧ RdT Ty.str σ v1 x.Fields
 len := by rintro σ x cs ⟨v1, rfl, h0⟩; rfl
 one := by rintro σ x cs ⟨v1, rfl, h0⟩; obtain ⟨_, ⟨_, _, rfl, _⟩, _⟩ := h0; rfl
 mono := by rintro σ σ' x cs hle ⟨v1, rfl, h0⟩; exact ⟨v1, rfl, h0.le hle⟩
structure zR where
 Kind : UInt8
 N : Int
 Name : ByteArray
 deriving DecidableEq
def zrT : Ty zR where
 sz := 3
 R := fun σ x cs => cs = [.int .u8 x.Kind.toNat, .int .i64 x.N, .string x.Name]
 len := by rintro σ x cs rfl; rfl
 one := by rintro σ x cs rfl; rfl
 mono := by rintro σ σ' x cs hle rfl; rfl
structure zbu where
 Name : ByteArray
 Type_ : zR
 deriving DecidableEq
def zbY : Ty zbu where
 sz := 4
 R := fun σ x cs => cs = [.string x.Name, .int .u8 x.Type_.Kind.toNat, .int .i64 x.Type_.N, .string x.Type_.Name]
 len := by rintro σ x cs rfl; rfl
 one := by rintro σ x cs rfl; rfl
 mono := by rintro σ σ' x cs hle rfl; rfl
theorem znr : zbY.Flat := fun _ _ _ _ h => h
structure zb where
 Kind : UInt8
 Num : Int
 Name : ByteArray
 Field : ByteArray
 Op : ByteArray
 Kids : (List zb)
def zmd (T : Ty zb) : Ty zb where
 sz := 6
 R := fun σ x cs => ∃ v5, cs = [.int .u8 x.Kind.toNat, .int .i64 x.Num, .string x.Name, .string x.Field, .string x.Op, v5] ∧ RdT T σ v5 x.Kids
 len := by rintro σ x cs ⟨v5, rfl, h0⟩; rfl
 one := by rintro σ x cs ⟨v5, rfl, h0⟩; obtain ⟨_, ⟨_, _, rfl, _⟩, _⟩ := h0; rfl
 mono := by rintro σ σ' x cs hle ⟨v5, rfl, h0⟩; exact ⟨v5, rfl, h0.le hle⟩
theorem zjV : Lvl zmd 6 := ⟨fun _ => rfl, fun T T' h => ⟨rfl, by rintro σ x cs ⟨v5, rfl, h0⟩; exact ⟨v5, rfl, h.rd h0⟩⟩⟩
def zu : Ty zb := Ty.fix zmd 6 zjV
theorem zbH {σ : Hp} {x : zb} {cs : List Value} (h : zu.R σ x cs) : ∃ v5, cs = [.int .u8 x.Kind.toNat, .int .i64 x.Num, .string x.Name, .string x.Field, .string x.Op, v5] ∧ RdT zu σ v5 x.Kids := zmF zjV h
theorem zb8 {σ : Hp} {x : zb} {cs : List Value} (h : ∃ v5, cs = [.int .u8 x.Kind.toNat, .int .i64 x.Num, .string x.Name, .string x.Field, .string x.Op, v5] ∧ RdT zu σ v5 x.Kids) : zu.R σ x cs := by
 obtain ⟨v5, rfl, h0⟩ := h
 obtain ⟨k0, g0⟩ := zkX zjV h0
 exact ⟨k0 + 1, v5, rfl, g0 _ (by omega)⟩
structure zh where
 Kind : UInt8
 Line : Int
 Name : ByteArray
 Field : ByteArray
 Call : ByteArray
 Type_ : zR
 Kids : (List zb)
 Body : (List zh)
 Else : (List zh)
def zlX (T : Ty zh) : Ty zh where
 sz := 11
 R := fun σ x cs => ∃ v8 v9 v10, cs = [.int .u8 x.Kind.toNat, .int .i64 x.Line, .string x.Name, .string x.Field, .string x.Call, .int .u8 x.Type_.Kind.toNat, .int .i64 x.Type_.N, .string x.Type_.Name, v8, v9, v10] ∧ RdT zu σ v8 x.Kids ∧ RdT T σ v9 x.Body ∧ RdT T σ v10 x.Else
 len := by rintro σ x cs ⟨v8, v9, v10, rfl, h0, h1, h2⟩; rfl
 one := by rintro σ x cs ⟨v8, v9, v10, rfl, h0, h1, h2⟩; obtain ⟨_, ⟨_, _, rfl, _⟩, _⟩ := h0; obtain ⟨_, ⟨_, _, rfl, _⟩, _⟩ := h1; obtain ⟨_, ⟨_, _, rfl, _⟩, _⟩ := h2; rfl
 mono := by rintro σ σ' x cs hle ⟨v8, v9, v10, rfl, h0, h1, h2⟩; exact ⟨v8, v9, v10, rfl, h0.le hle, h1.le hle, h2.le hle⟩
theorem zju : Lvl zlX 11 := ⟨fun _ => rfl, fun T T' h => ⟨rfl, by rintro σ x cs ⟨v8, v9, v10, rfl, h0, h1, h2⟩; exact ⟨v8, v9, v10, rfl, h0, h.rd h1, h.rd h2⟩⟩⟩
def zy : Ty zh := Ty.fix zlX 11 zju
theorem zc4 {σ : Hp} {x : zh} {cs : List Value} (h : zy.R σ x cs) : ∃ v8 v9 v10, cs = [.int .u8 x.Kind.toNat, .int .i64 x.Line, .string x.Name, .string x.Field, .string x.Call, .int .u8 x.Type_.Kind.toNat, .int .i64 x.Type_.N, .string x.Type_.Name, v8, v9, v10] ∧ RdT zu σ v8 x.Kids ∧ RdT zy σ v9 x.Body ∧ RdT zy σ v10 x.Else := zmF zju h
theorem zjK {σ : Hp} {x : zh} {cs : List Value} (h : ∃ v8 v9 v10, cs = [.int .u8 x.Kind.toNat, .int .i64 x.Line, .string x.Name, .string x.Field, .string x.Call, .int .u8 x.Type_.Kind.toNat, .int .i64 x.Type_.N, .string x.Type_.Name, v8, v9, v10] ∧ RdT zu σ v8 x.Kids ∧ RdT zy σ v9 x.Body ∧ RdT zy σ v10 x.Else) : zy.R σ x cs := by
 obtain ⟨v8, v9, v10, rfl, h0, h1, h2⟩ := h
 obtain ⟨k1, g1⟩ := zkX zju h1
 obtain ⟨k2, g2⟩ := zkX zju h2
 exact ⟨k1 + k2 + 1, v8, v9, v10, rfl, h0, g1 _ (by omega), g2 _ (by omega)⟩
structure zo where
 Name : ByteArray
 Line : Int
 Params : (List zbu)
 Result : zR
 Body : (List zh)
def zr : Ty zo where
 sz := 7
 R := fun σ x cs => ∃ v2 v6, cs = [.string x.Name, .int .i64 x.Line, v2, .int .u8 x.Result.Kind.toNat, .int .i64 x.Result.N, .string x.Result.Name, v6] ∧ RdT zbY σ v2 x.Params ∧ RdT zy σ v6 x.Body
 len := by rintro σ x cs ⟨v2, v6, rfl, h0, h1⟩; rfl
 one := by rintro σ x cs ⟨v2, v6, rfl, h0, h1⟩; obtain ⟨_, ⟨_, _, rfl, _⟩, _⟩ := h0; obtain ⟨_, ⟨_, _, rfl, _⟩, _⟩ := h1; rfl
 mono := by rintro σ σ' x cs hle ⟨v2, v6, rfl, h0, h1⟩; exact ⟨v2, v6, rfl, h0.le hle, h1.le hle⟩
structure zB where
 Structs : (List zq)
 Funcs : (List zo)
def zrP : Ty zB where
 sz := 2
 R := fun σ x cs => ∃ v0 v1, cs = [v0, v1] ∧ RdT zs σ v0 x.Structs ∧ RdT zr σ v1 x.Funcs
 len := by rintro σ x cs ⟨v0, v1, rfl, h0, h1⟩; rfl
 one := by rintro σ x cs ⟨v0, v1, rfl, h0, h1⟩; obtain ⟨_, ⟨_, _, rfl, _⟩, _⟩ := h0; obtain ⟨_, ⟨_, _, rfl, _⟩, _⟩ := h1; rfl
 mono := by rintro σ σ' x cs hle ⟨v0, v1, rfl, h0, h1⟩; exact ⟨v0, v1, rfl, h0.le hle, h1.le hle⟩
structure zf where
 cursor : zbe
 prog : zB
structure zk where
 L : (List zl)
 Line : Int
 More : Int
 Failed : Bool
 deriving DecidableEq
abbrev zoi (b : Nat) (x0 : Int) (x1 : Int) (x2 : ByteArray) : Ob := some (b, ⟨[.int .u8 x0, .int .i64 x1, .string x2], 47, 3, true⟩)
abbrev zed (b : Nat) (x0 : ByteArray) (x1 : Int) (x2 : Value) (x3 : Int) (x4 : Int) (x5 : ByteArray) (x6 : Value) : Ob := some (b, ⟨[.string x0, .int .i64 x1, x2, .int .u8 x3, .int .i64 x4, .string x5, x6], 50, 7, true⟩)
abbrev zby (b : Nat) (x0 : Int) (x1 : Int) (x2 : ByteArray) (x3 : ByteArray) (x4 : ByteArray) (x5 : Int) (x6 : Int) (x7 : ByteArray) (x8 : Value) (x9 : Value) (x10 : Value) : Ob := some (b, ⟨[.int .u8 x0, .int .i64 x1, .string x2, .string x3, .string x4, .int .u8 x5, .int .i64 x6, .string x7, x8, x9, x10], 53, 11, true⟩)
abbrev zeT (b : Nat) (x0 : Int) (x1 : Int) (x2 : ByteArray) (x3 : ByteArray) (x4 : ByteArray) (x5 : Value) : Ob := some (b, ⟨[.int .u8 x0, .int .i64 x1, .string x2, .string x3, .string x4, x5], 55, 6, true⟩)
abbrev zE (b : Nat) (x0 : Value) (x1 : Int) (x2 : Value) (x3 : Value) : Ob := some (b, ⟨[x0, .int .i64 x1, x2, x3], 60, 4, true⟩)
abbrev ze8 (b : Nat) (x0 : Int) (x1 : ByteArray) (x2 : Int) (x3 : Int) : Ob := some (b, ⟨[.int .u8 x0, .string x1, .int .i64 x2, .int .i64 x3], 79, 4, true⟩)
abbrev zbh (b : Nat) (x0 : Value) (x1 : Int) (x2 : Int) (x3 : Bool) : Ob := some (b, ⟨[x0, .int .i64 x1, .int .i64 x2, .bool x3], 86, 4, true⟩)
def zhs (rec4 : Int → Option Int) (p0 : (List ByteArray)) (p1 : ByteArray) (x10 : Int) : Option Int :=
 (if (decide (x10 < (p0.length : Int))) = true then (zv p0 x10).bind fun y20 => (if (zV p1 y20) = true then some x10 else rec4 (IntKind.i64.wrap (x10 + 1))) else some (-1))
def zgi (p0 : (List ByteArray)) (p1 : ByteArray) : Nat → Int → Option Int
 | 0, _ => none
 | n + 1, x10 => zhs (zgi p0 p1 n) p0 p1 x10
def zi0 (p0 : (List ByteArray)) (p1 : ByteArray) : Option Int :=
 zgi p0 p1 big 0
def zfY (p0 : (List ByteArray)) (p1 : ByteArray) : Option Bool :=
 (zi0 p0 p1).bind fun c3 => some (decide (c3 ≥ 0))
def zhJ (q0 : zbe) (p1 : Int) (p2 : (List ByteArray)) : Option Bool :=
 ((if (decide (q0.at_ ≥ (q0.tokens.length : Int))) = true then some true else (zv q0.tokens q0.at_).bind fun y7 => some ((y7.Kind.toNat : Int) != p1))).bind fun c4 => (if c4 = true then some false else ((if ((p2.length : Int) == 0) = true then some true else (zv q0.tokens q0.at_).bind fun y16 => (zfY p2 y16.Text).bind fun c21 => some c21)).bind fun c13 => some c13)
def zo8 (q0 : zbe) : Option (Except (Value × zbe) (zl × zbe)) :=
 (zv q0.tokens (IntKind.i64.wrap ((IntKind.i64.wrap (q0.at_ + 1)) - 1))).bind fun y10 => some (.ok (y10, (⟨q0.tokens, (IntKind.i64.wrap (q0.at_ + 1))⟩ : zbe)))
def zog (q0 : zbe) (p1 : Int) (p2 : (List ByteArray)) : Option (Except (Value × zbe) (zl × zbe)) :=
 (zhJ q0 p1 p2).bind fun c5 => (if (!c5) = true then some (.error ((.iface 92 (.agg #[]) : Value), q0)) else zo8 q0)
def zoy (rec4 : (List zl) → Int → Int → Option (Except (Value × zbe) (zbe))) (p1 : (List ByteArray)) (x33 : List zl) (x35 : Int) (x36 : Int) : Option (Except (Value × zbe) (zbe)) :=
 (if (decide (x36 < (p1.length : Int))) = true then (zv p1 x36).bind fun y67 => zO (zog (⟨x33, x35⟩ : zbe) 4 ([y67] : List ByteArray)) (fun x82 => some (.error (x82.1, x82.2))) fun c78 => rec4 c78.2.tokens c78.2.at_ (IntKind.i64.wrap (x36 + 1)) else some (.ok (⟨x33, x35⟩ : zbe)))
def zpr (p1 : (List ByteArray)) : Nat → (List zl) → Int → Int → Option (Except (Value × zbe) (zbe))
 | 0, _, _, _ => none
 | n + 1, x33, x35, x36 => zoy (zpr p1 n) p1 x33 x35 x36
def zcF (q0 : zf) (p1 : Int) (p2 : (List ByteArray)) : Option Bool :=
 ((if (decide (q0.cursor.at_ ≥ (q0.cursor.tokens.length : Int))) = true then some true else (zv q0.cursor.tokens q0.cursor.at_).bind fun y7 => some ((y7.Kind.toNat : Int) != p1))).bind fun c4 => (if c4 = true then some false else ((if ((p2.length : Int) == 0) = true then some true else (zv q0.cursor.tokens q0.cursor.at_).bind fun y16 => (zfY p2 y16.Text).bind fun c21 => some c21)).bind fun c13 => some c13)
def ziE (q0 : zf) (x13 : List zq) (x18 : List zo) : Option (Except (Value × zf) (zl × zf)) :=
 (zv q0.cursor.tokens (IntKind.i64.wrap ((IntKind.i64.wrap (q0.cursor.at_ + 1)) - 1))).bind fun y20 => some (.ok (y20, (⟨(⟨q0.cursor.tokens, (IntKind.i64.wrap (q0.cursor.at_ + 1))⟩ : zbe), (⟨x13, x18⟩ : zB)⟩ : zf)))
def zc0 (q0 : zf) (p1 : Int) (p2 : (List ByteArray)) : Option (Except (Value × zf) (zl × zf)) :=
 (zcF q0 p1 p2).bind fun c5 => (if (!c5) = true then some (.error ((.iface 92 (.agg #[]) : Value), q0)) else ziE q0 q0.prog.Structs q0.prog.Funcs)
def zcM (q0 : zf) : Option (Except (Value × zf) (ByteArray × zf)) :=
 zO (zc0 q0 1 []) (fun x6 => some (.error (x6.1, x6.2))) fun c2 => some (.ok (c2.1.Text, c2.2))
def zhV (rec4 : (List zl) → Int → (List zq) → (List zo) → Int → Option (Except (Value × zf) (zf))) (p1 : (List ByteArray)) (x63 : List zl) (x65 : Int) (x69 : List zq) (x74 : List zo) (x76 : Int) : Option (Except (Value × zf) (zf)) :=
 (if (decide (x76 < (p1.length : Int))) = true then (zv p1 x76).bind fun y127 => zO (zc0 (⟨(⟨x63, x65⟩ : zbe), (⟨x69, x74⟩ : zB)⟩ : zf) 4 ([y127] : List ByteArray)) (fun x142 => some (.error (x142.1, x142.2))) fun c138 => rec4 c138.2.cursor.tokens c138.2.cursor.at_ c138.2.prog.Structs c138.2.prog.Funcs (IntKind.i64.wrap (x76 + 1)) else some (.ok (⟨(⟨x63, x65⟩ : zbe), (⟨x69, x74⟩ : zB)⟩ : zf)))
def zis (p1 : (List ByteArray)) : Nat → (List zl) → Int → (List zq) → (List zo) → Int → Option (Except (Value × zf) (zf))
 | 0, _, _, _, _, _ => none
 | n + 1, x63, x65, x69, x74, x76 => zhV (zis p1 n) p1 x63 x65 x69 x74 x76
def zb5 (q0 : zf) (p1 : (List ByteArray)) : Option (Except (Value × zf) (zf)) :=
 zis p1 big q0.cursor.tokens q0.cursor.at_ q0.prog.Structs q0.prog.Funcs 0
def zbI (q0 : zf) (p1 : Int) (p2 : (List ByteArray)) : Option (Bool × zf) :=
 (zcF q0 p1 p2).bind fun c4 => (if (!c4) = true then some (false, q0) else some (true, (⟨(⟨q0.cursor.tokens, (IntKind.i64.wrap (q0.cursor.at_ + 1))⟩ : zbe), (⟨q0.prog.Structs, q0.prog.Funcs⟩ : zB)⟩ : zf)))
def zg6 (rec4 : (List zl) → Int → (List zq) → (List zo) → (List ByteArray) → Option (Except (Value × zf) (zf))) (c2 : ByteArray × zf) (x302 : List zl) (x304 : Int) (x308 : List zq) (x313 : List zo) (x318 : List ByteArray) : Option (Except (Value × zf) (zf)) :=
 (zbI (⟨(⟨x302, x304⟩ : zbe), (⟨x308, x313⟩ : zB)⟩ : zf) 4 ([ztw] : List ByteArray)).bind fun c494 => (if (!c494.1) = true then zO (zcM c494.2) (fun x517 => some (.error (x517.1, x517.2))) fun c513 => (room (x318.length + ([c513.1] : List ByteArray).length)).bind fun _ => zO (zc0 c513.2 3 ([zs6] : List ByteArray)) (fun x568 => some (.error (x568.1, x568.2))) fun c564 => zO (zb5 c564.2 ([zta] : List ByteArray)) (fun x610 => some (.error (x610.1, x610.2))) fun c606 => rec4 c606.cursor.tokens c606.cursor.at_ c606.prog.Structs c606.prog.Funcs (x318 ++ ([c513.1] : List ByteArray)) else (room (c494.2.prog.Structs.length + ([(⟨c2.1, x318⟩ : zq)] : List zq).length)).bind fun _ => some (.ok (⟨(⟨c494.2.cursor.tokens, c494.2.cursor.at_⟩ : zbe), (⟨(c494.2.prog.Structs ++ ([(⟨c2.1, x318⟩ : zq)] : List zq)), c494.2.prog.Funcs⟩ : zB)⟩ : zf)))
def zfP (c2 : ByteArray × zf) : Nat → (List zl) → Int → (List zq) → (List zo) → (List ByteArray) → Option (Except (Value × zf) (zf))
 | 0, _, _, _, _, _ => none
 | n + 1, x302, x304, x308, x313, x318 => zg6 (zfP c2 n) c2 x302 x304 x308 x313 x318
def zid (q0 : zf) : Option (Except (Value × zf) (zf)) :=
 zO (zcM q0) (fun x6 => some (.error (x6.1, x6.2))) fun c2 => zO (zc0 c2.2 3 ([zs7] : List ByteArray)) (fun x49 => some (.error (x49.1, x49.2))) fun c45 => zO (zb5 c45.2 ([ztm] : List ByteArray)) (fun x91 => some (.error (x91.1, x91.2))) fun c87 => zfP c2 big c87.cursor.tokens c87.cursor.at_ c87.prog.Structs c87.prog.Funcs ([])
def zfm (q0 : zf) (p1 : Bool) : Option (Except (Value × zf) (zR × zf)) :=
 (zbI q0 3 ([zs6] : List ByteArray)).bind fun c10 => (if c10.1 = true then some (.ok ((⟨(1 : UInt8), 0, zs3⟩ : zR), c10.2)) else (zbI c10.2 3 ([ztu] : List ByteArray)).bind fun c35 => (if c35.1 = true then some (.ok ((⟨(2 : UInt8), 0, zs3⟩ : zR), c35.2)) else (zbI c35.2 4 ([ztb] : List ByteArray)).bind fun c60 => (if c60.1 = true then zO (zc0 c60.2 2 []) (fun x83 => some (.error (x83.1, x83.2))) fun c79 => zO (zb5 c79.2 ([ztj] : List ByteArray)) (fun x125 => some (.error (x125.1, x125.2))) fun c121 => zO (zc0 c121 3 ([zs6] : List ByteArray)) (fun x167 => some (.error (x167.1, x167.2))) fun c163 => some (.ok ((⟨(3 : UInt8), c79.1.Num, zs3⟩ : zR), c163.2)) else ((if p1 = true then some true else (zcF c60.2 1 []).bind fun c202 => some c202)).bind fun c199 => (if c199 = true then zO (zcM c60.2) (fun x211 => some (.error (x211.1, x211.2))) fun c207 => some (.ok ((⟨(4 : UInt8), 0, c207.1⟩ : zR), c207.2)) else some (.ok ((⟨(0 : UInt8), 0, zs3⟩ : zR), c60.2))))))
def zfT (q0 : zf) : Option (Except (Value × zf) (zbu × zf)) :=
 zO (zcM q0) (fun x7 => some (.error (x7.1, x7.2))) fun c3 => zO (zfm c3.2 true) (fun x44 => some (.error (x44.1, x44.2))) fun c40 => some (.ok ((⟨c3.1, (⟨c40.1.Kind, c40.1.N, c40.1.Name⟩ : zR)⟩ : zbu), c40.2))
def ziY  : Option (List (List ByteArray)) :=
 some ([([ztk] : List ByteArray), ([zto] : List ByteArray), ([ztp, ztq, ztz, ztr, ztA, zts] : List ByteArray), ([ztB, ztf] : List ByteArray), ([zty, ztC, ztD] : List ByteArray)] : List (List ByteArray))
def zhp (R_syntax_parser_exp : zf → Option (Except (Value × zf) (zb × zf))) (R_syntax_parser_binary : zf → (List (List ByteArray)) → Option (Except (Value × zf) (zb × zf))) (R_syntax_parser_unary : zf → Option (Except (Value × zf) (zb × zf))) (R_syntax_parser_index : zf → Option (Except (Value × zf) (zb × zf))) (q0 : zf) : Option (Except (Value × zf) (zb × zf)) :=
 (ziY ).bind fun c3 => zO (R_syntax_parser_binary q0 c3) (fun x18 => some (.error (x18.1, x18.2))) fun c14 => some (.ok (c14.1, c14.2))
def zhL (rec4 : (List zl) → Int → (List zq) → (List zo) → UInt8 → Int → ByteArray → ByteArray → ByteArray → (List zb) → Option (Except (Value × zf) (zb × zf))) (R_syntax_parser_binary : zf → (List (List ByteArray)) → Option (Except (Value × zf) (zb × zf))) (p1 : (List (List ByteArray))) (x226 : List zl) (x228 : Int) (x232 : List zq) (x237 : List zo) (x239 : UInt8) (x240 : Int) (x241 : ByteArray) (x242 : ByteArray) (x243 : ByteArray) (x246 : List zb) : Option (Except (Value × zf) (zb × zf)) :=
 (zv p1 0).bind fun y348 => (zcF (⟨(⟨x226, x228⟩ : zbe), (⟨x232, x237⟩ : zB)⟩ : zf) 4 y348).bind fun c357 => (if c357 = true then zO (zc0 (⟨(⟨x226, x228⟩ : zbe), (⟨x232, x237⟩ : zB)⟩ : zf) 4 []) (fun x366 => some (.error (x366.1, x366.2))) fun c362 => (zcV p1 1 (p1.length : Int)).bind fun y398 => zO (R_syntax_parser_binary c362.2 y398) (fun x407 => some (.error (x407.1, x407.2))) fun c403 => rec4 c403.2.cursor.tokens c403.2.cursor.at_ c403.2.prog.Structs c403.2.prog.Funcs (7 : UInt8) 0 zs3 zs3 c362.1.Text ([(⟨x239, x240, x241, x242, x243, x246⟩ : zb), (⟨c403.1.Kind, c403.1.Num, c403.1.Name, c403.1.Field, c403.1.Op, c403.1.Kids⟩ : zb)] : List zb) else some (.ok ((⟨x239, x240, x241, x242, x243, x246⟩ : zb), (⟨(⟨x226, x228⟩ : zbe), (⟨x232, x237⟩ : zB)⟩ : zf))))
def zgQ (R_syntax_parser_binary : zf → (List (List ByteArray)) → Option (Except (Value × zf) (zb × zf))) (p1 : (List (List ByteArray))) : Nat → (List zl) → Int → (List zq) → (List zo) → UInt8 → Int → ByteArray → ByteArray → ByteArray → (List zb) → Option (Except (Value × zf) (zb × zf))
 | 0, _, _, _, _, _, _, _, _, _, _ => none
 | n + 1, x226, x228, x232, x237, x239, x240, x241, x242, x243, x246 => zhL (zgQ R_syntax_parser_binary p1 n) R_syntax_parser_binary p1 x226 x228 x232 x237 x239 x240 x241 x242 x243 x246
def zgY (R_syntax_parser_exp : zf → Option (Except (Value × zf) (zb × zf))) (R_syntax_parser_binary : zf → (List (List ByteArray)) → Option (Except (Value × zf) (zb × zf))) (R_syntax_parser_unary : zf → Option (Except (Value × zf) (zb × zf))) (R_syntax_parser_index : zf → Option (Except (Value × zf) (zb × zf))) (q0 : zf) (p1 : (List (List ByteArray))) : Option (Except (Value × zf) (zb × zf)) :=
 (if ((p1.length : Int) == 0) = true then zO (R_syntax_parser_unary q0) (fun x9 => some (.error (x9.1, x9.2))) fun c5 => some (.ok (c5.1, c5.2)) else (zcV p1 1 (p1.length : Int)).bind fun y45 => zO (R_syntax_parser_binary q0 y45) (fun x54 => some (.error (x54.1, x54.2))) fun c50 => zgQ R_syntax_parser_binary p1 big c50.2.cursor.tokens c50.2.cursor.at_ c50.2.prog.Structs c50.2.prog.Funcs c50.1.Kind c50.1.Num c50.1.Name c50.1.Field c50.1.Op c50.1.Kids)
def zh6 (R_syntax_parser_exp : zf → Option (Except (Value × zf) (zb × zf))) (R_syntax_parser_binary : zf → (List (List ByteArray)) → Option (Except (Value × zf) (zb × zf))) (R_syntax_parser_unary : zf → Option (Except (Value × zf) (zb × zf))) (R_syntax_parser_index : zf → Option (Except (Value × zf) (zb × zf))) (q0 : zf) : Option (Except (Value × zf) (zb × zf)) :=
 (zcF q0 4 ([ztf, ztH] : List ByteArray)).bind fun c9 => (if c9 = true then zO (zc0 q0 4 []) (fun x18 => some (.error (x18.1, x18.2))) fun c14 => zO (R_syntax_parser_unary c14.2) (fun x54 => some (.error (x54.1, x54.2))) fun c50 => some (.ok ((⟨(6 : UInt8), 0, zs3, zs3, c14.1.Text, ([(⟨c50.1.Kind, c50.1.Num, c50.1.Name, c50.1.Field, c50.1.Op, c50.1.Kids⟩ : zb)] : List zb)⟩ : zb), c50.2)) else (zbI q0 4 ([zs5] : List ByteArray)).bind fun c102 => (if c102.1 = true then zO (R_syntax_parser_exp c102.2) (fun x125 => some (.error (x125.1, x125.2))) fun c121 => zO (zb5 c121.2 ([zs4] : List ByteArray)) (fun x172 => some (.error (x172.1, x172.2))) fun c168 => some (.ok (c121.1, c168)) else (zcF c102.2 2 []).bind fun c204 => (if c204 = true then zO (zc0 c102.2 2 []) (fun x213 => some (.error (x213.1, x213.2))) fun c209 => some (.ok ((⟨(1 : UInt8), c209.1.Num, zs3, zs3, zs3, []⟩ : zb), c209.2)) else (zbI c102.2 3 ([ztl] : List ByteArray)).bind fun c251 => (if c251.1 = true then some (.ok ((⟨(2 : UInt8), 1, zs3, zs3, zs3, []⟩ : zb), c251.2)) else (zbI c251.2 3 ([zti] : List ByteArray)).bind fun c276 => (if c276.1 = true then some (.ok ((⟨(2 : UInt8), 0, zs3, zs3, zs3, []⟩ : zb), c276.2)) else zO (zcM c276.2) (fun x299 => some (.error (x299.1, x299.2))) fun c295 => (zcF c295.2 4 ([ztb] : List ByteArray)).bind fun c337 => (if c337 = true then zO (R_syntax_parser_index c295.2) (fun x346 => some (.error (x346.1, x346.2))) fun c342 => some (.ok ((⟨(4 : UInt8), 0, c295.1, zs3, zs3, ([(⟨c342.1.Kind, c342.1.Num, c342.1.Name, c342.1.Field, c342.1.Op, c342.1.Kids⟩ : zb)] : List zb)⟩ : zb), c342.2)) else (zbI c295.2 4 ([ztv] : List ByteArray)).bind fun c394 => (if c394.1 = true then zO (zcM c394.2) (fun x417 => some (.error (x417.1, x417.2))) fun c413 => some (.ok ((⟨(5 : UInt8), 0, c295.1, c413.1, zs3, []⟩ : zb), c413.2)) else some (.ok ((⟨(3 : UInt8), 0, c295.1, zs3, zs3, []⟩ : zb), c394.2)))))))))
def zgN (R_syntax_parser_exp : zf → Option (Except (Value × zf) (zb × zf))) (R_syntax_parser_binary : zf → (List (List ByteArray)) → Option (Except (Value × zf) (zb × zf))) (R_syntax_parser_unary : zf → Option (Except (Value × zf) (zb × zf))) (R_syntax_parser_index : zf → Option (Except (Value × zf) (zb × zf))) (q0 : zf) : Option (Except (Value × zf) (zb × zf)) :=
 zO (zb5 q0 ([ztb] : List ByteArray)) (fun x13 => some (.error (x13.1, x13.2))) fun c9 => zO (R_syntax_parser_exp c9) (fun x49 => some (.error (x49.1, x49.2))) fun c45 => zO (zb5 c45.2 ([ztj] : List ByteArray)) (fun x96 => some (.error (x96.1, x96.2))) fun c92 => some (.ok (c45.1, c92))
def z8 : Nat → (zf → Option (Except (Value × zf) (zb × zf))) × (zf → (List (List ByteArray)) → Option (Except (Value × zf) (zb × zf))) × (zf → Option (Except (Value × zf) (zb × zf))) × (zf → Option (Except (Value × zf) (zb × zf)))
 | 0 => (fun _ => none, fun _ _ => none, fun _ => none, fun _ => none)
 | gn + 1 => (zhp ((z8 gn).1) ((z8 gn).2.1) ((z8 gn).2.2.1) ((z8 gn).2.2.2), zgY ((z8 gn).1) ((z8 gn).2.1) ((z8 gn).2.2.1) ((z8 gn).2.2.2), zh6 ((z8 gn).1) ((z8 gn).2.1) ((z8 gn).2.2.1) ((z8 gn).2.2.2), zgN ((z8 gn).1) ((z8 gn).2.1) ((z8 gn).2.2.1) ((z8 gn).2.2.2))
def zdi (q0 : zf) : Option (Except (Value × zf) (zb × zf)) := (z8 big).1 q0
def zkw (q0 : zf) : Option (Except (Value × zf) (zb × zf)) := (z8 big).2.2.2 q0
def ziq (q0 : zf) (q1 : zh) : Option (Except (Value × zf × zh) (zf × zh)) :=
 zO (zcM q0) (fun x7 => some (.error (x7.1, x7.2, q1))) fun c3 => zO (zfm c3.2 true) (fun x43 => some (.error (x43.1, x43.2, (⟨(1 : UInt8), q1.Line, c3.1, q1.Field, q1.Call, (⟨q1.Type_.Kind, q1.Type_.N, q1.Type_.Name⟩ : zR), q1.Kids, q1.Body, q1.Else⟩ : zh)))) fun c39 => (zbI c39.2 4 ([zs8] : List ByteArray)).bind fun c81 => (if c81.1 = true then zO (zdi c81.2) (fun x104 => some (.error (x104.1, x104.2, (⟨(1 : UInt8), q1.Line, c3.1, q1.Field, q1.Call, (⟨c39.1.Kind, c39.1.N, c39.1.Name⟩ : zR), q1.Kids, q1.Body, q1.Else⟩ : zh)))) fun c100 => some (.ok (c100.2, (⟨(1 : UInt8), q1.Line, c3.1, q1.Field, q1.Call, (⟨c39.1.Kind, c39.1.N, c39.1.Name⟩ : zR), ([(⟨c100.1.Kind, c100.1.Num, c100.1.Name, c100.1.Field, c100.1.Op, c100.1.Kids⟩ : zb)] : List zb), q1.Body, q1.Else⟩ : zh))) else some (.ok (c81.2, (⟨(1 : UInt8), q1.Line, c3.1, q1.Field, q1.Call, (⟨c39.1.Kind, c39.1.N, c39.1.Name⟩ : zR), q1.Kids, q1.Body, q1.Else⟩ : zh))))
def zfk (q0 : zf) : Option Bool :=
 (zcF q0 1 []).bind fun c3 => ((if c3 = true then (zhJ (⟨q0.cursor.tokens, (IntKind.i64.wrap (q0.cursor.at_ + 1))⟩ : zbe) 4 ([zs5] : List ByteArray)).bind fun c16 => some c16 else some false)).bind fun c7 => some c7
def ziw (rec4 : (List zl) → Int → (List zq) → (List zo) → (List zb) → Option (Except (Value × zf) ((List zb) × zf)))  (x243 : List zl) (x245 : Int) (x249 : List zq) (x254 : List zo) (x259 : List zb) : Option (Except (Value × zf) ((List zb) × zf)) :=
 (zbI (⟨(⟨x243, x245⟩ : zbe), (⟨x249, x254⟩ : zB)⟩ : zf) 4 ([ztt] : List ByteArray)).bind fun c380 => (if c380.1 = true then zO (zdi c380.2) (fun x403 => some (.error (x403.1, x403.2))) fun c399 => (room (x259.length + 1)).bind fun _ => rec4 c399.2.cursor.tokens c399.2.cursor.at_ c399.2.prog.Structs c399.2.prog.Funcs (x259 ++ [(⟨c399.1.Kind, c399.1.Num, c399.1.Name, c399.1.Field, c399.1.Op, c399.1.Kids⟩ : zb)]) else zO (zb5 c380.2 ([zs4] : List ByteArray)) (fun x454 => some (.error (x454.1, x454.2))) fun c450 => some (.ok (x259, c450)))
def zf4  : Nat → (List zl) → Int → (List zq) → (List zo) → (List zb) → Option (Except (Value × zf) ((List zb) × zf))
 | 0, _, _, _, _, _ => none
 | n + 1, x243, x245, x249, x254, x259 => ziw (zf4  n)  x243 x245 x249 x254 x259
def zgu (q0 : zf) : Option (Except (Value × zf) ((List zb) × zf)) :=
 zO (zb5 q0 ([zs5] : List ByteArray)) (fun x12 => some (.error (x12.1, x12.2))) fun c8 => (zbI c8 4 ([zs4] : List ByteArray)).bind fun c50 => (if c50.1 = true then some (.ok ([], c50.2)) else zO (zdi c50.2) (fun x73 => some (.error (x73.1, x73.2))) fun c69 => zf4  big c69.2.cursor.tokens c69.2.cursor.at_ c69.2.prog.Structs c69.2.prog.Funcs ([(⟨c69.1.Kind, c69.1.Num, c69.1.Name, c69.1.Field, c69.1.Op, c69.1.Kids⟩ : zb)] : List zb))
def zh3 (q0 : zf) (q1 : zh) : Option (Except (Value × zf × zh) (zf × zh)) :=
 (zbI q0 3 ([ztd] : List ByteArray)).bind fun c9 => (if c9.1 = true then zO (zb5 c9.2 ([zs5, zs4] : List ByteArray)) (fun x38 => some (.error (x38.1, x38.2, q1))) fun c34 => some (.ok (c34, (⟨(9 : UInt8), q1.Line, q1.Name, q1.Field, q1.Call, (⟨q1.Type_.Kind, q1.Type_.N, q1.Type_.Name⟩ : zR), q1.Kids, q1.Body, q1.Else⟩ : zh))) else (zfk c9.2).bind fun c70 => (if c70 = true then zO (zcM c9.2) (fun x79 => some (.error (x79.1, x79.2, q1))) fun c75 => zO (zgu c75.2) (fun x115 => some (.error (x115.1, x115.2, (⟨(5 : UInt8), q1.Line, q1.Name, q1.Field, c75.1, (⟨q1.Type_.Kind, q1.Type_.N, q1.Type_.Name⟩ : zR), q1.Kids, q1.Body, q1.Else⟩ : zh)))) fun c111 => some (.ok (c111.2, (⟨(5 : UInt8), q1.Line, q1.Name, q1.Field, c75.1, (⟨q1.Type_.Kind, q1.Type_.N, q1.Type_.Name⟩ : zR), c111.1, q1.Body, q1.Else⟩ : zh))) else zO (zdi c9.2) (fun x158 => some (.error (x158.1, x158.2, q1))) fun c154 => some (.ok (c154.2, (⟨(2 : UInt8), q1.Line, q1.Name, q1.Field, q1.Call, (⟨q1.Type_.Kind, q1.Type_.N, q1.Type_.Name⟩ : zR), ([(⟨c154.1.Kind, c154.1.Num, c154.1.Name, c154.1.Field, c154.1.Op, c154.1.Kids⟩ : zb)] : List zb), q1.Body, q1.Else⟩ : zh)))))
def zgU (q0 : zf) (q1 : zh) : Option (Except (Value × zf × zh) (zf × zh)) :=
 (zfk q0).bind fun c3 => (if c3 = true then zO (zcM q0) (fun x12 => some (.error (x12.1, x12.2, q1))) fun c8 => zO (zgu c8.2) (fun x48 => some (.error (x48.1, x48.2, (⟨(5 : UInt8), q1.Line, q1.Name, q1.Field, c8.1, (⟨q1.Type_.Kind, q1.Type_.N, q1.Type_.Name⟩ : zR), q1.Kids, q1.Body, q1.Else⟩ : zh)))) fun c44 => some (.ok (c44.2, (⟨(5 : UInt8), q1.Line, q1.Name, q1.Field, c8.1, (⟨q1.Type_.Kind, q1.Type_.N, q1.Type_.Name⟩ : zR), c44.1, q1.Body, q1.Else⟩ : zh))) else zO (zcM q0) (fun x91 => some (.error (x91.1, x91.2, q1))) fun c87 => (zcF c87.2 4 ([ztb] : List ByteArray)).bind fun c129 => (if c129 = true then zO (zkw c87.2) (fun x138 => some (.error (x138.1, x138.2, (⟨q1.Kind, q1.Line, c87.1, q1.Field, q1.Call, (⟨q1.Type_.Kind, q1.Type_.N, q1.Type_.Name⟩ : zR), q1.Kids, q1.Body, q1.Else⟩ : zh)))) fun c134 => zO (zb5 c134.2 ([zs8] : List ByteArray)) (fun x188 => some (.error (x188.1, x188.2, (⟨(3 : UInt8), q1.Line, c87.1, q1.Field, q1.Call, (⟨q1.Type_.Kind, q1.Type_.N, q1.Type_.Name⟩ : zR), ([(⟨c134.1.Kind, c134.1.Num, c134.1.Name, c134.1.Field, c134.1.Op, c134.1.Kids⟩ : zb)] : List zb), q1.Body, q1.Else⟩ : zh)))) fun c184 => zO (zdi c184) (fun x226 => some (.error (x226.1, x226.2, (⟨(3 : UInt8), q1.Line, c87.1, q1.Field, q1.Call, (⟨q1.Type_.Kind, q1.Type_.N, q1.Type_.Name⟩ : zR), ([(⟨c134.1.Kind, c134.1.Num, c134.1.Name, c134.1.Field, c134.1.Op, c134.1.Kids⟩ : zb)] : List zb), q1.Body, q1.Else⟩ : zh)))) fun c222 => (room (([(⟨c134.1.Kind, c134.1.Num, c134.1.Name, c134.1.Field, c134.1.Op, c134.1.Kids⟩ : zb)] : List zb).length + ([(⟨(0 : UInt8), 0, zs3, zs3, zs3, []⟩ : zb)] : List zb).length)).bind fun _ => (zv (([(⟨c134.1.Kind, c134.1.Num, c134.1.Name, c134.1.Field, c134.1.Op, c134.1.Kids⟩ : zb)] : List zb) ++ ([(⟨(0 : UInt8), 0, zs3, zs3, zs3, []⟩ : zb)] : List zb)) (([(⟨c134.1.Kind, c134.1.Num, c134.1.Name, c134.1.Field, c134.1.Op, c134.1.Kids⟩ : zb)] : List zb).length : Int)).bind fun y275 => some (.ok (c222.2, (⟨(3 : UInt8), q1.Line, c87.1, q1.Field, q1.Call, (⟨q1.Type_.Kind, q1.Type_.N, q1.Type_.Name⟩ : zR), ((([(⟨c134.1.Kind, c134.1.Num, c134.1.Name, c134.1.Field, c134.1.Op, c134.1.Kids⟩ : zb)] : List zb) ++ ([(⟨(0 : UInt8), 0, zs3, zs3, zs3, []⟩ : zb)] : List zb)).set (Int.toNat (([(⟨c134.1.Kind, c134.1.Num, c134.1.Name, c134.1.Field, c134.1.Op, c134.1.Kids⟩ : zb)] : List zb).length : Int)) (⟨c222.1.Kind, c222.1.Num, c222.1.Name, c222.1.Field, c222.1.Op, c222.1.Kids⟩ : zb)), q1.Body, q1.Else⟩ : zh))) else (zbI c87.2 4 ([ztv] : List ByteArray)).bind fun c297 => (if c297.1 = true then zO (zcM c297.2) (fun x320 => some (.error (x320.1, x320.2, (⟨q1.Kind, q1.Line, c87.1, q1.Field, q1.Call, (⟨q1.Type_.Kind, q1.Type_.N, q1.Type_.Name⟩ : zR), q1.Kids, q1.Body, q1.Else⟩ : zh)))) fun c316 => zO (zb5 c316.2 ([zs8] : List ByteArray)) (fun x362 => some (.error (x362.1, x362.2, (⟨(4 : UInt8), q1.Line, c87.1, c316.1, q1.Call, (⟨q1.Type_.Kind, q1.Type_.N, q1.Type_.Name⟩ : zR), q1.Kids, q1.Body, q1.Else⟩ : zh)))) fun c358 => zO (zdi c358) (fun x398 => some (.error (x398.1, x398.2, (⟨(4 : UInt8), q1.Line, c87.1, c316.1, q1.Call, (⟨q1.Type_.Kind, q1.Type_.N, q1.Type_.Name⟩ : zR), q1.Kids, q1.Body, q1.Else⟩ : zh)))) fun c394 => some (.ok (c394.2, (⟨(4 : UInt8), q1.Line, c87.1, c316.1, q1.Call, (⟨q1.Type_.Kind, q1.Type_.N, q1.Type_.Name⟩ : zR), ([(⟨c394.1.Kind, c394.1.Num, c394.1.Name, c394.1.Field, c394.1.Op, c394.1.Kids⟩ : zb)] : List zb), q1.Body, q1.Else⟩ : zh))) else zO (zb5 c297.2 ([zs8] : List ByteArray)) (fun x450 => some (.error (x450.1, x450.2, (⟨q1.Kind, q1.Line, c87.1, q1.Field, q1.Call, (⟨q1.Type_.Kind, q1.Type_.N, q1.Type_.Name⟩ : zR), q1.Kids, q1.Body, q1.Else⟩ : zh)))) fun c446 => zO (zh3 c446 (⟨q1.Kind, q1.Line, c87.1, q1.Field, q1.Call, (⟨q1.Type_.Kind, q1.Type_.N, q1.Type_.Name⟩ : zR), q1.Kids, q1.Body, q1.Else⟩ : zh)) (fun x486 => some (.error (x486.1, x486.2.1, x486.2.2))) fun c482 => some (.ok (c482.1, c482.2)))))
def zey (x412 : List zl) (x414 : Int) (x418 : List zq) (x423 : List zo) (x425 : UInt8) (x426 : Int) (x427 : ByteArray) (x428 : ByteArray) (x429 : ByteArray) (x430 : UInt8) (x431 : Int) (x432 : ByteArray) (x435 : List zb) (x439 : List zh) (x443 : List zh) : Option (Except (Value × zf × zh) (zf × zh)) :=
 zO (zb5 (⟨(⟨x412, x414⟩ : zbe), (⟨x418, x423⟩ : zB)⟩ : zf) ([zta] : List ByteArray)) (fun x455 => some (.error (x455.1, x455.2, (⟨x425, x426, x427, x428, x429, (⟨x430, x431, x432⟩ : zR), x435, x439, x443⟩ : zh)))) fun c451 => some (.ok (c451, (⟨x425, x426, x427, x428, x429, (⟨x430, x431, x432⟩ : zR), x435, x439, x443⟩ : zh)))
def zhZ (q0 : zf) (q1 : zh) : Option (Except (Value × zf × zh) (zf × zh)) :=
 (zbI q0 3 ([ztn] : List ByteArray)).bind fun c493 => (if c493.1 = true then zO (ziq c493.2 q1) (fun x516 => some (.error (x516.1, x516.2.1, x516.2.2))) fun c512 => zey c512.1.cursor.tokens c512.1.cursor.at_ c512.1.prog.Structs c512.1.prog.Funcs c512.2.Kind c512.2.Line c512.2.Name c512.2.Field c512.2.Call c512.2.Type_.Kind c512.2.Type_.N c512.2.Type_.Name c512.2.Kids c512.2.Body c512.2.Else else (zbI c493.2 3 ([ztg] : List ByteArray)).bind fun c578 => (if c578.1 = true then zO (zb5 c578.2 ([zs5] : List ByteArray)) (fun x607 => some (.error (x607.1, x607.2, q1))) fun c603 => zO (zdi c603) (fun x643 => some (.error (x643.1, x643.2, q1))) fun c639 => zO (zb5 c639.2 ([zs4] : List ByteArray)) (fun x693 => some (.error (x693.1, x693.2, (⟨(8 : UInt8), q1.Line, q1.Name, q1.Field, q1.Call, (⟨q1.Type_.Kind, q1.Type_.N, q1.Type_.Name⟩ : zR), ([(⟨c639.1.Kind, c639.1.Num, c639.1.Name, c639.1.Field, c639.1.Op, c639.1.Kids⟩ : zb)] : List zb), q1.Body, q1.Else⟩ : zh)))) fun c689 => zey c689.cursor.tokens c689.cursor.at_ c689.prog.Structs c689.prog.Funcs (8 : UInt8) q1.Line q1.Name q1.Field q1.Call q1.Type_.Kind q1.Type_.N q1.Type_.Name ([(⟨c639.1.Kind, c639.1.Num, c639.1.Name, c639.1.Field, c639.1.Op, c639.1.Kids⟩ : zb)] : List zb) q1.Body q1.Else else (zbI c578.2 3 ([zs9] : List ByteArray)).bind fun c735 => (if c735.1 = true then (zcF c735.2 4 ([zta] : List ByteArray)).bind fun c760 => (if (!c760) = true then zO (zdi c735.2) (fun x769 => some (.error (x769.1, x769.2, (⟨(10 : UInt8), q1.Line, q1.Name, q1.Field, q1.Call, (⟨q1.Type_.Kind, q1.Type_.N, q1.Type_.Name⟩ : zR), q1.Kids, q1.Body, q1.Else⟩ : zh)))) fun c765 => zey c765.2.cursor.tokens c765.2.cursor.at_ c765.2.prog.Structs c765.2.prog.Funcs (10 : UInt8) q1.Line q1.Name q1.Field q1.Call q1.Type_.Kind q1.Type_.N q1.Type_.Name ([(⟨c765.1.Kind, c765.1.Num, c765.1.Name, c765.1.Field, c765.1.Op, c765.1.Kids⟩ : zb)] : List zb) q1.Body q1.Else else zey c735.2.cursor.tokens c735.2.cursor.at_ c735.2.prog.Structs c735.2.prog.Funcs (10 : UInt8) q1.Line q1.Name q1.Field q1.Call q1.Type_.Kind q1.Type_.N q1.Type_.Name q1.Kids q1.Body q1.Else) else zO (zgU c735.2 q1) (fun x815 => some (.error (x815.1, x815.2.1, x815.2.2))) fun c811 => zey c811.1.cursor.tokens c811.1.cursor.at_ c811.1.prog.Structs c811.1.prog.Funcs c811.2.Kind c811.2.Line c811.2.Name c811.2.Field c811.2.Call c811.2.Type_.Kind c811.2.Type_.N c811.2.Type_.Name c811.2.Kids c811.2.Body c811.2.Else)))
def zio (rec4 : (List zl) → Int → (List zq) → (List zo) → (List zh) → Option (Except (Value × zf) ((List zh) × zf))) (R_syntax_parser_stmt : zf → Option (Except (Value × zf) (zh × zf))) (x136 : List zl) (x138 : Int) (x142 : List zq) (x147 : List zo) (x152 : List zh) : Option (Except (Value × zf) ((List zh) × zf)) :=
 (zbI (⟨(⟨x136, x138⟩ : zbe), (⟨x142, x147⟩ : zB)⟩ : zf) 4 ([ztw] : List ByteArray)).bind fun c239 => (if (!c239.1) = true then zO (R_syntax_parser_stmt c239.2) (fun x262 => some (.error (x262.1, x262.2))) fun c258 => (room (2 * (x152.length + 1))).bind fun _ => rec4 c258.2.cursor.tokens c258.2.cursor.at_ c258.2.prog.Structs c258.2.prog.Funcs (x152 ++ [(⟨c258.1.Kind, c258.1.Line, c258.1.Name, c258.1.Field, c258.1.Call, (⟨c258.1.Type_.Kind, c258.1.Type_.N, c258.1.Type_.Name⟩ : zR), c258.1.Kids, c258.1.Body, c258.1.Else⟩ : zh)]) else some (.ok (x152, c239.2)))
def zfS (R_syntax_parser_stmt : zf → Option (Except (Value × zf) (zh × zf))) : Nat → (List zl) → Int → (List zq) → (List zo) → (List zh) → Option (Except (Value × zf) ((List zh) × zf))
 | 0, _, _, _, _, _ => none
 | n + 1, x136, x138, x142, x147, x152 => zio (zfS R_syntax_parser_stmt n) R_syntax_parser_stmt x136 x138 x142 x147 x152
def zhb (R_syntax_parser_block : zf → Option (Except (Value × zf) ((List zh) × zf))) (R_syntax_parser_stmt : zf → Option (Except (Value × zf) (zh × zf))) (q0 : zf) : Option (Except (Value × zf) ((List zh) × zf)) :=
 zO (zb5 q0 ([ztm] : List ByteArray)) (fun x12 => some (.error (x12.1, x12.2))) fun c8 => zfS R_syntax_parser_stmt big c8.cursor.tokens c8.cursor.at_ c8.prog.Structs c8.prog.Funcs ([])
def zeM (q0 : zf) : Option Int :=
 (if (decide (q0.cursor.at_ < (q0.cursor.tokens.length : Int))) = true then (zv q0.cursor.tokens q0.cursor.at_).bind fun y3 => some y3.Line else some 0)
def zfD (x451 : List zl) (x453 : Int) (x457 : List zq) (x462 : List zo) (x464 : UInt8) (x465 : Int) (x466 : ByteArray) (x467 : ByteArray) (x468 : ByteArray) (x469 : UInt8) (x470 : Int) (x471 : ByteArray) (x474 : List zb) (x478 : List zh) (x482 : List zh) : Option (Except (Value × zf) (zh × zf)) :=
 some (.ok ((⟨x464, x465, x466, x467, x468, (⟨x469, x470, x471⟩ : zR), x474, x478, x482⟩ : zh), (⟨(⟨x451, x453⟩ : zbe), (⟨x457, x462⟩ : zB)⟩ : zf)))
def zic (R_syntax_parser_block : zf → Option (Except (Value × zf) ((List zh) × zf))) (R_syntax_parser_stmt : zf → Option (Except (Value × zf) (zh × zf))) (q0 : zf) : Option (Except (Value × zf) (zh × zf)) :=
 (zeM q0).bind fun c3 => (zbI q0 3 ([ztE] : List ByteArray)).bind fun c490 => (if c490.1 = true then zO (zdi c490.2) (fun x513 => some (.error (x513.1, x513.2))) fun c509 => zO (R_syntax_parser_block c509.2) (fun x557 => some (.error (x557.1, x557.2))) fun c553 => (zbI c553.2 3 ([zth] : List ByteArray)).bind fun c600 => (if c600.1 = true then zO (R_syntax_parser_block c600.2) (fun x623 => some (.error (x623.1, x623.2))) fun c619 => zfD c619.2.cursor.tokens c619.2.cursor.at_ c619.2.prog.Structs c619.2.prog.Funcs (6 : UInt8) c3 zs3 zs3 zs3 (0 : UInt8) 0 zs3 ([(⟨c509.1.Kind, c509.1.Num, c509.1.Name, c509.1.Field, c509.1.Op, c509.1.Kids⟩ : zb)] : List zb) c553.1 c619.1 else zfD c600.2.cursor.tokens c600.2.cursor.at_ c600.2.prog.Structs c600.2.prog.Funcs (6 : UInt8) c3 zs3 zs3 zs3 (0 : UInt8) 0 zs3 ([(⟨c509.1.Kind, c509.1.Num, c509.1.Name, c509.1.Field, c509.1.Op, c509.1.Kids⟩ : zb)] : List zb) c553.1 ([])) else (zbI c490.2 3 ([ztx] : List ByteArray)).bind fun c676 => (if c676.1 = true then zO (zdi c676.2) (fun x699 => some (.error (x699.1, x699.2))) fun c695 => zO (R_syntax_parser_block c695.2) (fun x743 => some (.error (x743.1, x743.2))) fun c739 => zfD c739.2.cursor.tokens c739.2.cursor.at_ c739.2.prog.Structs c739.2.prog.Funcs (7 : UInt8) c3 zs3 zs3 zs3 (0 : UInt8) 0 zs3 ([(⟨c695.1.Kind, c695.1.Num, c695.1.Name, c695.1.Field, c695.1.Op, c695.1.Kids⟩ : zb)] : List zb) c739.1 ([]) else zO (zhZ c676.2 (⟨(0 : UInt8), c3, zs3, zs3, zs3, (⟨(0 : UInt8), 0, zs3⟩ : zR), [], [], []⟩ : zh)) (fun x788 => some (.error (x788.1, x788.2.1))) fun c784 => zfD c784.1.cursor.tokens c784.1.cursor.at_ c784.1.prog.Structs c784.1.prog.Funcs c784.2.Kind c784.2.Line c784.2.Name c784.2.Field c784.2.Call c784.2.Type_.Kind c784.2.Type_.N c784.2.Type_.Name c784.2.Kids c784.2.Body c784.2.Else))
def zcc : Nat → (zf → Option (Except (Value × zf) ((List zh) × zf))) × (zf → Option (Except (Value × zf) (zh × zf)))
 | 0 => (fun _ => none, fun _ => none)
 | gn + 1 => (zhb ((zcc gn).1) ((zcc gn).2), zic ((zcc gn).1) ((zcc gn).2))
def zjQ (q0 : zf) : Option (Except (Value × zf) ((List zh) × zf)) := (zcc big).1 q0
def zgo (c2 : Int) (c49 : ByteArray × zf) (x573 : List zl) (x575 : Int) (x579 : List zq) (x584 : List zo) (x589 : List zbu) : Option (Except (Value × zf) (zf)) :=
 zO (zfm (⟨(⟨x573, x575⟩ : zbe), (⟨x579, x584⟩ : zB)⟩ : zf) false) (fun x595 => some (.error (x595.1, x595.2))) fun c591 => zO (zjQ c591.2) (fun x631 => some (.error (x631.1, x631.2))) fun c627 => (room (c627.2.prog.Funcs.length + ([(⟨c49.1, c2, x589, (⟨c591.1.Kind, c591.1.N, c591.1.Name⟩ : zR), c627.1⟩ : zo)] : List zo).length)).bind fun _ => some (.ok (⟨(⟨c627.2.cursor.tokens, c627.2.cursor.at_⟩ : zbe), (⟨c627.2.prog.Structs, (c627.2.prog.Funcs ++ ([(⟨c49.1, c2, x589, (⟨c591.1.Kind, c591.1.N, c591.1.Name⟩ : zR), c627.1⟩ : zo)] : List zo))⟩ : zB)⟩ : zf))
def zhq (rec10 : (List zl) → Int → (List zq) → (List zo) → (List zbu) → Option (Except (Value × zf) (zf))) (c2 : Int) (c49 : ByteArray × zf) (x860 : List zl) (x862 : Int) (x866 : List zq) (x871 : List zo) (x876 : List zbu) : Option (Except (Value × zf) (zf)) :=
 (zbI (⟨(⟨x860, x862⟩ : zbe), (⟨x866, x871⟩ : zB)⟩ : zf) 4 ([ztt] : List ByteArray)).bind fun c997 => (if c997.1 = true then zO (zfT c997.2) (fun x1020 => some (.error (x1020.1, x1020.2))) fun c1016 => (room (x876.length + ([(⟨c1016.1.Name, (⟨c1016.1.Type_.Kind, c1016.1.Type_.N, c1016.1.Type_.Name⟩ : zR)⟩ : zbu)] : List zbu).length)).bind fun _ => rec10 c1016.2.cursor.tokens c1016.2.cursor.at_ c1016.2.prog.Structs c1016.2.prog.Funcs (x876 ++ ([(⟨c1016.1.Name, (⟨c1016.1.Type_.Kind, c1016.1.Type_.N, c1016.1.Type_.Name⟩ : zR)⟩ : zbu)] : List zbu)) else zO (zb5 c997.2 ([zs4] : List ByteArray)) (fun x1071 => some (.error (x1071.1, x1071.2))) fun c1067 => zgo c2 c49 c1067.cursor.tokens c1067.cursor.at_ c1067.prog.Structs c1067.prog.Funcs x876)
def zf2 (c2 : Int) (c49 : ByteArray × zf) : Nat → (List zl) → Int → (List zq) → (List zo) → (List zbu) → Option (Except (Value × zf) (zf))
 | 0, _, _, _, _, _ => none
 | n + 1, x860, x862, x866, x871, x876 => zhq (zf2 c2 c49 n) c2 c49 x860 x862 x866 x871 x876
def zg8 (q0 : zf) : Option (Except (Value × zf) (zf)) :=
 (zeM q0).bind fun c2 => zO (zc0 q0 3 ([ztc] : List ByteArray)) (fun x17 => some (.error (x17.1, x17.2))) fun c13 => zO (zcM c13.2) (fun x53 => some (.error (x53.1, x53.2))) fun c49 => zO (zb5 c49.2 ([zs5] : List ByteArray)) (fun x95 => some (.error (x95.1, x95.2))) fun c91 => (zbI c91 4 ([zs4] : List ByteArray)).bind fun c133 => (if (!c133.1) = true then zO (zfT c133.2) (fun x688 => some (.error (x688.1, x688.2))) fun c684 => (room (([] : List zbu).length + ([(⟨c684.1.Name, (⟨c684.1.Type_.Kind, c684.1.Type_.N, c684.1.Type_.Name⟩ : zR)⟩ : zbu)] : List zbu).length)).bind fun _ => zf2 c2 c49 big c684.2.cursor.tokens c684.2.cursor.at_ c684.2.prog.Structs c684.2.prog.Funcs (([] : List zbu) ++ ([(⟨c684.1.Name, (⟨c684.1.Type_.Kind, c684.1.Type_.N, c684.1.Type_.Name⟩ : zR)⟩ : zbu)] : List zbu)) else zgo c2 c49 c133.2.cursor.tokens c133.2.cursor.at_ c133.2.prog.Structs c133.2.prog.Funcs ([]))
def zfl (rec4 : (List zl) → Int → (List zq) → (List zo) → Option (Except (Value × zf × Bool) (zf × Bool))) (qf0 : Bool) (x112 : List zl) (x114 : Int) (x118 : List zq) (x123 : List zo) : Option (Except (Value × zf × Bool) (zf × Bool)) :=
 (if (decide (x114 < (x112.length : Int))) = true then (zbI (⟨(⟨x112, x114⟩ : zbe), (⟨x118, x123⟩ : zB)⟩ : zf) 3 ([zte] : List ByteArray)).bind fun c231 => (if c231.1 = true then zO (zid c231.2) (fun x254 => some (.error (x254.1, x254.2, qf0))) fun c250 => rec4 c250.cursor.tokens c250.cursor.at_ c250.prog.Structs c250.prog.Funcs else zO (zg8 c231.2) (fun x290 => some (.error (x290.1, x290.2, qf0))) fun c286 => rec4 c286.cursor.tokens c286.cursor.at_ c286.prog.Structs c286.prog.Funcs) else some (.ok ((⟨(⟨x112, x114⟩ : zbe), (⟨x118, x123⟩ : zB)⟩ : zf), true)))
def zek (qf0 : Bool) : Nat → (List zl) → Int → (List zq) → (List zo) → Option (Except (Value × zf × Bool) (zf × Bool))
 | 0, _, _, _, _ => none
 | n + 1, x112, x114, x118, x123 => zfl (zek qf0 n) qf0 x112 x114 x118 x123
def zhj (q0 : zf) (qf0 : Bool) : Option (Except (Value × zf × Bool) (zf × Bool)) :=
 zek qf0 big q0.cursor.tokens q0.cursor.at_ q0.prog.Structs q0.prog.Funcs
def zh7 : Value → Bool
 | .iface t (.agg cs) => decide (t = 92) && decide (cs.size = 0)
 | _ => false
def ziF (q0 : zf) : Option (Bool × zf) :=
 match zhj q0 false with
  | none => none
  | some (.ok c) => some (c.2, c.1)
  | some (.error c) => if zh7 c.1 = true then some (false, c.2.1) else none
def zhT (rec4 : Int → Int → Option Int) (R_syntax_depth : zb → Option Int) (p0 : zb) (x18 : Int) (x19 : Int) : Option Int :=
 (if (decide (x19 < (p0.Kids.length : Int))) = true then (zv p0.Kids x19).bind fun y37 => (R_syntax_depth y37).bind fun c47 => rec4 (zcy x18 c47) (IntKind.i64.wrap (x19 + 1)) else some (IntKind.i64.wrap (x18 + 1)))
def ze6 (R_syntax_depth : zb → Option Int) (p0 : zb) : Nat → Int → Int → Option Int
 | 0, _, _ => none
 | n + 1, x18, x19 => zhT (ze6 R_syntax_depth p0 n) R_syntax_depth p0 x18 x19
def zkN (R_syntax_depth : zb → Option Int) (p0 : zb) : Option Int :=
 ze6 R_syntax_depth p0 big 0 0
def zdQ : Nat → (zb → Option Int)
 | 0 => fun _ => none
 | gn + 1 => zkN (zdQ gn)
def zlg (p0 : zb) : Option Int := (zdQ big) p0
def zhX (p0 : zb) : Option Bool :=
 (zlg p0).bind fun c3 => some (decide (c3 > 40))
def zgW (rec4 : Int → Option Int) (p0 : (List zb)) (x18 : Int) : Option Int :=
 (if (decide (x18 < (p0.length : Int))) = true then (zv p0 x18).bind fun y36 => (zhX y36).bind fun c45 => (if c45 = true then some x18 else rec4 (IntKind.i64.wrap (x18 + 1))) else some (-1))
def zfb (p0 : (List zb)) : Nat → Int → Option Int
 | 0, _ => none
 | n + 1, x18 => zgW (zfb p0 n) p0 x18
def ziL (p0 : (List zb)) : Option Int :=
 zfb p0 big 0
def zh1 (p0 : (List zb)) : Option Bool :=
 (ziL p0).bind fun c3 => some (decide (c3 ≥ 0))
def zg9 (R_syntax_deep : (List zh) → Int → Option Bool) (p0 : zh) (qf0 : Int) : Option Bool :=
 ((if (qf0 == 0) = true then some true else (zh1 p0.Kids).bind fun c6 => some c6)).bind fun c3 => ((if c3 = true then some true else (R_syntax_deep p0.Body (IntKind.i64.wrap (qf0 - 1))).bind fun c13 => some c13)).bind fun c10 => ((if c10 = true then some true else (R_syntax_deep p0.Else (IntKind.i64.wrap (qf0 - 1))).bind fun c20 => some c20)).bind fun c17 => some c17
def zhG (rec4 : Int → Option Int) (R_syntax_deep : (List zh) → Int → Option Bool) (p0 : (List zh)) (q1_0 : Int) (x26 : Int) : Option Int :=
 (if (decide (x26 < (p0.length : Int))) = true then (zv p0 x26).bind fun y52 => (zg9 R_syntax_deep y52 q1_0).bind fun c69 => (if c69 = true then some x26 else rec4 (IntKind.i64.wrap (x26 + 1))) else some (-1))
def zfc (R_syntax_deep : (List zh) → Int → Option Bool) (p0 : (List zh)) (q1_0 : Int) : Nat → Int → Option Int
 | 0, _ => none
 | n + 1, x26 => zhG (zfc R_syntax_deep p0 q1_0 n) R_syntax_deep p0 q1_0 x26
def zi9 (R_syntax_deep : (List zh) → Int → Option Bool) (p0 : (List zh)) (q1_0 : Int) : Option Int :=
 zfc R_syntax_deep p0 q1_0 big 0
def zhe (R_syntax_deep : (List zh) → Int → Option Bool) (p0 : (List zh)) (q1_0 : Int) : Option Bool :=
 (zi9 R_syntax_deep p0 q1_0).bind fun c3 => some (decide (c3 ≥ 0))
def zkB (R_syntax_deep : (List zh) → Int → Option Bool) (p0 : (List zh)) (p1 : Int) : Option Bool :=
 (zhe R_syntax_deep p0 p1).bind fun c6 => some c6
def zc2 : Nat → ((List zh) → Int → Option Bool)
 | 0 => fun _ _ => none
 | gn + 1 => zkB (zc2 gn)
def zkb (p0 : (List zh)) (p1 : Int) : Option Bool := (zc2 big) p0 p1
def ziU (p0 : zo) : Option Bool :=
 (zkb p0.Body 40).bind fun c3 => some c3
def zhg (rec4 : Int → Option Int) (p0 : (List zo)) (x22 : Int) : Option Int :=
 (if (decide (x22 < (p0.length : Int))) = true then (zv p0 x22).bind fun y44 => (ziU y44).bind fun c57 => (if c57 = true then some x22 else rec4 (IntKind.i64.wrap (x22 + 1))) else some (-1))
def ze5 (p0 : (List zo)) : Nat → Int → Option Int
 | 0, _ => none
 | n + 1, x22 => zhg (ze5 p0 n) p0 x22
def zjq (p0 : (List zo)) : Option Int :=
 ze5 p0 big 0
def zfK (p0 : (List zo)) : Option Bool :=
 (zjq p0).bind fun c3 => some (decide (c3 ≥ 0))
def zeJ (p0 : (List zl)) : Option (zB × Int × Int) :=
 (ziF (⟨(⟨p0, 0⟩ : zbe), (⟨([] : List zq), ([] : List zo)⟩ : zB)⟩ : zf)).bind fun c6 => (if (!c6.1) = true then some ((⟨[], []⟩ : zB), c6.2.cursor.at_, 7) else (zfK c6.2.prog.Funcs).bind fun c27 => (if c27 = true then some ((⟨[], []⟩ : zB), 0, 11) else some (c6.2.prog, 0, 0)))
def zhR (rec16 : Int → Option Int) (rec14 : Int → Option Int) (p0 : (List UInt8)) (x120 : Int) : Option Int :=
 ((if (decide (x120 < (p0.length : Int))) = true then (zv p0 x120).bind fun y134 => some ((y134.toNat : Int) != 10) else some false)).bind fun c131 => (if c131 = true then rec16 (IntKind.i64.wrap (x120 + 1)) else rec14 x120)
def zf3 (rec14 : Int → Option Int) (p0 : (List UInt8)) : Nat → Int → Option Int
 | 0, _ => none
 | n + 1, x120 => zhR (zf3 rec14 p0 n) rec14 p0 x120
def zif (rec14 : Int → Option Int) (p0 : (List UInt8)) (x48 : Int) : Option Int :=
 (if (decide (x48 < (p0.length : Int))) = true then (zv p0 x48).bind fun y96 => (if (((((y96.toNat : Int) == 32) || ((y96.toNat : Int) == 9)) || ((y96.toNat : Int) == 13)) || ((y96.toNat : Int) == 10)) = true then rec14 (IntKind.i64.wrap (x48 + 1)) else ((if (((y96.toNat : Int) == 47) && (decide ((IntKind.i64.wrap (x48 + 1)) < (p0.length : Int)))) = true then (zv p0 (IntKind.i64.wrap (x48 + 1))).bind fun y105 => some ((y105.toNat : Int) == 47) else some false)).bind fun c102 => (if c102 = true then zf3 rec14 p0 big x48 else some x48)) else some x48)
def zd9 (p0 : (List UInt8)) : Nat → Int → Option Int
 | 0, _ => none
 | n + 1, x48 => zif (zd9 p0 n) p0 x48
def zfs (p0 : (List UInt8)) (p1 : Int) : Option Int :=
 zd9 p0 big p1
def zem (p0 : Int) : Option Bool :=
 ((if ((decide (p0 ≥ 97)) && (decide (p0 ≤ 122))) = true then some true else (if (decide (p0 ≥ 65)) = true then some (decide (p0 ≤ 90)) else some false))).bind fun c2 => some (c2 || (p0 == 95))
def zeU (p0 : Int) : Option Bool :=
 some ((decide (p0 ≥ 48)) && (decide (p0 ≤ 57)))
def zhE (rec4 : Int → Option Bool) (p0 : (List ByteArray)) (p1 : ByteArray) (x10 : Int) : Option Bool :=
 (if (decide (x10 < (p0.length : Int))) = true then (zv p0 x10).bind fun y20 => (if (zV y20 p1) = true then some true else rec4 (IntKind.i64.wrap (x10 + 1))) else some false)
def zgz (p0 : (List ByteArray)) (p1 : ByteArray) : Nat → Int → Option Bool
 | 0, _ => none
 | n + 1, x10 => zhE (zgz p0 p1 n) p0 p1 x10
def zh9 (p0 : (List ByteArray)) (p1 : ByteArray) : Option Bool :=
 zgz p0 p1 big 0
def zh5  : Option (List ByteArray) :=
 some ([zte, zs7, ztc, ztn, ztE, zth, ztx, zs9, ztg, ztd, zs6, ztu, ztl, zti] : List ByteArray)
def zhP (rec4 : Int → Int → Option (Int × Bool)) (p0 : ByteArray) (x11 : Int) (x12 : Int) : Option (Int × Bool) :=
 (if (decide (x12 < (p0.size : Int))) = true then (zfv p0 x12).bind fun y24 => (if (decide (x11 > (IntKind.i64.wrap (Int.tdiv (IntKind.i64.wrap (9223372036854775807 - (IntKind.i64.wrap (IntKind.u8.wrap ((y24.toNat : Int) - 48))))) 10)))) = true then some (0, false) else rec4 (IntKind.i64.wrap ((IntKind.i64.wrap (10 * x11)) + (IntKind.i64.wrap (IntKind.u8.wrap ((y24.toNat : Int) - 48))))) (IntKind.i64.wrap (x12 + 1))) else ((if ((p0.size : Int) == 1) = true then some true else (zfv p0 0).bind fun y30 => some ((y30.toNat : Int) != 48))).bind fun c27 => some (x11, c27))
def zgr (p0 : ByteArray) : Nat → Int → Int → Option (Int × Bool)
 | 0, _, _ => none
 | n + 1, x11, x12 => zhP (zgr p0 n) p0 x11 x12
def zgV (p0 : ByteArray) : Option (Int × Bool) :=
 zgr p0 big 0 0
def zkm  : Option (List ByteArray) :=
 some ([zto, ztk, ztp, ztq, ztr, zts, zs5, zs4, ztm, ztw, ztb, ztj, ztt, zta, ztv, zs8, ztB, ztf, zty, ztC, ztD, ztz, ztA, ztH] : List ByteArray)
def zg7 (rec8 : Int → Option (zl × Bool)) (p0 : (List UInt8)) (p1 : Int) (x58 : Int) : Option (zl × Bool) :=
 ((if (decide (x58 < (p0.length : Int))) = true then (zv p0 x58).bind fun y107 => (zem (y107.toNat : Int)).bind fun c112 => (if c112 = true then some true else (zv p0 x58).bind fun y117 => (zeU (y117.toNat : Int)).bind fun c122 => some c122) else some false)).bind fun c104 => (if c104 = true then rec8 (IntKind.i64.wrap (x58 + 1)) else (zcV p0 p1 x58).bind fun y127 => (zh5 ).bind fun c132 => (zh9 c132 (⟨y127.toArray⟩ : ByteArray)).bind fun c143 => (if c143 = true then some ((⟨(3 : UInt8), (⟨y127.toArray⟩ : ByteArray), 0, 0⟩ : zl), true) else some ((⟨(1 : UInt8), (⟨y127.toArray⟩ : ByteArray), 0, 0⟩ : zl), (decide (((⟨y127.toArray⟩ : ByteArray).size : Int) ≤ 24)))))
def zgn (p0 : (List UInt8)) (p1 : Int) : Nat → Int → Option (zl × Bool)
 | 0, _ => none
 | n + 1, x58 => zg7 (zgn p0 p1 n) p0 p1 x58
def zg5 (rec10 : Int → Option (zl × Bool)) (p0 : (List UInt8)) (p1 : Int) (x188 : Int) : Option (zl × Bool) :=
 ((if (decide (x188 < (p0.length : Int))) = true then (zv p0 x188).bind fun y228 => (zeU (y228.toNat : Int)).bind fun c233 => some c233 else some false)).bind fun c225 => (if c225 = true then rec10 (IntKind.i64.wrap (x188 + 1)) else (zcV p0 p1 x188).bind fun y238 => (zgV (⟨y238.toArray⟩ : ByteArray)).bind fun c243 => ((if c243.2 = true then (if (x188 == (p0.length : Int)) = true then some true else (zv p0 x188).bind fun y251 => (zem (y251.toNat : Int)).bind fun c256 => some (!c256)) else some false)).bind fun c247 => some ((⟨(2 : UInt8), (⟨y238.toArray⟩ : ByteArray), c243.1, 0⟩ : zl), c247))
def zfM (p0 : (List UInt8)) (p1 : Int) : Nat → Int → Option (zl × Bool)
 | 0, _ => none
 | n + 1, x188 => zg5 (zfM p0 p1 n) p0 p1 x188
def zhz (rec12 : (List ByteArray) → Int → Option (zl × Bool)) (p0 : (List UInt8)) (p1 : Int) (x315 : List ByteArray) (x317 : Int) : Option (zl × Bool) :=
 (if (decide (x317 < (x315.length : Int))) = true then (zv x315 x317).bind fun y358 => ((if (decide ((IntKind.i64.wrap (p1 + (y358.size : Int))) ≤ (p0.length : Int))) = true then (zv x315 x317).bind fun y368 => (zcV p0 p1 (IntKind.i64.wrap (p1 + (y368.size : Int)))).bind fun y375 => (zv x315 x317).bind fun y380 => some (zV (⟨y375.toArray⟩ : ByteArray) y380) else some false)).bind fun c365 => (if c365 = true then (zv x315 x317).bind fun y388 => some ((⟨(4 : UInt8), y388, 0, 0⟩ : zl), true) else rec12 x315 (IntKind.i64.wrap (x317 + 1))) else some ((⟨(0 : UInt8), zs3, 0, 0⟩ : zl), false))
def zfL (p0 : (List UInt8)) (p1 : Int) : Nat → (List ByteArray) → Int → Option (zl × Bool)
 | 0, _, _ => none
 | n + 1, x315, x317 => zhz (zfL p0 p1 n) p0 p1 x315 x317
def zf9 (p0 : (List UInt8)) (p1 : Int) : Option (zl × Bool) :=
 (zv p0 p1).bind fun y4 => (zem (y4.toNat : Int)).bind fun c9 => (if c9 = true then zgn p0 p1 big p1 else (zeU (y4.toNat : Int)).bind fun c148 => (if c148 = true then zfM p0 p1 big p1 else (zkm ).bind fun c260 => zfL p0 p1 big c260 0))
def zhY (rec16 : (List zl) → Int → Int → Option ((List zl) × Int × Int)) (rec14 : (List zl) → Int → Int → Int → Option ((List zl) × Int × Int)) (p0 : (List UInt8)) (x87 : Int) (x200 : List zl) (x202 : Int) (x203 : Int) : Option ((List zl) × Int × Int) :=
 (if (decide (x203 < x87)) = true then (zv p0 x203).bind fun y228 => (if ((y228.toNat : Int) == 10) = true then rec16 x200 (IntKind.i64.wrap (x202 + 1)) (IntKind.i64.wrap (x203 + 1)) else rec16 x200 x202 (IntKind.i64.wrap (x203 + 1))) else (zf9 p0 x87).bind fun c234 => (if (!c234.2) = true then some ([], x202, 6) else (room (x200.length + 1)).bind fun _ => (zfs p0 (IntKind.i64.wrap (x87 + (c234.1.Text.size : Int)))).bind fun c245 => rec14 (x200 ++ [(⟨c234.1.Kind, c234.1.Text, c234.1.Num, x202⟩ : zl)]) x202 x203 c245))
def zfH (rec14 : (List zl) → Int → Int → Int → Option ((List zl) × Int × Int)) (p0 : (List UInt8)) (x87 : Int) : Nat → (List zl) → Int → Int → Option ((List zl) × Int × Int)
 | 0, _, _, _ => none
 | n + 1, x200, x202, x203 => zhY (zfH rec14 p0 x87 n) rec14 p0 x87 x200 x202 x203
def zit (rec14 : (List zl) → Int → Int → Int → Option ((List zl) × Int × Int)) (p0 : (List UInt8)) (x83 : List zl) (x85 : Int) (x86 : Int) (x87 : Int) : Option ((List zl) × Int × Int) :=
 (if (decide (x87 < (p0.length : Int))) = true then zfH rec14 p0 x87 big x83 x85 x86 else some (x83, 0, 0))
def zdX (p0 : (List UInt8)) : Nat → (List zl) → Int → Int → Int → Option ((List zl) × Int × Int)
 | 0, _, _, _, _ => none
 | n + 1, x83, x85, x86, x87 => zit (zdX p0 n) p0 x83 x85 x86 x87
def zeA (p0 : (List UInt8)) : Option ((List zl) × Int × Int) :=
 (if (decide ((p0.length : Int) > 16384)) = true then some ([], 0, 11) else (zfs p0 0).bind fun c3 => zdX p0 big ([]) 1 0 c3)
def zjr (p0 : ByteArray) : Option (List zl) :=
 (zeA (p0.data.toList)).bind fun c6 => some c6.1
def ze7  : Option Bool :=
 (zjr ztF).bind fun c1 => (zeJ c1).bind fun c12 => (zjr ztG).bind fun c25 => (zeJ c25).bind fun c36 => ((if (((c12.2.2 != 0) || (c12.2.1 != 0)) || ((c12.1.Funcs.length : Int) != 1)) = true then some true else (zv c12.1.Funcs 0).bind fun y52 => some ((y52.Body.length : Int) != 1))).bind fun c49 => ((if c49 = true then some true else (zv c12.1.Funcs 0).bind fun y68 => (zv y68.Body 0).bind fun y81 => some ((y81.Kids.length : Int) != 1))).bind fun c65 => (if c65 = true then some false else (zv c12.1.Funcs 0).bind fun y99 => (zv y99.Body 0).bind fun y112 => (zv y112.Kids 0).bind fun y129 => ((if ((zV y129.Op ztf) && ((y129.Kids.length : Int) == 2)) = true then (zv y129.Kids 0).bind fun y142 => some (zV y142.Op ztf) else some false)).bind fun c139 => ((if c139 = true then (zv y129.Kids 1).bind fun y154 => some (zV y154.Op zty) else some false)).bind fun c151 => some ((c151 && (c36.2.1 == 11)) && (c36.2.2 == 7)))
def zgL (rec4 : Int → Int → Option Int) (R_ref12_Depth : zb → Option Int) (p0 : zb) (x17 : Int) (x18 : Int) : Option Int :=
 (if (decide (x18 < (p0.Kids.length : Int))) = true then (zv p0.Kids x18).bind fun y35 => (R_ref12_Depth y35).bind fun c44 => rec4 (zcy x17 c44) (IntKind.i64.wrap (x18 + 1)) else some (IntKind.i64.wrap (x17 + 1)))
def zfj (R_ref12_Depth : zb → Option Int) (p0 : zb) : Nat → Int → Int → Option Int
 | 0, _, _ => none
 | n + 1, x17, x18 => zgL (zfj R_ref12_Depth p0 n) R_ref12_Depth p0 x17 x18
def zk2 (R_ref12_Depth : zb → Option Int) (p0 : zb) : Option Int :=
 zfj R_ref12_Depth p0 big 0 0
def zdV : Nat → (zb → Option Int)
 | 0 => fun _ => none
 | gn + 1 => zk2 (zdV gn)
def zj8 (p0 : zb) : Option Int := (zdV big) p0
def ziy (rec16 : Int → Option Int) (rec14 : Int → Int → Option Int) (p0 : (List zh)) (x194 : Int) (x195 : Int) (c424 : Int) (c428 : Int) (x481 : Int) : Option Int :=
 (zv p0 x195).bind fun y532 => (if (decide (x481 < (y532.Kids.length : Int))) = true then (zv p0 x195).bind fun y550 => (zv y550.Kids x481).bind fun y567 => (zj8 y567).bind fun c576 => (if (decide (c576 > 40)) = true then some 41 else rec16 (IntKind.i64.wrap (x481 + 1))) else rec14 (zcy (zcy x194 (IntKind.i64.wrap (1 + c424))) (IntKind.i64.wrap (1 + c428))) (IntKind.i64.wrap (x195 + 1)))
def zfw (rec14 : Int → Int → Option Int) (p0 : (List zh)) (x194 : Int) (x195 : Int) (c424 : Int) (c428 : Int) : Nat → Int → Option Int
 | 0, _ => none
 | n + 1, x481 => ziy (zfw rec14 p0 x194 x195 c424 c428 n) rec14 p0 x194 x195 c424 c428 x481
def zgK (rec14 : Int → Int → Option Int) (R_ref12_deepest : (List zh) → Option Int) (p0 : (List zh)) (x194 : Int) (x195 : Int) : Option Int :=
 (if (decide (x195 < (p0.length : Int))) = true then (zv p0 x195).bind fun y390 => (zv p0 x195).bind fun y407 => (R_ref12_deepest y390.Body).bind fun c424 => (R_ref12_deepest y407.Else).bind fun c428 => zfw rec14 p0 x194 x195 c424 c428 big 0 else some x194)
def zdF (R_ref12_deepest : (List zh) → Option Int) (p0 : (List zh)) : Nat → Int → Int → Option Int
 | 0, _, _ => none
 | n + 1, x194, x195 => zgK (zdF R_ref12_deepest p0 n) R_ref12_deepest p0 x194 x195
def zj3 (R_ref12_deepest : (List zh) → Option Int) (p0 : (List zh)) : Option Int :=
 zdF R_ref12_deepest p0 big 0 0
def zdz : Nat → ((List zh) → Option Int)
 | 0 => fun _ => none
 | gn + 1 => zj3 (zdz gn)
def zj9 (p0 : (List zh)) : Option Int := (zdz big) p0
def zir (rec4 : Int → Option Bool) (p0 : zB) (x22 : Int) : Option Bool :=
 (if (decide (x22 < (p0.Funcs.length : Int))) = true then (zv p0.Funcs x22).bind fun y44 => (zj9 y44.Body).bind fun c57 => (if (decide (c57 > 40)) = true then some true else rec4 (IntKind.i64.wrap (x22 + 1))) else some false)
def zgv (p0 : zB) : Nat → Int → Option Bool
 | 0, _ => none
 | n + 1, x22 => zir (zgv p0 n) p0 x22
def zjD (p0 : zB) : Option Bool :=
 zgv p0 big 0
def zjx  : Option (List (List ByteArray)) :=
 some ([([ztk] : List ByteArray), ([zto] : List ByteArray), ([ztp, ztq, ztz, ztr, ztA, zts] : List ByteArray), ([ztB, ztf] : List ByteArray), ([zty, ztC, ztD] : List ByteArray)] : List (List ByteArray))
def zgJ (rec4 : Int → Option Bool) (R_ref12_sameExps : (List zb) → (List zb) → Option Bool) (p0 : (List zb)) (p1 : (List zb)) (x133 : Int) : Option Bool :=
 (if (decide (x133 < (p0.length : Int))) = true then (zv p0 x133).bind fun y265 => (zv p1 x133).bind fun y274 => ((if ((y265.Kind.toNat : Int) != (y274.Kind.toNat : Int)) = true then some true else (zv p0 x133).bind fun y286 => (zv p1 x133).bind fun y295 => some (y286.Num != y295.Num))).bind fun c283 => ((if c283 = true then some true else (zv p0 x133).bind fun y307 => (zv p1 x133).bind fun y316 => some (!(zV y307.Name y316.Name)))).bind fun c304 => ((if c304 = true then some true else (zv p0 x133).bind fun y328 => (zv p1 x133).bind fun y337 => some (!(zV y328.Field y337.Field)))).bind fun c325 => ((if c325 = true then some true else (zv p0 x133).bind fun y349 => (zv p1 x133).bind fun y358 => some (!(zV y349.Op y358.Op)))).bind fun c346 => ((if c346 = true then some true else (zv p0 x133).bind fun y370 => (zv p1 x133).bind fun y379 => (R_ref12_sameExps y370.Kids y379.Kids).bind fun c388 => some (!c388))).bind fun c367 => (if c367 = true then some false else rec4 (IntKind.i64.wrap (x133 + 1))) else some true)
def zgl (R_ref12_sameExps : (List zb) → (List zb) → Option Bool) (p0 : (List zb)) (p1 : (List zb)) : Nat → Int → Option Bool
 | 0, _ => none
 | n + 1, x133 => zgJ (zgl R_ref12_sameExps p0 p1 n) R_ref12_sameExps p0 p1 x133
def zhF (R_ref12_sameExps : (List zb) → (List zb) → Option Bool) (p0 : (List zb)) (p1 : (List zb)) : Option Bool :=
 (if ((p0.length : Int) != (p1.length : Int)) = true then some false else zgl R_ref12_sameExps p0 p1 big 0)
def zes : Nat → ((List zb) → (List zb) → Option Bool)
 | 0 => fun _ _ => none
 | gn + 1 => zhF (zes gn)
def zjZ (p0 : (List zb)) (p1 : (List zb)) : Option Bool := (zes big) p0 p1
def zib (rec4 : Int → Option Bool) (R_ref12_sameStmts : (List zh) → (List zh) → Option Bool) (p0 : (List zh)) (p1 : (List zh)) (x63 : Int) : Option Bool :=
 (if (decide (x63 < (p0.length : Int))) = true then (zv p0 x63).bind fun y125 => (zv p1 x63).bind fun y143 => ((if (((((((y125.Kind.toNat : Int) != (y143.Kind.toNat : Int)) || (y125.Line != y143.Line)) || (!(zV y125.Name y143.Name))) || (!(zV y125.Field y143.Field))) || (!(zV y125.Call y143.Call))) || (!(( (y125.Type_.Kind.toNat : Int) == (y143.Type_.Kind.toNat : Int)) && (( y125.Type_.N == y143.Type_.N) && ((zV y125.Type_.Name y143.Type_.Name) && true))))) = true then some true else (zjZ y125.Kids y143.Kids).bind fun c164 => some (!c164))).bind fun c161 => ((if c161 = true then some true else (R_ref12_sameStmts y125.Body y143.Body).bind fun c171 => some (!c171))).bind fun c168 => ((if c168 = true then some true else (R_ref12_sameStmts y125.Else y143.Else).bind fun c178 => some (!c178))).bind fun c175 => (if c175 = true then some false else rec4 (IntKind.i64.wrap (x63 + 1))) else some true)
def zfW (R_ref12_sameStmts : (List zh) → (List zh) → Option Bool) (p0 : (List zh)) (p1 : (List zh)) : Nat → Int → Option Bool
 | 0, _ => none
 | n + 1, x63 => zib (zfW R_ref12_sameStmts p0 p1 n) R_ref12_sameStmts p0 p1 x63
def zg3 (R_ref12_sameStmts : (List zh) → (List zh) → Option Bool) (p0 : (List zh)) (p1 : (List zh)) : Option Bool :=
 (if ((p0.length : Int) != (p1.length : Int)) = true then some false else zfW R_ref12_sameStmts p0 p1 big 0)
def zen : Nat → ((List zh) → (List zh) → Option Bool)
 | 0 => fun _ _ => none
 | gn + 1 => zg3 (zen gn)
def zlh (p0 : (List zh)) (p1 : (List zh)) : Option Bool := (zen big) p0 p1
def zgZ (rec56 : Int → Option Bool) (rec54 : Int → Option Bool) (p0 : zB) (p1 : zB) (x417 : Int) (x910 : Int) : Option Bool :=
 (zv p0.Structs x417).bind fun y951 => (if (decide (x910 < (y951.Fields.length : Int))) = true then (zv p0.Structs x417).bind fun y961 => (zv y961.Fields x910).bind fun y970 => (zv p1.Structs x417).bind fun y975 => (zv y975.Fields x910).bind fun y984 => (if (!(zV y970 y984)) = true then some false else rec56 (IntKind.i64.wrap (x910 + 1))) else rec54 (IntKind.i64.wrap (x417 + 1)))
def zfz (rec54 : Int → Option Bool) (p0 : zB) (p1 : zB) (x417 : Int) : Nat → Int → Option Bool
 | 0, _ => none
 | n + 1, x910 => zgZ (zfz rec54 p0 p1 x417 n) rec54 p0 p1 x417 x910
def zht (rec64 : Int → Option Bool) (rec62 : Int → Option Bool) (x1073 : Int) (y1159 : zo) (y1173 : zo) (x1215 : Int) : Option Bool :=
 (if (decide (x1215 < (y1159.Params.length : Int))) = true then (zv y1159.Params x1215).bind fun y1230 => (zv y1173.Params x1215).bind fun y1235 => (if (!((zV y1230.Name y1235.Name) && (( (y1230.Type_.Kind.toNat : Int) == (y1235.Type_.Kind.toNat : Int)) && (( y1230.Type_.N == y1235.Type_.N) && ((zV y1230.Type_.Name y1235.Type_.Name) && true))))) = true then some false else rec64 (IntKind.i64.wrap (x1215 + 1))) else rec62 (IntKind.i64.wrap (x1073 + 1)))
def zfn (rec62 : Int → Option Bool) (x1073 : Int) (y1159 : zo) (y1173 : zo) : Nat → Int → Option Bool
 | 0, _ => none
 | n + 1, x1215 => zht (zfn rec62 x1073 y1159 y1173 n) rec62 x1073 y1159 y1173 x1215
def zhO (rec62 : Int → Option Bool) (p0 : zB) (p1 : zB) (x1073 : Int) : Option Bool :=
 (if (decide (x1073 < (p0.Funcs.length : Int))) = true then (zv p0.Funcs x1073).bind fun y1159 => (zv p1.Funcs x1073).bind fun y1173 => ((if ((((!(zV y1159.Name y1173.Name)) || (y1159.Line != y1173.Line)) || (!(( (y1159.Result.Kind.toNat : Int) == (y1173.Result.Kind.toNat : Int)) && (( y1159.Result.N == y1173.Result.N) && ((zV y1159.Result.Name y1173.Result.Name) && true))))) || ((y1159.Params.length : Int) != (y1173.Params.length : Int))) = true then some true else (zlh y1159.Body y1173.Body).bind fun c1190 => some (!c1190))).bind fun c1187 => (if c1187 = true then some false else zfn rec62 x1073 y1159 y1173 big 0) else some true)
def zdG (p0 : zB) (p1 : zB) : Nat → Int → Option Bool
 | 0, _ => none
 | n + 1, x1073 => zhO (zdG p0 p1 n) p0 p1 x1073
def zhk (rec54 : Int → Option Bool) (p0 : zB) (p1 : zB) (x417 : Int) : Option Bool :=
 (if (decide (x417 < (p0.Structs.length : Int))) = true then (zv p0.Structs x417).bind fun y831 => (zv p1.Structs x417).bind fun y840 => ((if (!(zV y831.Name y840.Name)) = true then some true else (zv p0.Structs x417).bind fun y852 => (zv p1.Structs x417).bind fun y861 => some ((y852.Fields.length : Int) != (y861.Fields.length : Int)))).bind fun c849 => (if c849 = true then some false else zfz rec54 p0 p1 x417 big 0) else zdG p0 p1 big 0)
def zdC (p0 : zB) (p1 : zB) : Nat → Int → Option Bool
 | 0, _ => none
 | n + 1, x417 => zhk (zdC p0 p1 n) p0 p1 x417
def zeN (p0 : zB) (p1 : zB) : Option Bool :=
 (if (((p0.Structs.length : Int) != (p1.Structs.length : Int)) || ((p0.Funcs.length : Int) != (p1.Funcs.length : Int))) = true then some false else zdC p0 p1 big 0)
def zgO (rec4 : Int → Int → Option Int) (R_law12_exps : (List zb) → Int → Option Int) (p0 : (List zb)) (p1 : Int) (x17 : Int) (x18 : Int) : Option Int :=
 (if ((decide (x18 < (p0.length : Int))) && (decide (x17 ≤ p1))) = true then (zv p0 x18).bind fun y35 => (R_law12_exps y35.Kids (IntKind.i64.wrap (p1 - x17))).bind fun c44 => rec4 (IntKind.i64.wrap (x17 + c44)) (IntKind.i64.wrap (x18 + 1)) else some (zdK x17 (IntKind.i64.wrap (p1 + 1))))
def zgk (R_law12_exps : (List zb) → Int → Option Int) (p0 : (List zb)) (p1 : Int) : Nat → Int → Int → Option Int
 | 0, _, _ => none
 | n + 1, x17, x18 => zgO (zgk R_law12_exps p0 p1 n) R_law12_exps p0 p1 x17 x18
def zkP (R_law12_exps : (List zb) → Int → Option Int) (p0 : (List zb)) (p1 : Int) : Option Int :=
 zgk R_law12_exps p0 p1 big (p0.length : Int) 0
def zet : Nat → ((List zb) → Int → Option Int)
 | 0 => fun _ _ => none
 | gn + 1 => zkP (zet gn)
def zkG (p0 : (List zb)) (p1 : Int) : Option Int := (zet big) p0 p1
def zil (R_law12_stmts : (List zh) → Int → Option Int) (rec9 : Int → Int → Option Int) (p0 : (List zh)) (p1 : Int) (x93 : Int) (x228 : Int) : Option Int :=
 (if (decide (x228 ≤ p1)) = true then (zv p0 x93).bind fun y230 => (R_law12_stmts y230.Else (IntKind.i64.wrap (p1 - x228))).bind fun c247 => rec9 (IntKind.i64.wrap (x228 + c247)) (IntKind.i64.wrap (x93 + 1)) else rec9 x228 (IntKind.i64.wrap (x93 + 1)))
def ziv (rec9 : Int → Int → Option Int) (R_law12_stmts : (List zh) → Int → Option Int) (p0 : (List zh)) (p1 : Int) (x92 : Int) (x93 : Int) : Option Int :=
 (if ((decide (x93 < (p0.length : Int))) && (decide (x92 ≤ p1))) = true then (zv p0 x93).bind fun y185 => (zkG y185.Kids (IntKind.i64.wrap (p1 - x92))).bind fun c202 => (if (decide ((IntKind.i64.wrap (x92 + c202)) ≤ p1)) = true then (zv p0 x93).bind fun y252 => (R_law12_stmts y252.Body (IntKind.i64.wrap (p1 - (IntKind.i64.wrap (x92 + c202))))).bind fun c269 => zil R_law12_stmts rec9 p0 p1 x93 (IntKind.i64.wrap ((IntKind.i64.wrap (x92 + c202)) + c269)) else zil R_law12_stmts rec9 p0 p1 x93 (IntKind.i64.wrap (x92 + c202))) else some (zdK x92 (IntKind.i64.wrap (p1 + 1))))
def zel (R_law12_stmts : (List zh) → Int → Option Int) (p0 : (List zh)) (p1 : Int) : Nat → Int → Int → Option Int
 | 0, _, _ => none
 | n + 1, x92, x93 => ziv (zel R_law12_stmts p0 p1 n) R_law12_stmts p0 p1 x92 x93
def zjE (R_law12_stmts : (List zh) → Int → Option Int) (p0 : (List zh)) (p1 : Int) : Option Int :=
 zel R_law12_stmts p0 p1 big (p0.length : Int) 0
def zdN : Nat → ((List zh) → Int → Option Int)
 | 0 => fun _ _ => none
 | gn + 1 => zjE (zdN gn)
def zjL (p0 : (List zh)) (p1 : Int) : Option Int := (zdN big) p0 p1
def zh0 (rec16 : Int → Int → Option Bool) (p0 : zB) (x266 : Int) (x267 : Int) : Option Bool :=
 (if ((decide (x267 < (p0.Funcs.length : Int))) && (decide (x266 ≤ 1500))) = true then (zv p0.Funcs x267).bind fun y302 => (if (decide ((IntKind.i64.wrap ((IntKind.i64.wrap (x266 + 1)) + (y302.Params.length : Int))) ≤ 1500)) = true then (zv p0.Funcs x267).bind fun y316 => (zjL y316.Body (IntKind.i64.wrap (1500 - (IntKind.i64.wrap ((IntKind.i64.wrap (x266 + 1)) + (y302.Params.length : Int)))))).bind fun c329 => rec16 (IntKind.i64.wrap ((IntKind.i64.wrap ((IntKind.i64.wrap (x266 + 1)) + (y302.Params.length : Int))) + c329)) (IntKind.i64.wrap (x267 + 1)) else rec16 (IntKind.i64.wrap ((IntKind.i64.wrap (x266 + 1)) + (y302.Params.length : Int))) (IntKind.i64.wrap (x267 + 1))) else some (decide (x266 > 1500)))
def zfg (p0 : zB) : Nat → Int → Int → Option Bool
 | 0, _, _ => none
 | n + 1, x266, x267 => zh0 (zfg p0 n) p0 x266 x267
def zhA (rec14 : Int → Int → Option Bool) (p0 : zB) (x112 : Int) (x113 : Int) : Option Bool :=
 (if ((decide (x113 < (p0.Structs.length : Int))) && (decide (x112 ≤ 1500))) = true then (zv p0.Structs x113).bind fun y225 => rec14 (IntKind.i64.wrap ((IntKind.i64.wrap (x112 + 1)) + (y225.Fields.length : Int))) (IntKind.i64.wrap (x113 + 1)) else zfg p0 big x112 0)
def zgg (p0 : zB) : Nat → Int → Int → Option Bool
 | 0, _, _ => none
 | n + 1, x112, x113 => zhA (zgg p0 n) p0 x112 x113
def zjo (p0 : zB) : Option Bool :=
 zgg p0 big 0 0
def zhS (rec4 : (List zl) → Int → Option zk) (q0 : zk) (p1 : Int) (p2 : (List ByteArray)) (x28 : List zl) (x30 : Int) : Option zk :=
 (if (decide (x30 < (p2.length : Int))) = true then (zv p2 x30).bind fun y49 => (u8o p1).bind fun z54 => (room (x28.length + ([(⟨z54, y49, 0, q0.Line⟩ : zl)] : List zl).length)).bind fun _ => rec4 (x28 ++ ([(⟨z54, y49, 0, q0.Line⟩ : zl)] : List zl)) (IntKind.i64.wrap (x30 + 1)) else some (⟨x28, q0.Line, q0.More, q0.Failed⟩ : zk))
def zhr (q0 : zk) (p1 : Int) (p2 : (List ByteArray)) : Nat → (List zl) → Int → Option zk
 | 0, _, _ => none
 | n + 1, x28, x30 => zhS (zhr q0 p1 p2 n) q0 p1 p2 x28 x30
def zbf (q0 : zk) (p1 : Int) (p2 : (List ByteArray)) : Option zk :=
 zhr q0 p1 p2 big q0.L 0
def zhB (p0 : ByteArray) : Option Bool :=
 (zeA (p0.data.toList)).bind fun c6 => ((if ((c6.2.2 == 0) && ((c6.1.length : Int) == 1)) = true then (zv c6.1 0).bind fun y18 => some ((y18.Kind.toNat : Int) == 1) else some false)).bind fun c15 => ((if c15 = true then (zv c6.1 0).bind fun y28 => some (zV y28.Text p0) else some false)).bind fun c25 => some c25
def zcv (q0 : zk) (p1 : ByteArray) : Option zk :=
 ((if q0.Failed = true then some true else (zhB p1).bind fun c6 => some (!c6))).bind fun c3 => (zbf (⟨q0.L, q0.Line, q0.More, c3⟩ : zk) 1 ([p1] : List ByteArray)).bind fun c16 => some c16
def zej (rec4 : Int → ByteArray → Option ByteArray)  (x17 : Int) (x18 : ByteArray) : Option ByteArray :=
 (if (decide (x17 ≥ 10)) = true then (u8o (IntKind.u8.wrap (IntKind.i64.wrap (48 + (Int.tmod x17 10))))).bind fun z36 => (zeg (⟨([z36] : List UInt8).toArray⟩ : ByteArray) x18).bind fun y41 => rec4 (IntKind.i64.wrap (Int.tdiv x17 10)) y41 else (u8o (IntKind.u8.wrap (IntKind.i64.wrap (48 + x17)))).bind fun z43 => (zeg (⟨([z43] : List UInt8).toArray⟩ : ByteArray) x18).bind fun y48 => some y48)
def zhc  : Nat → Int → ByteArray → Option ByteArray
 | 0, _, _ => none
 | n + 1, x17, x18 => zej (zhc  n)  x17 x18
def zg0 (p0 : Int) : Option ByteArray :=
 zhc  big p0 zs3
def zfU (q0 : zk) (p1 : Int) : Option zk :=
 (zg0 (zcy p1 0)).bind fun c3 => (room (q0.L.length + ([(⟨(2 : UInt8), c3, p1, q0.Line⟩ : zl)] : List zl).length)).bind fun _ => some (⟨(q0.L ++ ([(⟨(2 : UInt8), c3, p1, q0.Line⟩ : zl)] : List zl)), q0.Line, q0.More, (q0.Failed || (decide (p1 < 0)))⟩ : zk)
def zer (x104 : List zl) (x106 : Int) (x107 : Int) (x108 : Bool) (x109 : Bool) : Option zk :=
 some (⟨x104, x106, x107, (x108 || (!x109))⟩ : zk)
def zfq (q0 : zk) (p1 : zR) : Option zk :=
 (if ((p1.Kind.toNat : Int) == 1) = true then (zbf q0 3 ([zs6] : List ByteArray)).bind fun c117 => zer c117.L c117.Line c117.More c117.Failed ((p1.N == 0) && (zV p1.Name zs3)) else (if ((p1.Kind.toNat : Int) == 2) = true then (zbf q0 3 ([ztu] : List ByteArray)).bind fun c133 => zer c133.L c133.Line c133.More c133.Failed ((p1.N == 0) && (zV p1.Name zs3)) else (if ((p1.Kind.toNat : Int) == 3) = true then (zbf q0 4 ([ztb] : List ByteArray)).bind fun c149 => (zfU c149 p1.N).bind fun c158 => (zbf c158 4 ([ztj] : List ByteArray)).bind fun c173 => (zbf c173 3 ([zs6] : List ByteArray)).bind fun c188 => zer c188.L c188.Line c188.More c188.Failed (zV p1.Name zs3) else (if ((p1.Kind.toNat : Int) == 4) = true then (zcv q0 p1.Name).bind fun c198 => zer c198.L c198.Line c198.More c198.Failed (p1.N == 0) else zer q0.L q0.Line q0.More q0.Failed false))))
def zeb (p0 : zh) (x10 : Int) : Option Bool :=
 ((if (((decide ((p0.Kind.toNat : Int) ≥ 1)) && (decide ((p0.Kind.toNat : Int) ≤ 10))) && ((p0.Kids.length : Int) == x10)) = true then (if (((p0.Kind.toNat : Int) == 6) || ((p0.Kind.toNat : Int) == 7)) = true then some true else some ((p0.Body.length : Int) == 0)) else some false)).bind fun c11 => ((if c11 = true then (if ((p0.Kind.toNat : Int) == 6) = true then some true else some ((p0.Else.length : Int) == 0)) else some false)).bind fun c15 => ((if c15 = true then (if ((decide ((p0.Kind.toNat : Int) ≤ 4)) || ((p0.Kind.toNat : Int) == 9)) = true then (if true = true then some true else some (zV p0.Name zs3)) else (if ((p0.Kind.toNat : Int) == 5) = true then some true else some (zV p0.Name zs3))) else some false)).bind fun c19 => ((if c19 = true then (if ((p0.Kind.toNat : Int) == 4) = true then some true else some (zV p0.Field zs3)) else some false)).bind fun c25 => ((if c25 = true then (if ((p0.Kind.toNat : Int) == 5) = true then some true else some (zV p0.Call zs3)) else some false)).bind fun c29 => ((if c29 = true then (if ((p0.Kind.toNat : Int) == 1) = true then some true else some (( (p0.Type_.Kind.toNat : Int) == 0) && (( p0.Type_.N == 0) && ((zV p0.Type_.Name zs3) && true)))) else some false)).bind fun c33 => some c33
def zg4 (p0 : zh) (x40 : Bool) : Option Bool :=
 (if x40 = true then zeb p0 (zdK (p0.Kids.length : Int) 1) else (if ((p0.Kind.toNat : Int) == 5) = true then zeb p0 (p0.Kids.length : Int) else zeb p0 1))
def zgt (p0 : zh) : Option Bool :=
 (if ((p0.Kind.toNat : Int) == 3) = true then zeb p0 2 else (if ((p0.Kind.toNat : Int) == 9) = true then zeb p0 0 else (if ((p0.Kind.toNat : Int) == 1) = true then zg4 p0 ((p0.Kind.toNat : Int) == 1) else zg4 p0 ((p0.Kind.toNat : Int) == 10))))
def zgC (rec16 : (List (List ByteArray)) → Int → Option Int) (rec14 : (List (List ByteArray)) → Int → Option Int) (p0 : ByteArray) (x121 : Int) (x261 : List (List ByteArray)) (x263 : Int) : Option Int :=
 (zv x261 x121).bind fun y294 => (if (decide (x263 < (y294.length : Int))) = true then (zv x261 x121).bind fun y306 => (zv y306 x263).bind fun y317 => (if (zV y317 p0) = true then some x121 else rec16 x261 (IntKind.i64.wrap (x263 + 1))) else rec14 x261 (IntKind.i64.wrap (x121 + 1)))
def zeH (rec14 : (List (List ByteArray)) → Int → Option Int) (p0 : ByteArray) (x121 : Int) : Nat → (List (List ByteArray)) → Int → Option Int
 | 0, _, _ => none
 | n + 1, x261, x263 => zgC (zeH rec14 p0 x121 n) rec14 p0 x121 x261 x263
def zhd (rec14 : (List (List ByteArray)) → Int → Option Int) (p0 : ByteArray) (x119 : List (List ByteArray)) (x121 : Int) : Option Int :=
 (if (decide (x121 < (x119.length : Int))) = true then zeH rec14 p0 x121 big x119 0 else some (-1))
def zdI (p0 : ByteArray) : Nat → (List (List ByteArray)) → Int → Option Int
 | 0, _, _ => none
 | n + 1, x119, x121 => zhd (zdI p0 n) p0 x119 x121
def zfI (p0 : ByteArray) : Option Int :=
 (zjx ).bind fun c2 => zdI p0 big c2 0
def zie (rec19 : (List zl) → Int → Int → Bool → Int → Option zk) (x10 : Int) (x251 : List zl) (x253 : Int) (x254 : Int) (x255 : Bool) (x256 : Int) : Option zk :=
 (if (decide (x256 < x10)) = true then (zbf (⟨x251, x253, x254, x255⟩ : zk) 4 ([zs4] : List ByteArray)).bind fun c281 => rec19 c281.L c281.Line c281.More c281.Failed (IntKind.i64.wrap (x256 + 1)) else some (⟨x251, x253, x254, x255⟩ : zk))
def zfQ (x10 : Int) : Nat → (List zl) → Int → Int → Bool → Int → Option zk
 | 0, _, _, _, _, _ => none
 | n + 1, x251, x253, x254, x255, x256 => zie (zfQ x10 n) x10 x251 x253 x254 x255 x256
def zhN (rec17 : (List zl) → Int → Int → Bool → Int → Option zk) (R_ref12_layer_exp : zk → zb → Option zk) (p1 : zb) (x10 : Int) (x107 : List zl) (x109 : Int) (x110 : Int) (x111 : Bool) (x112 : Int) : Option zk :=
 (if (decide (x112 < x10)) = true then (zbf (⟨x107, x109, x110, x111⟩ : zk) 4 ([zs5] : List ByteArray)).bind fun c209 => rec17 c209.L c209.Line c209.More c209.Failed (IntKind.i64.wrap (x112 + 1)) else (R_ref12_layer_exp (⟨x107, x109, x110, x111⟩ : zk) p1).bind fun c218 => zfQ x10 big c218.L c218.Line c218.More c218.Failed 0)
def zfV (R_ref12_layer_exp : zk → zb → Option zk) (p1 : zb) (x10 : Int) : Nat → (List zl) → Int → Int → Bool → Int → Option zk
 | 0, _, _, _, _, _ => none
 | n + 1, x107, x109, x110, x111, x112 => zhN (zfV R_ref12_layer_exp p1 x10 n) R_ref12_layer_exp p1 x10 x107 x109 x110 x111 x112
def zge (R_ref12_layer_exp : zk → zb → Option zk) (q0 : zk) (p1 : zb) (x8 : List zl) (x10 : Int) : Option zk :=
 zfV R_ref12_layer_exp p1 x10 big x8 q0.Line q0.More q0.Failed 0
def zgS (R_ref12_layer_kid : zk → zb → Option zk) (R_ref12_layer_exp : zk → zb → Option zk) (q0 : zk) (p1 : zb) : Option zk :=
 (if (((p1.Kind.toNat : Int) == 6) || ((p1.Kind.toNat : Int) == 7)) = true then zge R_ref12_layer_exp q0 p1 q0.L (IntKind.i64.wrap (q0.More + 1)) else zge R_ref12_layer_exp q0 p1 q0.L q0.More)
def zdj (x283 : List zl) (x285 : Int) (x286 : Int) (x287 : Bool) : Option zk :=
 some (⟨x283, x285, x286, x287⟩ : zk)
def zfy (R_ref12_layer_kid : zk → zb → Option zk) (q0 : zk) (p1 : zb) (x17 : List zl) (x19 : Int) : Option zk :=
 ((if ((p1.Kids.length : Int) != x19) = true then some true else (if (!((((p1.Kind.toNat : Int) == 3) || ((p1.Kind.toNat : Int) == 4)) || ((p1.Kind.toNat : Int) == 5))) = true then some (!(zV p1.Name zs3)) else some false))).bind fun c20 => ((if c20 = true then some true else (if ((p1.Kind.toNat : Int) != 5) = true then some (!(zV p1.Field zs3)) else some false))).bind fun c24 => ((if c24 = true then some true else (if (!(((p1.Kind.toNat : Int) == 6) || ((p1.Kind.toNat : Int) == 7))) = true then some (!(zV p1.Op zs3)) else some false))).bind fun c28 => ((if c28 = true then some true else (if ((p1.Kind.toNat : Int) != 1) = true then (if ((p1.Kind.toNat : Int) != 2) = true then some (p1.Num != 0) else some false) else (if false = true then some (p1.Num != 0) else some false)))).bind fun c32 => (if c32 = true then some (⟨x17, q0.Line, q0.More, true⟩ : zk) else (if ((p1.Kind.toNat : Int) == 1) = true then (zfU (⟨x17, q0.Line, q0.More, q0.Failed⟩ : zk) p1.Num).bind fun c289 => zdj c289.L c289.Line c289.More c289.Failed else (if ((p1.Kind.toNat : Int) == 2) = true then (if (p1.Num == 1) = true then (zbf (⟨x17, q0.Line, q0.More, q0.Failed⟩ : zk) 3 ([ztl] : List ByteArray)).bind fun c306 => zdj c306.L c306.Line c306.More c306.Failed else (zbf (⟨x17, q0.Line, q0.More, (q0.Failed || (p1.Num != 0))⟩ : zk) 3 ([zti] : List ByteArray)).bind fun c321 => zdj c321.L c321.Line c321.More c321.Failed) else (if ((p1.Kind.toNat : Int) == 3) = true then (zcv (⟨x17, q0.Line, q0.More, q0.Failed⟩ : zk) p1.Name).bind fun c331 => zdj c331.L c331.Line c331.More c331.Failed else (if ((p1.Kind.toNat : Int) == 4) = true then (zcv (⟨x17, q0.Line, q0.More, q0.Failed⟩ : zk) p1.Name).bind fun c341 => (zbf c341 4 ([ztb] : List ByteArray)).bind fun c356 => (zv p1.Kids 0).bind fun y365 => (R_ref12_layer_kid c356 y365).bind fun c374 => (zbf c374 4 ([ztj] : List ByteArray)).bind fun c389 => zdj c389.L c389.Line c389.More c389.Failed else (if ((p1.Kind.toNat : Int) == 5) = true then (zcv (⟨x17, q0.Line, q0.More, q0.Failed⟩ : zk) p1.Name).bind fun c399 => (zbf c399 4 ([ztv] : List ByteArray)).bind fun c414 => (zcv c414 p1.Field).bind fun c423 => zdj c423.L c423.Line c423.More c423.Failed else (if ((p1.Kind.toNat : Int) == 6) = true then ((if q0.Failed = true then some true else (if (!(zV p1.Op ztf)) = true then some (!(zV p1.Op ztH)) else some false))).bind fun c433 => (zbf (⟨x17, q0.Line, q0.More, c433⟩ : zk) 4 ([p1.Op] : List ByteArray)).bind fun c443 => (zv p1.Kids 0).bind fun y452 => (R_ref12_layer_kid c443 y452).bind fun c461 => zdj c461.L c461.Line c461.More c461.Failed else (if ((p1.Kind.toNat : Int) == 7) = true then ((if q0.Failed = true then some true else (zfI p1.Op).bind fun c474 => some (decide (c474 < 0)))).bind fun c471 => (zv p1.Kids 0).bind fun y478 => (R_ref12_layer_kid (⟨x17, q0.Line, q0.More, c471⟩ : zk) y478).bind fun c487 => (zbf c487 4 ([p1.Op] : List ByteArray)).bind fun c502 => (zv p1.Kids 1).bind fun y511 => (R_ref12_layer_kid c502 y511).bind fun c520 => zdj c520.L c520.Line c520.More c520.Failed else zdj x17 q0.Line q0.More true))))))))
def zih (R_ref12_layer_kid : zk → zb → Option zk) (q0 : zk) (p1 : zb) (x533 : List zl) (x535 : Bool) : Option zk :=
 (if x535 = true then zfy R_ref12_layer_kid q0 p1 x533 1 else (if ((p1.Kind.toNat : Int) == 7) = true then zfy R_ref12_layer_kid q0 p1 x533 2 else zfy R_ref12_layer_kid q0 p1 x533 0))
def zhi (R_ref12_layer_kid : zk → zb → Option zk) (R_ref12_layer_exp : zk → zb → Option zk) (q0 : zk) (p1 : zb) : Option zk :=
 (if ((p1.Kind.toNat : Int) == 4) = true then zih R_ref12_layer_kid q0 p1 q0.L ((p1.Kind.toNat : Int) == 4) else zih R_ref12_layer_kid q0 p1 q0.L ((p1.Kind.toNat : Int) == 6))
def zbL : Nat → (zk → zb → Option zk) × (zk → zb → Option zk)
 | 0 => (fun _ _ => none, fun _ _ => none)
 | gn + 1 => (zgS ((zbL gn).1) ((zbL gn).2), zhi ((zbL gn).1) ((zbL gn).2))
def zd7 (q0 : zk) (p1 : zb) : Option zk := (zbL big).1 q0 p1
def zex (rec4 : (List zl) → Int → Int → Bool → Int → Option zk) (p1 : (List zb)) (x94 : List zl) (x96 : Int) (x97 : Int) (x98 : Bool) (x99 : Int) : Option zk :=
 (if (decide (x99 < (p1.length : Int))) = true then (if (decide (x99 > 0)) = true then (zbf (⟨x94, x96, x97, x98⟩ : zk) 4 ([ztt] : List ByteArray)).bind fun c177 => (zv p1 x99).bind fun y186 => (zd7 c177 y186).bind fun c195 => rec4 c195.L c195.Line c195.More c195.Failed (IntKind.i64.wrap (x99 + 1)) else (zv p1 x99).bind fun y204 => (zd7 (⟨x94, x96, x97, x98⟩ : zk) y204).bind fun c213 => rec4 c213.L c213.Line c213.More c213.Failed (IntKind.i64.wrap (x99 + 1))) else (zbf (⟨x94, x96, x97, x98⟩ : zk) 4 ([zs4] : List ByteArray)).bind fun c228 => some c228)
def zfF (p1 : (List zb)) : Nat → (List zl) → Int → Int → Bool → Int → Option zk
 | 0, _, _, _, _, _ => none
 | n + 1, x94, x96, x97, x98, x99 => zex (zfF p1 n) p1 x94 x96 x97 x98 x99
def zhH (q0 : zk) (p1 : (List zb)) : Option zk :=
 (zbf q0 4 ([zs5] : List ByteArray)).bind fun c9 => zfF p1 big c9.L c9.Line c9.More c9.Failed 0
def zgI (rec4 : (List zl) → Int → Int → Bool → (List zh) → Int → Option ((List zh) × zk)) (R_ref12_layer_stmt : zk → zh → Option (zh × zk)) (p1 : (List zh)) (x86 : List zl) (x88 : Int) (x89 : Int) (x90 : Bool) (x94 : List zh) (x96 : Int) : Option ((List zh) × zk) :=
 (if (decide (x96 < (p1.length : Int))) = true then (zv p1 x96).bind fun y158 => (R_ref12_layer_stmt (⟨x86, x88, x89, x90⟩ : zk) y158).bind fun c175 => (room (2 * (x94.length + 1))).bind fun _ => rec4 c175.2.L c175.2.Line c175.2.More c175.2.Failed (x94 ++ [(⟨c175.1.Kind, c175.1.Line, c175.1.Name, c175.1.Field, c175.1.Call, (⟨c175.1.Type_.Kind, c175.1.Type_.N, c175.1.Type_.Name⟩ : zR), c175.1.Kids, c175.1.Body, c175.1.Else⟩ : zh)]) (IntKind.i64.wrap (x96 + 1)) else (zbf (⟨x86, x88, x89, x90⟩ : zk) 4 ([ztw] : List ByteArray)).bind fun c207 => some (x94, c207))
def zgh (R_ref12_layer_stmt : zk → zh → Option (zh × zk)) (p1 : (List zh)) : Nat → (List zl) → Int → Int → Bool → (List zh) → Int → Option ((List zh) × zk)
 | 0, _, _, _, _, _, _ => none
 | n + 1, x86, x88, x89, x90, x94, x96 => zgI (zgh R_ref12_layer_stmt p1 n) R_ref12_layer_stmt p1 x86 x88 x89 x90 x94 x96
def zix (R_ref12_layer_block : zk → (List zh) → Option ((List zh) × zk)) (R_ref12_layer_stmt : zk → zh → Option (zh × zk)) (q0 : zk) (p1 : (List zh)) : Option ((List zh) × zk) :=
 (zbf q0 4 ([ztm] : List ByteArray)).bind fun c9 => zgh R_ref12_layer_stmt p1 big c9.L c9.Line c9.More c9.Failed ([]) 0
def zc7 (q0 : zk) (p1 : zh) (x607 : List zl) (x609 : Int) (x610 : Int) (x611 : Bool) : Option (zh × zk) :=
 (zbf (⟨x607, x609, x610, x611⟩ : zk) 4 ([zta] : List ByteArray)).bind fun c618 => some ((⟨p1.Kind, (IntKind.i64.wrap (q0.Line + 1)), p1.Name, p1.Field, p1.Call, (⟨p1.Type_.Kind, p1.Type_.N, p1.Type_.Name⟩ : zR), p1.Kids, p1.Body, p1.Else⟩ : zh), c618)
def zeS (q0 : zk) (p1 : zh) (x799 : List zl) (x801 : Int) (x802 : Int) (x803 : Bool) : Option (zh × zk) :=
 (zbf (⟨x799, x801, x802, x803⟩ : zk) 4 ([zs8] : List ByteArray)).bind fun c810 => (if ((p1.Kind.toNat : Int) == 9) = true then (zbf c810 3 ([ztd] : List ByteArray)).bind fun c826 => (zbf c826 4 ([zs5, zs4] : List ByteArray)).bind fun c841 => zc7 q0 p1 c841.L c841.Line c841.More c841.Failed else (zv p1.Kids (IntKind.i64.wrap ((p1.Kids.length : Int) - 1))).bind fun y850 => (zd7 c810 y850).bind fun c859 => zc7 q0 p1 c859.L c859.Line c859.More c859.Failed)
def zeY (q0 : zk) (p1 : zh) (x766 : List zl) (x768 : Int) (x769 : Int) (x770 : Bool) : Option (zh × zk) :=
 (if ((p1.Kind.toNat : Int) == 4) = true then (zbf (⟨x766, x768, x769, x770⟩ : zk) 4 ([ztv] : List ByteArray)).bind fun c875 => (zcv c875 p1.Field).bind fun c884 => zeS q0 p1 c884.L c884.Line c884.More c884.Failed else zeS q0 p1 x766 x768 x769 x770)
def ziu (q0 : zk) (p1 : zh) (x971 : List zl) (x973 : Int) (x974 : Int) (x975 : Bool) : Option (zh × zk) :=
 (zcv (⟨x971, x973, x974, x975⟩ : zk) p1.Call).bind fun c976 => (zhH c976 p1.Kids).bind fun c985 => zc7 q0 p1 c985.L c985.Line c985.More c985.Failed
def zgD (R_ref12_layer_block : zk → (List zh) → Option ((List zh) × zk)) (q0 : zk) (p1 : zh) (x1031 : List zl) (x1033 : ByteArray) : Option (zh × zk) :=
 (zbf (⟨x1031, (IntKind.i64.wrap (q0.Line + 1)), q0.More, q0.Failed⟩ : zk) 3 ([x1033] : List ByteArray)).bind fun c1040 => (zv p1.Kids 0).bind fun y1049 => (zd7 c1040 y1049).bind fun c1058 => (R_ref12_layer_block c1058 p1.Body).bind fun c1067 => (if (decide ((p1.Else.length : Int) > 0)) = true then (zbf c1067.2 3 ([zth] : List ByteArray)).bind fun c1088 => (R_ref12_layer_block c1088 p1.Else).bind fun c1097 => some ((⟨p1.Kind, (IntKind.i64.wrap (q0.Line + 1)), p1.Name, p1.Field, p1.Call, (⟨p1.Type_.Kind, p1.Type_.N, p1.Type_.Name⟩ : zR), p1.Kids, c1067.1, c1097.1⟩ : zh), c1097.2) else some ((⟨p1.Kind, (IntKind.i64.wrap (q0.Line + 1)), p1.Name, p1.Field, p1.Call, (⟨p1.Type_.Kind, p1.Type_.N, p1.Type_.Name⟩ : zR), p1.Kids, c1067.1, p1.Else⟩ : zh), c1067.2))
def zhM (R_ref12_layer_block : zk → (List zh) → Option ((List zh) × zk)) (q0 : zk) (p1 : zh) (x1023 : List zl) (x1025 : Bool) : Option (zh × zk) :=
 (if x1025 = true then (if ((p1.Kind.toNat : Int) == 7) = true then zgD R_ref12_layer_block q0 p1 x1023 ztx else zgD R_ref12_layer_block q0 p1 x1023 ztE) else (if ((p1.Kind.toNat : Int) == 8) = true then (zbf (⟨x1023, (IntKind.i64.wrap (q0.Line + 1)), q0.More, q0.Failed⟩ : zk) 3 ([ztg] : List ByteArray)).bind fun c1125 => (zbf c1125 4 ([zs5] : List ByteArray)).bind fun c1140 => (zv p1.Kids 0).bind fun y1149 => (zd7 c1140 y1149).bind fun c1158 => (zbf c1158 4 ([zs4] : List ByteArray)).bind fun c1173 => zc7 q0 p1 c1173.L c1173.Line c1173.More c1173.Failed else (if ((p1.Kind.toNat : Int) == 10) = true then (zbf (⟨x1023, (IntKind.i64.wrap (q0.Line + 1)), q0.More, q0.Failed⟩ : zk) 3 ([zs9] : List ByteArray)).bind fun c1189 => (if ((p1.Kids.length : Int) == 1) = true then (zv p1.Kids 0).bind fun y1199 => (zd7 c1189 y1199).bind fun c1208 => zc7 q0 p1 c1208.L c1208.Line c1208.More c1208.Failed else zc7 q0 p1 c1189.L c1189.Line c1189.More c1189.Failed) else zc7 q0 p1 x1023 (IntKind.i64.wrap (q0.Line + 1)) q0.More q0.Failed)))
def zft (R_ref12_layer_block : zk → (List zh) → Option ((List zh) × zk)) (q0 : zk) (p1 : zh) (x701 : List zl) (x703 : Bool) : Option (zh × zk) :=
 (if x703 = true then (zcv (⟨x701, (IntKind.i64.wrap (q0.Line + 1)), q0.More, q0.Failed⟩ : zk) p1.Name).bind fun c705 => (if ((p1.Kind.toNat : Int) == 3) = true then (zbf c705 4 ([ztb] : List ByteArray)).bind fun c900 => (zv p1.Kids 0).bind fun y909 => (zd7 c900 y909).bind fun c918 => (zbf c918 4 ([ztj] : List ByteArray)).bind fun c933 => zeY q0 p1 c933.L c933.Line c933.More c933.Failed else zeY q0 p1 c705.L c705.Line c705.More c705.Failed) else (if ((p1.Kind.toNat : Int) == 5) = true then (if (!(zV p1.Name zs3)) = true then (zcv (⟨x701, (IntKind.i64.wrap (q0.Line + 1)), q0.More, q0.Failed⟩ : zk) p1.Name).bind fun c995 => (zbf c995 4 ([zs8] : List ByteArray)).bind fun c1010 => ziu q0 p1 c1010.L c1010.Line c1010.More c1010.Failed else ziu q0 p1 x701 (IntKind.i64.wrap (q0.Line + 1)) q0.More q0.Failed) else (if ((p1.Kind.toNat : Int) == 6) = true then zhM R_ref12_layer_block q0 p1 x701 ((p1.Kind.toNat : Int) == 6) else zhM R_ref12_layer_block q0 p1 x701 ((p1.Kind.toNat : Int) == 7))))
def zhC (R_ref12_layer_block : zk → (List zh) → Option ((List zh) × zk)) (R_ref12_layer_stmt : zk → zh → Option (zh × zk)) (q0 : zk) (p1 : zh) : Option (zh × zk) :=
 (zgt (⟨p1.Kind, (IntKind.i64.wrap (q0.Line + 1)), p1.Name, p1.Field, p1.Call, (⟨p1.Type_.Kind, p1.Type_.N, p1.Type_.Name⟩ : zR), p1.Kids, p1.Body, p1.Else⟩ : zh)).bind fun c5 => (if (!c5) = true then some ((⟨p1.Kind, (IntKind.i64.wrap (q0.Line + 1)), p1.Name, p1.Field, p1.Call, (⟨p1.Type_.Kind, p1.Type_.N, p1.Type_.Name⟩ : zR), p1.Kids, p1.Body, p1.Else⟩ : zh), (⟨q0.L, (IntKind.i64.wrap (q0.Line + 1)), q0.More, true⟩ : zk)) else (if ((p1.Kind.toNat : Int) == 1) = true then (zbf (⟨q0.L, (IntKind.i64.wrap (q0.Line + 1)), q0.More, q0.Failed⟩ : zk) 3 ([ztn] : List ByteArray)).bind fun c634 => (zcv c634 p1.Name).bind fun c643 => (zfq c643 p1.Type_).bind fun c652 => (if ((p1.Kids.length : Int) == 1) = true then (zbf c652 4 ([zs8] : List ByteArray)).bind fun c668 => (zv p1.Kids 0).bind fun y677 => (zd7 c668 y677).bind fun c686 => zc7 q0 p1 c686.L c686.Line c686.More c686.Failed else zc7 q0 p1 c652.L c652.Line c652.More c652.Failed) else (if ((p1.Kind.toNat : Int) == 2) = true then zft R_ref12_layer_block q0 p1 q0.L ((p1.Kind.toNat : Int) == 2) else (if ((p1.Kind.toNat : Int) == 3) = true then zft R_ref12_layer_block q0 p1 q0.L ((p1.Kind.toNat : Int) == 3) else (if ((p1.Kind.toNat : Int) == 4) = true then zft R_ref12_layer_block q0 p1 q0.L ((p1.Kind.toNat : Int) == 4) else zft R_ref12_layer_block q0 p1 q0.L ((p1.Kind.toNat : Int) == 9))))))
def zbS : Nat → (zk → (List zh) → Option ((List zh) × zk)) × (zk → zh → Option (zh × zk))
 | 0 => (fun _ _ => none, fun _ _ => none)
 | gn + 1 => (zix ((zbS gn).1) ((zbS gn).2), zhC ((zbS gn).1) ((zbS gn).2))
def zj7 (q0 : zk) (p1 : (List zh)) : Option ((List zh) × zk) := (zbS big).1 q0 p1
def zhh (rec146 : (List zl) → Int → Int → Bool → (List zq) → Int → Option ((List zl) × zB × Bool)) (rec144 : (List zl) → Int → Int → Bool → (List zq) → Int → Option ((List zl) × zB × Bool)) (x1856 : Int) (y3841 : zq) (x3984 : List zl) (x3986 : Int) (x3987 : Int) (x3988 : Bool) (x3992 : List zq) (x3995 : Int) : Option ((List zl) × zB × Bool) :=
 (if (decide (x3995 < (y3841.Fields.length : Int))) = true then (zv y3841.Fields x3995).bind fun y4063 => (zcv (⟨x3984, x3986, x3987, x3988⟩ : zk) y4063).bind fun c4068 => (zbf c4068 3 ([zs6] : List ByteArray)).bind fun c4083 => (zbf c4083 4 ([zta] : List ByteArray)).bind fun c4098 => rec146 c4098.L c4098.Line c4098.More c4098.Failed x3992 (IntKind.i64.wrap (x3995 + 1)) else (zbf (⟨x3984, x3986, x3987, x3988⟩ : zk) 4 ([ztw] : List ByteArray)).bind fun c4113 => (room (x3992.length + 1)).bind fun _ => rec144 c4113.L c4113.Line c4113.More c4113.Failed (x3992 ++ [(⟨y3841.Name, y3841.Fields⟩ : zq)]) (IntKind.i64.wrap (x1856 + 1)))
def zgE (rec144 : (List zl) → Int → Int → Bool → (List zq) → Int → Option ((List zl) × zB × Bool)) (x1856 : Int) (y3841 : zq) : Nat → (List zl) → Int → Int → Bool → (List zq) → Int → Option ((List zl) × zB × Bool)
 | 0, _, _, _, _, _, _ => none
 | n + 1, x3984, x3986, x3987, x3988, x3992, x3995 => zhh (zgE rec144 x1856 y3841 n) rec144 x1856 y3841 x3984 x3986 x3987 x3988 x3992 x3995
def zf0 (rec170 : (List zl) → Int → Int → Bool → (List zq) → (List zo) → Int → Option ((List zl) × zB × Bool)) (y5255 : zo) (x5502 : Int) (x5681 : List zl) (x5683 : Int) (x5684 : Int) (x5685 : Bool) (x5689 : List zq) (x5694 : List zo) : Option ((List zl) × zB × Bool) :=
 (zv y5255.Params x5502).bind fun y5698 => (zcv (⟨x5681, x5683, x5684, x5685⟩ : zk) y5698.Name).bind fun c5703 => (zv y5255.Params x5502).bind fun y5712 => (zfq c5703 y5712.Type_).bind fun c5717 => rec170 c5717.L c5717.Line c5717.More c5717.Failed x5689 x5694 (IntKind.i64.wrap (x5502 + 1))
def zhW (rec164 : (List zl) → Int → Int → Bool → (List zq) → (List zo) → Int → Option ((List zl) × zB × Bool)) (x4671 : Int) (x4684 : Int) (y5255 : zo) (x5770 : List zl) (x5772 : Int) (x5773 : Int) (x5774 : Bool) (x5778 : List zq) (x5783 : List zo) : Option ((List zl) × zB × Bool) :=
 (zj7 (⟨x5770, x5772, x5773, x5774⟩ : zk) y5255.Body).bind fun c5787 => (room (x5783.length + 1)).bind fun _ => rec164 c5787.2.L c5787.2.Line c5787.2.More c5787.2.Failed x5778 (x5783 ++ [(⟨y5255.Name, (IntKind.i64.wrap (x4671 + 1)), y5255.Params, (⟨y5255.Result.Kind, y5255.Result.N, y5255.Result.Name⟩ : zR), c5787.1⟩ : zo)]) (IntKind.i64.wrap (x4684 + 1))
def zev (rec170 : (List zl) → Int → Int → Bool → (List zq) → (List zo) → Int → Option ((List zl) × zB × Bool)) (rec164 : (List zl) → Int → Int → Bool → (List zq) → (List zo) → Int → Option ((List zl) × zB × Bool)) (x4671 : Int) (x4684 : Int) (y5255 : zo) (x5485 : List zl) (x5487 : Int) (x5488 : Int) (x5489 : Bool) (x5493 : List zq) (x5498 : List zo) (x5502 : Int) : Option ((List zl) × zB × Bool) :=
 (if (decide (x5502 < (y5255.Params.length : Int))) = true then (if (decide (x5502 > 0)) = true then (zbf (⟨x5485, x5487, x5488, x5489⟩ : zk) 4 ([ztt] : List ByteArray)).bind fun c5733 => zf0 rec170 y5255 x5502 c5733.L c5733.Line c5733.More c5733.Failed x5493 x5498 else zf0 rec170 y5255 x5502 x5485 x5487 x5488 x5489 x5493 x5498) else (zbf (⟨x5485, x5487, x5488, x5489⟩ : zk) 4 ([zs4] : List ByteArray)).bind fun c5748 => (if (!(( (y5255.Result.Kind.toNat : Int) == 0) && (( y5255.Result.N == 0) && ((zV y5255.Result.Name zs3) && true)))) = true then (zfq c5748 y5255.Result).bind fun c5809 => zhW rec164 x4671 x4684 y5255 c5809.L c5809.Line c5809.More c5809.Failed x5493 x5498 else zhW rec164 x4671 x4684 y5255 c5748.L c5748.Line c5748.More c5748.Failed x5493 x5498))
def zcY (rec164 : (List zl) → Int → Int → Bool → (List zq) → (List zo) → Int → Option ((List zl) × zB × Bool)) (x4671 : Int) (x4684 : Int) (y5255 : zo) : Nat → (List zl) → Int → Int → Bool → (List zq) → (List zo) → Int → Option ((List zl) × zB × Bool)
 | 0, _, _, _, _, _, _, _ => none
 | n + 1, x5485, x5487, x5488, x5489, x5493, x5498, x5502 => zev (zcY rec164 x4671 x4684 y5255 n) rec164 x4671 x4684 y5255 x5485 x5487 x5488 x5489 x5493 x5498 x5502
def zhy (rec164 : (List zl) → Int → Int → Bool → (List zq) → (List zo) → Int → Option ((List zl) × zB × Bool)) (p0 : zB) (x4669 : List zl) (x4671 : Int) (x4672 : Int) (x4673 : Bool) (x4677 : List zq) (x4682 : List zo) (x4684 : Int) : Option ((List zl) × zB × Bool) :=
 (if (decide (x4684 < (p0.Funcs.length : Int))) = true then (zv p0.Funcs x4684).bind fun y5255 => (zbf (⟨x4669, (IntKind.i64.wrap (x4671 + 1)), x4672, x4673⟩ : zk) 3 ([ztc] : List ByteArray)).bind fun c5275 => (zcv c5275 y5255.Name).bind fun c5284 => (zbf c5284 4 ([zs5] : List ByteArray)).bind fun c5299 => zcY rec164 x4671 x4684 y5255 big c5299.L c5299.Line c5299.More c5299.Failed x4677 x4682 0 else some (x4669, (⟨x4677, x4682⟩ : zB), (!x4673)))
def zdg (p0 : zB) : Nat → (List zl) → Int → Int → Bool → (List zq) → (List zo) → Int → Option ((List zl) × zB × Bool)
 | 0, _, _, _, _, _, _, _ => none
 | n + 1, x4669, x4671, x4672, x4673, x4677, x4682, x4684 => zhy (zdg p0 n) p0 x4669 x4671 x4672 x4673 x4677 x4682 x4684
def zhx (rec144 : (List zl) → Int → Int → Bool → (List zq) → Int → Option ((List zl) × zB × Bool)) (p0 : zB) (x1846 : List zl) (x1848 : Int) (x1849 : Int) (x1850 : Bool) (x1854 : List zq) (x1856 : Int) : Option ((List zl) × zB × Bool) :=
 (if (decide (x1856 < (p0.Structs.length : Int))) = true then (zv p0.Structs x1856).bind fun y3841 => (zbf (⟨x1846, x1848, x1849, x1850⟩ : zk) 3 ([zte] : List ByteArray)).bind fun c3857 => (zcv c3857 y3841.Name).bind fun c3866 => (zbf c3866 3 ([zs7] : List ByteArray)).bind fun c3881 => (zbf c3881 4 ([ztm] : List ByteArray)).bind fun c3896 => zgE rec144 x1856 y3841 big c3896.L c3896.Line c3896.More c3896.Failed x1854 0 else zdg p0 big x1846 x1848 x1849 x1850 x1854 ([]) 0)
def zd6 (p0 : zB) : Nat → (List zl) → Int → Int → Bool → (List zq) → Int → Option ((List zl) × zB × Bool)
 | 0, _, _, _, _, _, _ => none
 | n + 1, x1846, x1848, x1849, x1850, x1854, x1856 => zhx (zd6 p0 n) p0 x1846 x1848 x1849 x1850 x1854 x1856
def ziN (p0 : zB) (p1 : Int) : Option ((List zl) × zB × Bool) :=
 zd6 p0 big ([]) 1 p1 false ([]) 0
def zjf (p0 : zB) (p1 : Int) : Option Bool :=
 (zjo p0).bind fun c4 => (if c4 = true then (ze7 ).bind fun c9 => some c9 else (ziN p0 (Int.tmod (IntKind.i64.wrap p1) 3)).bind fun c13 => (if (!c13.2.2) = true then (ze7 ).bind fun c32 => some c32 else (zeJ c13.1).bind fun c38 => (zjD c13.2.1).bind fun c51 => (if c51 = true then ((if ((c38.2.2 == 11) && (c38.2.1 == 0)) = true then (zeN c38.1 (⟨[], []⟩ : zB)).bind fun c59 => some c59 else some false)).bind fun c56 => ((if c56 = true then (ze7 ).bind fun c66 => some c66 else some false)).bind fun c63 => some c63 else ((if ((c38.2.2 == 0) && (c38.2.1 == 0)) = true then (zeN c38.1 c13.2.1).bind fun c73 => some c73 else some false)).bind fun c70 => ((if c70 = true then (ze7 ).bind fun c80 => some c80 else some false)).bind fun c77 => some c77)))
end Go.Proofs.Ytnhboaaikehpoaa
