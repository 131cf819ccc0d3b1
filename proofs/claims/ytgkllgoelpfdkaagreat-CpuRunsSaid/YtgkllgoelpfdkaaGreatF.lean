import Derived.Test.YtgkllgoelpfdkaaGreatFM
namespace Go.Proofs.YtgkllgoelpfdkaaGreat
open Go.Ab Go.RowKit
set_option linter.unusedVariables false
set_option linter.unusedSimpArgs false
set_option maxRecDepth 10000
set_option maxHeartbeats 1000000
structure zf where
 Kind : UInt8
 Op : UInt8
 R : Int
 S : Int
 T : Int
 N : Int
 M : Int
 deriving DecidableEq
def zfs : Ty zf where
 sz := 7
 R := fun σ x cs => cs = [.int .u8 x.Kind.toNat, .int .u8 x.Op.toNat, .int .i64 x.R, .int .i64 x.S, .int .i64 x.T, .int .i64 x.N, .int .i64 x.M]
 len := by rintro σ x cs rfl; rfl
 one := by rintro σ x cs rfl; rfl
 mono := by rintro σ σ' x cs hle rfl; rfl
structure zbs where
 Code : (List zf)
 Bytes : (List UInt8)
 Start : Int
 Words : Int
 Input : (List Int)
 Fuel : Int
 deriving DecidableEq
def zrw : Ty zbs where
 sz := 6
 R := fun σ x cs => ∃ v0 v1 v4, cs = [v0, v1, .int .i64 x.Start, .int .i64 x.Words, v4, .int .i64 x.Fuel] ∧ RdT zfs σ v0 x.Code ∧ RdT Ty.u8 σ v1 x.Bytes ∧ RdT (Ty.int .i64) σ v4 x.Input
 len := by rintro σ x cs ⟨v0, v1, v4, rfl, h0, h1, h2⟩; rfl
 one := by rintro σ x cs ⟨v0, v1, v4, rfl, h0, h1, h2⟩; obtain ⟨_, ⟨_, _, rfl, _⟩, _⟩ := h0; obtain ⟨_, ⟨_, _, rfl, _⟩, _⟩ := h1; obtain ⟨_, ⟨_, _, rfl, _⟩, _⟩ := h2; rfl
 mono := by rintro σ σ' x cs hle ⟨v0, v1, v4, rfl, h0, h1, h2⟩; exact ⟨v0, v1, v4, rfl, h0.le hle, h1.le hle, h2.le hle⟩
structure zh where
 code : (List UInt8)
 pc : Int
 regs : (Nat → Int)
 words : (List Int)
 input : (List Int)
 out : (List Int)
 how : UInt8
 halting : Int
inductive zA where
 | c_one_1
 | c_both_1
 | c_op_1 (x0 : Int) (x1 : Int)
 | c_third_1
 | c_bound_1
 | c_to_1
 | c_how_1
 | c_parts_1
 | c_within
def zbX (σ : Hp) (x : zA) (u0 u1 u2 : Value) : Prop := match x with
 | .c_one_1 => ∃ a1_0 a2_0, u0 = .func (.func 85) #[] #[] ∧ u1 = .func (.func 117) #[] #[.pointer (some a1_0)] ∧ u2 = .func (.func 118) #[] #[.pointer (some a2_0)] ∧ At σ a1_0 [.func (.func 87) #[] #[]] ∧ At σ a2_0 [.func (.func 88) #[] #[]]
 | .c_both_1 => ∃ a1_0 a2_0, u0 = .func (.func 93) #[] #[] ∧ u1 = .func (.func 117) #[] #[.pointer (some a1_0)] ∧ u2 = .func (.func 118) #[] #[.pointer (some a2_0)] ∧ At σ a1_0 [.func (.func 94) #[] #[]] ∧ At σ a2_0 [.func (.func 96) #[] #[]]
 | .c_op_1 x0 x1 => ∃ a0_0 a0_1 a1_0 a2_0, u0 = .func (.func 98) #[] #[.pointer (some a0_0), .pointer (some a0_1)] ∧ u1 = .func (.func 117) #[] #[.pointer (some a1_0)] ∧ u2 = .func (.func 118) #[] #[.pointer (some a2_0)] ∧ At σ a0_0 [.int .u8 x0] ∧ At σ a0_1 [.int .u8 x1] ∧ At σ a1_0 [.func (.func 99) #[] #[]] ∧ At σ a2_0 [.func (.func 100) #[] #[]]
 | .c_third_1 => ∃ a1_0 a2_0, u0 = .func (.func 101) #[] #[] ∧ u1 = .func (.func 117) #[] #[.pointer (some a1_0)] ∧ u2 = .func (.func 118) #[] #[.pointer (some a2_0)] ∧ At σ a1_0 [.func (.func 102) #[] #[]] ∧ At σ a2_0 [.func (.func 103) #[] #[]]
 | .c_bound_1 => u0 = .func (.func 104) #[] #[] ∧ u1 = .func (.func 105) #[] #[] ∧ u2 = .func (.func 107) #[] #[]
 | .c_to_1 => u0 = .func (.func 109) #[] #[] ∧ u1 = .func (.func 110) #[] #[] ∧ u2 = .func (.func 112) #[] #[]
 | .c_how_1 => ∃ a1_0 a2_0, u0 = .func (.func 114) #[] #[] ∧ u1 = .func (.func 117) #[] #[.pointer (some a1_0)] ∧ u2 = .func (.func 118) #[] #[.pointer (some a2_0)] ∧ At σ a1_0 [.func (.func 115) #[] #[]] ∧ At σ a2_0 [.func (.func 116) #[] #[]]
 | .c_parts_1 => u0 = .func (.func 73) #[] #[] ∧ u1 = .func (.func 89) #[] #[] ∧ u2 = .func (.func 91) #[] #[]
 | .c_within => u0 = .func (.func 79) #[] #[] ∧ u1 = .func (.func 89) #[] #[] ∧ u2 = .func (.func 91) #[] #[]
theorem zbX.le {σ σ' : Hp} {x : zA} {u0 u1 u2 : Value} (h : zbX σ x u0 u1 u2) (hle : Hp.le σ σ') : zbX σ' x u0 u1 u2 := by
 cases x with
 | c_one_1 => obtain ⟨a1_0, a2_0, rfl, rfl, rfl, m0, m1⟩ := h; exact ⟨a1_0, a2_0, rfl, rfl, rfl, m0.le hle, m1.le hle⟩
 | c_both_1 => obtain ⟨a1_0, a2_0, rfl, rfl, rfl, m0, m1⟩ := h; exact ⟨a1_0, a2_0, rfl, rfl, rfl, m0.le hle, m1.le hle⟩
 | c_op_1 _ _ => obtain ⟨a0_0, a0_1, a1_0, a2_0, rfl, rfl, rfl, m0, m1, m2, m3⟩ := h; exact ⟨a0_0, a0_1, a1_0, a2_0, rfl, rfl, rfl, m0.le hle, m1.le hle, m2.le hle, m3.le hle⟩
 | c_third_1 => obtain ⟨a1_0, a2_0, rfl, rfl, rfl, m0, m1⟩ := h; exact ⟨a1_0, a2_0, rfl, rfl, rfl, m0.le hle, m1.le hle⟩
 | c_bound_1 => obtain ⟨rfl, rfl, rfl⟩ := h; exact ⟨rfl, rfl, rfl⟩
 | c_to_1 => obtain ⟨rfl, rfl, rfl⟩ := h; exact ⟨rfl, rfl, rfl⟩
 | c_how_1 => obtain ⟨a1_0, a2_0, rfl, rfl, rfl, m0, m1⟩ := h; exact ⟨a1_0, a2_0, rfl, rfl, rfl, m0.le hle, m1.le hle⟩
 | c_parts_1 => obtain ⟨rfl, rfl, rfl⟩ := h; exact ⟨rfl, rfl, rfl⟩
 | c_within => obtain ⟨rfl, rfl, rfl⟩ := h; exact ⟨rfl, rfl, rfl⟩
def zcu : Ty zA where
 sz := 3
 R := fun σ x cs => ∃ f0 a0 c0 f1 a1 c1 f2 a2 c2, cs = [.func f0 a0 c0, .func f1 a1 c1, .func f2 a2 c2] ∧ zbX σ x (.func f0 a0 c0) (.func f1 a1 c1) (.func f2 a2 c2)
 len := by rintro σ x cs ⟨_, _, _, _, _, _, _, _, _, rfl, _⟩; rfl
 one := by rintro σ x cs ⟨_, _, _, _, _, _, _, _, _, rfl, _⟩; rfl
 mono := by rintro σ σ' x cs hle ⟨_, _, _, _, _, _, _, _, _, rfl, h⟩; exact ⟨_, _, _, _, _, _, _, _, _, rfl, h.le hle⟩
structure zQ where
 Code : (List UInt8)
 Pc : Int
 R : (List Int)
 W : (List Int)
 In : (List Int)
 Out : (List Int)
 How : UInt8
 Final : Int
 deriving DecidableEq
abbrev zdv (b : Nat) (x0 : Value) (x1 : Value) (x2 : Int) (x3 : Int) (x4 : Value) (x5 : Int) : Ob := some (b, ⟨[x0, x1, .int .i64 x2, .int .i64 x3, x4, .int .i64 x5], 26, 6, true⟩)
abbrev zbz (b : Nat) (x0 : Value) (x1 : Int) (x2 : Value) (x3 : Value) (x4 : Value) (x5 : Value) (x6 : Int) (x7 : Int) : Ob := some (b, ⟨[x0, .int .i64 x1, x2, x3, x4, x5, .int .u8 x6, .int .i64 x7], 48, 8, true⟩)
abbrev zy (b : Nat) (x0 : Int) (x1 : Int) (x2 : Int) (x3 : Int) (x4 : Int) (x5 : Int) (x6 : Int) : Ob := some (b, ⟨[.int .u8 x0, .int .u8 x1, .int .i64 x2, .int .i64 x3, .int .i64 x4, .int .i64 x5, .int .i64 x6], 54, 7, true⟩)
abbrev zI (b : Nat) (x0 : Value) (x1 : Int) (x2 : Nat → Int) (x3 : Value) (x4 : Value) (x5 : Value) (x6 : Int) (x7 : Int) : Ob := some (b, ⟨[x0, .int .i64 x1, .int .i64 (x2 0), .int .i64 (x2 1), .int .i64 (x2 2), .int .i64 (x2 3), .int .i64 (x2 4), .int .i64 (x2 5), .int .i64 (x2 6), .int .i64 (x2 7), .int .i64 (x2 8), .int .i64 (x2 9), .int .i64 (x2 10), .int .i64 (x2 11), .int .i64 (x2 12), .int .i64 (x2 13), .int .i64 (x2 14), .int .i64 (x2 15), x3, x4, x5, .int .u8 x6, .int .i64 x7], 58, 23, true⟩)
def zfT (p0 : zbs) : Option Bool :=
 ((if ((decide ((p0.Code.length : Int) > 200)) || (decide ((p0.Bytes.length : Int) > 4096))) = true then some true else (if (decide (p0.Words > 1024)) = true then some (decide (p0.Words ≤ 65536)) else some false))).bind fun c3 => some ((c3 || (decide ((p0.Input.length : Int) > 100))) || (decide (p0.Fuel > 1000)))
def zdo (p0 : (List UInt8)) : Option (List UInt8) := (room p0.length).bind fun _ => some p0
def zeg (p0 : (List Int)) : Option (List Int) := (room p0.length).bind fun _ => some p0
def zkJ (p1 : Int) (p2 : Int) (x36 : List UInt8) (x41 : List Int) (x46 : List Int) : Option ((Option zh) × Int) :=
 some ((some (⟨x36, p1, (zfo [0, 0, 0, 0, 0, 0, 0, 0, 0, 0, 0, 0, 0, 0, 0, p2]), x41, x46, ([] : List Int), (0 : UInt8), 0⟩ : zh)), 0)
def zfL (p0 : (List UInt8)) (p1 : Int) (p2 : Int) (p3 : (List Int)) : Option ((Option zh) × Int) :=
 (if (((((decide ((p0.length : Int) > 1048576)) || (decide (p1 < 0))) || (decide (p1 > (p0.length : Int)))) || (decide (p2 < 1))) || (decide (p2 > 65536))) = true then some (none, 1) else (zdo p0).bind fun c49 => (mkI 0 p2 p2).bind fun y58 => (zeg p3).bind fun c65 => zkJ p1 p2 c49 y58 c65)
def zdD (q0 : zh) : Option Int :=
 some (q0.how.toNat : Int)
def ziW (q0 : zf) : Option (Bool × zf) :=
 some (true, (⟨q0.Kind, q0.Op, q0.R, q0.S, q0.T, q0.N, q0.M⟩ : zf))
def zer (p0 : (List UInt8)) (p1 : Int) (p2 : Int) : Option ((List UInt8) × Int × Int) :=
 (if ((decide (p1 < 0)) || (decide (p1 > (p0.length : Int)))) = true then some ([], 0, 1) else (zb5 p0 p1 (p0.length : Int)).bind fun y5 => (if (decide ((y5.length : Int) ≥ p2)) = true then (zb5 y5 0 p2).bind fun y11 => some (y11, (IntKind.i64.wrap (p1 + p2)), 0) else some ([], 0, 5)))
def zcR (p0 : (List UInt8)) (p1 : Int) : Option (Int × Int × Int) :=
 (zer p0 p1 1).bind fun c3 => (if (c3.2.2 != 0) = true then some (0, 0, c3.2.2) else (zz c3.1 0).bind fun y12 => some ((y12.toNat : Int), c3.2.1, 0))
def zdZ (p0 : Int) : Option Bool :=
 some ((decide (p0 ≥ 0)) && (decide (p0 < 16)))
def ziX (q0 : zf) : Option (Bool × zf) :=
 (zdZ q0.R).bind fun c2 => some (c2, (⟨q0.Kind, q0.Op, q0.R, q0.S, q0.T, q0.N, q0.M⟩ : zf))
def ziT (q0 : zf) : Option (Int × zf) :=
 some ((IntKind.u8.wrap q0.R), (⟨q0.Kind, q0.Op, q0.R, q0.S, q0.T, q0.N, q0.M⟩ : zf))
def zgI (q0 : zf) (p1 : Int) : Option zf :=
 some (⟨q0.Kind, q0.Op, (IntKind.i64.wrap p1), q0.S, q0.T, q0.N, q0.M⟩ : zf)
def zku  : Option zA :=
 some zA.c_one_1
def zhB  : Option zA :=
 (zku ).bind fun c2 => some c2
def zhm (rec4 : Int → (List UInt8) → Option (List UInt8))  (x30 : Int) (x34 : List UInt8) : Option (List UInt8) :=
 (if ((decide (x30 > 63)) || (decide (x30 < (-64)))) = true then (u8o (orI .u8 (IntKind.u8.wrap x30) 128)).bind fun z51 => (room (x34.length + 1)).bind fun _ => rec4 (zcj .i64 x30 7) (x34 ++ [z51]) else (u8o (zcz .u8 (IntKind.u8.wrap x30) 127)).bind fun z57 => (room (x34.length + 1)).bind fun _ => some (x34 ++ [z57]))
def zgZ  : Nat → Int → (List UInt8) → Option (List UInt8)
 | 0, _, _ => none
 | n + 1, x30, x34 => zhm (zgZ  n)  x30 x34
def zfZ (p0 : (List UInt8)) (p1 : Int) : Option (List UInt8) :=
 (zdo p0).bind fun c3 => zgZ  big p1 c3
def zhL (rec4 : Int → Int → Option (Int × Int)) (p0 : (List UInt8)) (x16 : Int) (x17 : Int) : Option (Int × Int) :=
 (if (decide (x17 < (zdG (p0.length : Int) 10))) = true then (zz p0 x17).bind fun y34 => (zb6 .u64 (IntKind.u64.wrap (zcz .u8 (y34.toNat : Int) 127)) (IntKind.i64.wrap (7 * x17))).bind fun y39 => (zz p0 x17).bind fun y41 => (if (decide ((y41.toNat : Int) < 128)) = true then some ((orI .u64 x16 y39), (IntKind.i64.wrap (x17 + 1))) else rec4 (orI .u64 x16 y39) (IntKind.i64.wrap (x17 + 1))) else some (0, 0))
def zgm (p0 : (List UInt8)) : Nat → Int → Int → Option (Int × Int)
 | 0, _, _ => none
 | n + 1, x16, x17 => zhL (zgm p0 n) p0 x16 x17
def zgz (p0 : (List UInt8)) : Option (Int × Int) :=
 zgm p0 big 0 0
def zgW (rec4 : Int → Option Bool) (p0 : (List UInt8)) (p1 : (List UInt8)) (x16 : Int) : Option Bool :=
 (if (decide (x16 < (p0.length : Int))) = true then (zz p0 x16).bind fun y31 => (zz p1 x16).bind fun y36 => (if ((y31.toNat : Int) != (y36.toNat : Int)) = true then some false else rec4 (IntKind.i64.wrap (x16 + 1))) else some true)
def zg9 (p0 : (List UInt8)) (p1 : (List UInt8)) : Nat → Int → Option Bool
 | 0, _ => none
 | n + 1, x16 => zgW (zg9 p0 p1 n) p0 p1 x16
def zfW (p0 : (List UInt8)) (p1 : (List UInt8)) : Option Bool :=
 (if ((p0.length : Int) != (p1.length : Int)) = true then some false else zg9 p0 p1 big 0)
def zgJ (p0 : Int) (p1 : Int) : Option Int :=
 (zb6 .u64 p0 (zdy 0 (IntKind.i64.wrap (64 - (IntKind.i64.wrap (7 * p1)))))).bind fun y3 => (zc6 .i64 (IntKind.i64.wrap y3) (zdy 0 (IntKind.i64.wrap (64 - (IntKind.i64.wrap (7 * p1)))))).bind fun y5 => some y5
def ziH (p0 : (List UInt8)) (p1 : Int) : Option (Int × Int × Int) :=
 (if ((decide (p1 < 0)) || (decide (p1 > (p0.length : Int)))) = true then some (0, 0, 1) else (zb5 p0 p1 (p0.length : Int)).bind fun y6 => (zgz y6).bind fun c11 => (zgJ c11.1 c11.2).bind fun c15 => ((if (c11.2 == 0) = true then some true else (zb5 p0 p1 (IntKind.i64.wrap (p1 + c11.2))).bind fun y22 => (zfZ [] c15).bind fun c27 => (zfW c27 y22).bind fun c38 => some (!c38))).bind fun c19 => (if c19 = true then some (0, 0, 5) else some (c15, (IntKind.i64.wrap (p1 + c11.2)), 0)))
def zhG (p0 : (List UInt8)) (p1 : Int) : Option (Int × Int × Int) :=
 (ziH p0 p1).bind fun c3 => some (c3.1, c3.2.1, c3.2.2)
def zek (p0 : (List UInt8)) (p1 : Int) (q2 : zf) : Option (Int × Bool × zf) :=
 (zhG p0 p1).bind fun c4 => some (c4.2.1, (c4.2.2 == 0), (⟨q2.Kind, q2.Op, q2.R, q2.S, q2.T, c4.1, q2.M⟩ : zf))
def zjp (q0 : zf) : Option (Bool × zf) :=
 (zdZ q0.R).bind fun c2 => ((if c2 = true then (zdZ q0.S).bind fun c9 => some c9 else some false)).bind fun c6 => some (c6, (⟨q0.Kind, q0.Op, q0.R, q0.S, q0.T, q0.N, q0.M⟩ : zf))
def zhe (p0 : Int) (p1 : Int) : Option (Int × Bool) :=
 (if ((((decide (p0 < 0)) || (decide (p0 ≥ 16))) || (decide (p1 < 0))) || (decide (p1 ≥ 16))) = true then some (0, false) else some ((IntKind.u8.wrap (orI .i64 (zct .i64 p0 4) p1)), true))
def ziv (q0 : zf) : Option (Int × zf) :=
 (zhe q0.R q0.S).bind fun c2 => some (c2.1, (⟨q0.Kind, q0.Op, q0.R, q0.S, q0.T, q0.N, q0.M⟩ : zf))
def zhq (p0 : Int) : Option (Int × Int) :=
 some ((IntKind.i64.wrap (zcj .u8 p0 4)), (IntKind.i64.wrap (zcz .u8 p0 15)))
def zhc (q0 : zf) (p1 : Int) : Option zf :=
 (zhq p1).bind fun c3 => some (⟨q0.Kind, q0.Op, c3.1, c3.2, q0.T, q0.N, q0.M⟩ : zf)
def zjN  : Option zA :=
 some zA.c_both_1
def zfq  : Option zA :=
 (zjN ).bind fun c2 => some c2
def zjd (q0 : zf) : Option (Int × zf) :=
 some ((q0.Op.toNat : Int), (⟨q0.Kind, q0.Op, q0.R, q0.S, q0.T, q0.N, q0.M⟩ : zf))
def zhT (q0 : zf) (p1 : Int) : Option zf :=
 (u8o p1).bind fun z3 => some (⟨q0.Kind, z3, q0.R, q0.S, q0.T, q0.N, q0.M⟩ : zf)
def zks (q0_0 : Int) (q0_1 : Int) : Option zA :=
 some (zA.c_op_1 q0_0 q0_1)
def ziS (p0 : Int) (p1 : Int) : Option zA :=
 (zks p0 p1).bind fun c10 => some c10
def zid (q0 : zf) : Option (Bool × zf) :=
 (zdZ q0.T).bind fun c2 => some (c2, (⟨q0.Kind, q0.Op, q0.R, q0.S, q0.T, q0.N, q0.M⟩ : zf))
def zjF (q0 : zf) : Option (Int × zf) :=
 some ((IntKind.u8.wrap q0.T), (⟨q0.Kind, q0.Op, q0.R, q0.S, q0.T, q0.N, q0.M⟩ : zf))
def zhQ (q0 : zf) (p1 : Int) : Option zf :=
 some (⟨q0.Kind, q0.Op, q0.R, q0.S, (IntKind.i64.wrap p1), q0.N, q0.M⟩ : zf)
def zll  : Option zA :=
 some zA.c_third_1
def ziF  : Option zA :=
 (zll ).bind fun c2 => some c2
def ziL (q0 : zf) : Option (Bool × zf) :=
 some (((decide (q0.N ≥ (-65536))) && (decide (q0.N ≤ 65536))), (⟨q0.Kind, q0.Op, q0.R, q0.S, q0.T, q0.N, q0.M⟩ : zf))
def zjn (q0 : zf) : Option (Bool × zf) :=
 some (((decide (q0.M ≥ 1)) && (decide (q0.M ≤ 65536))), (⟨q0.Kind, q0.Op, q0.R, q0.S, q0.T, q0.N, q0.M⟩ : zf))
def zhV (rec4 : Int → (List UInt8) → Option (List UInt8))  (x30 : Int) (x34 : List UInt8) : Option (List UInt8) :=
 (if (decide (x30 > 127)) = true then (u8o (orI .u8 (IntKind.u8.wrap x30) 128)).bind fun z51 => (room (x34.length + 1)).bind fun _ => rec4 (zcj .u64 x30 7) (x34 ++ [z51]) else (u8o (IntKind.u8.wrap x30)).bind fun z57 => (room (x34.length + 1)).bind fun _ => some (x34 ++ [z57]))
def zhf  : Nat → Int → (List UInt8) → Option (List UInt8)
 | 0, _, _ => none
 | n + 1, x30, x34 => zhV (zhf  n)  x30 x34
def zfN (p0 : (List UInt8)) (p1 : Int) : Option (List UInt8) :=
 (zdo p0).bind fun c3 => zhf  big p1 c3
def zi5 (p0 : Int) (p1 : Int) : Option Int :=
 some p0
def zie (p0 : (List UInt8)) (p1 : Int) : Option (Int × Int × Int) :=
 (if ((decide (p1 < 0)) || (decide (p1 > (p0.length : Int)))) = true then some (0, 0, 1) else (zb5 p0 p1 (p0.length : Int)).bind fun y6 => (zgz y6).bind fun c11 => (zi5 c11.1 c11.2).bind fun c15 => ((if (c11.2 == 0) = true then some true else (zb5 p0 p1 (IntKind.i64.wrap (p1 + c11.2))).bind fun y22 => (zfN [] c15).bind fun c27 => (zfW c27 y22).bind fun c38 => some (!c38))).bind fun c19 => (if c19 = true then some (0, 0, 5) else some (c15, (IntKind.i64.wrap (p1 + c11.2)), 0)))
def zgL (p0 : (List UInt8)) (p1 : Int) : Option (Int × Int × Int) :=
 (zie p0 p1).bind fun c3 => some (c3.1, c3.2.1, c3.2.2)
def zhK (p0 : (List UInt8)) (p1 : Int) (q2 : zf) : Option (Int × Bool × zf) :=
 (zgL p0 p1).bind fun c4 => some (c4.2.1, (c4.2.2 == 0), (⟨q2.Kind, q2.Op, q2.R, q2.S, q2.T, q2.N, (IntKind.i64.wrap (zdG c4.1 16777216))⟩ : zf))
def zkb  : Option zA :=
 some zA.c_bound_1
def zjo (q0 : zf) : Option (Bool × zf) :=
 some (((decide (q0.N ≥ 0)) && (decide (q0.N < 16777216))), (⟨q0.Kind, q0.Op, q0.R, q0.S, q0.T, q0.N, q0.M⟩ : zf))
def zip (p1 : Int) : Option (List UInt8) :=
 (if (decide ((IntKind.i64.wrap (p1 - (IntKind.i64.wrap (0 - 0)))) > 0)) = true then (nneg (IntKind.i64.wrap (p1 - (IntKind.i64.wrap (0 - 0))))).bind fun _ => (room (([] : List UInt8).length + Int.toNat (IntKind.i64.wrap (p1 - (IntKind.i64.wrap (0 - 0)))))).bind fun _ => (zb5 (([] : List UInt8) ++ List.replicate (Int.toNat (IntKind.i64.wrap (p1 - (IntKind.i64.wrap (0 - 0))))) (0 : UInt8)) 0 0).bind fun y12 => some y12 else some ([]))
def zht (_n0 : (List UInt8)) (p1 : Int) : Option (List UInt8) :=
 (if (decide (p1 < 0)) = true then none else zip p1)
def zhw (rec16 : (List UInt8) → Int → Option (List UInt8)) (p0 : (List (List UInt8))) (x202 : List UInt8) (x204 : Int) : Option (List UInt8) :=
 (if (decide (x204 < (p0.length : Int))) = true then (zz p0 x204).bind fun y222 => (room (x202.length + y222.length)).bind fun _ => rec16 (x202 ++ y222) (IntKind.i64.wrap (x204 + 1)) else some x202)
def zh9 (p0 : (List (List UInt8))) : Nat → (List UInt8) → Int → Option (List UInt8)
 | 0, _, _ => none
 | n + 1, x202, x204 => zhw (zh9 p0 n) p0 x202 x204
def zgK (rec14 : Int → Int → Option (List UInt8)) (p0 : (List (List UInt8))) (x79 : Int) (x80 : Int) : Option (List UInt8) :=
 (if (decide (x80 < (p0.length : Int))) = true then (zz p0 x80).bind fun y160 => (if (decide ((IntKind.i64.wrap (x79 + (y160.length : Int))) < 0)) = true then none else rec14 (IntKind.i64.wrap (x79 + (y160.length : Int))) (IntKind.i64.wrap (x80 + 1))) else (zht [] x79).bind fun c170 => zh9 p0 big c170 0)
def zgs (p0 : (List (List UInt8))) : Nat → Int → Int → Option (List UInt8)
 | 0, _, _ => none
 | n + 1, x79, x80 => zgK (zgs p0 n) p0 x79 x80
def zi2 (p0 : (List (List UInt8))) : Option (List UInt8) :=
 zgs p0 big 0 0
def zju (rec4 : (List UInt8) → Int → Option ((List UInt8) × Int)) (p0 : (List UInt8)) (p1 : Int) (x42 : List UInt8) (x44 : Int) : Option ((List UInt8) × Int) :=
 (if (decide (x44 < 3)) = true then (zc6 .i64 p1 (IntKind.i64.wrap (8 * x44))).bind fun y78 => (zz x42 (IntKind.i64.wrap (2 - x44))).bind fun y80 => (u8o (IntKind.u8.wrap y78)).bind fun z87 => rec4 (x42.set (Int.toNat (IntKind.i64.wrap (2 - x44))) z87) (IntKind.i64.wrap (x44 + 1)) else (zi2 ([p0, x42] : List (List UInt8))).bind fun c99 => some (c99, 0))
def zfM (p0 : (List UInt8)) (p1 : Int) : Nat → (List UInt8) → Int → Option ((List UInt8) × Int)
 | 0, _, _ => none
 | n + 1, x42, x44 => zju (zfM p0 p1 n) p0 p1 x42 x44
def zhi (p0 : (List UInt8)) (p1 : Int) : Option ((List UInt8) × Int) :=
 (if ((decide (p1 < 0)) || (decide (p1 ≥ 16777216))) = true then some ([], 1) else zfM p0 p1 big ([(0 : UInt8), (0 : UInt8), (0 : UInt8)] : List UInt8) 0)
def zjD (rec4 : Int → Int → Option (Int × Int × Int)) (c3 : (List UInt8) × Int × Int) (x18 : Int) (x20 : Int) : Option (Int × Int × Int) :=
 (if (decide (x20 < (c3.1.length : Int))) = true then (zz c3.1 x20).bind fun y29 => rec4 (orI .i64 (zct .i64 x18 8) (IntKind.i64.wrap (y29.toNat : Int))) (IntKind.i64.wrap (x20 + 1)) else some (x18, c3.2.1, c3.2.2))
def zfQ (c3 : (List UInt8) × Int × Int) : Nat → Int → Int → Option (Int × Int × Int)
 | 0, _, _ => none
 | n + 1, x18, x20 => zjD (zfQ c3 n) c3 x18 x20
def zeI (p0 : (List UInt8)) (p1 : Int) : Option (Int × Int × Int) :=
 (zer p0 p1 3).bind fun c3 => zfQ c3 big 0 0
def zg1 (p0 : (List UInt8)) (p1 : Int) (q2 : zf) : Option (Int × Bool × zf) :=
 (zeI p0 p1).bind fun c4 => some (c4.2.1, (c4.2.2 == 0), (⟨q2.Kind, q2.Op, q2.R, q2.S, q2.T, c4.1, q2.M⟩ : zf))
def zji  : Option zA :=
 some zA.c_to_1
def zi9 (q0 : zf) : Option (Bool × zf) :=
 some (((decide (q0.N ≥ 2)) && (decide (q0.N ≤ 4))), (⟨q0.Kind, q0.Op, q0.R, q0.S, q0.T, q0.N, q0.M⟩ : zf))
def ziV (q0 : zf) : Option (Int × zf) :=
 some ((IntKind.u8.wrap q0.N), (⟨q0.Kind, q0.Op, q0.R, q0.S, q0.T, q0.N, q0.M⟩ : zf))
def zhv (q0 : zf) (p1 : Int) : Option zf :=
 some (⟨q0.Kind, q0.Op, q0.R, q0.S, q0.T, (IntKind.i64.wrap p1), q0.M⟩ : zf)
def zkD  : Option zA :=
 some zA.c_how_1
def zla  : Option zA :=
 (zkD ).bind fun c2 => some c2
def zkh  : Option zA :=
 some zA.c_parts_1
def zhU  : Option zA :=
 some zA.c_within
def zf5 (p0 : Int) (x310 : Bool) : Option ((List zA) × Bool) :=
 (if x310 = true then (zhB ).bind fun c312 => some (([c312] : List zA), true) else (if (p0 == 18) = true then (zla ).bind fun c331 => some (([c331] : List zA), true) else some ([], false)))
def zhx (p0 : Int) (x236 : Bool) : Option ((List zA) × Bool) :=
 (if x236 = true then (zji ).bind fun c238 => some (([c238] : List zA), true) else (if (p0 == 11) = true then (zhB ).bind fun c257 => (zji ).bind fun c271 => some (([c257, c271] : List zA), true) else (if (p0 == 14) = true then (zhU ).bind fun c290 => some (([c290] : List zA), true) else (if (p0 == 15) = true then zf5 p0 (p0 == 15) else (if (p0 == 16) = true then zf5 p0 (p0 == 16) else zf5 p0 (p0 == 17))))))
def zgQ (p0 : Int) (x173 : Bool) : Option ((List zA) × Bool) :=
 (if x173 = true then (zfq ).bind fun c175 => (ziF ).bind fun c189 => (zhU ).bind fun c203 => (zkb ).bind fun c217 => some (([c175, c189, c203, c217] : List zA), true) else (if (p0 == 10) = true then zhx p0 (p0 == 10) else zhx p0 (p0 == 12)))
def zgU (p0 : Int) (x138 : Bool) : Option ((List zA) × Bool) :=
 (if x138 = true then (zfq ).bind fun c140 => (zhU ).bind fun c154 => some (([c140, c154] : List zA), true) else (if (p0 == 8) = true then zgQ p0 (p0 == 8) else zgQ p0 (p0 == 9)))
def zhF (p0 : Int) (x3 : Bool) : Option ((List zA) × Bool) :=
 (if x3 = true then some ([], true) else (if (p0 == 2) = true then (zhB ).bind fun c6 => (zkh ).bind fun c20 => some (([c6, c20] : List zA), true) else (if (p0 == 3) = true then (zfq ).bind fun c39 => some (([c39] : List zA), true) else (if (p0 == 4) = true then (ziS 1 13).bind fun c58 => (zfq ).bind fun c72 => (ziF ).bind fun c86 => some (([c58, c72, c86] : List zA), true) else (if (p0 == 5) = true then (ziS 14 15).bind fun c105 => (zfq ).bind fun c119 => some (([c105, c119] : List zA), true) else (if (p0 == 6) = true then zgU p0 (p0 == 6) else zgU p0 (p0 == 7)))))))
def zfI (p0 : Int) : Option ((List zA) × Bool) :=
 (if (p0 == 1) = true then zhF p0 (p0 == 1) else zhF p0 (p0 == 13))
def zgA (p0 : (List UInt8)) (p1 : Int) (q2 : zf) : Option (Int × Bool × zf) :=
 (zcR p0 p1).bind fun c4 => (zgI (⟨q2.Kind, q2.Op, q2.R, q2.S, q2.T, q2.N, q2.M⟩ : zf) c4.1).bind fun c8 => some (c4.2.1, (c4.2.2 == 0), (⟨c8.Kind, c8.Op, c8.R, c8.S, c8.T, c8.N, c8.M⟩ : zf))
def zg8 (p0 : (List UInt8)) (p1 : Int) (q2 : zf) : Option (Int × Bool × zf) :=
 (zcR p0 p1).bind fun c4 => (zhc (⟨q2.Kind, q2.Op, q2.R, q2.S, q2.T, q2.N, q2.M⟩ : zf) c4.1).bind fun c8 => some (c4.2.1, (c4.2.2 == 0), (⟨c8.Kind, c8.Op, c8.R, c8.S, c8.T, c8.N, c8.M⟩ : zf))
def zg6 (p0 : (List UInt8)) (p1 : Int) (q2 : zf) : Option (Int × Bool × zf) :=
 (zcR p0 p1).bind fun c4 => (zhT (⟨q2.Kind, q2.Op, q2.R, q2.S, q2.T, q2.N, q2.M⟩ : zf) c4.1).bind fun c8 => some (c4.2.1, (c4.2.2 == 0), (⟨c8.Kind, c8.Op, c8.R, c8.S, c8.T, c8.N, c8.M⟩ : zf))
def zhb (p0 : (List UInt8)) (p1 : Int) (q2 : zf) : Option (Int × Bool × zf) :=
 (zcR p0 p1).bind fun c4 => (zhQ (⟨q2.Kind, q2.Op, q2.R, q2.S, q2.T, q2.N, q2.M⟩ : zf) c4.1).bind fun c8 => some (c4.2.1, (c4.2.2 == 0), (⟨c8.Kind, c8.Op, c8.R, c8.S, c8.T, c8.N, c8.M⟩ : zf))
def zgq (p0 : (List UInt8)) (p1 : Int) (q2 : zf) : Option (Int × Bool × zf) :=
 (zcR p0 p1).bind fun c4 => (zhv (⟨q2.Kind, q2.Op, q2.R, q2.S, q2.T, q2.N, q2.M⟩ : zf) c4.1).bind fun c8 => some (c4.2.1, (c4.2.2 == 0), (⟨c8.Kind, c8.Op, c8.R, c8.S, c8.T, c8.N, c8.M⟩ : zf))
def zec (x : zA) (p0 : (List UInt8)) (p1 : Int) (q2 : zf) : Option (Int × Bool × zf) :=
 match x with
 | .c_one_1 => zgA p0 p1 q2
 | .c_both_1 => zg8 p0 p1 q2
 | .c_op_1 x0 x1 => zg6 p0 p1 q2
 | .c_third_1 => zhb p0 p1 q2
 | .c_bound_1 => zhK p0 p1 q2
 | .c_to_1 => zg1 p0 p1 q2
 | .c_how_1 => zgq p0 p1 q2
 | .c_parts_1 => zek p0 p1 q2
 | .c_within => zek p0 p1 q2
def ze1 (rec4 : UInt8 → UInt8 → Int → Int → Int → Int → Int → Int → Bool → (List zA) → Int → Option (zf × Int × Bool)) (p0 : (List UInt8)) (c10 : (List zA) × Bool) (x48 : UInt8) (x49 : UInt8) (x50 : Int) (x51 : Int) (x52 : Int) (x53 : Int) (x54 : Int) (x55 : Int) (x56 : Bool) (x60 : List zA) (x62 : Int) : Option (zf × Int × Bool) :=
 (if (decide (x62 < (c10.1.length : Int))) = true then (zz x60 x62).bind fun y89 => (if x56 = true then (zec y89 p0 x55 (⟨x48, x49, x50, x51, x52, x53, x54⟩ : zf)).bind fun c108 => rec4 c108.2.2.Kind c108.2.2.Op c108.2.2.R c108.2.2.S c108.2.2.T c108.2.2.N c108.2.2.M c108.1 c108.2.1 x60 (IntKind.i64.wrap (x62 + 1)) else rec4 x48 x49 x50 x51 x52 x53 x54 x55 x56 x60 (IntKind.i64.wrap (x62 + 1))) else some ((⟨x48, x49, x50, x51, x52, x53, x54⟩ : zf), x55, x56))
def zfG (p0 : (List UInt8)) (c10 : (List zA) × Bool) : Nat → UInt8 → UInt8 → Int → Int → Int → Int → Int → Int → Bool → (List zA) → Int → Option (zf × Int × Bool)
 | 0, _, _, _, _, _, _, _, _, _, _, _ => none
 | n + 1, x48, x49, x50, x51, x52, x53, x54, x55, x56, x60, x62 => ze1 (zfG p0 c10 n) p0 c10 x48 x49 x50 x51 x52 x53 x54 x55 x56 x60 x62
def zdH (p0 : (List UInt8)) (p1 : Int) : Option (zf × Int × Bool) :=
 (if (decide (p1 ≥ (p0.length : Int))) = true then some ((⟨(0 : UInt8), (0 : UInt8), 0, 0, 0, 0, 0⟩ : zf), 0, false) else (zz p0 p1).bind fun y5 => (zfI (y5.toNat : Int)).bind fun c10 => zfG p0 c10 big y5 (0 : UInt8) 0 0 0 0 0 (IntKind.i64.wrap (p1 + 1)) c10.2 c10.1 0)
def ziA (q0 : zf) (qf0 : Int) (qf1 : Int) : Option (Bool × zf) :=
 ((if (decide ((q0.Op.toNat : Int) ≥ qf0)) = true then some (decide ((q0.Op.toNat : Int) ≤ qf1)) else some false)).bind fun c2 => some (c2, (⟨q0.Kind, q0.Op, q0.R, q0.S, q0.T, q0.N, q0.M⟩ : zf))
def ziq (x : zA) (q0 : zf) : Option (Bool × zf) :=
 match x with
 | .c_one_1 => ziX q0
 | .c_both_1 => zjp q0
 | .c_op_1 x0 x1 => ziA q0 x0 x1
 | .c_third_1 => zid q0
 | .c_bound_1 => zjn q0
 | .c_to_1 => zjo q0
 | .c_how_1 => zi9 q0
 | .c_parts_1 => ziW q0
 | .c_within => ziL q0
def zjh (p0 : (List UInt8)) (q1 : zf) : Option ((List UInt8) × zf) :=
 (ziT (⟨q1.Kind, q1.Op, q1.R, q1.S, q1.T, q1.N, q1.M⟩ : zf)).bind fun c3 => (u8o c3.1).bind fun z7 => (room (p0.length + 1)).bind fun _ => some ((p0 ++ [z7]), (⟨c3.2.Kind, c3.2.Op, c3.2.R, c3.2.S, c3.2.T, c3.2.N, c3.2.M⟩ : zf))
def zjj (p0 : (List UInt8)) (q1 : zf) : Option ((List UInt8) × zf) :=
 (ziv (⟨q1.Kind, q1.Op, q1.R, q1.S, q1.T, q1.N, q1.M⟩ : zf)).bind fun c3 => (u8o c3.1).bind fun z7 => (room (p0.length + 1)).bind fun _ => some ((p0 ++ [z7]), (⟨c3.2.Kind, c3.2.Op, c3.2.R, c3.2.S, c3.2.T, c3.2.N, c3.2.M⟩ : zf))
def ziz (p0 : (List UInt8)) (q1 : zf) : Option ((List UInt8) × zf) :=
 (zjd (⟨q1.Kind, q1.Op, q1.R, q1.S, q1.T, q1.N, q1.M⟩ : zf)).bind fun c3 => (u8o c3.1).bind fun z7 => (room (p0.length + 1)).bind fun _ => some ((p0 ++ [z7]), (⟨c3.2.Kind, c3.2.Op, c3.2.R, c3.2.S, c3.2.T, c3.2.N, c3.2.M⟩ : zf))
def zix (p0 : (List UInt8)) (q1 : zf) : Option ((List UInt8) × zf) :=
 (zjF (⟨q1.Kind, q1.Op, q1.R, q1.S, q1.T, q1.N, q1.M⟩ : zf)).bind fun c3 => (u8o c3.1).bind fun z7 => (room (p0.length + 1)).bind fun _ => some ((p0 ++ [z7]), (⟨c3.2.Kind, c3.2.Op, c3.2.R, c3.2.S, c3.2.T, c3.2.N, c3.2.M⟩ : zf))
def ziw (p0 : (List UInt8)) (q1 : zf) : Option ((List UInt8) × zf) :=
 (zfN p0 (IntKind.u64.wrap q1.M)).bind fun c5 => some (c5, (⟨q1.Kind, q1.Op, q1.R, q1.S, q1.T, q1.N, q1.M⟩ : zf))
def zir (p0 : (List UInt8)) (q1 : zf) : Option ((List UInt8) × zf) :=
 (zhi p0 q1.N).bind fun c5 => some (c5.1, (⟨q1.Kind, q1.Op, q1.R, q1.S, q1.T, q1.N, q1.M⟩ : zf))
def ziZ (p0 : (List UInt8)) (q1 : zf) : Option ((List UInt8) × zf) :=
 (ziV (⟨q1.Kind, q1.Op, q1.R, q1.S, q1.T, q1.N, q1.M⟩ : zf)).bind fun c3 => (u8o c3.1).bind fun z7 => (room (p0.length + 1)).bind fun _ => some ((p0 ++ [z7]), (⟨c3.2.Kind, c3.2.Op, c3.2.R, c3.2.S, c3.2.T, c3.2.N, c3.2.M⟩ : zf))
def zfF (p0 : (List UInt8)) (q1 : zf) : Option ((List UInt8) × zf) :=
 (zfZ p0 q1.N).bind fun c5 => some (c5, (⟨q1.Kind, q1.Op, q1.R, q1.S, q1.T, q1.N, q1.M⟩ : zf))
def zjA (x : zA) (p0 : (List UInt8)) (q1 : zf) : Option ((List UInt8) × zf) :=
 match x with
 | .c_one_1 => zjh p0 q1
 | .c_both_1 => zjj p0 q1
 | .c_op_1 x0 x1 => ziz p0 q1
 | .c_third_1 => zix p0 q1
 | .c_bound_1 => ziw p0 q1
 | .c_to_1 => zir p0 q1
 | .c_how_1 => ziZ p0 q1
 | .c_parts_1 => zfF p0 q1
 | .c_within => zfF p0 q1
def zh4 (rec4 : UInt8 → UInt8 → Int → Int → Int → Int → Int → (List UInt8) → (List zA) → Int → Option ((List UInt8) × Bool)) (c3 : (List zA) × Bool) (x60 : UInt8) (x61 : UInt8) (x62 : Int) (x63 : Int) (x64 : Int) (x65 : Int) (x66 : Int) (x70 : List UInt8) (x75 : List zA) (x77 : Int) : Option ((List UInt8) × Bool) :=
 (if (decide (x77 < (c3.1.length : Int))) = true then (zz x75 x77).bind fun y113 => (ziq y113 (⟨x60, x61, x62, x63, x64, x65, x66⟩ : zf)).bind fun c131 => (if (!c131.1) = true then some ([], false) else (zjA y113 x70 (⟨c131.2.Kind, c131.2.Op, c131.2.R, c131.2.S, c131.2.T, c131.2.N, c131.2.M⟩ : zf)).bind fun c136 => rec4 c136.2.Kind c136.2.Op c136.2.R c136.2.S c136.2.T c136.2.N c136.2.M c136.1 x75 (IntKind.i64.wrap (x77 + 1))) else some (x70, true))
def zgy (c3 : (List zA) × Bool) : Nat → UInt8 → UInt8 → Int → Int → Int → Int → Int → (List UInt8) → (List zA) → Int → Option ((List UInt8) × Bool)
 | 0, _, _, _, _, _, _, _, _, _, _ => none
 | n + 1, x60, x61, x62, x63, x64, x65, x66, x70, x75, x77 => zh4 (zgy c3 n) c3 x60 x61 x62 x63 x64 x65 x66 x70 x75 x77
def zd8 (p0 : zf) : Option ((List UInt8) × Bool) :=
 (zfI (p0.Kind.toNat : Int)).bind fun c3 => (if (!c3.2) = true then some ([], false) else zgy c3 big p0.Kind p0.Op p0.R p0.S p0.T p0.N p0.M ([p0.Kind] : List UInt8) c3.1 0)
def zd1 (p0 : zf) : Option Bool :=
 (zd8 (⟨p0.Kind, p0.Op, p0.R, p0.S, p0.T, p0.N, p0.M⟩ : zf)).bind fun c3 => (if (!c3.2) = true then some false else (zdH c3.1 0).bind fun c15 => some (c15.2.2 && (( (c15.1.Kind.toNat : Int) == (p0.Kind.toNat : Int)) && (( (c15.1.Op.toNat : Int) == (p0.Op.toNat : Int)) && (( c15.1.R == p0.R) && (( c15.1.S == p0.S) && (( c15.1.T == p0.T) && (( c15.1.N == p0.N) && (( c15.1.M == p0.M) && true)))))))))
def zhC (p0 : (List UInt8)) (p1 : (List UInt8)) : Option Bool :=
 some (zjy (⟨p0.toArray⟩ : ByteArray) (⟨p1.toArray⟩ : ByteArray))
def zeU (p0 : (List UInt8)) (p1 : zf) : Option (List UInt8) :=
 (zdo p0).bind fun c4 => (zd1 (⟨p1.Kind, p1.Op, p1.R, p1.S, p1.T, p1.N, p1.M⟩ : zf)).bind fun c13 => (if (!c13) = true then some c4 else (zd8 (⟨p1.Kind, p1.Op, p1.R, p1.S, p1.T, p1.N, p1.M⟩ : zf)).bind fun c18 => (room (c4.length + c18.1.length)).bind fun _ => some (c4 ++ c18.1))
def zc2 (p0 : (List UInt8)) (p1 : Int) : Option (zf × Int × Int) :=
 (if ((decide (p1 < 0)) || (decide (p1 > (p0.length : Int)))) = true then some ((⟨(0 : UInt8), (0 : UInt8), 0, 0, 0, 0, 0⟩ : zf), 0, 1) else (zdH p0 p1).bind fun c5 => ((if (!c5.2.2) = true then some true else (zd1 (⟨c5.1.Kind, c5.1.Op, c5.1.R, c5.1.S, c5.1.T, c5.1.N, c5.1.M⟩ : zf)).bind fun c13 => some (!c13))).bind fun c10 => ((if c10 = true then some true else (zb5 p0 p1 c5.2.1).bind fun y20 => (zeU [] (⟨c5.1.Kind, c5.1.Op, c5.1.R, c5.1.S, c5.1.T, c5.1.N, c5.1.M⟩ : zf)).bind fun c25 => (zhC c25 y20).bind fun c36 => some (!c36))).bind fun c17 => (if c17 = true then some ((⟨(0 : UInt8), (0 : UInt8), 0, 0, 0, 0, 0⟩ : zf), 0, 5) else some ((⟨c5.1.Kind, c5.1.Op, c5.1.R, c5.1.S, c5.1.T, c5.1.N, c5.1.M⟩ : zf), c5.2.1, 0)))
def zcI (p0 : Int) : Option (Except (Value) (Unit)) :=
 some (.error (.iface 59 (.int .u8 p0) : Value))
def zf8 (q0 : zh) (p1 : Int) : Option (Except (Value) (Int)) :=
 (if (decide ((IntKind.i64.wrap ((q0.regs 15) - p1)) < 0)) = true then zba (zcI 7) (fun x8 => some (.error x8)) fun c4 => some (.ok (IntKind.i64.wrap ((q0.regs 15) - p1))) else some (.ok (IntKind.i64.wrap ((q0.regs 15) - p1))))
def zed (q0 : zh) (p1 : Int) : Option (Except (Value) (Int)) :=
 (if ((decide (p1 < 0)) || (decide (p1 ≥ (q0.words.length : Int)))) = true then zba (zcI 6) (fun x8 => some (.error x8)) fun c4 => (zz q0.words p1).bind fun y12 => some (.ok p1) else (zz q0.words p1).bind fun y19 => some (.ok p1))
def zjw (q0 : zh) (p1 : Int) (p2 : Int) : Option (Except (Value × zh) (Int × zh)) :=
 zba (zf8 (⟨q0.code, q0.pc, q0.regs, q0.words, q0.input, q0.out, q0.how, q0.halting⟩ : zh) 1) (fun x8 => some (.error (x8, (⟨q0.code, q0.pc, q0.regs, q0.words, q0.input, q0.out, q0.how, q0.halting⟩ : zh)))) fun c4 => zba (zed (⟨q0.code, q0.pc, q0.regs, q0.words, q0.input, q0.out, q0.how, q0.halting⟩ : zh) c4) (fun x16 => some (.error (x16, (⟨q0.code, q0.pc, q0.regs, q0.words, q0.input, q0.out, q0.how, q0.halting⟩ : zh)))) fun c12 => (zz q0.words c12).bind fun y21 => some (.ok (p1, (⟨q0.code, q0.pc, (zfo [(q0.regs 0), (q0.regs 1), (q0.regs 2), (q0.regs 3), (q0.regs 4), (q0.regs 5), (q0.regs 6), (q0.regs 7), (q0.regs 8), (q0.regs 9), (q0.regs 10), (q0.regs 11), (q0.regs 12), (q0.regs 13), (q0.regs 14), c4]), (q0.words.set (Int.toNat c12) p2), q0.input, q0.out, q0.how, q0.halting⟩ : zh)))
def zgw (q0 : zh) (y11 : Int) : Option (Except (Value × zh) (Int × zh)) :=
 some (.ok (y11, (⟨q0.code, q0.pc, (zfo [(q0.regs 0), (q0.regs 1), (q0.regs 2), (q0.regs 3), (q0.regs 4), (q0.regs 5), (q0.regs 6), (q0.regs 7), (q0.regs 8), (q0.regs 9), (q0.regs 10), (q0.regs 11), (q0.regs 12), (q0.regs 13), (q0.regs 14), (IntKind.i64.wrap ((q0.regs 15) + 1))]), q0.words, q0.input, q0.out, q0.how, q0.halting⟩ : zh)))
def ziQ (q0 : zh) : Option (Except (Value × zh) (Int × zh)) :=
 zba (zed (⟨q0.code, q0.pc, q0.regs, q0.words, q0.input, q0.out, q0.how, q0.halting⟩ : zh) (q0.regs 15)) (fun x6 => some (.error (x6, (⟨q0.code, q0.pc, q0.regs, q0.words, q0.input, q0.out, q0.how, q0.halting⟩ : zh)))) fun c2 => (zz q0.words c2).bind fun y11 => (if ((decide (y11 < 0)) || (decide (y11 ≥ 16777216))) = true then zba (zcI 5) (fun x33 => some (.error (x33, (⟨q0.code, q0.pc, q0.regs, q0.words, q0.input, q0.out, q0.how, q0.halting⟩ : zh)))) fun c29 => zgw q0 y11 else zgw q0 y11)
def zdE (p0 : Bool) : Option Int :=
 (if p0 = true then some 1 else some 0)
def zia (p0 : Int) (p1 : Int) (p2 : Int) : Option (Except (Value) (Int)) :=
 (if (p0 == 4) = true then (zf9 .i64 p1 p2).bind fun y14 => some (.ok y14) else (zfP .i64 p1 p2).bind fun y16 => some (.ok y16))
def zi6 (p0 : Int) (p1 : Int) (p2 : Int) : Option (Except (Value) (Int)) :=
 (if (p2 == 0) = true then zba (zcI 2) (fun x23 => some (.error x23)) fun c19 => zia p0 p1 p2 else zia p0 p1 p2)
def zge (p0 : Int) (p1 : Int) (p2 : Int) (x8 : Bool) : Option (Except (Value) (Int)) :=
 (if x8 = true then zba (zi6 p0 p1 p2) (fun x14 => some (.error x14)) fun c10 => some (.ok c10) else (if (p0 == 6) = true then (zdE (p1 == p2)).bind fun c19 => some (.ok c19) else (if (p0 == 7) = true then (zdE (p1 != p2)).bind fun c24 => some (.ok c24) else (if (p0 == 8) = true then (zdE (decide (p1 < p2))).bind fun c29 => some (.ok c29) else (if (p0 == 9) = true then (zdE (decide (p1 ≤ p2))).bind fun c34 => some (.ok c34) else (if (p0 == 10) = true then (zdE (decide (p1 > p2))).bind fun c39 => some (.ok c39) else (if (p0 == 11) = true then (zdE (decide (p1 ≥ p2))).bind fun c44 => some (.ok c44) else (if (p0 == 12) = true then some (.ok (zcz .i64 p1 p2)) else some (.ok (orI .i64 p1 p2))))))))))
def zfJ (p0 : Int) (p1 : Int) (p2 : Int) : Option (Except (Value) (Int)) :=
 (if (p0 == 1) = true then some (.ok (IntKind.i64.wrap (p1 + p2))) else (if (p0 == 2) = true then some (.ok (IntKind.i64.wrap (p1 - p2))) else (if (p0 == 3) = true then some (.ok (IntKind.i64.wrap (p1 * p2))) else (if (p0 == 4) = true then zge p0 p1 p2 (p0 == 4) else zge p0 p1 p2 (p0 == 5)))))
def zhP (q0 : zh) (p1 : zf) (y4 : Nat) (y7 : Nat) : Option (Except (Value) (Int)) :=
 zba (zed (⟨q0.code, q0.pc, q0.regs, q0.words, q0.input, q0.out, q0.how, q0.halting⟩ : zh) (IntKind.i64.wrap ((IntKind.i64.wrap ((q0.regs y4) + p1.N)) + (q0.regs y7)))) (fun x22 => some (.error x22)) fun c18 => (zz q0.words c18).bind fun y27 => some (.ok c18)
def zfU (q0 : zh) (p1 : zf) : Option (Except (Value) (Int)) :=
 (zda p1.S 16).bind fun y4 => (if (((p1.Kind.toNat : Int) == 8) || ((p1.Kind.toNat : Int) == 9)) = true then (zda p1.T 16).bind fun y7 => (if ((decide ((q0.regs y7) < 0)) || (decide ((q0.regs y7) ≥ p1.M))) = true then zba (zcI 3) (fun x40 => some (.error x40)) fun c36 => zhP q0 p1 y4 y7 else zhP q0 p1 y4 y7) else zba (zed (⟨q0.code, q0.pc, q0.regs, q0.words, q0.input, q0.out, q0.how, q0.halting⟩ : zh) (IntKind.i64.wrap ((q0.regs y4) + p1.N))) (fun x48 => some (.error x48)) fun c44 => (zz q0.words c44).bind fun y53 => some (.ok c44))
def ziD (q0 : zh) (p1 : Int) : Option (Except (Value × zh) (zh)) :=
 zba (zf8 (⟨q0.code, q0.pc, q0.regs, q0.words, q0.input, q0.out, q0.how, q0.halting⟩ : zh) p1) (fun x7 => some (.error (x7, (⟨q0.code, q0.pc, q0.regs, q0.words, q0.input, q0.out, q0.how, q0.halting⟩ : zh)))) fun c3 => (if (decide (c3 > (q0.words.length : Int))) = true then zba (zcI 6) (fun x16 => some (.error (x16, (⟨q0.code, q0.pc, q0.regs, q0.words, q0.input, q0.out, q0.how, q0.halting⟩ : zh)))) fun c12 => some (.ok (⟨q0.code, q0.pc, (zfo [(q0.regs 0), (q0.regs 1), (q0.regs 2), (q0.regs 3), (q0.regs 4), (q0.regs 5), (q0.regs 6), (q0.regs 7), (q0.regs 8), (q0.regs 9), (q0.regs 10), (q0.regs 11), (q0.regs 12), (q0.regs 13), (q0.regs 14), c3]), q0.words, q0.input, q0.out, q0.how, q0.halting⟩ : zh)) else some (.ok (⟨q0.code, q0.pc, (zfo [(q0.regs 0), (q0.regs 1), (q0.regs 2), (q0.regs 3), (q0.regs 4), (q0.regs 5), (q0.regs 6), (q0.regs 7), (q0.regs 8), (q0.regs 9), (q0.regs 10), (q0.regs 11), (q0.regs 12), (q0.regs 13), (q0.regs 14), c3]), q0.words, q0.input, q0.out, q0.how, q0.halting⟩ : zh)))
def zgP (q0 : zh) : Option (Except (Value × zh) (Int × zh)) :=
 (zz q0.input 0).bind fun y11 => (zb5 q0.input 1 (q0.input.length : Int)).bind fun y16 => some (.ok (y11, (⟨q0.code, q0.pc, q0.regs, q0.words, y16, q0.out, q0.how, q0.halting⟩ : zh)))
def zjl (q0 : zh) : Option (Except (Value × zh) (Int × zh)) :=
 (if ((q0.input.length : Int) == 0) = true then zba (zcI 4) (fun x26 => some (.error (x26, (⟨q0.code, q0.pc, q0.regs, q0.words, q0.input, q0.out, q0.how, q0.halting⟩ : zh)))) fun c22 => zgP q0 else zgP q0)
def zbP (x172 : List UInt8) (x174 : Int) (x175 : (Nat → Int)) (x180 : List Int) (x185 : List Int) (x190 : List Int) (x192 : UInt8) (x193 : Int) : Option (Except (Value × zh) (zh)) :=
 some (.ok (⟨x172, x174, x175, x180, x185, x190, x192, x193⟩ : zh))
def zcp (q0 : zh) (p1 : zf) (y4 : Nat) (x233 : Bool) : Option (Except (Value × zh) (zh)) :=
 (if x233 = true then zba (zfU (⟨q0.code, q0.pc, q0.regs, q0.words, q0.input, q0.out, q0.how, q0.halting⟩ : zh) (⟨p1.Kind, p1.Op, p1.R, p1.S, p1.T, p1.N, p1.M⟩ : zf)) (fun x239 => some (.error (x239, (⟨q0.code, q0.pc, q0.regs, q0.words, q0.input, q0.out, q0.how, q0.halting⟩ : zh)))) fun c235 => (zz q0.words c235).bind fun y244 => zbP q0.code q0.pc q0.regs (q0.words.set (Int.toNat c235) (q0.regs y4)) q0.input q0.out q0.how q0.halting else (if ((p1.Kind.toNat : Int) == 14) = true then zba (ziD (⟨q0.code, q0.pc, q0.regs, q0.words, q0.input, q0.out, q0.how, q0.halting⟩ : zh) p1.N) (fun x259 => some (.error (x259.1, (⟨x259.2.code, x259.2.pc, x259.2.regs, x259.2.words, x259.2.input, x259.2.out, x259.2.how, x259.2.halting⟩ : zh)))) fun c255 => zbP c255.code c255.pc c255.regs c255.words c255.input c255.out c255.how c255.halting else (if ((p1.Kind.toNat : Int) == 15) = true then zba (zjl (⟨q0.code, q0.pc, q0.regs, q0.words, q0.input, q0.out, q0.how, q0.halting⟩ : zh)) (fun x304 => some (.error (x304.1, (⟨x304.2.code, x304.2.pc, x304.2.regs, x304.2.words, x304.2.input, x304.2.out, x304.2.how, x304.2.halting⟩ : zh)))) fun c300 => zbP c300.2.code c300.2.pc (zv c300.2.regs y4 c300.1) c300.2.words c300.2.input c300.2.out c300.2.how c300.2.halting else (if ((p1.Kind.toNat : Int) == 16) = true then (room (q0.out.length + ([(q0.regs y4)] : List Int).length)).bind fun _ => zbP q0.code q0.pc q0.regs q0.words q0.input (q0.out ++ ([(q0.regs y4)] : List Int)) q0.how q0.halting else zbP q0.code q0.pc q0.regs q0.words q0.input q0.out q0.how q0.halting))))
def zco (q0 : zh) (p1 : zf) (y4 : Nat) (x213 : Bool) : Option (Except (Value × zh) (zh)) :=
 (if x213 = true then zba (zfU (⟨q0.code, q0.pc, q0.regs, q0.words, q0.input, q0.out, q0.how, q0.halting⟩ : zh) (⟨p1.Kind, p1.Op, p1.R, p1.S, p1.T, p1.N, p1.M⟩ : zf)) (fun x219 => some (.error (x219, (⟨q0.code, q0.pc, q0.regs, q0.words, q0.input, q0.out, q0.how, q0.halting⟩ : zh)))) fun c215 => (zz q0.words c215).bind fun y224 => zbP q0.code q0.pc (zv q0.regs y4 y224) q0.words q0.input q0.out q0.how q0.halting else (if ((p1.Kind.toNat : Int) == 7) = true then zcp q0 p1 y4 ((p1.Kind.toNat : Int) == 7) else zcp q0 p1 y4 ((p1.Kind.toNat : Int) == 9)))
def zfc (q0 : zh) (p1 : zf) : Option (Except (Value × zh) (zh)) :=
 (zda p1.R 16).bind fun y4 => (zda p1.S 16).bind fun y6 => (if ((p1.Kind.toNat : Int) == 2) = true then zbP q0.code q0.pc (zv q0.regs y4 p1.N) q0.words q0.input q0.out q0.how q0.halting else (if ((p1.Kind.toNat : Int) == 3) = true then zbP q0.code q0.pc (zv q0.regs y4 (q0.regs y6)) q0.words q0.input q0.out q0.how q0.halting else (if ((p1.Kind.toNat : Int) == 4) = true then (zda p1.T 16).bind fun y197 => zba (zfJ (p1.Op.toNat : Int) (q0.regs y6) (q0.regs y197)) (fun x203 => some (.error (x203, (⟨q0.code, q0.pc, q0.regs, q0.words, q0.input, q0.out, q0.how, q0.halting⟩ : zh)))) fun c199 => zbP q0.code q0.pc (zv q0.regs y4 c199) q0.words q0.input q0.out q0.how q0.halting else (if ((p1.Kind.toNat : Int) == 5) = true then (zdE ((p1.Op.toNat : Int) == 14)).bind fun c208 => zbP q0.code q0.pc (zv q0.regs y4 (IntKind.i64.wrap (c208 - (q0.regs y6)))) q0.words q0.input q0.out q0.how q0.halting else (if ((p1.Kind.toNat : Int) == 6) = true then zco q0 p1 y4 ((p1.Kind.toNat : Int) == 6) else zco q0 p1 y4 ((p1.Kind.toNat : Int) == 8))))))
def zgR (q0 : zh) (p1 : zf) (p2 : Int) : Option (Except (Value × zh) (Int × zh)) :=
 (if ((p1.Kind.toNat : Int) == 10) = true then some (.ok (p1.N, (⟨q0.code, q0.pc, q0.regs, q0.words, q0.input, q0.out, q0.how, q0.halting⟩ : zh))) else (if ((p1.Kind.toNat : Int) == 11) = true then (zda p1.R 16).bind fun y7 => (if ((q0.regs y7) == 0) = true then some (.ok (p1.N, (⟨q0.code, q0.pc, q0.regs, q0.words, q0.input, q0.out, q0.how, q0.halting⟩ : zh))) else some (.ok (p2, (⟨q0.code, q0.pc, q0.regs, q0.words, q0.input, q0.out, q0.how, q0.halting⟩ : zh)))) else (if ((p1.Kind.toNat : Int) == 12) = true then zba (zjw (⟨q0.code, q0.pc, q0.regs, q0.words, q0.input, q0.out, q0.how, q0.halting⟩ : zh) p1.N p2) (fun x15 => some (.error (x15.1, (⟨x15.2.code, x15.2.pc, x15.2.regs, x15.2.words, x15.2.input, x15.2.out, x15.2.how, x15.2.halting⟩ : zh)))) fun c11 => some (.ok (c11.1, (⟨c11.2.code, c11.2.pc, c11.2.regs, c11.2.words, c11.2.input, c11.2.out, c11.2.how, c11.2.halting⟩ : zh))) else (if ((p1.Kind.toNat : Int) == 13) = true then zba (ziQ (⟨q0.code, q0.pc, q0.regs, q0.words, q0.input, q0.out, q0.how, q0.halting⟩ : zh)) (fun x60 => some (.error (x60.1, (⟨x60.2.code, x60.2.pc, x60.2.regs, x60.2.words, x60.2.input, x60.2.out, x60.2.how, x60.2.halting⟩ : zh)))) fun c56 => some (.ok (c56.1, (⟨c56.2.code, c56.2.pc, c56.2.regs, c56.2.words, c56.2.input, c56.2.out, c56.2.how, c56.2.halting⟩ : zh))) else (if ((p1.Kind.toNat : Int) == 17) = true then (zda p1.R 16).bind fun y101 => zba (zcI 1) (fun x107 => some (.error (x107, (⟨q0.code, q0.pc, q0.regs, q0.words, q0.input, q0.out, q0.how, (q0.regs y101)⟩ : zh)))) fun c103 => zba (zfc (⟨q0.code, q0.pc, q0.regs, q0.words, q0.input, q0.out, q0.how, (q0.regs y101)⟩ : zh) (⟨p1.Kind, p1.Op, p1.R, p1.S, p1.T, p1.N, p1.M⟩ : zf)) (fun x115 => some (.error (x115.1, (⟨x115.2.code, x115.2.pc, x115.2.regs, x115.2.words, x115.2.input, x115.2.out, x115.2.how, x115.2.halting⟩ : zh)))) fun c111 => some (.ok (p2, (⟨c111.code, c111.pc, c111.regs, c111.words, c111.input, c111.out, c111.how, c111.halting⟩ : zh))) else (if ((p1.Kind.toNat : Int) == 18) = true then zba (zcI (IntKind.u8.wrap p1.N)) (fun x160 => some (.error (x160, (⟨q0.code, q0.pc, q0.regs, q0.words, q0.input, q0.out, q0.how, q0.halting⟩ : zh)))) fun c156 => zba (zfc (⟨q0.code, q0.pc, q0.regs, q0.words, q0.input, q0.out, q0.how, q0.halting⟩ : zh) (⟨p1.Kind, p1.Op, p1.R, p1.S, p1.T, p1.N, p1.M⟩ : zf)) (fun x168 => some (.error (x168.1, (⟨x168.2.code, x168.2.pc, x168.2.regs, x168.2.words, x168.2.input, x168.2.out, x168.2.how, x168.2.halting⟩ : zh)))) fun c164 => some (.ok (p2, (⟨c164.code, c164.pc, c164.regs, c164.words, c164.input, c164.out, c164.how, c164.halting⟩ : zh))) else zba (zfc (⟨q0.code, q0.pc, q0.regs, q0.words, q0.input, q0.out, q0.how, q0.halting⟩ : zh) (⟨p1.Kind, p1.Op, p1.R, p1.S, p1.T, p1.N, p1.M⟩ : zf)) (fun x212 => some (.error (x212.1, (⟨x212.2.code, x212.2.pc, x212.2.regs, x212.2.words, x212.2.input, x212.2.out, x212.2.how, x212.2.halting⟩ : zh)))) fun c208 => some (.ok (p2, (⟨c208.code, c208.pc, c208.regs, c208.words, c208.input, c208.out, c208.how, c208.halting⟩ : zh)))))))))
def zhN (q0 : zh) (qf1 : UInt8) (x8 : UInt8) (x9 : UInt8) (x10 : Int) (x11 : Int) (x12 : Int) (x13 : Int) (x14 : Int) (x15 : Int) : Option (Except (Value × zh × UInt8) (zh × UInt8)) :=
 zba (zgR (⟨q0.code, q0.pc, q0.regs, q0.words, q0.input, q0.out, q0.how, q0.halting⟩ : zh) (⟨x8, x9, x10, x11, x12, x13, x14⟩ : zf) x15) (fun x30 => some (.error (x30.1, (⟨x30.2.code, x30.2.pc, x30.2.regs, x30.2.words, x30.2.input, x30.2.out, x30.2.how, x30.2.halting⟩ : zh), qf1))) fun c26 => some (.ok ((⟨c26.2.code, c26.1, c26.2.regs, c26.2.words, c26.2.input, c26.2.out, c26.2.how, c26.2.halting⟩ : zh), c26.2.how))
def ziO (q0 : zh) (qf1 : UInt8) (x8 : UInt8) (x9 : UInt8) (x10 : Int) (x11 : Int) (x12 : Int) (x13 : Int) (x14 : Int) (x15 : Int) (x16 : Int) : Option (Except (Value × zh × UInt8) (zh × UInt8)) :=
 (if (x16 != 0) = true then zba (zcI 5) (fun x75 => some (.error (x75, (⟨q0.code, q0.pc, q0.regs, q0.words, q0.input, q0.out, q0.how, q0.halting⟩ : zh), qf1))) fun c71 => zhN q0 qf1 x8 x9 x10 x11 x12 x13 x14 x15 else zhN q0 qf1 x8 x9 x10 x11 x12 x13 x14 x15)
def zgY (q0 : zh) (qf1 : UInt8) : Option (Except (Value × zh × UInt8) (zh × UInt8)) :=
 (zc2 q0.code q0.pc).bind fun c79 => ziO q0 qf1 c79.1.Kind c79.1.Op c79.1.R c79.1.S c79.1.T c79.1.N c79.1.M c79.2.1 c79.2.2
def ziI (qf0 : zh) (qf1 : UInt8) (k5 : UInt8) : Option (zh × UInt8) :=
 some ((⟨qf0.code, qf0.pc, qf0.regs, qf0.words, qf0.input, qf0.out, k5, qf0.halting⟩ : zh), k5)
def zeq : Value → Option UInt8
 | .iface 59 (.int .u8 n) => if 0 ≤ n ∧ n < 256 then some (UInt8.ofNat n.toNat) else none
 | _ => none
def zdl (q0 : zh) : Option (Int × zh) :=
 (if ((q0.how.toNat : Int) != 0) = true then some ((q0.how.toNat : Int), q0) else match zgY q0 0 with
  | none => none
  | some (.ok c) => some ((c.2.toNat : Int), c.1)
  | some (.error c) => (zeq c.1).bind fun k => (ziI c.2.1 c.2.2 k).bind fun c => some ((c.2.toNat : Int), c.1))
def zjK (rec4 : (List UInt8) → Int → (Nat → Int) → (List Int) → (List Int) → (List Int) → UInt8 → Int → Int → Option (Int × Int × zh))  (x39 : List UInt8) (x41 : Int) (x42 : (Nat → Int)) (x46 : List Int) (x50 : List Int) (x55 : List Int) (x57 : UInt8) (x58 : Int) (x59 : Int) : Option (Int × Int × zh) :=
 ((if (decide (x59 > 0)) = true then (zdD (⟨x39, x41, x42, x46, x50, x55, x57, x58⟩ : zh)).bind fun c98 => some (c98 == 0) else some false)).bind fun c95 => (if c95 = true then (zdl (⟨x39, x41, x42, x46, x50, x55, x57, x58⟩ : zh)).bind fun c103 => rec4 c103.2.code c103.2.pc c103.2.regs c103.2.words c103.2.input c103.2.out c103.2.how c103.2.halting (IntKind.i64.wrap (x59 - 1)) else (zdD (⟨x39, x41, x42, x46, x50, x55, x57, x58⟩ : zh)).bind fun c125 => some (c125, x59, (⟨x39, x41, x42, x46, x50, x55, x57, x58⟩ : zh)))
def zig  : Nat → (List UInt8) → Int → (Nat → Int) → (List Int) → (List Int) → (List Int) → UInt8 → Int → Int → Option (Int × Int × zh)
 | 0, _, _, _, _, _, _, _, _, _ => none
 | n + 1, x39, x41, x42, x46, x50, x55, x57, x58, x59 => zjK (zig  n)  x39 x41 x42 x46 x50 x55 x57 x58 x59
def ziG (q0 : zh) (p1 : Int) : Option (Int × Int × zh) :=
 zig  big q0.code q0.pc q0.regs q0.words q0.input q0.out q0.how q0.halting (zdy 0 p1)
def zdR (q0 : zh) : Option (List Int) :=
 (zeg q0.out).bind fun c2 => some c2
def zfz (q0 : zh) : Option (Int × Bool) :=
 (zdD (⟨q0.code, q0.pc, q0.regs, q0.words, q0.input, q0.out, q0.how, q0.halting⟩ : zh)).bind fun c2 => (if (c2 != 1) = true then some (0, false) else some (q0.halting, true))
def ze8  : Option Bool :=
 (zfL ([(2 : UInt8), (1 : UInt8), (7 : UInt8), (16 : UInt8), (1 : UInt8), (17 : UInt8), (1 : UInt8)] : List UInt8) 0 10 []).bind fun c5 => zff c5.1 (if ((c5.2 != 0) || true) = true then some false else none) fun m9 => (if ((c5.2 != 0) || false) = true then some false else (ziG (⟨m9.code, m9.pc, m9.regs, m9.words, m9.input, m9.out, m9.how, m9.halting⟩ : zh) 2).bind fun c38 => (ziG (⟨c38.2.2.code, c38.2.2.pc, c38.2.2.regs, c38.2.2.words, c38.2.2.input, c38.2.2.out, c38.2.2.how, c38.2.2.halting⟩ : zh) 5).bind fun c60 => (zfz (⟨c60.2.2.code, c60.2.2.pc, c60.2.2.regs, c60.2.2.words, c60.2.2.input, c60.2.2.out, c60.2.2.how, c60.2.2.halting⟩ : zh)).bind fun c82 => (zdR (⟨c60.2.2.code, c60.2.2.pc, c60.2.2.regs, c60.2.2.words, c60.2.2.input, c60.2.2.out, c60.2.2.how, c60.2.2.halting⟩ : zh)).bind fun c86 => ((if (((((((c38.1 == 0) && (c38.2.1 == 0)) && (c60.1 == 1)) && (c60.2.1 == 4)) && c82.2) && (c82.1 == 7)) && ((c86.length : Int) == 1)) = true then (zz c86 0).bind fun y98 => some (y98 == 7) else some false)).bind fun c95 => some c95)
def ze6 (rec4 : (List UInt8) → Int → Option (List UInt8)) (p0 : (List UInt8)) (x17 : List UInt8) (x19 : Int) : Option (List UInt8) :=
 (if (decide (x19 < (p0.length : Int))) = true then (zz p0 x19).bind fun y33 => (room (x17.length + 1)).bind fun _ => rec4 (x17 ++ [y33]) (IntKind.i64.wrap (x19 + 1)) else some x17)
def zfv (p0 : (List UInt8)) : Nat → (List UInt8) → Int → Option (List UInt8)
 | 0, _, _ => none
 | n + 1, x17, x19 => ze6 (zfv p0 n) p0 x17 x19
def zeF (p0 : (List UInt8)) : Option (List UInt8) :=
 zfv p0 big ([]) 0
def zbL (p0 : Int) : Option (ByteArray × Bool) :=
 (if ((decide (p0 < 1)) || (decide ((IntKind.i64.wrap p0) > (([(⟨#[]⟩ : ByteArray), (⟨#[114, 110]⟩ : ByteArray), (⟨#[97]⟩ : ByteArray), (⟨#[111, 97, 116]⟩ : ByteArray), (⟨#[111, 97]⟩ : ByteArray), (⟨#[97, 110]⟩ : ByteArray), (⟨#[97, 110]⟩ : ByteArray), (⟨#[97, 116, 110, 109]⟩ : ByteArray), (⟨#[97, 116, 110, 109]⟩ : ByteArray), (⟨#[106]⟩ : ByteArray), (⟨#[114, 106]⟩ : ByteArray), (⟨#[106]⟩ : ByteArray), (⟨#[]⟩ : ByteArray), (⟨#[110]⟩ : ByteArray), (⟨#[114]⟩ : ByteArray), (⟨#[114]⟩ : ByteArray), (⟨#[114]⟩ : ByteArray), (⟨#[107]⟩ : ByteArray)] : List ByteArray).length : Int)))) = true then some ((⟨#[]⟩ : ByteArray), false) else (zz ([(⟨#[]⟩ : ByteArray), (⟨#[114, 110]⟩ : ByteArray), (⟨#[97]⟩ : ByteArray), (⟨#[111, 97, 116]⟩ : ByteArray), (⟨#[111, 97]⟩ : ByteArray), (⟨#[97, 110]⟩ : ByteArray), (⟨#[97, 110]⟩ : ByteArray), (⟨#[97, 116, 110, 109]⟩ : ByteArray), (⟨#[97, 116, 110, 109]⟩ : ByteArray), (⟨#[106]⟩ : ByteArray), (⟨#[114, 106]⟩ : ByteArray), (⟨#[106]⟩ : ByteArray), (⟨#[]⟩ : ByteArray), (⟨#[110]⟩ : ByteArray), (⟨#[114]⟩ : ByteArray), (⟨#[114]⟩ : ByteArray), (⟨#[114]⟩ : ByteArray), (⟨#[107]⟩ : ByteArray)] : List ByteArray) (IntKind.u8.wrap (p0 - 1))).bind fun y7 => some (y7, true))
def zes (p0 : Int) (p1 : Bool) : Option Bool :=
 ((if (p0 == 0) = true then some true else (if p1 = true then (if (decide (p0 > 0)) = true then some (decide (p0 < 16)) else some false) else (if false = true then some (decide (p0 < 16)) else some false)))).bind fun c3 => some c3
def zhO (rec4 : Int → Option Bool) (p0 : ByteArray) (p1 : Int) (x7 : Int) : Option Bool :=
 (if (decide (x7 < (p0.size : Int))) = true then (zde p0 x7).bind fun y14 => (if ((y14.toNat : Int) == p1) = true then some true else rec4 (IntKind.i64.wrap (x7 + 1))) else some false)
def zhl (p0 : ByteArray) (p1 : Int) : Nat → Int → Option Bool
 | 0, _ => none
 | n + 1, x7 => zhO (zhl p0 p1 n) p0 p1 x7
def zn (p0 : ByteArray) (p1 : Int) : Option Bool :=
 zhl p0 p1 big 0
def zbT (p0 : zf) (c3 : ByteArray × Bool) : Option Bool :=
 (if ((p0.Kind.toNat : Int) == 2) = true then some true else (zn c3.1 110).bind fun c73 => (if c73 = true then some ((decide (p0.N ≥ (-65536))) && (decide (p0.N ≤ 65536))) else (zn c3.1 106).bind fun c78 => (if c78 = true then some ((decide (p0.N ≥ 0)) && (decide (p0.N < 16777216))) else (zn c3.1 107).bind fun c83 => (if c83 = true then some ((decide (p0.N ≥ 2)) && (decide (p0.N ≤ 4))) else some (p0.N == 0)))))
def zbd (p0 : zf) : Option Bool :=
 (zbL (p0.Kind.toNat : Int)).bind fun c3 => ((if (!c3.2) = true then some true else (zn c3.1 114).bind fun c10 => (if c10 = true then (zes p0.R true).bind fun c15 => some (!c15) else (zn c3.1 97).bind fun c19 => (zes p0.R c19).bind fun c23 => some (!c23)))).bind fun c7 => ((if c7 = true then some true else (zn c3.1 97).bind fun c30 => (zes p0.S c30).bind fun c34 => some (!c34))).bind fun c27 => ((if c27 = true then some true else (zn c3.1 116).bind fun c41 => (zes p0.T c41).bind fun c45 => some (!c45))).bind fun c38 => (if c38 = true then some false else (zn c3.1 109).bind fun c50 => ((if c50 = true then (if (decide (p0.M < 1)) = true then some true else some (decide (p0.M > 65536))) else some false)).bind fun c54 => ((if c54 = true then some true else (zn c3.1 109).bind fun c61 => (if (!c61) = true then some (p0.M != 0) else some false))).bind fun c58 => (if c58 = true then some false else (if ((p0.Kind.toNat : Int) == 4) = true then (if ((decide ((p0.Op.toNat : Int) < 1)) || (decide ((p0.Op.toNat : Int) > 13))) = true then some false else zbT p0 c3) else (if ((p0.Kind.toNat : Int) == 5) = true then (if (((p0.Op.toNat : Int) != 14) && ((p0.Op.toNat : Int) != 15)) = true then some false else zbT p0 c3) else (if ((p0.Op.toNat : Int) != 0) = true then some false else zbT p0 c3)))))
def zgV (rec4 : Int → Option (Int × Bool)) (p0 : Int) (p1 : Int) (x5 : Int) : Option (Int × Bool) :=
 (if (decide (x5 < 256)) = true then (if (((IntKind.i64.wrap (Int.tdiv x5 16)) == p0) && ((Int.tmod x5 16) == p1)) = true then some ((IntKind.u8.wrap x5), true) else rec4 (IntKind.i64.wrap (x5 + 1))) else some (0, false))
def zgD (p0 : Int) (p1 : Int) : Nat → Int → Option (Int × Bool)
 | 0, _ => none
 | n + 1, x5 => zgV (zgD p0 p1 n) p0 p1 x5
def zhp (p0 : Int) (p1 : Int) : Option (Int × Bool) :=
 zgD p0 p1 big 0
def zgn (p0 : Int) (p1 : Int) : Option Bool :=
 (if (decide ((IntKind.i64.wrap ((IntKind.i64.wrap (7 * p1)) - 1)) ≥ 63)) = true then some true else (zb6 .i64 1 (IntKind.u64.wrap (IntKind.i64.wrap ((IntKind.i64.wrap (7 * p1)) - 1)))).bind fun y4 => ((if (decide (p0 ≥ (IntKind.i64.wrap (0 - y4)))) = true then (zb6 .i64 1 (IntKind.u64.wrap (IntKind.i64.wrap ((IntKind.i64.wrap (7 * p1)) - 1)))).bind fun y9 => some (decide (p0 < y9)) else some false)).bind fun c6 => some c6)
def zhA (rec9 : Int → (List UInt8) → Int → Option (List UInt8)) (p3 : Int) (x41 : Int) (x47 : Int) (x73 : Int) (x77 : List UInt8) : Option (List UInt8) :=
 (if (decide (x47 < (IntKind.i64.wrap (p3 - 1)))) = true then (u8o (IntKind.u8.wrap (IntKind.u64.wrap ((Int.tmod x41 128) + 128)))).bind fun z80 => (room (x77.length + 1)).bind fun _ => rec9 x73 (x77 ++ [z80]) (IntKind.i64.wrap (x47 + 1)) else (u8o (IntKind.u8.wrap (Int.tmod x41 128))).bind fun z86 => (room (x77.length + 1)).bind fun _ => rec9 x73 (x77 ++ [z86]) (IntKind.i64.wrap (x47 + 1)))
def zhr (rec9 : Int → (List UInt8) → Int → Option (List UInt8)) (p2 : Bool) (p3 : Int) (x41 : Int) (x45 : List UInt8) (x47 : Int) : Option (List UInt8) :=
 (if (decide (x47 < p3)) = true then (if p2 = true then zhA rec9 p3 x41 x47 (orI .u64 (IntKind.u64.wrap (Int.tdiv x41 128)) 18302628885633695744) x45 else zhA rec9 p3 x41 x47 (IntKind.u64.wrap (Int.tdiv x41 128)) x45) else some x45)
def zen (p2 : Bool) (p3 : Int) : Nat → Int → (List UInt8) → Int → Option (List UInt8)
 | 0, _, _, _ => none
 | n + 1, x41, x45, x47 => zhr (zen p2 p3 n) p2 p3 x41 x45 x47
def zgi (p0 : (List UInt8)) (p1 : Int) (p2 : Bool) (p3 : Int) : Option (List UInt8) :=
 (zeF p0).bind fun c5 => zen p2 p3 big p1 c5 0
def zhn (rec4 : Int → Option (List UInt8)) (p0 : (List UInt8)) (p1 : Int) (x17 : Int) : Option (List UInt8) :=
 (zgn p1 x17).bind fun c33 => (if (!c33) = true then rec4 (IntKind.i64.wrap (x17 + 1)) else (zgi p0 (IntKind.u64.wrap p1) (decide (p1 < 0)) x17).bind fun c38 => some c38)
def zhh (p0 : (List UInt8)) (p1 : Int) : Nat → Int → Option (List UInt8)
 | 0, _ => none
 | n + 1, x17 => zhn (zhh p0 p1 n) p0 p1 x17
def zfi (p0 : (List UInt8)) (p1 : Int) : Option (List UInt8) :=
 zhh p0 p1 big 1
def zhR (p0 : Int) (p1 : Int) : Option Bool :=
 ((if (decide ((IntKind.i64.wrap (7 * p1)) ≥ 64)) = true then some true else (zb6 .u64 1 (IntKind.u64.wrap (IntKind.i64.wrap (7 * p1)))).bind fun y6 => some (decide (p0 < y6)))).bind fun c3 => some c3
def zgu (rec4 : Int → Option (List UInt8)) (p0 : (List UInt8)) (p1 : Int) (x17 : Int) : Option (List UInt8) :=
 (zhR p1 x17).bind fun c33 => (if (!c33) = true then rec4 (IntKind.i64.wrap (x17 + 1)) else (zgi p0 p1 false x17).bind fun c38 => some c38)
def zhY (p0 : (List UInt8)) (p1 : Int) : Nat → Int → Option (List UInt8)
 | 0, _ => none
 | n + 1, x17 => zgu (zhY p0 p1 n) p0 p1 x17
def zfS (p0 : (List UInt8)) (p1 : Int) : Option (List UInt8) :=
 zhY p0 p1 big 1
def zhJ (p0 : (List UInt8)) (p1 : Int) : Option ((List UInt8) × Int) :=
 (if ((decide (p1 < 0)) || (decide (p1 ≥ 16777216))) = true then some ([], 1) else (room (([] : List UInt8).length + p0.length)).bind fun _ => (u8o (IntKind.u8.wrap (IntKind.i64.wrap (Int.tdiv p1 65536)))).bind fun z13 => (u8o (IntKind.u8.wrap (Int.tmod (IntKind.i64.wrap (Int.tdiv p1 256)) 256))).bind fun z14 => (u8o (IntKind.u8.wrap (Int.tmod p1 256))).bind fun z15 => (room ((([] : List UInt8) ++ p0).length + ([z13, z14, z15] : List UInt8).length)).bind fun _ => some (((([] : List UInt8) ++ p0) ++ ([z13, z14, z15] : List UInt8)), 0))
def ziJ (rec19 : (List UInt8) → Int → Option (List UInt8)) (x353 : Int) (x830 : List UInt8) : Option (List UInt8) :=
 rec19 x830 (IntKind.i64.wrap (x353 + 1))
def zdd (rec19 : (List UInt8) → Int → Option (List UInt8)) (x353 : Int) (x911 : List UInt8) : Option (List UInt8) :=
 ziJ rec19 x353 x911
def zhX (rec19 : (List UInt8) → Int → Option (List UInt8)) (p1 : zf) (c23 : ByteArray × Bool) (x351 : List UInt8) (x353 : Int) : Option (List UInt8) :=
 (if (decide (x353 < (c23.1.size : Int))) = true then (zde c23.1 x353).bind fun y832 => (if ((y832.toNat : Int) == 111) = true then (room (x351.length + 1)).bind fun _ => zdd rec19 x353 (x351 ++ [p1.Op]) else (if ((y832.toNat : Int) == 114) = true then (u8o (IntKind.u8.wrap p1.R)).bind fun z920 => (room (x351.length + 1)).bind fun _ => zdd rec19 x353 (x351 ++ [z920]) else (if ((y832.toNat : Int) == 97) = true then (zhp p1.R p1.S).bind fun c927 => (u8o c927.1).bind fun z931 => (room (x351.length + 1)).bind fun _ => zdd rec19 x353 (x351 ++ [z931]) else (if ((y832.toNat : Int) == 116) = true then (u8o (IntKind.u8.wrap p1.T)).bind fun z938 => (room (x351.length + 1)).bind fun _ => zdd rec19 x353 (x351 ++ [z938]) else (if ((y832.toNat : Int) == 110) = true then (zfi x351 p1.N).bind fun c947 => zdd rec19 x353 c947 else (if ((y832.toNat : Int) == 109) = true then (zfS x351 (IntKind.u64.wrap p1.M)).bind fun c959 => zdd rec19 x353 c959 else (if ((y832.toNat : Int) == 106) = true then (zhJ x351 p1.N).bind fun c971 => zdd rec19 x353 c971.1 else (if ((y832.toNat : Int) == 107) = true then (u8o (IntKind.u8.wrap p1.N)).bind fun z981 => (room (x351.length + 1)).bind fun _ => zdd rec19 x353 (x351 ++ [z981]) else zdd rec19 x353 x351)))))))) else some x351)
def zew (p1 : zf) (c23 : ByteArray × Bool) : Nat → (List UInt8) → Int → Option (List UInt8)
 | 0, _, _ => none
 | n + 1, x351, x353 => zhX (zew p1 c23 n) p1 c23 x351 x353
def ze9 (p0 : (List UInt8)) (p1 : zf) : Option (List UInt8) :=
 (zeF p0).bind fun c4 => (zbd (⟨p1.Kind, p1.Op, p1.R, p1.S, p1.T, p1.N, p1.M⟩ : zf)).bind fun c13 => (if (!c13) = true then some c4 else (room (c4.length + 1)).bind fun _ => (zbL (p1.Kind.toNat : Int)).bind fun c23 => zew p1 c23 big (c4 ++ [p1.Kind]) 0)
def zgM (rec4 : (List UInt8) → Int → Option (List UInt8)) (p0 : zbs) (x31 : List UInt8) (x33 : Int) : Option (List UInt8) :=
 (if (decide (x33 < (p0.Code.length : Int))) = true then (zz p0.Code x33).bind fun y51 => (ze9 x31 (⟨y51.Kind, y51.Op, y51.R, y51.S, y51.T, y51.N, y51.M⟩ : zf)).bind fun c56 => rec4 c56 (IntKind.i64.wrap (x33 + 1)) else some x31)
def zg3 (p0 : zbs) : Nat → (List UInt8) → Int → Option (List UInt8)
 | 0, _, _ => none
 | n + 1, x31, x33 => zgM (zg3 p0 n) p0 x31 x33
def zf7 (p0 : zbs) : Option (List UInt8) :=
 (room (([] : List UInt8).length + p0.Bytes.length)).bind fun _ => zg3 p0 big (([] : List UInt8) ++ p0.Bytes) 0
def zem (q0 : zh) : Option (List Int) :=
 (zeg q0.words).bind fun c2 => some c2
def zd5 (q0 : zh) : Option (List Int) :=
 (zeg ((List.range 16).map q0.regs)).bind fun c2 => some c2
def zfO (q0 : zh) : Option Int :=
 some q0.pc
def zif (q0 : zh) : Option Int :=
 some (q0.input.length : Int)
def zho (rec4 : Int → Option Bool) (p0 : (List Int)) (p1 : (List Int)) (x16 : Int) : Option Bool :=
 (if (decide (x16 < (p0.length : Int))) = true then (zz p0 x16).bind fun y31 => (zz p1 x16).bind fun y36 => (if (y31 != y36) = true then some false else rec4 (IntKind.i64.wrap (x16 + 1))) else some true)
def zh8 (p0 : (List Int)) (p1 : (List Int)) : Nat → Int → Option Bool
 | 0, _ => none
 | n + 1, x16 => zho (zh8 p0 p1 n) p0 p1 x16
def zdk (p0 : (List Int)) (p1 : (List Int)) : Option Bool :=
 (if ((p0.length : Int) != (p1.length : Int)) = true then some false else zh8 p0 p1 big 0)
def zqP (rec52 : (List Int) → Int → Option Bool) (c190 : Int × Int × zh) (c216 : Int × Int × zh) (c326 : Bool) (x3364 : List Int) (x3367 : Int) : Option Bool :=
 (if (decide (x3367 < (x3364.length : Int))) = true then (zz x3364 x3367).bind fun y3469 => (zz x3364 x3367).bind fun y3476 => rec52 (x3364.set (Int.toNat x3367) (IntKind.i64.wrap (y3469 + 1))) (IntKind.i64.wrap (x3367 + 1)) else ((if c326 = true then (zem (⟨c190.2.2.code, c190.2.2.pc, c190.2.2.regs, c190.2.2.words, c190.2.2.input, c190.2.2.out, c190.2.2.how, c190.2.2.halting⟩ : zh)).bind fun c3488 => (zem (⟨c216.2.2.code, c216.2.2.pc, c216.2.2.regs, c216.2.2.words, c216.2.2.input, c216.2.2.out, c216.2.2.how, c216.2.2.halting⟩ : zh)).bind fun c3497 => (zdk c3488 c3497).bind fun c3506 => some c3506 else some false)).bind fun c3485 => ((if c3485 = true then (zd5 (⟨c190.2.2.code, c190.2.2.pc, c190.2.2.regs, c190.2.2.words, c190.2.2.input, c190.2.2.out, c190.2.2.how, c190.2.2.halting⟩ : zh)).bind fun c3513 => (zd5 (⟨c216.2.2.code, c216.2.2.pc, c216.2.2.regs, c216.2.2.words, c216.2.2.input, c216.2.2.out, c216.2.2.how, c216.2.2.halting⟩ : zh)).bind fun c3522 => (zdk c3513 c3522).bind fun c3531 => some c3531 else some false)).bind fun c3510 => ((if c3510 = true then (zdR (⟨c190.2.2.code, c190.2.2.pc, c190.2.2.regs, c190.2.2.words, c190.2.2.input, c190.2.2.out, c190.2.2.how, c190.2.2.halting⟩ : zh)).bind fun c3538 => (zdR (⟨c216.2.2.code, c216.2.2.pc, c216.2.2.regs, c216.2.2.words, c216.2.2.input, c216.2.2.out, c216.2.2.how, c216.2.2.halting⟩ : zh)).bind fun c3547 => (zdk c3538 c3547).bind fun c3556 => some c3556 else some false)).bind fun c3535 => ((if c3535 = true then (ze8 ).bind fun c3563 => some c3563 else some false)).bind fun c3560 => some c3560)
def zqe (c190 : Int × Int × zh) (c216 : Int × Int × zh) (c326 : Bool) : Nat → (List Int) → Int → Option Bool
 | 0, _, _ => none
 | n + 1, x3364, x3367 => zqP (zqe c190 c216 c326 n) c190 c216 c326 x3364 x3367
def zjq (p1 : Int) (p2 : Int) (p3 : (List Int)) (x34 : List UInt8) (x39 : List Int) (x44 : List Int) : Option ((Option zQ) × Int) :=
 (room (([] : List Int).length + p3.length)).bind fun _ => (zz x39 15).bind fun y55 => some ((some (⟨x34, p1, (x39.set (Int.toNat 15) p2), x44, (([] : List Int) ++ p3), ([] : List Int), (0 : UInt8), 0⟩ : zQ)), 0)
def zgj (p0 : (List UInt8)) (p1 : Int) (p2 : Int) (p3 : (List Int)) : Option ((Option zQ) × Int) :=
 (if (((((decide ((p0.length : Int) > 1048576)) || (decide (p1 < 0))) || (decide (p1 > (p0.length : Int)))) || (decide (p2 < 1))) || (decide (p2 > 65536))) = true then some (none, 1) else (zeF p0).bind fun c65 => (mkI 0 16 16).bind fun y74 => (mkI 0 p2 p2).bind fun y81 => zjq p1 p2 p3 c65 y74 y81)
def zeO (q0 : zh) (q1 : zQ) : Option Bool :=
 (zfz (⟨q0.code, q0.pc, q0.regs, q0.words, q0.input, q0.out, q0.how, q0.halting⟩ : zh)).bind fun c3 => ((if (!(c3.2 == ((q1.How.toNat : Int) == 1))) = true then some true else (if c3.2 = true then some (c3.1 != q1.Final) else some false))).bind fun c7 => ((if c7 = true then some true else (if (!c3.2) = true then some (c3.1 != 0) else some false))).bind fun c11 => (if c11 = true then some false else (zdD (⟨q0.code, q0.pc, q0.regs, q0.words, q0.input, q0.out, q0.how, q0.halting⟩ : zh)).bind fun c16 => ((if (c16 == (q1.How.toNat : Int)) = true then (zfO (⟨q0.code, q0.pc, q0.regs, q0.words, q0.input, q0.out, q0.how, q0.halting⟩ : zh)).bind fun c23 => some (c23 == q1.Pc) else some false)).bind fun c20 => ((if c20 = true then (zif (⟨q0.code, q0.pc, q0.regs, q0.words, q0.input, q0.out, q0.how, q0.halting⟩ : zh)).bind fun c30 => some (c30 == (q1.In.length : Int)) else some false)).bind fun c27 => ((if c27 = true then (zd5 (⟨q0.code, q0.pc, q0.regs, q0.words, q0.input, q0.out, q0.how, q0.halting⟩ : zh)).bind fun c37 => (zdk c37 q1.R).bind fun c46 => some c46 else some false)).bind fun c34 => ((if c34 = true then (zem (⟨q0.code, q0.pc, q0.regs, q0.words, q0.input, q0.out, q0.how, q0.halting⟩ : zh)).bind fun c53 => (zdk c53 q1.W).bind fun c62 => some c62 else some false)).bind fun c50 => ((if c50 = true then (zdR (⟨q0.code, q0.pc, q0.regs, q0.words, q0.input, q0.out, q0.how, q0.halting⟩ : zh)).bind fun c69 => (zdk c69 q1.Out).bind fun c78 => some c78 else some false)).bind fun c66 => some c66)
def zez (p0 : (List UInt8)) (p1 : Int) (p2 : Int) : Option Int :=
 (if ((decide (p1 < 0)) || (decide (p1 > (p0.length : Int)))) = true then some 1 else (if (decide ((IntKind.i64.wrap ((p0.length : Int) - p1)) < p2)) = true then some 5 else some 0))
def zeD (p0 : (List UInt8)) (p1 : Int) : Option (Int × Int × Int) :=
 (zez p0 p1 1).bind fun c3 => (if (c3 != 0) = true then some (0, 0, c3) else (zz p0 p1).bind fun y8 => some ((y8.toNat : Int), (IntKind.i64.wrap (p1 + 1)), 0))
def zhj (rec4 : Int → Option Int) (p0 : (List UInt8)) (p1 : Int) (x10 : Int) : Option Int :=
 (if ((decide (x10 < 10)) && (decide ((IntKind.i64.wrap (p1 + x10)) < (p0.length : Int)))) = true then (zz p0 (IntKind.i64.wrap (p1 + x10))).bind fun y20 => (if (decide ((y20.toNat : Int) < 128)) = true then some (IntKind.i64.wrap (x10 + 1)) else rec4 (IntKind.i64.wrap (x10 + 1))) else some 0)
def zh3 (p0 : (List UInt8)) (p1 : Int) : Nat → Int → Option Int
 | 0, _ => none
 | n + 1, x10 => zhj (zh3 p0 p1 n) p0 p1 x10
def zgH (p0 : (List UInt8)) (p1 : Int) : Option Int :=
 zh3 p0 p1 big 0
def zib (rec4 : Int → Int → Option Int) (p0 : (List UInt8)) (p1 : Int) (x10 : Int) (x11 : Int) : Option Int :=
 (if (decide (x11 ≥ 0)) = true then (zz p0 (IntKind.i64.wrap (p1 + x11))).bind fun y20 => rec4 (IntKind.u64.wrap ((IntKind.u64.wrap (128 * x10)) + (IntKind.u64.wrap (Int.tmod (y20.toNat : Int) 128)))) (IntKind.i64.wrap (x11 - 1)) else some x10)
def zgX (p0 : (List UInt8)) (p1 : Int) : Nat → Int → Int → Option Int
 | 0, _, _ => none
 | n + 1, x10, x11 => zib (zgX p0 p1 n) p0 p1 x10 x11
def zgg (p0 : (List UInt8)) (p1 : Int) (p2 : Int) : Option Int :=
 zgX p0 p1 big 0 (IntKind.i64.wrap (p2 - 1))
def zhs (rec4 : Int → Option Bool) (p0 : (List UInt8)) (p1 : Int) (p2 : (List UInt8)) (x17 : Int) : Option Bool :=
 (if (decide (x17 < (p2.length : Int))) = true then (zz p0 (IntKind.i64.wrap (p1 + x17))).bind fun y32 => (zz p2 x17).bind fun y37 => (if ((y32.toNat : Int) != (y37.toNat : Int)) = true then some false else rec4 (IntKind.i64.wrap (x17 + 1))) else some true)
def zh6 (p0 : (List UInt8)) (p1 : Int) (p2 : (List UInt8)) : Nat → Int → Option Bool
 | 0, _ => none
 | n + 1, x17 => zhs (zh6 p0 p1 p2 n) p0 p1 p2 x17
def zfB (p0 : (List UInt8)) (p1 : Int) (p2 : (List UInt8)) : Option Bool :=
 (if (decide ((p2.length : Int) > (IntKind.i64.wrap ((p0.length : Int) - p1)))) = true then some false else zh6 p0 p1 p2 big 0)
def zfw (p0 : (List UInt8)) (p1 : Int) (c4 : Int) (x21 : Int) : Option (Int × Int × Int) :=
 (zfi [] (IntKind.i64.wrap x21)).bind fun c22 => (zfB p0 p1 c22).bind fun c33 => (if (!c33) = true then some (0, 0, 5) else some ((IntKind.i64.wrap x21), (IntKind.i64.wrap (p1 + c4)), 0))
def zf4 (p0 : (List UInt8)) (p1 : Int) : Option (Int × Int × Int) :=
 (if ((decide (p1 < 0)) || (decide (p1 > (p0.length : Int)))) = true then some (0, 0, 1) else (zgH p0 p1).bind fun c4 => (if (c4 == 0) = true then some (0, 0, 5) else (zgg p0 p1 c4).bind fun c9 => (zz p0 (IntKind.i64.wrap ((IntKind.i64.wrap (p1 + c4)) - 1))).bind fun y13 => (if ((decide ((y13.toNat : Int) ≥ 64)) && (decide (c4 < 10))) = true then (zb6 .u64 1 (IntKind.u64.wrap (IntKind.i64.wrap (7 * c4)))).bind fun y39 => zfw p0 p1 c4 (IntKind.u64.wrap (c9 - y39)) else zfw p0 p1 c4 c9)))
def zgd (p0 : (List UInt8)) (p1 : Int) : Option (Int × Int × Int) :=
 (if ((decide (p1 < 0)) || (decide (p1 > (p0.length : Int)))) = true then some (0, 0, 1) else (zgH p0 p1).bind fun c4 => (zgg p0 p1 c4).bind fun c8 => ((if (c4 == 0) = true then some true else (zfS [] c8).bind fun c15 => (zfB p0 p1 c15).bind fun c26 => some (!c26))).bind fun c12 => (if c12 = true then some (0, 0, 5) else some (c8, (IntKind.i64.wrap (p1 + c4)), 0)))
def zfr (p0 : (List UInt8)) (p1 : Int) : Option (Int × Int × Int) :=
 (zez p0 p1 3).bind fun c3 => (if (c3 != 0) = true then some (0, 0, c3) else (zz p0 p1).bind fun y8 => (zz p0 (IntKind.i64.wrap (p1 + 1))).bind fun y13 => (zz p0 (IntKind.i64.wrap (p1 + 2))).bind fun y18 => some ((IntKind.i64.wrap ((IntKind.i64.wrap ((IntKind.i64.wrap (65536 * (IntKind.i64.wrap (y8.toNat : Int)))) + (IntKind.i64.wrap (256 * (IntKind.i64.wrap (y13.toNat : Int)))))) + (IntKind.i64.wrap (y18.toNat : Int)))), (IntKind.i64.wrap (p1 + 3)), 0))
def zcZ (rec14 : Int → Int → Int → Int → Int → Int → Int → Int → Option (zf × Int × Int)) (x139 : Int) (x312 : Int) (x313 : Int) (x314 : Int) (x315 : Int) (x316 : Int) (x317 : Int) (x318 : Int) (x319 : Int) : Option (zf × Int × Int) :=
 (if (x319 != 0) = true then some ((⟨(0 : UInt8), (0 : UInt8), 0, 0, 0, 0, 0⟩ : zf), 0, 5) else rec14 x312 x313 x314 x315 x316 x317 x318 (IntKind.i64.wrap (x139 + 1)))
def zhg (rec14 : Int → Int → Int → Int → Int → Int → Int → Int → Option (zf × Int × Int)) (p0 : (List UInt8)) (c13 : ByteArray × Bool) (x132 : Int) (x133 : Int) (x134 : Int) (x135 : Int) (x136 : Int) (x137 : Int) (x139 : Int) (x287 : Int) (x288 : Int) (x289 : Int) : Option (zf × Int × Int) :=
 (zde c13.1 x139).bind fun y290 => (if ((y290.toNat : Int) == 111) = true then zcZ rec14 x139 x289 x133 x134 x135 x136 x137 x287 x288 else (if ((y290.toNat : Int) == 114) = true then zcZ rec14 x139 x132 (IntKind.i64.wrap x289) x134 x135 x136 x137 x287 x288 else (if ((y290.toNat : Int) == 97) = true then zcZ rec14 x139 x132 (IntKind.i64.wrap (IntKind.u8.wrap (Int.tdiv x289 16))) (IntKind.i64.wrap (Int.tmod x289 16)) x135 x136 x137 x287 x288 else (if ((y290.toNat : Int) == 116) = true then zcZ rec14 x139 x132 x133 x134 (IntKind.i64.wrap x289) x136 x137 x287 x288 else (if ((y290.toNat : Int) == 107) = true then zcZ rec14 x139 x132 x133 x134 x135 (IntKind.i64.wrap x289) x137 x287 x288 else (if ((y290.toNat : Int) == 110) = true then (zf4 p0 x287).bind fun c327 => zcZ rec14 x139 x132 x133 x134 x135 c327.1 x137 c327.2.1 c327.2.2 else (if ((y290.toNat : Int) == 109) = true then (zgd p0 x287).bind fun c332 => zcZ rec14 x139 x132 x133 x134 x135 x136 (IntKind.i64.wrap c332.1) c332.2.1 c332.2.2 else (if ((y290.toNat : Int) == 106) = true then (zfr p0 x287).bind fun c337 => zcZ rec14 x139 x132 x133 x134 x135 c337.1 x137 c337.2.1 c337.2.2 else zcZ rec14 x139 x132 x133 x134 x135 x136 x137 x287 x288))))))))
def zdU (rec14 : Int → Int → Int → Int → Int → Int → Int → Int → Option (zf × Int × Int)) (p0 : (List UInt8)) (p1 : Int) (y7 : UInt8) (c13 : ByteArray × Bool) (x132 : Int) (x133 : Int) (x134 : Int) (x135 : Int) (x136 : Int) (x137 : Int) (x138 : Int) (x139 : Int) : Option (zf × Int × Int) :=
 (if (decide (x139 < (c13.1.size : Int))) = true then (zde c13.1 x139).bind fun y260 => ((if ((y260.toNat : Int) == 111) = true then some true else (zde c13.1 x139).bind fun y265 => some ((y265.toNat : Int) == 114))).bind fun c262 => ((if c262 = true then some true else (zde c13.1 x139).bind fun y270 => some ((y270.toNat : Int) == 97))).bind fun c267 => ((if c267 = true then some true else (zde c13.1 x139).bind fun y275 => some ((y275.toNat : Int) == 116))).bind fun c272 => ((if c272 = true then some true else (zde c13.1 x139).bind fun y280 => some ((y280.toNat : Int) == 107))).bind fun c277 => (if c277 = true then (zeD p0 x138).bind fun c342 => zhg rec14 p0 c13 x132 x133 x134 x135 x136 x137 x139 c342.2.1 c342.2.2 c342.1 else zhg rec14 p0 c13 x132 x133 x134 x135 x136 x137 x139 x138 0 0) else (u8o x132).bind fun z346 => (zbd (⟨y7, z346, x133, x134, x135, x136, x137⟩ : zf)).bind fun c347 => ((if ((!c347) || (decide (x138 > (p0.length : Int)))) = true then some true else (zb5 p0 p1 x138).bind fun y354 => (u8o x132).bind fun z359 => (ze9 [] (⟨y7, z359, x133, x134, x135, x136, x137⟩ : zf)).bind fun c360 => (zep c360 y354).bind fun c371 => some (!c371))).bind fun c351 => (if c351 = true then some ((⟨(0 : UInt8), (0 : UInt8), 0, 0, 0, 0, 0⟩ : zf), 0, 5) else (u8o x132).bind fun z376 => some ((⟨y7, z376, x133, x134, x135, x136, x137⟩ : zf), x138, 0)))
def zcF (p0 : (List UInt8)) (p1 : Int) (y7 : UInt8) (c13 : ByteArray × Bool) : Nat → Int → Int → Int → Int → Int → Int → Int → Int → Option (zf × Int × Int)
 | 0, _, _, _, _, _, _, _, _ => none
 | n + 1, x132, x133, x134, x135, x136, x137, x138, x139 => zdU (zcF p0 p1 y7 c13 n) p0 p1 y7 c13 x132 x133 x134 x135 x136 x137 x138 x139
def zeN (p0 : (List UInt8)) (p1 : Int) : Option (zf × Int × Int) :=
 (if ((decide (p1 < 0)) || (decide (p1 > (p0.length : Int)))) = true then some ((⟨(0 : UInt8), (0 : UInt8), 0, 0, 0, 0, 0⟩ : zf), 0, 1) else (if (p1 == (p0.length : Int)) = true then some ((⟨(0 : UInt8), (0 : UInt8), 0, 0, 0, 0, 0⟩ : zf), 0, 5) else (zz p0 p1).bind fun y7 => (zbL (y7.toNat : Int)).bind fun c13 => zcF p0 p1 y7 c13 big 0 0 0 0 0 0 (IntKind.i64.wrap (p1 + 1)) 0))
def zcC (x27 : Bool) : Option (Int × Bool) :=
 (if x27 = true then some (1, true) else some (0, true))
def zcE (p0 : Int) (p1 : Int) (p2 : Int) (x33 : Bool) : Option (Int × Bool) :=
 (if x33 = true then (if (p2 == 0) = true then some (0, false) else (if ((p2 == (-1)) && (p0 == 4)) = true then some ((IntKind.i64.wrap (0 - p1)), true) else (if (p2 == (-1)) = true then some (0, true) else (if (p0 == 4) = true then (zf9 .i64 p1 p2).bind fun y39 => some (y39, true) else (zfP .i64 p1 p2).bind fun y41 => some (y41, true))))) else (if (p0 == 6) = true then zcC (p1 == p2) else (if (p0 == 7) = true then zcC (p1 != p2) else (if (p0 == 8) = true then zcC (decide (p1 < p2)) else (if (p0 == 9) = true then zcC (decide (p1 ≤ p2)) else (if (p0 == 10) = true then zcC (decide (p1 > p2)) else (if (p0 == 11) = true then zcC (decide (p1 ≥ p2)) else (if (p0 == 12) = true then some ((zcz .i64 p1 p2), true) else (if (p0 == 13) = true then some ((orI .i64 p1 p2), true) else zcC false)))))))))
def zcJ (p0 : Int) (p1 : Int) (p2 : Int) : Option (Int × Bool) :=
 (if (p0 == 1) = true then some ((IntKind.i64.wrap (p1 + p2)), true) else (if (p0 == 2) = true then some ((IntKind.i64.wrap (p1 - p2)), true) else (if (p0 == 3) = true then some ((IntKind.i64.wrap (p1 * p2)), true) else (if (p0 == 4) = true then zcE p0 p1 p2 (p0 == 4) else zcE p0 p1 p2 (p0 == 5)))))
def zjx (p0 : Int) (p1 : Int) : Option Int :=
 (if (p0 == 14) = true then some (IntKind.i64.wrap (1 - p1)) else some (IntKind.i64.wrap (0 - p1)))
def zeJ (q0 : zQ) (p1 : Int) : Option Bool :=
 some ((decide (p1 ≥ 0)) && (decide (p1 < (q0.W.length : Int))))
def zbS (q0 : zQ) (p2 : Int) (x384 : List Int) (x391 : List Int) (x396 : List Int) (x400 : List Int) : Option (Int × zQ) :=
 some (0, (⟨q0.Code, p2, x384, x391, x396, x400, q0.How, q0.Final⟩ : zQ))
def zfK (q0 : zQ) (p1 : zf) (p2 : Int) (x489 : Int) : Option (Int × zQ) :=
 (zeJ (⟨q0.Code, q0.Pc, q0.R, q0.W, q0.In, q0.Out, q0.How, q0.Final⟩ : zQ) x489).bind fun c490 => (if (!c490) = true then some (6, (⟨q0.Code, q0.Pc, q0.R, q0.W, q0.In, q0.Out, q0.How, q0.Final⟩ : zQ)) else (if (((p1.Kind.toNat : Int) == 6) || ((p1.Kind.toNat : Int) == 8)) = true then (zz q0.W x489).bind fun y496 => (zz q0.R p1.R).bind fun y503 => zbS q0 p2 (q0.R.set (Int.toNat p1.R) y496) q0.W q0.In q0.Out else (zz q0.R p1.R).bind fun y512 => (zz q0.W x489).bind fun y519 => zbS q0 p2 q0.R (q0.W.set (Int.toNat x489) y512) q0.In q0.Out))
def zbO (q0 : zQ) (p1 : zf) (p2 : Int) (y5 : Int) (x461 : Bool) : Option (Int × zQ) :=
 (if x461 = true then (if (((p1.Kind.toNat : Int) == 8) || ((p1.Kind.toNat : Int) == 9)) = true then (zz q0.R p1.T).bind fun y529 => ((if (decide (y529 < 0)) = true then some true else (zz q0.R p1.T).bind fun y539 => some (decide (y539 ≥ p1.M)))).bind fun c536 => (if c536 = true then some (3, (⟨q0.Code, q0.Pc, q0.R, q0.W, q0.In, q0.Out, q0.How, q0.Final⟩ : zQ)) else (zz q0.R p1.T).bind fun y547 => zfK q0 p1 p2 (IntKind.i64.wrap ((IntKind.i64.wrap (y5 + p1.N)) + y547))) else zfK q0 p1 p2 (IntKind.i64.wrap (y5 + p1.N))) else (if ((p1.Kind.toNat : Int) == 10) = true then some (0, (⟨q0.Code, p1.N, q0.R, q0.W, q0.In, q0.Out, q0.How, q0.Final⟩ : zQ)) else (if ((p1.Kind.toNat : Int) == 11) = true then (zz q0.R p1.R).bind fun y556 => (if (y556 == 0) = true then some (0, (⟨q0.Code, p1.N, q0.R, q0.W, q0.In, q0.Out, q0.How, q0.Final⟩ : zQ)) else zbS q0 p2 q0.R q0.W q0.In q0.Out) else (if ((p1.Kind.toNat : Int) == 12) = true then (zz q0.R 15).bind fun y565 => (if (decide ((IntKind.i64.wrap (y565 - 1)) < 0)) = true then some (7, (⟨q0.Code, q0.Pc, q0.R, q0.W, q0.In, q0.Out, q0.How, q0.Final⟩ : zQ)) else (zeJ (⟨q0.Code, q0.Pc, q0.R, q0.W, q0.In, q0.Out, q0.How, q0.Final⟩ : zQ) (IntKind.i64.wrap (y565 - 1))).bind fun c573 => (if (!c573) = true then some (6, (⟨q0.Code, q0.Pc, q0.R, q0.W, q0.In, q0.Out, q0.How, q0.Final⟩ : zQ)) else (zz q0.R 15).bind fun y578 => (zz q0.W (IntKind.i64.wrap (y565 - 1))).bind fun y587 => some (0, (⟨q0.Code, p1.N, (q0.R.set (Int.toNat 15) (IntKind.i64.wrap (y565 - 1))), (q0.W.set (Int.toNat (IntKind.i64.wrap (y565 - 1))) p2), q0.In, q0.Out, q0.How, q0.Final⟩ : zQ)))) else (if ((p1.Kind.toNat : Int) == 13) = true then (zz q0.R 15).bind fun y597 => (zeJ (⟨q0.Code, q0.Pc, q0.R, q0.W, q0.In, q0.Out, q0.How, q0.Final⟩ : zQ) y597).bind fun c604 => (if (!c604) = true then some (6, (⟨q0.Code, q0.Pc, q0.R, q0.W, q0.In, q0.Out, q0.How, q0.Final⟩ : zQ)) else (zz q0.W y597).bind fun y609 => ((if (decide (y609 < 0)) = true then some true else (zz q0.W y597).bind fun y619 => some (decide (y619 ≥ 16777216)))).bind fun c616 => (if c616 = true then some (5, (⟨q0.Code, q0.Pc, q0.R, q0.W, q0.In, q0.Out, q0.How, q0.Final⟩ : zQ)) else (zz q0.R 15).bind fun y627 => (zz q0.W y597).bind fun y636 => some (0, (⟨q0.Code, y636, (q0.R.set (Int.toNat 15) (IntKind.i64.wrap (y597 + 1))), q0.W, q0.In, q0.Out, q0.How, q0.Final⟩ : zQ)))) else (if ((p1.Kind.toNat : Int) == 14) = true then (zz q0.R 15).bind fun y644 => (if (decide ((IntKind.i64.wrap (y644 - p1.N)) < 0)) = true then some (7, (⟨q0.Code, q0.Pc, q0.R, q0.W, q0.In, q0.Out, q0.How, q0.Final⟩ : zQ)) else (if (decide ((IntKind.i64.wrap (y644 - p1.N)) > (q0.W.length : Int))) = true then some (6, (⟨q0.Code, q0.Pc, q0.R, q0.W, q0.In, q0.Out, q0.How, q0.Final⟩ : zQ)) else (zz q0.R 15).bind fun y653 => zbS q0 p2 (q0.R.set (Int.toNat 15) (IntKind.i64.wrap (y644 - p1.N))) q0.W q0.In q0.Out)) else (if ((p1.Kind.toNat : Int) == 15) = true then (if ((q0.In.length : Int) == 0) = true then some (4, (⟨q0.Code, q0.Pc, q0.R, q0.W, q0.In, q0.Out, q0.How, q0.Final⟩ : zQ)) else (zz q0.In 0).bind fun y664 => (zz q0.R p1.R).bind fun y669 => (zb5 q0.In 1 (q0.In.length : Int)).bind fun y682 => (room (([] : List Int).length + y682.length)).bind fun _ => zbS q0 p2 (q0.R.set (Int.toNat p1.R) y664) q0.W (([] : List Int) ++ y682) q0.Out) else (if ((p1.Kind.toNat : Int) == 16) = true then (zz q0.R p1.R).bind fun y695 => (room (([] : List Int).length + q0.Out.length)).bind fun _ => (room ((([] : List Int) ++ q0.Out).length + ([y695] : List Int).length)).bind fun _ => zbS q0 p2 q0.R q0.W q0.In ((([] : List Int) ++ q0.Out) ++ ([y695] : List Int)) else (if ((p1.Kind.toNat : Int) == 17) = true then (zz q0.R p1.R).bind fun y723 => some (1, (⟨q0.Code, q0.Pc, q0.R, q0.W, q0.In, q0.Out, q0.How, y723⟩ : zQ)) else (if ((p1.Kind.toNat : Int) == 18) = true then some ((IntKind.u8.wrap p1.N), (⟨q0.Code, q0.Pc, q0.R, q0.W, q0.In, q0.Out, q0.How, q0.Final⟩ : zQ)) else zbS q0 p2 q0.R q0.W q0.In q0.Out))))))))))
def zfR (q0 : zQ) (p1 : zf) (p2 : Int) : Option (Int × zQ) :=
 (zz q0.R p1.S).bind fun y5 => (if ((p1.Kind.toNat : Int) == 2) = true then (zz q0.R p1.R).bind fun y403 => zbS q0 p2 (q0.R.set (Int.toNat p1.R) p1.N) q0.W q0.In q0.Out else (if ((p1.Kind.toNat : Int) == 3) = true then (zz q0.R p1.R).bind fun y413 => zbS q0 p2 (q0.R.set (Int.toNat p1.R) y5) q0.W q0.In q0.Out else (if ((p1.Kind.toNat : Int) == 4) = true then (zz q0.R p1.T).bind fun y423 => (zcJ (p1.Op.toNat : Int) y5 y423).bind fun c430 => (if (!c430.2) = true then some (2, (⟨q0.Code, q0.Pc, q0.R, q0.W, q0.In, q0.Out, q0.How, q0.Final⟩ : zQ)) else (zz q0.R p1.R).bind fun y435 => zbS q0 p2 (q0.R.set (Int.toNat p1.R) c430.1) q0.W q0.In q0.Out) else (if ((p1.Kind.toNat : Int) == 5) = true then (zjx (p1.Op.toNat : Int) y5).bind fun c445 => (zz q0.R p1.R).bind fun y449 => zbS q0 p2 (q0.R.set (Int.toNat p1.R) c445) q0.W q0.In q0.Out else (if ((p1.Kind.toNat : Int) == 6) = true then zbO q0 p1 p2 y5 ((p1.Kind.toNat : Int) == 6) else (if ((p1.Kind.toNat : Int) == 7) = true then zbO q0 p1 p2 y5 ((p1.Kind.toNat : Int) == 7) else (if ((p1.Kind.toNat : Int) == 8) = true then zbO q0 p1 p2 y5 ((p1.Kind.toNat : Int) == 8) else zbO q0 p1 p2 y5 ((p1.Kind.toNat : Int) == 9))))))))
def zi4 (q0 : zQ) (x9 : UInt8) (x10 : UInt8) (x11 : Int) (x12 : Int) (x13 : Int) (x14 : Int) (x15 : Int) (x16 : Int) (x17 : Int) : Option (Int × zQ) :=
 (if (x17 != 0) = true then some (5, (⟨q0.Code, q0.Pc, q0.R, q0.W, q0.In, q0.Out, (5 : UInt8), q0.Final⟩ : zQ)) else (zfR (⟨q0.Code, q0.Pc, q0.R, q0.W, q0.In, q0.Out, q0.How, q0.Final⟩ : zQ) (⟨x9, x10, x11, x12, x13, x14, x15⟩ : zf) x16).bind fun c19 => (u8o c19.1).bind fun z45 => some (c19.1, (⟨c19.2.Code, c19.2.Pc, c19.2.R, c19.2.W, c19.2.In, c19.2.Out, z45, c19.2.Final⟩ : zQ)))
def zf6 (q0 : zQ) : Option (Int × zQ) :=
 (if ((q0.How.toNat : Int) != 0) = true then some ((q0.How.toNat : Int), (⟨q0.Code, q0.Pc, q0.R, q0.W, q0.In, q0.Out, q0.How, q0.Final⟩ : zQ)) else (zeN q0.Code q0.Pc).bind fun c46 => zi4 q0 c46.1.Kind c46.1.Op c46.1.R c46.1.S c46.1.T c46.1.N c46.1.M c46.2.1 c46.2.2)
def zjz (q0 : zh) (p1 : Int) : Option (Int × Bool) :=
 (if ((false || (decide (p1 < 0))) || (decide (p1 ≥ (q0.words.length : Int)))) = true then some (0, false) else (zz q0.words p1).bind fun y4 => some (y4, true))
def zf2 (p0 : zbs) (x6262 : List UInt8) (x6264 : Int) (x6265 : (Nat → Int)) (x6269 : List Int) (x6273 : List Int) (x6278 : List Int) (x6280 : UInt8) (x6281 : Int) (x6284 : List UInt8) (x6286 : Int) (x6290 : List Int) (x6295 : List Int) (x6299 : List Int) (x6303 : List Int) (x6305 : UInt8) (x6306 : Int) : Option Bool :=
 (zjz (⟨x6262, x6264, x6265, x6269, x6273, x6278, x6280, x6281⟩ : zh) p0.Fuel).bind fun c6307 => ((if (!(c6307.2 == ((decide (p0.Fuel ≥ 0)) && (decide (p0.Fuel < (x6295.length : Int)))))) = true then some true else (if ((decide (p0.Fuel ≥ 0)) && (decide (p0.Fuel < (x6295.length : Int)))) = true then (zz x6295 p0.Fuel).bind fun y6315 => some (c6307.1 != y6315) else some false))).bind fun c6311 => ((if c6311 = true then some true else (if (!((decide (p0.Fuel ≥ 0)) && (decide (p0.Fuel < (x6295.length : Int))))) = true then some (c6307.1 != 0) else some false))).bind fun c6322 => (if c6322 = true then some false else (zeO (⟨x6262, x6264, x6265, x6269, x6273, x6278, x6280, x6281⟩ : zh) (⟨x6284, x6286, x6290, x6295, x6299, x6303, x6305, x6306⟩ : zQ)).bind fun c6327 => ((if c6327 = true then (ze8 ).bind fun c6334 => some c6334 else some false)).bind fun c6331 => some c6331)
def zhd (rec106 : (List UInt8) → Int → (Nat → Int) → (List Int) → (List Int) → (List Int) → UInt8 → Int → (List UInt8) → Int → (List Int) → (List Int) → (List Int) → (List Int) → UInt8 → Int → Int → Option Bool) (p0 : zbs) (x6430 : List UInt8) (x6432 : Int) (x6433 : (Nat → Int)) (x6437 : List Int) (x6441 : List Int) (x6446 : List Int) (x6448 : UInt8) (x6449 : Int) (x6452 : List UInt8) (x6454 : Int) (x6458 : List Int) (x6463 : List Int) (x6467 : List Int) (x6471 : List Int) (x6473 : UInt8) (x6474 : Int) (x6475 : Int) : Option Bool :=
 (if (decide (x6475 < p0.Fuel)) = true then (zdl (⟨x6430, x6432, x6433, x6437, x6441, x6446, x6448, x6449⟩ : zh)).bind fun c6559 => (zf6 (⟨x6452, x6454, x6458, x6463, x6467, x6471, x6473, x6474⟩ : zQ)).bind fun c6581 => ((if (c6559.1 != c6581.1) = true then some true else (zdD (⟨c6559.2.code, c6559.2.pc, c6559.2.regs, c6559.2.words, c6559.2.input, c6559.2.out, c6559.2.how, c6559.2.halting⟩ : zh)).bind fun c6610 => some (c6610 != (c6581.2.How.toNat : Int)))).bind fun c6607 => ((if c6607 = true then some true else (zfO (⟨c6559.2.code, c6559.2.pc, c6559.2.regs, c6559.2.words, c6559.2.input, c6559.2.out, c6559.2.how, c6559.2.halting⟩ : zh)).bind fun c6617 => some (c6617 != c6581.2.Pc))).bind fun c6614 => ((if c6614 = true then some true else (zd5 (⟨c6559.2.code, c6559.2.pc, c6559.2.regs, c6559.2.words, c6559.2.input, c6559.2.out, c6559.2.how, c6559.2.halting⟩ : zh)).bind fun c6624 => (zdk c6624 c6581.2.R).bind fun c6633 => some (!c6633))).bind fun c6621 => (if c6621 = true then some false else (if ((c6581.2.How.toNat : Int) != 0) = true then zf2 p0 c6559.2.code c6559.2.pc c6559.2.regs c6559.2.words c6559.2.input c6559.2.out c6559.2.how c6559.2.halting c6581.2.Code c6581.2.Pc c6581.2.R c6581.2.W c6581.2.In c6581.2.Out c6581.2.How c6581.2.Final else rec106 c6559.2.code c6559.2.pc c6559.2.regs c6559.2.words c6559.2.input c6559.2.out c6559.2.how c6559.2.halting c6581.2.Code c6581.2.Pc c6581.2.R c6581.2.W c6581.2.In c6581.2.Out c6581.2.How c6581.2.Final (IntKind.i64.wrap (x6475 + 1)))) else zf2 p0 x6430 x6432 x6433 x6437 x6441 x6446 x6448 x6449 x6452 x6454 x6458 x6463 x6467 x6471 x6473 x6474)
def zhZ (p0 : zbs) : Nat → (List UInt8) → Int → (Nat → Int) → (List Int) → (List Int) → (List Int) → UInt8 → Int → (List UInt8) → Int → (List Int) → (List Int) → (List Int) → (List Int) → UInt8 → Int → Int → Option Bool
 | 0, _, _, _, _, _, _, _, _, _, _, _, _, _, _, _, _, _ => none
 | n + 1, x6430, x6432, x6433, x6437, x6441, x6446, x6448, x6449, x6452, x6454, x6458, x6463, x6467, x6471, x6473, x6474, x6475 => zhd (zhZ p0 n) p0 x6430 x6432 x6433 x6437 x6441 x6446 x6448 x6449 x6452 x6454 x6458 x6463 x6467 x6471 x6473 x6474 x6475
def zgS (rec101 : (List Int) → Int → Option Bool) (p0 : zbs) (m43 : zh) (m114 : zQ) (x5215 : List Int) (x5227 : Int) : Option Bool :=
 (if (decide (x5227 < (x5215.length : Int))) = true then (zz x5215 x5227).bind fun y5935 => rec101 (x5215.set (Int.toNat x5227) 85) (IntKind.i64.wrap (x5227 + 1)) else (zeO (⟨m43.code, m43.pc, m43.regs, m43.words, m43.input, m43.out, m43.how, m43.halting⟩ : zh) (⟨m114.Code, m114.Pc, m114.R, m114.W, m114.In, m114.Out, m114.How, m114.Final⟩ : zQ)).bind fun c5954 => (if (!c5954) = true then some false else zhZ p0 big m43.code m43.pc m43.regs m43.words m43.input m43.out m43.how m43.halting m114.Code m114.Pc m114.R m114.W m114.In m114.Out m114.How m114.Final 0))
def zgF (p0 : zbs) (m43 : zh) (m114 : zQ) : Nat → (List Int) → Int → Option Bool
 | 0, _, _ => none
 | n + 1, x5215, x5227 => zgS (zgF p0 m43 m114 n) p0 m43 m114 x5215 x5227
def zgE (rec89 : (List UInt8) → Int → Option Bool) (p0 : zbs) (m43 : zh) (m114 : zQ) (x2318 : List UInt8) (x2331 : Int) : Option Bool :=
 (if (decide (x2331 < (x2318.length : Int))) = true then (zz x2318 x2331).bind fun y4487 => rec89 (x2318.set (Int.toNat x2331) (85 : UInt8)) (IntKind.i64.wrap (x2331 + 1)) else zgF p0 m43 m114 big (([] : List Int) ++ p0.Input) 0)
def zhH (p0 : zbs) (m43 : zh) (m114 : zQ) : Nat → (List UInt8) → Int → Option Bool
 | 0, _, _ => none
 | n + 1, x2318, x2331 => zgE (zhH p0 m43 m114 n) p0 m43 m114 x2318 x2331
def zic (p0 : zbs) : Option Bool :=
 (zfT (⟨p0.Code, p0.Bytes, p0.Start, p0.Words, p0.Input, p0.Fuel⟩ : zbs)).bind fun c3 => (if c3 = true then (ze8 ).bind fun c8 => some c8 else (zf7 (⟨p0.Code, p0.Bytes, p0.Start, p0.Words, p0.Input, p0.Fuel⟩ : zbs)).bind fun c12 => (zeF c12).bind fun c21 => (room (([] : List Int).length + p0.Input.length)).bind fun _ => (zfL c21 p0.Start p0.Words (([] : List Int) ++ p0.Input)).bind fun c39 => zff c39.1 ((zgj c12 p0.Start p0.Words p0.Input).bind fun c45 => zff c45.1 (((if ((c39.2 != c45.2) || (!(true == true))) = true then some true else (zep c21 c12).bind fun c54 => some (!c54))).bind fun c51 => (if c51 = true then some false else (ze8 ).bind fun c59 => some c59)) fun m49 => none) fun m43 => (zgj c12 p0.Start p0.Words p0.Input).bind fun c110 => zff c110.1 none fun m114 => ((if ((c39.2 != c110.2) || (!(false == false))) = true then some true else (zep c21 c12).bind fun c145 => some (!c145))).bind fun c142 => (if c142 = true then some false else zhH p0 m43 m114 big c21 0))
end Go.Proofs.YtgkllgoelpfdkaaGreat
