import Derived.Test.YtgkllgoelpfdkaaGreatFM
namespace Go.Proofs.YtgkllgoelpfdkaaGreat
open Go.Ab Go.RowKit
set_option linter.unusedVariables false
set_option linter.unusedSimpArgs false
set_option maxRecDepth 10000
set_option maxHeartbeats 1000000
structure zc where
 Kind : UInt8
 Op : UInt8
 R : Int
 S : Int
 T : Int
 N : Int
 M : Int
 deriving DecidableEq
def zcL : Ty zc where
 sz := 7
 R := fun σ x cs => cs = [.int .u8 x.Kind.toNat, .int .u8 x.Op.toNat, .int .i64 x.R, .int .i64 x.S, .int .i64 x.T, .int .i64 x.N, .int .i64 x.M]
 len := by rintro σ x cs rfl; rfl
 one := by rintro σ x cs rfl; rfl
 mono := by rintro σ σ' x cs hle rfl; rfl
structure zbe where
 Code : (List zc)
 Bytes : (List UInt8)
 Start : Int
 Words : Int
 Input : (List Int)
 Fuel : Int
 deriving DecidableEq
def zov : Ty zbe where
 sz := 6
 R := fun σ x cs => ∃ v0 v1 v4, cs = [v0, v1, .int .i64 x.Start, .int .i64 x.Words, v4, .int .i64 x.Fuel] ∧ RdT zcL σ v0 x.Code ∧ RdT Ty.u8 σ v1 x.Bytes ∧ RdT (Ty.int .i64) σ v4 x.Input
 len := by rintro σ x cs ⟨v0, v1, v4, rfl, h0, h1, h2⟩; rfl
 one := by rintro σ x cs ⟨v0, v1, v4, rfl, h0, h1, h2⟩; obtain ⟨_, ⟨_, _, rfl, _⟩, _⟩ := h0; obtain ⟨_, ⟨_, _, rfl, _⟩, _⟩ := h1; obtain ⟨_, ⟨_, _, rfl, _⟩, _⟩ := h2; rfl
 mono := by rintro σ σ' x cs hle ⟨v0, v1, v4, rfl, h0, h1, h2⟩; exact ⟨v0, v1, v4, rfl, h0.le hle, h1.le hle, h2.le hle⟩
structure zf where
 code : (List UInt8)
 pc : Int
 regs : (Nat → Int)
 words : (List Int)
 input : (List Int)
 out : (List Int)
 how : UInt8
 halting : Int
inductive zx where
 | c_one_1
 | c_both_1
 | c_op_1 (x0 : Int) (x1 : Int)
 | c_third_1
 | c_bound_1
 | c_to_1
 | c_how_1
 | c_parts_1
 | c_within
def zbw (σ : Hp) (x : zx) (u0 u1 u2 : Value) : Prop := match x with
 | .c_one_1 => ∃ a1_0 a2_0, u0 = .func (.func 85) #[] #[] ∧ u1 = .func (.func 117) #[] #[.pointer (some a1_0)] ∧ u2 = .func (.func 118) #[] #[.pointer (some a2_0)] ∧ At σ a1_0 [.func (.func 87) #[] #[]] ∧ At σ a2_0 [.func (.func 88) #[] #[]]
 | .c_both_1 => ∃ a1_0 a2_0, u0 = .func (.func 93) #[] #[] ∧ u1 = .func (.func 117) #[] #[.pointer (some a1_0)] ∧ u2 = .func (.func 118) #[] #[.pointer (some a2_0)] ∧ At σ a1_0 [.func (.func 94) #[] #[]] ∧ At σ a2_0 [.func (.func 96) #[] #[]]
 | .c_op_1 x0 x1 => ∃ a0_0 a0_1 a1_0 a2_0, u0 = .func (.func 98) #[] #[.pointer (some a0_0), .pointer (some a0_1)] ∧ u1 = .func (.func 117) #[] #[.pointer (some a1_0)] ∧ u2 = .func (.func 118) #[] #[.pointer (some a2_0)] ∧ At σ a0_0 [.int .u8 x0] ∧ At σ a0_1 [.int .u8 x1] ∧ At σ a1_0 [.func (.func 99) #[] #[]] ∧ At σ a2_0 [.func (.func 100) #[] #[]]
 | .c_third_1 => ∃ a1_0 a2_0, u0 = .func (.func 101) #[] #[] ∧ u1 = .func (.func 117) #[] #[.pointer (some a1_0)] ∧ u2 = .func (.func 118) #[] #[.pointer (some a2_0)] ∧ At σ a1_0 [.func (.func 102) #[] #[]] ∧ At σ a2_0 [.func (.func 103) #[] #[]]
 | .c_bound_1 => u0 = .func (.func 104) #[] #[] ∧ u1 = .func (.func 105) #[] #[] ∧ u2 = .func (.func 107) #[] #[]
 | .c_to_1 => u0 = .func (.func 109) #[] #[] ∧ u1 = .func (.func 110) #[] #[] ∧ u2 = .func (.func 112) #[] #[]
 | .c_how_1 => ∃ a1_0 a2_0, u0 = .func (.func 114) #[] #[] ∧ u1 = .func (.func 117) #[] #[.pointer (some a1_0)] ∧ u2 = .func (.func 118) #[] #[.pointer (some a2_0)] ∧ At σ a1_0 [.func (.func 115) #[] #[]] ∧ At σ a2_0 [.func (.func 116) #[] #[]]
 | .c_parts_1 => u0 = .func (.func 73) #[] #[] ∧ u1 = .func (.func 89) #[] #[] ∧ u2 = .func (.func 91) #[] #[]
 | .c_within => u0 = .func (.func 79) #[] #[] ∧ u1 = .func (.func 89) #[] #[] ∧ u2 = .func (.func 91) #[] #[]
theorem zbw.le {σ σ' : Hp} {x : zx} {u0 u1 u2 : Value} (h : zbw σ x u0 u1 u2) (hle : Hp.le σ σ') : zbw σ' x u0 u1 u2 := by
 cases x with
 | c_one_1 => obtain ⟨a1_0, a2_0, rfl, rfl, rfl, m0, m1⟩ := h; exact ⟨a1_0, a2_0, rfl, rfl, rfl, m0.le hle, m1.le hle⟩
 | c_both_1 => obtain ⟨a1_0, a2_0, rfl, rfl, rfl, m0, m1⟩ := h; exact ⟨a1_0, a2_0, rfl, rfl, rfl, m0.le hle, m1.le hle⟩
 | c_op_1 _ _ => obtain ⟨a0_0, a0_1, a1_0, a2_0, rfl, rfl, rfl, m0, m1, m2, m3⟩ := h; exact ⟨a0_0, a0_1, a1_0, a2_0, rfl, rfl, rfl, m0.le hle, m1.le hle, m2.le hle, m3.le hle⟩
 | c_third_1 => obtain ⟨a1_0, a2_0, rfl, rfl, rfl, m0, m1⟩ := h; exact ⟨a1_0, a2_0, rfl, rfl, rfl, m0.le hle, m1.le hle⟩
 | c_bound_1 => obtain ⟨rfl, rfl, rfl⟩ := h; exact ⟨rfl, rfl, rfl⟩
 | c_to_1 => obtain ⟨rfl, rfl, rfl⟩ := h; exact ⟨rfl, rfl, rfl⟩
 | c_how_1 => obtain ⟨a1_0, a2_0, rfl, rfl, rfl, m0, m1⟩ := h; exact ⟨a1_0, a2_0, rfl, rfl, rfl, m0.le hle, m1.le hle⟩
 | c_parts_1 => obtain ⟨rfl, rfl, rfl⟩ := h; exact ⟨rfl, rfl, rfl⟩
 | c_within => obtain ⟨rfl, rfl, rfl⟩ := h; exact ⟨rfl, rfl, rfl⟩
def zbW : Ty zx where
 sz := 3
 R := fun σ x cs => ∃ f0 a0 c0 f1 a1 c1 f2 a2 c2, cs = [.func f0 a0 c0, .func f1 a1 c1, .func f2 a2 c2] ∧ zbw σ x (.func f0 a0 c0) (.func f1 a1 c1) (.func f2 a2 c2)
 len := by rintro σ x cs ⟨_, _, _, _, _, _, _, _, _, rfl, _⟩; rfl
 one := by rintro σ x cs ⟨_, _, _, _, _, _, _, _, _, rfl, _⟩; rfl
 mono := by rintro σ σ' x cs hle ⟨_, _, _, _, _, _, _, _, _, rfl, h⟩; exact ⟨_, _, _, _, _, _, _, _, _, rfl, h.le hle⟩
def zd6 (p0 : zbe) : Option Bool :=
 ((if ((decide ((p0.Code.length : Int) > 200)) || (decide ((p0.Bytes.length : Int) > 4096))) = true then some true else (if (decide (p0.Words > 1024)) = true then some (decide (p0.Words ≤ 65536)) else some false))).bind fun c3 => some ((c3 || (decide ((p0.Input.length : Int) > 100))) || (decide (p0.Fuel > 1000)))
def zcq (p0 : (List UInt8)) : Option (List UInt8) := (room p0.length).bind fun _ => some p0
def zc7 (p0 : (List Int)) : Option (List Int) := (room p0.length).bind fun _ => some p0
def zih (p1 : Int) (p2 : Int) (x36 : List UInt8) (x41 : List Int) (x46 : List Int) : Option ((Option zf) × Int) :=
 some ((some (⟨x36, p1, (zew [0, 0, 0, 0, 0, 0, 0, 0, 0, 0, 0, 0, 0, 0, 0, p2]), x41, x46, ([] : List Int), (0 : UInt8), 0⟩ : zf)), 0)
def zez (p0 : (List UInt8)) (p1 : Int) (p2 : Int) (p3 : (List Int)) : Option ((Option zf) × Int) :=
 (if (((((decide ((p0.length : Int) > 1048576)) || (decide (p1 < 0))) || (decide (p1 > (p0.length : Int)))) || (decide (p2 < 1))) || (decide (p2 > 65536))) = true then some (none, 1) else (zcq p0).bind fun c49 => (mkI 0 p2 p2).bind fun y58 => (zc7 p3).bind fun c65 => zih p1 p2 c49 y58 c65)
def zdA (q0 : zf) : Option Int :=
 some (q0.how.toNat : Int)
def zht (q0 : zc) : Option (Bool × zc) :=
 some (true, (⟨q0.Kind, q0.Op, q0.R, q0.S, q0.T, q0.N, q0.M⟩ : zc))
def zdf (p0 : (List UInt8)) (p1 : Int) (p2 : Int) : Option ((List UInt8) × Int × Int) :=
 (if ((decide (p1 < 0)) || (decide (p1 > (p0.length : Int)))) = true then some ([], 0, 1) else (zbR p0 p1 (p0.length : Int)).bind fun y5 => (if (decide ((y5.length : Int) ≥ p2)) = true then (zbR y5 0 p2).bind fun y11 => some (y11, (IntKind.i64.wrap (p1 + p2)), 0) else some ([], 0, 5)))
def zcb (p0 : (List UInt8)) (p1 : Int) : Option (Int × Int × Int) :=
 (zdf p0 p1 1).bind fun c3 => (if (c3.2.2 != 0) = true then some (0, 0, c3.2.2) else (zM c3.1 0).bind fun y12 => some ((y12.toNat : Int), c3.2.1, 0))
def zc2 (p0 : Int) : Option Bool :=
 some ((decide (p0 ≥ 0)) && (decide (p0 < 16)))
def zgR (q0 : zc) : Option (Bool × zc) :=
 (zc2 q0.R).bind fun c2 => some (c2, (⟨q0.Kind, q0.Op, q0.R, q0.S, q0.T, q0.N, q0.M⟩ : zc))
def zhE (q0 : zc) : Option (Int × zc) :=
 some ((IntKind.u8.wrap q0.R), (⟨q0.Kind, q0.Op, q0.R, q0.S, q0.T, q0.N, q0.M⟩ : zc))
def zeR (q0 : zc) (p1 : Int) : Option zc :=
 some (⟨q0.Kind, q0.Op, (IntKind.i64.wrap p1), q0.S, q0.T, q0.N, q0.M⟩ : zc)
def zh7  : Option zx :=
 some zx.c_one_1
def zfQ  : Option zx :=
 (zh7 ).bind fun c2 => some c2
def zfG (rec4 : Int → (List UInt8) → Option (List UInt8))  (x30 : Int) (x34 : List UInt8) : Option (List UInt8) :=
 (if ((decide (x30 > 63)) || (decide (x30 < (-64)))) = true then (u8o (orI .u8 (IntKind.u8.wrap x30) 128)).bind fun z51 => (room (x34.length + 1)).bind fun _ => rec4 (zbL .i64 x30 7) (x34 ++ [z51]) else (u8o (zca .u8 (IntKind.u8.wrap x30) 127)).bind fun z57 => (room (x34.length + 1)).bind fun _ => some (x34 ++ [z57]))
def zgx  : Nat → Int → (List UInt8) → Option (List UInt8)
 | 0, _, _ => none
 | n + 1, x30, x34 => zfG (zgx  n)  x30 x34
def zec (p0 : (List UInt8)) (p1 : Int) : Option (List UInt8) :=
 (zcq p0).bind fun c3 => zgx  big p1 c3
def zfp (rec4 : Int → Int → Option (Int × Int)) (p0 : (List UInt8)) (x18 : Int) (x19 : Int) : Option (Int × Int) :=
 (if (decide (x19 < (zbF (p0.length : Int) 10))) = true then (zM p0 x19).bind fun y36 => (zbY .u64 (IntKind.u64.wrap (zca .u8 (y36.toNat : Int) 127)) (IntKind.i64.wrap (7 * x19))).bind fun y41 => (zM p0 x19).bind fun y43 => (if (decide ((y43.toNat : Int) < 128)) = true then some ((orI .u64 x18 y41), (IntKind.i64.wrap (x19 + 1))) else rec4 (orI .u64 x18 y41) (IntKind.i64.wrap (x19 + 1))) else some (0, 0))
def zgi (p0 : (List UInt8)) : Nat → Int → Int → Option (Int × Int)
 | 0, _, _ => none
 | n + 1, x18, x19 => zfp (zgi p0 n) p0 x18 x19
def zfx (p0 : (List UInt8)) : Option (Int × Int) :=
 zgi p0 big 0 0
def zgv (rec4 : Int → Option Bool) (p0 : (List UInt8)) (p1 : (List UInt8)) (x20 : Int) : Option Bool :=
 (if (decide (x20 < (p0.length : Int))) = true then (zM p0 x20).bind fun y35 => (zM p1 x20).bind fun y40 => (if ((y35.toNat : Int) != (y40.toNat : Int)) = true then some false else rec4 (IntKind.i64.wrap (x20 + 1))) else some true)
def zgC (p0 : (List UInt8)) (p1 : (List UInt8)) : Nat → Int → Option Bool
 | 0, _ => none
 | n + 1, x20 => zgv (zgC p0 p1 n) p0 p1 x20
def zd5 (p0 : (List UInt8)) (p1 : (List UInt8)) : Option Bool :=
 (if ((p0.length : Int) != (p1.length : Int)) = true then some false else zgC p0 p1 big 0)
def zfi (p0 : Int) (p1 : Int) : Option Int :=
 (zbY .u64 p0 (zcr 0 (IntKind.i64.wrap (64 - (IntKind.i64.wrap (7 * p1)))))).bind fun y3 => (zcp .i64 (IntKind.i64.wrap y3) (zcr 0 (IntKind.i64.wrap (64 - (IntKind.i64.wrap (7 * p1)))))).bind fun y5 => some y5
def zhZ (p0 : (List UInt8)) (p1 : Int) : Option (Int × Int × Int) :=
 (if ((decide (p1 < 0)) || (decide (p1 > (p0.length : Int)))) = true then some (0, 0, 1) else (zbR p0 p1 (p0.length : Int)).bind fun y6 => (zfx y6).bind fun c11 => (zfi c11.1 c11.2).bind fun c15 => ((if (c11.2 == 0) = true then some true else (zbR p0 p1 (IntKind.i64.wrap (p1 + c11.2))).bind fun y22 => (zec [] c15).bind fun c27 => (zd5 c27 y22).bind fun c38 => some (!c38))).bind fun c19 => (if c19 = true then some (0, 0, 5) else some (c15, (IntKind.i64.wrap (p1 + c11.2)), 0)))
def zge (p0 : (List UInt8)) (p1 : Int) : Option (Int × Int × Int) :=
 (zhZ p0 p1).bind fun c3 => some (c3.1, c3.2.1, c3.2.2)
def zde (p0 : (List UInt8)) (p1 : Int) (q2 : zc) : Option (Int × Bool × zc) :=
 (zge p0 p1).bind fun c4 => some (c4.2.1, (c4.2.2 == 0), (⟨q2.Kind, q2.Op, q2.R, q2.S, q2.T, c4.1, q2.M⟩ : zc))
def zhk (q0 : zc) : Option (Bool × zc) :=
 (zc2 q0.R).bind fun c2 => ((if c2 = true then (zc2 q0.S).bind fun c9 => some c9 else some false)).bind fun c6 => some (c6, (⟨q0.Kind, q0.Op, q0.R, q0.S, q0.T, q0.N, q0.M⟩ : zc))
def ze7 (p0 : Int) (p1 : Int) : Option (Int × Bool) :=
 (if ((((decide (p0 < 0)) || (decide (p0 ≥ 16))) || (decide (p1 < 0))) || (decide (p1 ≥ 16))) = true then some (0, false) else some ((IntKind.u8.wrap (orI .i64 (zbU .i64 p0 4) p1)), true))
def zgQ (q0 : zc) : Option (Int × zc) :=
 (ze7 q0.R q0.S).bind fun c2 => some (c2.1, (⟨q0.Kind, q0.Op, q0.R, q0.S, q0.T, q0.N, q0.M⟩ : zc))
def zfd (p0 : Int) : Option (Int × Int) :=
 some ((IntKind.i64.wrap (zbL .u8 p0 4)), (IntKind.i64.wrap (zca .u8 p0 15)))
def zfm (q0 : zc) (p1 : Int) : Option zc :=
 (zfd p1).bind fun c3 => some (⟨q0.Kind, q0.Op, c3.1, c3.2, q0.T, q0.N, q0.M⟩ : zc)
def ziS  : Option zx :=
 some zx.c_both_1
def zdJ  : Option zx :=
 (ziS ).bind fun c2 => some c2
def zhd (q0 : zc) : Option (Int × zc) :=
 some ((q0.Op.toNat : Int), (⟨q0.Kind, q0.Op, q0.R, q0.S, q0.T, q0.N, q0.M⟩ : zc))
def zf3 (q0 : zc) (p1 : Int) : Option zc :=
 (u8o p1).bind fun z3 => some (⟨q0.Kind, z3, q0.R, q0.S, q0.T, q0.N, q0.M⟩ : zc)
def ziL (q0_0 : Int) (q0_1 : Int) : Option zx :=
 some (zx.c_op_1 q0_0 q0_1)
def zhc (p0 : Int) (p1 : Int) : Option zx :=
 (ziL p0 p1).bind fun c10 => some c10
def zh0 (q0 : zc) : Option (Bool × zc) :=
 (zc2 q0.T).bind fun c2 => some (c2, (⟨q0.Kind, q0.Op, q0.R, q0.S, q0.T, q0.N, q0.M⟩ : zc))
def zg9 (q0 : zc) : Option (Int × zc) :=
 some ((IntKind.u8.wrap q0.T), (⟨q0.Kind, q0.Op, q0.R, q0.S, q0.T, q0.N, q0.M⟩ : zc))
def zfU (q0 : zc) (p1 : Int) : Option zc :=
 some (⟨q0.Kind, q0.Op, q0.R, q0.S, (IntKind.i64.wrap p1), q0.N, q0.M⟩ : zc)
def zi8  : Option zx :=
 some zx.c_third_1
def zgU  : Option zx :=
 (zi8 ).bind fun c2 => some c2
def zgZ (q0 : zc) : Option (Bool × zc) :=
 some (((decide (q0.N ≥ (-65536))) && (decide (q0.N ≤ 65536))), (⟨q0.Kind, q0.Op, q0.R, q0.S, q0.T, q0.N, q0.M⟩ : zc))
def zgH (q0 : zc) : Option (Bool × zc) :=
 some (((decide (q0.M ≥ 1)) && (decide (q0.M ≤ 65536))), (⟨q0.Kind, q0.Op, q0.R, q0.S, q0.T, q0.N, q0.M⟩ : zc))
def zfs (rec4 : Int → (List UInt8) → Option (List UInt8))  (x30 : Int) (x34 : List UInt8) : Option (List UInt8) :=
 (if (decide (x30 > 127)) = true then (u8o (orI .u8 (IntKind.u8.wrap x30) 128)).bind fun z51 => (room (x34.length + 1)).bind fun _ => rec4 (zbL .u64 x30 7) (x34 ++ [z51]) else (u8o (IntKind.u8.wrap x30)).bind fun z57 => (room (x34.length + 1)).bind fun _ => some (x34 ++ [z57]))
def zgs  : Nat → Int → (List UInt8) → Option (List UInt8)
 | 0, _, _ => none
 | n + 1, x30, x34 => zfs (zgs  n)  x30 x34
def zeK (p0 : (List UInt8)) (p1 : Int) : Option (List UInt8) :=
 (zcq p0).bind fun c3 => zgs  big p1 c3
def zhu (p0 : Int) (p1 : Int) : Option Int :=
 some p0
def zhL (p0 : (List UInt8)) (p1 : Int) : Option (Int × Int × Int) :=
 (if ((decide (p1 < 0)) || (decide (p1 > (p0.length : Int)))) = true then some (0, 0, 1) else (zbR p0 p1 (p0.length : Int)).bind fun y6 => (zfx y6).bind fun c11 => (zhu c11.1 c11.2).bind fun c15 => ((if (c11.2 == 0) = true then some true else (zbR p0 p1 (IntKind.i64.wrap (p1 + c11.2))).bind fun y22 => (zeK [] c15).bind fun c27 => (zd5 c27 y22).bind fun c38 => some (!c38))).bind fun c19 => (if c19 = true then some (0, 0, 5) else some (c15, (IntKind.i64.wrap (p1 + c11.2)), 0)))
def zgy (p0 : (List UInt8)) (p1 : Int) : Option (Int × Int × Int) :=
 (zhL p0 p1).bind fun c3 => some (c3.1, c3.2.1, c3.2.2)
def zeZ (p0 : (List UInt8)) (p1 : Int) (q2 : zc) : Option (Int × Bool × zc) :=
 (zgy p0 p1).bind fun c4 => some (c4.2.1, (c4.2.2 == 0), (⟨q2.Kind, q2.Op, q2.R, q2.S, q2.T, q2.N, (IntKind.i64.wrap (zbF c4.1 16777216))⟩ : zc))
def ziK  : Option zx :=
 some zx.c_bound_1
def zhJ (q0 : zc) : Option (Bool × zc) :=
 some (((decide (q0.N ≥ 0)) && (decide (q0.N < 16777216))), (⟨q0.Kind, q0.Op, q0.R, q0.S, q0.T, q0.N, q0.M⟩ : zc))
def zhb (p1 : Int) : Option (List UInt8) :=
 (if (decide ((IntKind.i64.wrap (p1 - (IntKind.i64.wrap (0 - 0)))) > 0)) = true then (nneg (IntKind.i64.wrap (p1 - (IntKind.i64.wrap (0 - 0))))).bind fun _ => (room (([] : List UInt8).length + Int.toNat (IntKind.i64.wrap (p1 - (IntKind.i64.wrap (0 - 0)))))).bind fun _ => (zbR (([] : List UInt8) ++ List.replicate (Int.toNat (IntKind.i64.wrap (p1 - (IntKind.i64.wrap (0 - 0))))) (0 : UInt8)) 0 0).bind fun y12 => some y12 else some ([]))
def zgc (_n0 : (List UInt8)) (p1 : Int) : Option (List UInt8) :=
 (if (decide (p1 < 0)) = true then none else zhb p1)
def zf6 (rec16 : (List UInt8) → Int → Option (List UInt8)) (p0 : (List (List UInt8))) (x211 : List UInt8) (x214 : Int) : Option (List UInt8) :=
 (if (decide (x214 < (p0.length : Int))) = true then (zM p0 x214).bind fun y232 => (room (x211.length + y232.length)).bind fun _ => rec16 (x211 ++ y232) (IntKind.i64.wrap (x214 + 1)) else some x211)
def zeO (p0 : (List (List UInt8))) : Nat → (List UInt8) → Int → Option (List UInt8)
 | 0, _, _ => none
 | n + 1, x211, x214 => zf6 (zeO p0 n) p0 x211 x214
def zfF (rec14 : Int → Int → Option (List UInt8)) (p0 : (List (List UInt8))) (x84 : Int) (x86 : Int) : Option (List UInt8) :=
 (if (decide (x86 < (p0.length : Int))) = true then (zM p0 x86).bind fun y168 => (if (decide ((IntKind.i64.wrap (x84 + (y168.length : Int))) < 0)) = true then none else rec14 (IntKind.i64.wrap (x84 + (y168.length : Int))) (IntKind.i64.wrap (x86 + 1))) else (zgc [] x84).bind fun c178 => zeO p0 big c178 0)
def zgn (p0 : (List (List UInt8))) : Nat → Int → Int → Option (List UInt8)
 | 0, _, _ => none
 | n + 1, x84, x86 => zfF (zgn p0 n) p0 x84 x86
def zhh (p0 : (List (List UInt8))) : Option (List UInt8) :=
 zgn p0 big 0 0
def zhH (rec4 : (List UInt8) → Int → Option ((List UInt8) × Int)) (p0 : (List UInt8)) (p1 : Int) (x44 : List UInt8) (x46 : Int) : Option ((List UInt8) × Int) :=
 (if (decide (x46 < 3)) = true then (zcp .i64 p1 (IntKind.i64.wrap (8 * x46))).bind fun y80 => (zM x44 (IntKind.i64.wrap (2 - x46))).bind fun y82 => (u8o (IntKind.u8.wrap y80)).bind fun z89 => rec4 (x44.set (Int.toNat (IntKind.i64.wrap (2 - x46))) z89) (IntKind.i64.wrap (x46 + 1)) else (zhh ([p0, x44] : List (List UInt8))).bind fun c101 => some (c101, 0))
def zer (p0 : (List UInt8)) (p1 : Int) : Nat → (List UInt8) → Int → Option ((List UInt8) × Int)
 | 0, _, _ => none
 | n + 1, x44, x46 => zhH (zer p0 p1 n) p0 p1 x44 x46
def zgw (p0 : (List UInt8)) (p1 : Int) : Option ((List UInt8) × Int) :=
 (if ((decide (p1 < 0)) || (decide (p1 ≥ 16777216))) = true then some ([], 1) else zer p0 p1 big ([(0 : UInt8), (0 : UInt8), (0 : UInt8)] : List UInt8) 0)
def zgJ (rec4 : Int → Int → Option (Int × Int × Int)) (c3 : (List UInt8) × Int × Int) (x18 : Int) (x20 : Int) : Option (Int × Int × Int) :=
 (if (decide (x20 < (c3.1.length : Int))) = true then (zM c3.1 x20).bind fun y29 => rec4 (orI .i64 (zbU .i64 x18 8) (IntKind.i64.wrap (y29.toNat : Int))) (IntKind.i64.wrap (x20 + 1)) else some (x18, c3.2.1, c3.2.2))
def zev (c3 : (List UInt8) × Int × Int) : Nat → Int → Int → Option (Int × Int × Int)
 | 0, _, _ => none
 | n + 1, x18, x20 => zgJ (zev c3 n) c3 x18 x20
def zdc (p0 : (List UInt8)) (p1 : Int) : Option (Int × Int × Int) :=
 (zdf p0 p1 3).bind fun c3 => zev c3 big 0 0
def zgb (p0 : (List UInt8)) (p1 : Int) (q2 : zc) : Option (Int × Bool × zc) :=
 (zdc p0 p1).bind fun c4 => some (c4.2.1, (c4.2.2 == 0), (⟨q2.Kind, q2.Op, q2.R, q2.S, q2.T, c4.1, q2.M⟩ : zc))
def zhx  : Option zx :=
 some zx.c_to_1
def zhw (q0 : zc) : Option (Bool × zc) :=
 some (((decide (q0.N ≥ 2)) && (decide (q0.N ≤ 4))), (⟨q0.Kind, q0.Op, q0.R, q0.S, q0.T, q0.N, q0.M⟩ : zc))
def zgP (q0 : zc) : Option (Int × zc) :=
 some ((IntKind.u8.wrap q0.N), (⟨q0.Kind, q0.Op, q0.R, q0.S, q0.T, q0.N, q0.M⟩ : zc))
def ze3 (q0 : zc) (p1 : Int) : Option zc :=
 some (⟨q0.Kind, q0.Op, q0.R, q0.S, q0.T, (IntKind.i64.wrap p1), q0.M⟩ : zc)
def zjk  : Option zx :=
 some zx.c_how_1
def zij  : Option zx :=
 (zjk ).bind fun c2 => some c2
def zi1  : Option zx :=
 some zx.c_parts_1
def zfg  : Option zx :=
 some zx.c_within
def zel (p0 : Int) (x310 : Bool) : Option ((List zx) × Bool) :=
 (if x310 = true then (zfQ ).bind fun c312 => some (([c312] : List zx), true) else (if (p0 == 18) = true then (zij ).bind fun c331 => some (([c331] : List zx), true) else some ([], false)))
def zft (p0 : Int) (x236 : Bool) : Option ((List zx) × Bool) :=
 (if x236 = true then (zhx ).bind fun c238 => some (([c238] : List zx), true) else (if (p0 == 11) = true then (zfQ ).bind fun c257 => (zhx ).bind fun c271 => some (([c257, c271] : List zx), true) else (if (p0 == 14) = true then (zfg ).bind fun c290 => some (([c290] : List zx), true) else (if (p0 == 15) = true then zel p0 (p0 == 15) else (if (p0 == 16) = true then zel p0 (p0 == 16) else zel p0 (p0 == 17))))))
def zgk (p0 : Int) (x173 : Bool) : Option ((List zx) × Bool) :=
 (if x173 = true then (zdJ ).bind fun c175 => (zgU ).bind fun c189 => (zfg ).bind fun c203 => (ziK ).bind fun c217 => some (([c175, c189, c203, c217] : List zx), true) else (if (p0 == 10) = true then zft p0 (p0 == 10) else zft p0 (p0 == 12)))
def zeN (p0 : Int) (x138 : Bool) : Option ((List zx) × Bool) :=
 (if x138 = true then (zdJ ).bind fun c140 => (zfg ).bind fun c154 => some (([c140, c154] : List zx), true) else (if (p0 == 8) = true then zgk p0 (p0 == 8) else zgk p0 (p0 == 9)))
def zeT (p0 : Int) (x3 : Bool) : Option ((List zx) × Bool) :=
 (if x3 = true then some ([], true) else (if (p0 == 2) = true then (zfQ ).bind fun c6 => (zi1 ).bind fun c20 => some (([c6, c20] : List zx), true) else (if (p0 == 3) = true then (zdJ ).bind fun c39 => some (([c39] : List zx), true) else (if (p0 == 4) = true then (zhc 1 13).bind fun c58 => (zdJ ).bind fun c72 => (zgU ).bind fun c86 => some (([c58, c72, c86] : List zx), true) else (if (p0 == 5) = true then (zhc 14 15).bind fun c105 => (zdJ ).bind fun c119 => some (([c105, c119] : List zx), true) else (if (p0 == 6) = true then zeN p0 (p0 == 6) else zeN p0 (p0 == 7)))))))
def zee (p0 : Int) : Option ((List zx) × Bool) :=
 (if (p0 == 1) = true then zeT p0 (p0 == 1) else zeT p0 (p0 == 13))
def zeW (p0 : (List UInt8)) (p1 : Int) (q2 : zc) : Option (Int × Bool × zc) :=
 (zcb p0 p1).bind fun c4 => (zeR (⟨q2.Kind, q2.Op, q2.R, q2.S, q2.T, q2.N, q2.M⟩ : zc) c4.1).bind fun c8 => some (c4.2.1, (c4.2.2 == 0), (⟨c8.Kind, c8.Op, c8.R, c8.S, c8.T, c8.N, c8.M⟩ : zc))
def ze2 (p0 : (List UInt8)) (p1 : Int) (q2 : zc) : Option (Int × Bool × zc) :=
 (zcb p0 p1).bind fun c4 => (zfm (⟨q2.Kind, q2.Op, q2.R, q2.S, q2.T, q2.N, q2.M⟩ : zc) c4.1).bind fun c8 => some (c4.2.1, (c4.2.2 == 0), (⟨c8.Kind, c8.Op, c8.R, c8.S, c8.T, c8.N, c8.M⟩ : zc))
def zgz (p0 : (List UInt8)) (p1 : Int) (q2 : zc) : Option (Int × Bool × zc) :=
 (zcb p0 p1).bind fun c4 => (zf3 (⟨q2.Kind, q2.Op, q2.R, q2.S, q2.T, q2.N, q2.M⟩ : zc) c4.1).bind fun c8 => some (c4.2.1, (c4.2.2 == 0), (⟨c8.Kind, c8.Op, c8.R, c8.S, c8.T, c8.N, c8.M⟩ : zc))
def zfD (p0 : (List UInt8)) (p1 : Int) (q2 : zc) : Option (Int × Bool × zc) :=
 (zcb p0 p1).bind fun c4 => (zfU (⟨q2.Kind, q2.Op, q2.R, q2.S, q2.T, q2.N, q2.M⟩ : zc) c4.1).bind fun c8 => some (c4.2.1, (c4.2.2 == 0), (⟨c8.Kind, c8.Op, c8.R, c8.S, c8.T, c8.N, c8.M⟩ : zc))
def zeM (p0 : (List UInt8)) (p1 : Int) (q2 : zc) : Option (Int × Bool × zc) :=
 (zcb p0 p1).bind fun c4 => (ze3 (⟨q2.Kind, q2.Op, q2.R, q2.S, q2.T, q2.N, q2.M⟩ : zc) c4.1).bind fun c8 => some (c4.2.1, (c4.2.2 == 0), (⟨c8.Kind, c8.Op, c8.R, c8.S, c8.T, c8.N, c8.M⟩ : zc))
def zc6 (x : zx) (p0 : (List UInt8)) (p1 : Int) (q2 : zc) : Option (Int × Bool × zc) :=
 match x with
 | .c_one_1 => zeW p0 p1 q2
 | .c_both_1 => ze2 p0 p1 q2
 | .c_op_1 x0 x1 => zgz p0 p1 q2
 | .c_third_1 => zfD p0 p1 q2
 | .c_bound_1 => zeZ p0 p1 q2
 | .c_to_1 => zgb p0 p1 q2
 | .c_how_1 => zeM p0 p1 q2
 | .c_parts_1 => zde p0 p1 q2
 | .c_within => zde p0 p1 q2
def zdE (rec4 : UInt8 → UInt8 → Int → Int → Int → Int → Int → Int → Bool → (List zx) → Int → Option (zc × Int × Bool)) (p0 : (List UInt8)) (c10 : (List zx) × Bool) (x50 : UInt8) (x51 : UInt8) (x52 : Int) (x53 : Int) (x54 : Int) (x55 : Int) (x56 : Int) (x57 : Int) (x58 : Bool) (x62 : List zx) (x64 : Int) : Option (zc × Int × Bool) :=
 (if (decide (x64 < (c10.1.length : Int))) = true then (zM x62 x64).bind fun y91 => (if x58 = true then (zc6 y91 p0 x57 (⟨x50, x51, x52, x53, x54, x55, x56⟩ : zc)).bind fun c110 => rec4 c110.2.2.Kind c110.2.2.Op c110.2.2.R c110.2.2.S c110.2.2.T c110.2.2.N c110.2.2.M c110.1 c110.2.1 x62 (IntKind.i64.wrap (x64 + 1)) else rec4 x50 x51 x52 x53 x54 x55 x56 x57 x58 x62 (IntKind.i64.wrap (x64 + 1))) else some ((⟨x50, x51, x52, x53, x54, x55, x56⟩ : zc), x57, x58))
def zes (p0 : (List UInt8)) (c10 : (List zx) × Bool) : Nat → UInt8 → UInt8 → Int → Int → Int → Int → Int → Int → Bool → (List zx) → Int → Option (zc × Int × Bool)
 | 0, _, _, _, _, _, _, _, _, _, _, _ => none
 | n + 1, x50, x51, x52, x53, x54, x55, x56, x57, x58, x62, x64 => zdE (zes p0 c10 n) p0 c10 x50 x51 x52 x53 x54 x55 x56 x57 x58 x62 x64
def zc0 (p0 : (List UInt8)) (p1 : Int) : Option (zc × Int × Bool) :=
 (if (decide (p1 ≥ (p0.length : Int))) = true then some ((⟨(0 : UInt8), (0 : UInt8), 0, 0, 0, 0, 0⟩ : zc), 0, false) else (zM p0 p1).bind fun y5 => (zee (y5.toNat : Int)).bind fun c10 => zes p0 c10 big y5 (0 : UInt8) 0 0 0 0 0 (IntKind.i64.wrap (p1 + 1)) c10.2 c10.1 0)
def zhs (q0 : zc) (qf0 : Int) (qf1 : Int) : Option (Bool × zc) :=
 ((if (decide ((q0.Op.toNat : Int) ≥ qf0)) = true then some (decide ((q0.Op.toNat : Int) ≤ qf1)) else some false)).bind fun c2 => some (c2, (⟨q0.Kind, q0.Op, q0.R, q0.S, q0.T, q0.N, q0.M⟩ : zc))
def zhe (x : zx) (q0 : zc) : Option (Bool × zc) :=
 match x with
 | .c_one_1 => zgR q0
 | .c_both_1 => zhk q0
 | .c_op_1 x0 x1 => zhs q0 x0 x1
 | .c_third_1 => zh0 q0
 | .c_bound_1 => zgH q0
 | .c_to_1 => zhJ q0
 | .c_how_1 => zhw q0
 | .c_parts_1 => zht q0
 | .c_within => zgZ q0
def zhM (p0 : (List UInt8)) (q1 : zc) : Option ((List UInt8) × zc) :=
 (zhE (⟨q1.Kind, q1.Op, q1.R, q1.S, q1.T, q1.N, q1.M⟩ : zc)).bind fun c3 => (u8o c3.1).bind fun z7 => (room (p0.length + 1)).bind fun _ => some ((p0 ++ [z7]), (⟨c3.2.Kind, c3.2.Op, c3.2.R, c3.2.S, c3.2.T, c3.2.N, c3.2.M⟩ : zc))
def zgD (p0 : (List UInt8)) (q1 : zc) : Option ((List UInt8) × zc) :=
 (zgQ (⟨q1.Kind, q1.Op, q1.R, q1.S, q1.T, q1.N, q1.M⟩ : zc)).bind fun c3 => (u8o c3.1).bind fun z7 => (room (p0.length + 1)).bind fun _ => some ((p0 ++ [z7]), (⟨c3.2.Kind, c3.2.Op, c3.2.R, c3.2.S, c3.2.T, c3.2.N, c3.2.M⟩ : zc))
def zhF (p0 : (List UInt8)) (q1 : zc) : Option ((List UInt8) × zc) :=
 (zhd (⟨q1.Kind, q1.Op, q1.R, q1.S, q1.T, q1.N, q1.M⟩ : zc)).bind fun c3 => (u8o c3.1).bind fun z7 => (room (p0.length + 1)).bind fun _ => some ((p0 ++ [z7]), (⟨c3.2.Kind, c3.2.Op, c3.2.R, c3.2.S, c3.2.T, c3.2.N, c3.2.M⟩ : zc))
def zhW (p0 : (List UInt8)) (q1 : zc) : Option ((List UInt8) × zc) :=
 (zg9 (⟨q1.Kind, q1.Op, q1.R, q1.S, q1.T, q1.N, q1.M⟩ : zc)).bind fun c3 => (u8o c3.1).bind fun z7 => (room (p0.length + 1)).bind fun _ => some ((p0 ++ [z7]), (⟨c3.2.Kind, c3.2.Op, c3.2.R, c3.2.S, c3.2.T, c3.2.N, c3.2.M⟩ : zc))
def zg6 (p0 : (List UInt8)) (q1 : zc) : Option ((List UInt8) × zc) :=
 (zeK p0 (IntKind.u64.wrap q1.M)).bind fun c5 => some (c5, (⟨q1.Kind, q1.Op, q1.R, q1.S, q1.T, q1.N, q1.M⟩ : zc))
def zhG (p0 : (List UInt8)) (q1 : zc) : Option ((List UInt8) × zc) :=
 (zgw p0 q1.N).bind fun c5 => some (c5.1, (⟨q1.Kind, q1.Op, q1.R, q1.S, q1.T, q1.N, q1.M⟩ : zc))
def zgN (p0 : (List UInt8)) (q1 : zc) : Option ((List UInt8) × zc) :=
 (zgP (⟨q1.Kind, q1.Op, q1.R, q1.S, q1.T, q1.N, q1.M⟩ : zc)).bind fun c3 => (u8o c3.1).bind fun z7 => (room (p0.length + 1)).bind fun _ => some ((p0 ++ [z7]), (⟨c3.2.Kind, c3.2.Op, c3.2.R, c3.2.S, c3.2.T, c3.2.N, c3.2.M⟩ : zc))
def zeD (p0 : (List UInt8)) (q1 : zc) : Option ((List UInt8) × zc) :=
 (zec p0 q1.N).bind fun c5 => some (c5, (⟨q1.Kind, q1.Op, q1.R, q1.S, q1.T, q1.N, q1.M⟩ : zc))
def zgX (x : zx) (p0 : (List UInt8)) (q1 : zc) : Option ((List UInt8) × zc) :=
 match x with
 | .c_one_1 => zhM p0 q1
 | .c_both_1 => zgD p0 q1
 | .c_op_1 x0 x1 => zhF p0 q1
 | .c_third_1 => zhW p0 q1
 | .c_bound_1 => zg6 p0 q1
 | .c_to_1 => zhG p0 q1
 | .c_how_1 => zgN p0 q1
 | .c_parts_1 => zeD p0 q1
 | .c_within => zeD p0 q1
def zf0 (rec4 : UInt8 → UInt8 → Int → Int → Int → Int → Int → (List UInt8) → (List zx) → Int → Option ((List UInt8) × Bool)) (c3 : (List zx) × Bool) (x60 : UInt8) (x61 : UInt8) (x62 : Int) (x63 : Int) (x64 : Int) (x65 : Int) (x66 : Int) (x70 : List UInt8) (x75 : List zx) (x77 : Int) : Option ((List UInt8) × Bool) :=
 (if (decide (x77 < (c3.1.length : Int))) = true then (zM x75 x77).bind fun y113 => (zhe y113 (⟨x60, x61, x62, x63, x64, x65, x66⟩ : zc)).bind fun c131 => (if (!c131.1) = true then some ([], false) else (zgX y113 x70 (⟨c131.2.Kind, c131.2.Op, c131.2.R, c131.2.S, c131.2.T, c131.2.N, c131.2.M⟩ : zc)).bind fun c136 => rec4 c136.2.Kind c136.2.Op c136.2.R c136.2.S c136.2.T c136.2.N c136.2.M c136.1 x75 (IntKind.i64.wrap (x77 + 1))) else some (x70, true))
def zgA (c3 : (List zx) × Bool) : Nat → UInt8 → UInt8 → Int → Int → Int → Int → Int → (List UInt8) → (List zx) → Int → Option ((List UInt8) × Bool)
 | 0, _, _, _, _, _, _, _, _, _, _ => none
 | n + 1, x60, x61, x62, x63, x64, x65, x66, x70, x75, x77 => zf0 (zgA c3 n) c3 x60 x61 x62 x63 x64 x65 x66 x70 x75 x77
def zc5 (p0 : zc) : Option ((List UInt8) × Bool) :=
 (zee (p0.Kind.toNat : Int)).bind fun c3 => (if (!c3.2) = true then some ([], false) else zgA c3 big p0.Kind p0.Op p0.R p0.S p0.T p0.N p0.M ([p0.Kind] : List UInt8) c3.1 0)
def zdd (p0 : zc) : Option Bool :=
 (zc5 (⟨p0.Kind, p0.Op, p0.R, p0.S, p0.T, p0.N, p0.M⟩ : zc)).bind fun c3 => (if (!c3.2) = true then some false else (zc0 c3.1 0).bind fun c15 => some (c15.2.2 && (( (c15.1.Kind.toNat : Int) == (p0.Kind.toNat : Int)) && (( (c15.1.Op.toNat : Int) == (p0.Op.toNat : Int)) && (( c15.1.R == p0.R) && (( c15.1.S == p0.S) && (( c15.1.T == p0.T) && (( c15.1.N == p0.N) && (( c15.1.M == p0.M) && true)))))))))
def zeU (p0 : (List UInt8)) (p1 : (List UInt8)) : Option Bool :=
 some (zhy (⟨p0.toArray⟩ : ByteArray) (⟨p1.toArray⟩ : ByteArray))
def zek (p0 : (List UInt8)) (p1 : zc) : Option (List UInt8) :=
 (zcq p0).bind fun c4 => (zdd (⟨p1.Kind, p1.Op, p1.R, p1.S, p1.T, p1.N, p1.M⟩ : zc)).bind fun c13 => (if (!c13) = true then some c4 else (zc5 (⟨p1.Kind, p1.Op, p1.R, p1.S, p1.T, p1.N, p1.M⟩ : zc)).bind fun c18 => (room (c4.length + c18.1.length)).bind fun _ => some (c4 ++ c18.1))
def zd1 (p0 : (List UInt8)) (p1 : Int) : Option (zc × Int × Int) :=
 (if ((decide (p1 < 0)) || (decide (p1 > (p0.length : Int)))) = true then some ((⟨(0 : UInt8), (0 : UInt8), 0, 0, 0, 0, 0⟩ : zc), 0, 1) else (zc0 p0 p1).bind fun c5 => ((if (!c5.2.2) = true then some true else (zdd (⟨c5.1.Kind, c5.1.Op, c5.1.R, c5.1.S, c5.1.T, c5.1.N, c5.1.M⟩ : zc)).bind fun c13 => some (!c13))).bind fun c10 => ((if c10 = true then some true else (zbR p0 p1 c5.2.1).bind fun y20 => (zek [] (⟨c5.1.Kind, c5.1.Op, c5.1.R, c5.1.S, c5.1.T, c5.1.N, c5.1.M⟩ : zc)).bind fun c25 => (zeU c25 y20).bind fun c36 => some (!c36))).bind fun c17 => (if c17 = true then some ((⟨(0 : UInt8), (0 : UInt8), 0, 0, 0, 0, 0⟩ : zc), 0, 5) else some ((⟨c5.1.Kind, c5.1.Op, c5.1.R, c5.1.S, c5.1.T, c5.1.N, c5.1.M⟩ : zc), c5.2.1, 0)))
def zb2 (p0 : Int) : Option (Except (Value) (Unit)) :=
 some (.error (.iface 59 (.int .u8 p0) : Value))
def zd8 (q0 : zf) (p1 : Int) : Option (Except (Value) (Int)) :=
 (if (decide ((IntKind.i64.wrap ((q0.regs 15) - p1)) < 0)) = true then zQ (zb2 7) (fun x8 => some (.error x8)) fun c4 => some (.ok (IntKind.i64.wrap ((q0.regs 15) - p1))) else some (.ok (IntKind.i64.wrap ((q0.regs 15) - p1))))
def zc4 (q0 : zf) (p1 : Int) : Option (Except (Value) (Int)) :=
 (if ((decide (p1 < 0)) || (decide (p1 ≥ (q0.words.length : Int)))) = true then zQ (zb2 6) (fun x8 => some (.error x8)) fun c4 => (zM q0.words p1).bind fun y12 => some (.ok p1) else (zM q0.words p1).bind fun y19 => some (.ok p1))
def zhK (q0 : zf) (p1 : Int) (p2 : Int) : Option (Except (Value × zf) (Int × zf)) :=
 zQ (zd8 (⟨q0.code, q0.pc, q0.regs, q0.words, q0.input, q0.out, q0.how, q0.halting⟩ : zf) 1) (fun x8 => some (.error (x8, (⟨q0.code, q0.pc, q0.regs, q0.words, q0.input, q0.out, q0.how, q0.halting⟩ : zf)))) fun c4 => zQ (zc4 (⟨q0.code, q0.pc, q0.regs, q0.words, q0.input, q0.out, q0.how, q0.halting⟩ : zf) c4) (fun x16 => some (.error (x16, (⟨q0.code, q0.pc, q0.regs, q0.words, q0.input, q0.out, q0.how, q0.halting⟩ : zf)))) fun c12 => (zM q0.words c12).bind fun y21 => some (.ok (p1, (⟨q0.code, q0.pc, (zew [(q0.regs 0), (q0.regs 1), (q0.regs 2), (q0.regs 3), (q0.regs 4), (q0.regs 5), (q0.regs 6), (q0.regs 7), (q0.regs 8), (q0.regs 9), (q0.regs 10), (q0.regs 11), (q0.regs 12), (q0.regs 13), (q0.regs 14), c4]), (q0.words.set (Int.toNat c12) p2), q0.input, q0.out, q0.how, q0.halting⟩ : zf)))
def zfJ (q0 : zf) (y11 : Int) : Option (Except (Value × zf) (Int × zf)) :=
 some (.ok (y11, (⟨q0.code, q0.pc, (zew [(q0.regs 0), (q0.regs 1), (q0.regs 2), (q0.regs 3), (q0.regs 4), (q0.regs 5), (q0.regs 6), (q0.regs 7), (q0.regs 8), (q0.regs 9), (q0.regs 10), (q0.regs 11), (q0.regs 12), (q0.regs 13), (q0.regs 14), (IntKind.i64.wrap ((q0.regs 15) + 1))]), q0.words, q0.input, q0.out, q0.how, q0.halting⟩ : zf)))
def zh3 (q0 : zf) : Option (Except (Value × zf) (Int × zf)) :=
 zQ (zc4 (⟨q0.code, q0.pc, q0.regs, q0.words, q0.input, q0.out, q0.how, q0.halting⟩ : zf) (q0.regs 15)) (fun x6 => some (.error (x6, (⟨q0.code, q0.pc, q0.regs, q0.words, q0.input, q0.out, q0.how, q0.halting⟩ : zf)))) fun c2 => (zM q0.words c2).bind fun y11 => (if ((decide (y11 < 0)) || (decide (y11 ≥ 16777216))) = true then zQ (zb2 5) (fun x37 => some (.error (x37, (⟨q0.code, q0.pc, q0.regs, q0.words, q0.input, q0.out, q0.how, q0.halting⟩ : zf)))) fun c33 => zfJ q0 y11 else zfJ q0 y11)
def zcG (p0 : Bool) : Option Int :=
 (if p0 = true then some 1 else some 0)
def zfT (p0 : Int) (p1 : Int) (p2 : Int) : Option (Except (Value) (Int)) :=
 (if (p0 == 4) = true then (zgI .i64 p1 p2).bind fun y14 => some (.ok y14) else (zgT .i64 p1 p2).bind fun y16 => some (.ok y16))
def zhP (p0 : Int) (p1 : Int) (p2 : Int) : Option (Except (Value) (Int)) :=
 (if (p2 == 0) = true then zQ (zb2 2) (fun x23 => some (.error x23)) fun c19 => zfT p0 p1 p2 else zfT p0 p1 p2)
def zeE (p0 : Int) (p1 : Int) (p2 : Int) (x8 : Bool) : Option (Except (Value) (Int)) :=
 (if x8 = true then zQ (zhP p0 p1 p2) (fun x14 => some (.error x14)) fun c10 => some (.ok c10) else (if (p0 == 6) = true then (zcG (p1 == p2)).bind fun c19 => some (.ok c19) else (if (p0 == 7) = true then (zcG (p1 != p2)).bind fun c24 => some (.ok c24) else (if (p0 == 8) = true then (zcG (decide (p1 < p2))).bind fun c29 => some (.ok c29) else (if (p0 == 9) = true then (zcG (decide (p1 ≤ p2))).bind fun c34 => some (.ok c34) else (if (p0 == 10) = true then (zcG (decide (p1 > p2))).bind fun c39 => some (.ok c39) else (if (p0 == 11) = true then (zcG (decide (p1 ≥ p2))).bind fun c44 => some (.ok c44) else (if (p0 == 12) = true then some (.ok (zca .i64 p1 p2)) else some (.ok (orI .i64 p1 p2))))))))))
def zex (p0 : Int) (p1 : Int) (p2 : Int) : Option (Except (Value) (Int)) :=
 (if (p0 == 1) = true then some (.ok (IntKind.i64.wrap (p1 + p2))) else (if (p0 == 2) = true then some (.ok (IntKind.i64.wrap (p1 - p2))) else (if (p0 == 3) = true then some (.ok (IntKind.i64.wrap (p1 * p2))) else (if (p0 == 4) = true then zeE p0 p1 p2 (p0 == 4) else zeE p0 p1 p2 (p0 == 5)))))
def zfW (q0 : zf) (p1 : zc) (y4 : Nat) (y7 : Nat) : Option (Except (Value) (Int)) :=
 zQ (zc4 (⟨q0.code, q0.pc, q0.regs, q0.words, q0.input, q0.out, q0.how, q0.halting⟩ : zf) (IntKind.i64.wrap ((IntKind.i64.wrap ((q0.regs y4) + p1.N)) + (q0.regs y7)))) (fun x26 => some (.error x26)) fun c22 => (zM q0.words c22).bind fun y31 => some (.ok c22)
def zeH (q0 : zf) (p1 : zc) : Option (Except (Value) (Int)) :=
 (zcj p1.S 16).bind fun y4 => (if (((p1.Kind.toNat : Int) == 8) || ((p1.Kind.toNat : Int) == 9)) = true then (zcj p1.T 16).bind fun y7 => (if ((decide ((q0.regs y7) < 0)) || (decide ((q0.regs y7) ≥ p1.M))) = true then zQ (zb2 3) (fun x44 => some (.error x44)) fun c40 => zfW q0 p1 y4 y7 else zfW q0 p1 y4 y7) else zQ (zc4 (⟨q0.code, q0.pc, q0.regs, q0.words, q0.input, q0.out, q0.how, q0.halting⟩ : zf) (IntKind.i64.wrap ((q0.regs y4) + p1.N))) (fun x52 => some (.error x52)) fun c48 => (zM q0.words c48).bind fun y57 => some (.ok c48))
def zg7 (q0 : zf) (p1 : Int) : Option (Except (Value × zf) (zf)) :=
 zQ (zd8 (⟨q0.code, q0.pc, q0.regs, q0.words, q0.input, q0.out, q0.how, q0.halting⟩ : zf) p1) (fun x7 => some (.error (x7, (⟨q0.code, q0.pc, q0.regs, q0.words, q0.input, q0.out, q0.how, q0.halting⟩ : zf)))) fun c3 => (if (decide (c3 > (q0.words.length : Int))) = true then zQ (zb2 6) (fun x16 => some (.error (x16, (⟨q0.code, q0.pc, q0.regs, q0.words, q0.input, q0.out, q0.how, q0.halting⟩ : zf)))) fun c12 => some (.ok (⟨q0.code, q0.pc, (zew [(q0.regs 0), (q0.regs 1), (q0.regs 2), (q0.regs 3), (q0.regs 4), (q0.regs 5), (q0.regs 6), (q0.regs 7), (q0.regs 8), (q0.regs 9), (q0.regs 10), (q0.regs 11), (q0.regs 12), (q0.regs 13), (q0.regs 14), c3]), q0.words, q0.input, q0.out, q0.how, q0.halting⟩ : zf)) else some (.ok (⟨q0.code, q0.pc, (zew [(q0.regs 0), (q0.regs 1), (q0.regs 2), (q0.regs 3), (q0.regs 4), (q0.regs 5), (q0.regs 6), (q0.regs 7), (q0.regs 8), (q0.regs 9), (q0.regs 10), (q0.regs 11), (q0.regs 12), (q0.regs 13), (q0.regs 14), c3]), q0.words, q0.input, q0.out, q0.how, q0.halting⟩ : zf)))
def zfc (q0 : zf) : Option (Except (Value × zf) (Int × zf)) :=
 (zM q0.input 0).bind fun y15 => (zbR q0.input 1 (q0.input.length : Int)).bind fun y20 => some (.ok (y15, (⟨q0.code, q0.pc, q0.regs, q0.words, y20, q0.out, q0.how, q0.halting⟩ : zf)))
def zgS (q0 : zf) : Option (Except (Value × zf) (Int × zf)) :=
 (if ((q0.input.length : Int) == 0) = true then zQ (zb2 4) (fun x30 => some (.error (x30, (⟨q0.code, q0.pc, q0.regs, q0.words, q0.input, q0.out, q0.how, q0.halting⟩ : zf)))) fun c26 => zfc q0 else zfc q0)
def zbi (x180 : List UInt8) (x182 : Int) (x183 : (Nat → Int)) (x188 : List Int) (x193 : List Int) (x198 : List Int) (x200 : UInt8) (x201 : Int) : Option (Except (Value × zf) (zf)) :=
 some (.ok (⟨x180, x182, x183, x188, x193, x198, x200, x201⟩ : zf))
def zbS (q0 : zf) (p1 : zc) (y4 : Nat) (x249 : Bool) : Option (Except (Value × zf) (zf)) :=
 (if x249 = true then zQ (zeH (⟨q0.code, q0.pc, q0.regs, q0.words, q0.input, q0.out, q0.how, q0.halting⟩ : zf) (⟨p1.Kind, p1.Op, p1.R, p1.S, p1.T, p1.N, p1.M⟩ : zc)) (fun x255 => some (.error (x255, (⟨q0.code, q0.pc, q0.regs, q0.words, q0.input, q0.out, q0.how, q0.halting⟩ : zf)))) fun c251 => (zM q0.words c251).bind fun y260 => zbi q0.code q0.pc q0.regs (q0.words.set (Int.toNat c251) (q0.regs y4)) q0.input q0.out q0.how q0.halting else (if ((p1.Kind.toNat : Int) == 14) = true then zQ (zg7 (⟨q0.code, q0.pc, q0.regs, q0.words, q0.input, q0.out, q0.how, q0.halting⟩ : zf) p1.N) (fun x275 => some (.error (x275.1, (⟨x275.2.code, x275.2.pc, x275.2.regs, x275.2.words, x275.2.input, x275.2.out, x275.2.how, x275.2.halting⟩ : zf)))) fun c271 => zbi c271.code c271.pc c271.regs c271.words c271.input c271.out c271.how c271.halting else (if ((p1.Kind.toNat : Int) == 15) = true then zQ (zgS (⟨q0.code, q0.pc, q0.regs, q0.words, q0.input, q0.out, q0.how, q0.halting⟩ : zf)) (fun x320 => some (.error (x320.1, (⟨x320.2.code, x320.2.pc, x320.2.regs, x320.2.words, x320.2.input, x320.2.out, x320.2.how, x320.2.halting⟩ : zf)))) fun c316 => zbi c316.2.code c316.2.pc (zq c316.2.regs y4 c316.1) c316.2.words c316.2.input c316.2.out c316.2.how c316.2.halting else (if ((p1.Kind.toNat : Int) == 16) = true then (room (q0.out.length + ([(q0.regs y4)] : List Int).length)).bind fun _ => zbi q0.code q0.pc q0.regs q0.words q0.input (q0.out ++ ([(q0.regs y4)] : List Int)) q0.how q0.halting else zbi q0.code q0.pc q0.regs q0.words q0.input q0.out q0.how q0.halting))))
def zbP (q0 : zf) (p1 : zc) (y4 : Nat) (x225 : Bool) : Option (Except (Value × zf) (zf)) :=
 (if x225 = true then zQ (zeH (⟨q0.code, q0.pc, q0.regs, q0.words, q0.input, q0.out, q0.how, q0.halting⟩ : zf) (⟨p1.Kind, p1.Op, p1.R, p1.S, p1.T, p1.N, p1.M⟩ : zc)) (fun x231 => some (.error (x231, (⟨q0.code, q0.pc, q0.regs, q0.words, q0.input, q0.out, q0.how, q0.halting⟩ : zf)))) fun c227 => (zM q0.words c227).bind fun y236 => zbi q0.code q0.pc (zq q0.regs y4 y236) q0.words q0.input q0.out q0.how q0.halting else (if ((p1.Kind.toNat : Int) == 7) = true then zbS q0 p1 y4 ((p1.Kind.toNat : Int) == 7) else zbS q0 p1 y4 ((p1.Kind.toNat : Int) == 9)))
def zdF (q0 : zf) (p1 : zc) : Option (Except (Value × zf) (zf)) :=
 (zcj p1.R 16).bind fun y4 => (zcj p1.S 16).bind fun y6 => (if ((p1.Kind.toNat : Int) == 2) = true then zbi q0.code q0.pc (zq q0.regs y4 p1.N) q0.words q0.input q0.out q0.how q0.halting else (if ((p1.Kind.toNat : Int) == 3) = true then zbi q0.code q0.pc (zq q0.regs y4 (q0.regs y6)) q0.words q0.input q0.out q0.how q0.halting else (if ((p1.Kind.toNat : Int) == 4) = true then (zcj p1.T 16).bind fun y205 => zQ (zex (p1.Op.toNat : Int) (q0.regs y6) (q0.regs y205)) (fun x211 => some (.error (x211, (⟨q0.code, q0.pc, q0.regs, q0.words, q0.input, q0.out, q0.how, q0.halting⟩ : zf)))) fun c207 => zbi q0.code q0.pc (zq q0.regs y4 c207) q0.words q0.input q0.out q0.how q0.halting else (if ((p1.Kind.toNat : Int) == 5) = true then (zcG ((p1.Op.toNat : Int) == 14)).bind fun c216 => zbi q0.code q0.pc (zq q0.regs y4 (IntKind.i64.wrap (c216 - (q0.regs y6)))) q0.words q0.input q0.out q0.how q0.halting else (if ((p1.Kind.toNat : Int) == 6) = true then zbP q0 p1 y4 ((p1.Kind.toNat : Int) == 6) else zbP q0 p1 y4 ((p1.Kind.toNat : Int) == 8))))))
def zfN (q0 : zf) (p1 : zc) (p2 : Int) : Option (Except (Value × zf) (Int × zf)) :=
 (if ((p1.Kind.toNat : Int) == 10) = true then some (.ok (p1.N, (⟨q0.code, q0.pc, q0.regs, q0.words, q0.input, q0.out, q0.how, q0.halting⟩ : zf))) else (if ((p1.Kind.toNat : Int) == 11) = true then (zcj p1.R 16).bind fun y7 => (if ((q0.regs y7) == 0) = true then some (.ok (p1.N, (⟨q0.code, q0.pc, q0.regs, q0.words, q0.input, q0.out, q0.how, q0.halting⟩ : zf))) else some (.ok (p2, (⟨q0.code, q0.pc, q0.regs, q0.words, q0.input, q0.out, q0.how, q0.halting⟩ : zf)))) else (if ((p1.Kind.toNat : Int) == 12) = true then zQ (zhK (⟨q0.code, q0.pc, q0.regs, q0.words, q0.input, q0.out, q0.how, q0.halting⟩ : zf) p1.N p2) (fun x15 => some (.error (x15.1, (⟨x15.2.code, x15.2.pc, x15.2.regs, x15.2.words, x15.2.input, x15.2.out, x15.2.how, x15.2.halting⟩ : zf)))) fun c11 => some (.ok (c11.1, (⟨c11.2.code, c11.2.pc, c11.2.regs, c11.2.words, c11.2.input, c11.2.out, c11.2.how, c11.2.halting⟩ : zf))) else (if ((p1.Kind.toNat : Int) == 13) = true then zQ (zh3 (⟨q0.code, q0.pc, q0.regs, q0.words, q0.input, q0.out, q0.how, q0.halting⟩ : zf)) (fun x60 => some (.error (x60.1, (⟨x60.2.code, x60.2.pc, x60.2.regs, x60.2.words, x60.2.input, x60.2.out, x60.2.how, x60.2.halting⟩ : zf)))) fun c56 => some (.ok (c56.1, (⟨c56.2.code, c56.2.pc, c56.2.regs, c56.2.words, c56.2.input, c56.2.out, c56.2.how, c56.2.halting⟩ : zf))) else (if ((p1.Kind.toNat : Int) == 17) = true then (zcj p1.R 16).bind fun y101 => zQ (zb2 1) (fun x107 => some (.error (x107, (⟨q0.code, q0.pc, q0.regs, q0.words, q0.input, q0.out, q0.how, (q0.regs y101)⟩ : zf)))) fun c103 => zQ (zdF (⟨q0.code, q0.pc, q0.regs, q0.words, q0.input, q0.out, q0.how, (q0.regs y101)⟩ : zf) (⟨p1.Kind, p1.Op, p1.R, p1.S, p1.T, p1.N, p1.M⟩ : zc)) (fun x115 => some (.error (x115.1, (⟨x115.2.code, x115.2.pc, x115.2.regs, x115.2.words, x115.2.input, x115.2.out, x115.2.how, x115.2.halting⟩ : zf)))) fun c111 => some (.ok (p2, (⟨c111.code, c111.pc, c111.regs, c111.words, c111.input, c111.out, c111.how, c111.halting⟩ : zf))) else (if ((p1.Kind.toNat : Int) == 18) = true then zQ (zb2 (IntKind.u8.wrap p1.N)) (fun x160 => some (.error (x160, (⟨q0.code, q0.pc, q0.regs, q0.words, q0.input, q0.out, q0.how, q0.halting⟩ : zf)))) fun c156 => zQ (zdF (⟨q0.code, q0.pc, q0.regs, q0.words, q0.input, q0.out, q0.how, q0.halting⟩ : zf) (⟨p1.Kind, p1.Op, p1.R, p1.S, p1.T, p1.N, p1.M⟩ : zc)) (fun x168 => some (.error (x168.1, (⟨x168.2.code, x168.2.pc, x168.2.regs, x168.2.words, x168.2.input, x168.2.out, x168.2.how, x168.2.halting⟩ : zf)))) fun c164 => some (.ok (p2, (⟨c164.code, c164.pc, c164.regs, c164.words, c164.input, c164.out, c164.how, c164.halting⟩ : zf))) else zQ (zdF (⟨q0.code, q0.pc, q0.regs, q0.words, q0.input, q0.out, q0.how, q0.halting⟩ : zf) (⟨p1.Kind, p1.Op, p1.R, p1.S, p1.T, p1.N, p1.M⟩ : zc)) (fun x212 => some (.error (x212.1, (⟨x212.2.code, x212.2.pc, x212.2.regs, x212.2.words, x212.2.input, x212.2.out, x212.2.how, x212.2.halting⟩ : zf)))) fun c208 => some (.ok (p2, (⟨c208.code, c208.pc, c208.regs, c208.words, c208.input, c208.out, c208.how, c208.halting⟩ : zf)))))))))
def zf8 (q0 : zf) (qf1 : UInt8) (x13 : UInt8) (x14 : UInt8) (x15 : Int) (x16 : Int) (x17 : Int) (x18 : Int) (x19 : Int) (x20 : Int) : Option (Except (Value × zf × UInt8) (zf × UInt8)) :=
 zQ (zfN (⟨q0.code, q0.pc, q0.regs, q0.words, q0.input, q0.out, q0.how, q0.halting⟩ : zf) (⟨x13, x14, x15, x16, x17, x18, x19⟩ : zc) x20) (fun x40 => some (.error (x40.1, (⟨x40.2.code, x40.2.pc, x40.2.regs, x40.2.words, x40.2.input, x40.2.out, x40.2.how, x40.2.halting⟩ : zf), qf1))) fun c36 => some (.ok ((⟨c36.2.code, c36.1, c36.2.regs, c36.2.words, c36.2.input, c36.2.out, c36.2.how, c36.2.halting⟩ : zf), c36.2.how))
def zhv (q0 : zf) (qf1 : UInt8) (x13 : UInt8) (x14 : UInt8) (x15 : Int) (x16 : Int) (x17 : Int) (x18 : Int) (x19 : Int) (x20 : Int) (x21 : Int) : Option (Except (Value × zf × UInt8) (zf × UInt8)) :=
 (if (x21 != 0) = true then zQ (zb2 5) (fun x85 => some (.error (x85, (⟨q0.code, q0.pc, q0.regs, q0.words, q0.input, q0.out, q0.how, q0.halting⟩ : zf), qf1))) fun c81 => zf8 q0 qf1 x13 x14 x15 x16 x17 x18 x19 x20 else zf8 q0 qf1 x13 x14 x15 x16 x17 x18 x19 x20)
def zgd (q0 : zf) (qf1 : UInt8) : Option (Except (Value × zf × UInt8) (zf × UInt8)) :=
 (zd1 q0.code q0.pc).bind fun c89 => zhv q0 qf1 c89.1.Kind c89.1.Op c89.1.R c89.1.S c89.1.T c89.1.N c89.1.M c89.2.1 c89.2.2
def zg8 (qf0 : zf) (qf1 : UInt8) (k5 : UInt8) : Option (zf × UInt8) :=
 some ((⟨qf0.code, qf0.pc, qf0.regs, qf0.words, qf0.input, qf0.out, k5, qf0.halting⟩ : zf), k5)
def zdg : Value → Option UInt8
 | .iface 59 (.int .u8 n) => if 0 ≤ n ∧ n < 256 then some (UInt8.ofNat n.toNat) else none
 | _ => none
def zcl (q0 : zf) : Option (Int × zf) :=
 (if ((q0.how.toNat : Int) != 0) = true then some ((q0.how.toNat : Int), q0) else match zgd q0 0 with
  | none => none
  | some (.ok c) => some ((c.2.toNat : Int), c.1)
  | some (.error c) => (zdg c.1).bind fun k => (zg8 c.2.1 c.2.2 k).bind fun c => some ((c.2.toNat : Int), c.1))
def ziF (rec4 : (List UInt8) → Int → (Nat → Int) → (List Int) → (List Int) → (List Int) → UInt8 → Int → Int → Option (Int × Int × zf))  (x43 : List UInt8) (x45 : Int) (x46 : (Nat → Int)) (x50 : List Int) (x54 : List Int) (x59 : List Int) (x61 : UInt8) (x62 : Int) (x63 : Int) : Option (Int × Int × zf) :=
 ((if (decide (x63 > 0)) = true then (zdA (⟨x43, x45, x46, x50, x54, x59, x61, x62⟩ : zf)).bind fun c102 => some (c102 == 0) else some false)).bind fun c99 => (if c99 = true then (zcl (⟨x43, x45, x46, x50, x54, x59, x61, x62⟩ : zf)).bind fun c107 => rec4 c107.2.code c107.2.pc c107.2.regs c107.2.words c107.2.input c107.2.out c107.2.how c107.2.halting (IntKind.i64.wrap (x63 - 1)) else (zdA (⟨x43, x45, x46, x50, x54, x59, x61, x62⟩ : zf)).bind fun c129 => some (c129, x63, (⟨x43, x45, x46, x50, x54, x59, x61, x62⟩ : zf)))
def zh1  : Nat → (List UInt8) → Int → (Nat → Int) → (List Int) → (List Int) → (List Int) → UInt8 → Int → Int → Option (Int × Int × zf)
 | 0, _, _, _, _, _, _, _, _, _ => none
 | n + 1, x43, x45, x46, x50, x54, x59, x61, x62, x63 => ziF (zh1  n)  x43 x45 x46 x50 x54 x59 x61 x62 x63
def zg5 (q0 : zf) (p1 : Int) : Option (Int × Int × zf) :=
 zh1  big q0.code q0.pc q0.regs q0.words q0.input q0.out q0.how q0.halting (zcr 0 p1)
def zc3 (q0 : zf) : Option (List Int) :=
 (zc7 q0.out).bind fun c2 => some c2
def zio (q0 : zf) : Option (Int × Bool) :=
 (zdA (⟨q0.code, q0.pc, q0.regs, q0.words, q0.input, q0.out, q0.how, q0.halting⟩ : zf)).bind fun c2 => (if (c2 != 1) = true then some (0, false) else some (q0.halting, true))
def zc1  : Option Bool :=
 (zez ([(2 : UInt8), (1 : UInt8), (7 : UInt8), (16 : UInt8), (1 : UInt8), (17 : UInt8), (1 : UInt8)] : List UInt8) 0 10 []).bind fun c5 => ze5 c5.1 (if ((c5.2 != 0) || true) = true then some false else none) fun m9 => (if ((c5.2 != 0) || false) = true then some false else (zg5 (⟨m9.code, m9.pc, m9.regs, m9.words, m9.input, m9.out, m9.how, m9.halting⟩ : zf) 2).bind fun c38 => (zg5 (⟨c38.2.2.code, c38.2.2.pc, c38.2.2.regs, c38.2.2.words, c38.2.2.input, c38.2.2.out, c38.2.2.how, c38.2.2.halting⟩ : zf) 5).bind fun c60 => (zio (⟨c60.2.2.code, c60.2.2.pc, c60.2.2.regs, c60.2.2.words, c60.2.2.input, c60.2.2.out, c60.2.2.how, c60.2.2.halting⟩ : zf)).bind fun c82 => (zc3 (⟨c60.2.2.code, c60.2.2.pc, c60.2.2.regs, c60.2.2.words, c60.2.2.input, c60.2.2.out, c60.2.2.how, c60.2.2.halting⟩ : zf)).bind fun c86 => ((if (((((((c38.1 == 0) && (c38.2.1 == 0)) && (c60.1 == 1)) && (c60.2.1 == 4)) && c82.2) && (c82.1 == 7)) && ((c86.length : Int) == 1)) = true then (zM c86 0).bind fun y98 => some (y98 == 7) else some false)).bind fun c95 => some c95)
def zdS (rec4 : (List UInt8) → Int → Option (List UInt8)) (p0 : (List UInt8)) (x18 : List UInt8) (x21 : Int) : Option (List UInt8) :=
 (if (decide (x21 < (p0.length : Int))) = true then (zM p0 x21).bind fun y35 => (room (x18.length + 1)).bind fun _ => rec4 (x18 ++ [y35]) (IntKind.i64.wrap (x21 + 1)) else some x18)
def zeh (p0 : (List UInt8)) : Nat → (List UInt8) → Int → Option (List UInt8)
 | 0, _, _ => none
 | n + 1, x18, x21 => zdS (zeh p0 n) p0 x18 x21
def zd9 (p0 : (List UInt8)) : Option (List UInt8) :=
 zeh p0 big ([]) 0
def zbg (p0 : Int) : Option (ByteArray × Bool) :=
 (if ((decide (p0 < 1)) || (decide ((IntKind.i64.wrap p0) > (([(⟨#[]⟩ : ByteArray), (⟨#[114, 110]⟩ : ByteArray), (⟨#[97]⟩ : ByteArray), (⟨#[111, 97, 116]⟩ : ByteArray), (⟨#[111, 97]⟩ : ByteArray), (⟨#[97, 110]⟩ : ByteArray), (⟨#[97, 110]⟩ : ByteArray), (⟨#[97, 116, 110, 109]⟩ : ByteArray), (⟨#[97, 116, 110, 109]⟩ : ByteArray), (⟨#[106]⟩ : ByteArray), (⟨#[114, 106]⟩ : ByteArray), (⟨#[106]⟩ : ByteArray), (⟨#[]⟩ : ByteArray), (⟨#[110]⟩ : ByteArray), (⟨#[114]⟩ : ByteArray), (⟨#[114]⟩ : ByteArray), (⟨#[114]⟩ : ByteArray), (⟨#[107]⟩ : ByteArray)] : List ByteArray).length : Int)))) = true then some ((⟨#[]⟩ : ByteArray), false) else (zM ([(⟨#[]⟩ : ByteArray), (⟨#[114, 110]⟩ : ByteArray), (⟨#[97]⟩ : ByteArray), (⟨#[111, 97, 116]⟩ : ByteArray), (⟨#[111, 97]⟩ : ByteArray), (⟨#[97, 110]⟩ : ByteArray), (⟨#[97, 110]⟩ : ByteArray), (⟨#[97, 116, 110, 109]⟩ : ByteArray), (⟨#[97, 116, 110, 109]⟩ : ByteArray), (⟨#[106]⟩ : ByteArray), (⟨#[114, 106]⟩ : ByteArray), (⟨#[106]⟩ : ByteArray), (⟨#[]⟩ : ByteArray), (⟨#[110]⟩ : ByteArray), (⟨#[114]⟩ : ByteArray), (⟨#[114]⟩ : ByteArray), (⟨#[114]⟩ : ByteArray), (⟨#[107]⟩ : ByteArray)] : List ByteArray) (IntKind.u8.wrap (p0 - 1))).bind fun y7 => some (y7, true))
def zdp (p0 : Int) (p1 : Bool) : Option Bool :=
 ((if (p0 == 0) = true then some true else (if p1 = true then (if (decide (p0 > 0)) = true then some (decide (p0 < 16)) else some false) else (if false = true then some (decide (p0 < 16)) else some false)))).bind fun c3 => some c3
def zeL (rec4 : Int → Option Bool) (p0 : ByteArray) (p1 : Int) (x7 : Int) : Option Bool :=
 (if (decide (x7 < (p0.size : Int))) = true then (zed p0 x7).bind fun y14 => (if ((y14.toNat : Int) == p1) = true then some true else rec4 (IntKind.i64.wrap (x7 + 1))) else some false)
def zfB (p0 : ByteArray) (p1 : Int) : Nat → Int → Option Bool
 | 0, _ => none
 | n + 1, x7 => zeL (zfB p0 p1 n) p0 p1 x7
def zm (p0 : ByteArray) (p1 : Int) : Option Bool :=
 zfB p0 p1 big 0
def zbl (p0 : zc) (c3 : ByteArray × Bool) : Option Bool :=
 (if ((p0.Kind.toNat : Int) == 2) = true then some true else (zm c3.1 110).bind fun c73 => (if c73 = true then some ((decide (p0.N ≥ (-65536))) && (decide (p0.N ≤ 65536))) else (zm c3.1 106).bind fun c78 => (if c78 = true then some ((decide (p0.N ≥ 0)) && (decide (p0.N < 16777216))) else (zm c3.1 107).bind fun c83 => (if c83 = true then some ((decide (p0.N ≥ 2)) && (decide (p0.N ≤ 4))) else some (p0.N == 0)))))
def zT (p0 : zc) : Option Bool :=
 (zbg (p0.Kind.toNat : Int)).bind fun c3 => ((if (!c3.2) = true then some true else (zm c3.1 114).bind fun c10 => (if c10 = true then (zdp p0.R true).bind fun c15 => some (!c15) else (zm c3.1 97).bind fun c19 => (zdp p0.R c19).bind fun c23 => some (!c23)))).bind fun c7 => ((if c7 = true then some true else (zm c3.1 97).bind fun c30 => (zdp p0.S c30).bind fun c34 => some (!c34))).bind fun c27 => ((if c27 = true then some true else (zm c3.1 116).bind fun c41 => (zdp p0.T c41).bind fun c45 => some (!c45))).bind fun c38 => (if c38 = true then some false else (zm c3.1 109).bind fun c50 => ((if c50 = true then (if (decide (p0.M < 1)) = true then some true else some (decide (p0.M > 65536))) else some false)).bind fun c54 => ((if c54 = true then some true else (zm c3.1 109).bind fun c61 => (if (!c61) = true then some (p0.M != 0) else some false))).bind fun c58 => (if c58 = true then some false else (if ((p0.Kind.toNat : Int) == 4) = true then (if ((decide ((p0.Op.toNat : Int) < 1)) || (decide ((p0.Op.toNat : Int) > 13))) = true then some false else zbl p0 c3) else (if ((p0.Kind.toNat : Int) == 5) = true then (if (((p0.Op.toNat : Int) != 14) && ((p0.Op.toNat : Int) != 15)) = true then some false else zbl p0 c3) else (if ((p0.Op.toNat : Int) != 0) = true then some false else zbl p0 c3)))))
def zgf (rec4 : Int → Option (Int × Bool)) (p0 : Int) (p1 : Int) (x5 : Int) : Option (Int × Bool) :=
 (if (decide (x5 < 256)) = true then (if (((IntKind.i64.wrap (Int.tdiv x5 16)) == p0) && ((Int.tmod x5 16) == p1)) = true then some ((IntKind.u8.wrap x5), true) else rec4 (IntKind.i64.wrap (x5 + 1))) else some (0, false))
def zfM (p0 : Int) (p1 : Int) : Nat → Int → Option (Int × Bool)
 | 0, _ => none
 | n + 1, x5 => zgf (zfM p0 p1 n) p0 p1 x5
def zfu (p0 : Int) (p1 : Int) : Option (Int × Bool) :=
 zfM p0 p1 big 0
def zgu (p0 : Int) (p1 : Int) : Option Bool :=
 (if (decide ((IntKind.i64.wrap ((IntKind.i64.wrap (7 * p1)) - 1)) ≥ 63)) = true then some true else (zbY .i64 1 (IntKind.u64.wrap (IntKind.i64.wrap ((IntKind.i64.wrap (7 * p1)) - 1)))).bind fun y4 => ((if (decide (p0 ≥ (IntKind.i64.wrap (0 - y4)))) = true then (zbY .i64 1 (IntKind.u64.wrap (IntKind.i64.wrap ((IntKind.i64.wrap (7 * p1)) - 1)))).bind fun y9 => some (decide (p0 < y9)) else some false)).bind fun c6 => some c6)
def zfe (rec9 : Int → (List UInt8) → Int → Option (List UInt8)) (p3 : Int) (x41 : Int) (x47 : Int) (x73 : Int) (x77 : List UInt8) : Option (List UInt8) :=
 (if (decide (x47 < (IntKind.i64.wrap (p3 - 1)))) = true then (u8o (IntKind.u8.wrap (IntKind.u64.wrap ((Int.tmod x41 128) + 128)))).bind fun z80 => (room (x77.length + 1)).bind fun _ => rec9 x73 (x77 ++ [z80]) (IntKind.i64.wrap (x47 + 1)) else (u8o (IntKind.u8.wrap (Int.tmod x41 128))).bind fun z86 => (room (x77.length + 1)).bind fun _ => rec9 x73 (x77 ++ [z86]) (IntKind.i64.wrap (x47 + 1)))
def zgl (rec9 : Int → (List UInt8) → Int → Option (List UInt8)) (p2 : Bool) (p3 : Int) (x41 : Int) (x45 : List UInt8) (x47 : Int) : Option (List UInt8) :=
 (if (decide (x47 < p3)) = true then (if p2 = true then zfe rec9 p3 x41 x47 (orI .u64 (IntKind.u64.wrap (Int.tdiv x41 128)) 18302628885633695744) x45 else zfe rec9 p3 x41 x47 (IntKind.u64.wrap (Int.tdiv x41 128)) x45) else some x45)
def zdr (p2 : Bool) (p3 : Int) : Nat → Int → (List UInt8) → Int → Option (List UInt8)
 | 0, _, _, _ => none
 | n + 1, x41, x45, x47 => zgl (zdr p2 p3 n) p2 p3 x41 x45 x47
def zet (p0 : (List UInt8)) (p1 : Int) (p2 : Bool) (p3 : Int) : Option (List UInt8) :=
 (zd9 p0).bind fun c5 => zdr p2 p3 big p1 c5 0
def zfZ (rec4 : Int → Option (List UInt8)) (p0 : (List UInt8)) (p1 : Int) (x19 : Int) : Option (List UInt8) :=
 (zgu p1 x19).bind fun c35 => (if (!c35) = true then rec4 (IntKind.i64.wrap (x19 + 1)) else (zet p0 (IntKind.u64.wrap p1) (decide (p1 < 0)) x19).bind fun c40 => some c40)
def zeP (p0 : (List UInt8)) (p1 : Int) : Nat → Int → Option (List UInt8)
 | 0, _ => none
 | n + 1, x19 => zfZ (zeP p0 p1 n) p0 p1 x19
def zep (p0 : (List UInt8)) (p1 : Int) : Option (List UInt8) :=
 zeP p0 p1 big 1
def zfK (p0 : Int) (p1 : Int) : Option Bool :=
 ((if (decide ((IntKind.i64.wrap (7 * p1)) ≥ 64)) = true then some true else (zbY .u64 1 (IntKind.u64.wrap (IntKind.i64.wrap (7 * p1)))).bind fun y6 => some (decide (p0 < y6)))).bind fun c3 => some c3
def zeV (rec4 : Int → Option (List UInt8)) (p0 : (List UInt8)) (p1 : Int) (x19 : Int) : Option (List UInt8) :=
 (zfK p1 x19).bind fun c35 => (if (!c35) = true then rec4 (IntKind.i64.wrap (x19 + 1)) else (zet p0 p1 false x19).bind fun c40 => some c40)
def zgg (p0 : (List UInt8)) (p1 : Int) : Nat → Int → Option (List UInt8)
 | 0, _ => none
 | n + 1, x19 => zeV (zgg p0 p1 n) p0 p1 x19
def zfj (p0 : (List UInt8)) (p1 : Int) : Option (List UInt8) :=
 zgg p0 p1 big 1
def zfr (p0 : (List UInt8)) (p1 : Int) : Option ((List UInt8) × Int) :=
 (if ((decide (p1 < 0)) || (decide (p1 ≥ 16777216))) = true then some ([], 1) else (room (([] : List UInt8).length + p0.length)).bind fun _ => (u8o (IntKind.u8.wrap (IntKind.i64.wrap (Int.tdiv p1 65536)))).bind fun z13 => (u8o (IntKind.u8.wrap (Int.tmod (IntKind.i64.wrap (Int.tdiv p1 256)) 256))).bind fun z14 => (u8o (IntKind.u8.wrap (Int.tmod p1 256))).bind fun z15 => (room ((([] : List UInt8) ++ p0).length + ([z13, z14, z15] : List UInt8).length)).bind fun _ => some (((([] : List UInt8) ++ p0) ++ ([z13, z14, z15] : List UInt8)), 0))
def zhC (rec19 : (List UInt8) → Int → Option (List UInt8)) (x353 : Int) (x830 : List UInt8) : Option (List UInt8) :=
 rec19 x830 (IntKind.i64.wrap (x353 + 1))
def zcf (rec19 : (List UInt8) → Int → Option (List UInt8)) (x353 : Int) (x911 : List UInt8) : Option (List UInt8) :=
 zhC rec19 x353 x911
def zeQ (rec19 : (List UInt8) → Int → Option (List UInt8)) (p1 : zc) (c23 : ByteArray × Bool) (x351 : List UInt8) (x353 : Int) : Option (List UInt8) :=
 (if (decide (x353 < (c23.1.size : Int))) = true then (zed c23.1 x353).bind fun y832 => (if ((y832.toNat : Int) == 111) = true then (room (x351.length + 1)).bind fun _ => zcf rec19 x353 (x351 ++ [p1.Op]) else (if ((y832.toNat : Int) == 114) = true then (u8o (IntKind.u8.wrap p1.R)).bind fun z920 => (room (x351.length + 1)).bind fun _ => zcf rec19 x353 (x351 ++ [z920]) else (if ((y832.toNat : Int) == 97) = true then (zfu p1.R p1.S).bind fun c927 => (u8o c927.1).bind fun z931 => (room (x351.length + 1)).bind fun _ => zcf rec19 x353 (x351 ++ [z931]) else (if ((y832.toNat : Int) == 116) = true then (u8o (IntKind.u8.wrap p1.T)).bind fun z938 => (room (x351.length + 1)).bind fun _ => zcf rec19 x353 (x351 ++ [z938]) else (if ((y832.toNat : Int) == 110) = true then (zep x351 p1.N).bind fun c947 => zcf rec19 x353 c947 else (if ((y832.toNat : Int) == 109) = true then (zfj x351 (IntKind.u64.wrap p1.M)).bind fun c959 => zcf rec19 x353 c959 else (if ((y832.toNat : Int) == 106) = true then (zfr x351 p1.N).bind fun c971 => zcf rec19 x353 c971.1 else (if ((y832.toNat : Int) == 107) = true then (u8o (IntKind.u8.wrap p1.N)).bind fun z981 => (room (x351.length + 1)).bind fun _ => zcf rec19 x353 (x351 ++ [z981]) else zcf rec19 x353 x351)))))))) else some x351)
def zdq (p1 : zc) (c23 : ByteArray × Bool) : Nat → (List UInt8) → Int → Option (List UInt8)
 | 0, _, _ => none
 | n + 1, x351, x353 => zeQ (zdq p1 c23 n) p1 c23 x351 x353
def zfy (p0 : (List UInt8)) (p1 : zc) : Option (List UInt8) :=
 (zd9 p0).bind fun c4 => (zT (⟨p1.Kind, p1.Op, p1.R, p1.S, p1.T, p1.N, p1.M⟩ : zc)).bind fun c13 => (if (!c13) = true then some c4 else (room (c4.length + 1)).bind fun _ => (zbg (p1.Kind.toNat : Int)).bind fun c23 => zdq p1 c23 big (c4 ++ [p1.Kind]) 0)
def zgq (rec4 : (List UInt8) → Int → Option (List UInt8)) (p0 : zbe) (x37 : List UInt8) (x39 : Int) : Option (List UInt8) :=
 (if (decide (x39 < (p0.Code.length : Int))) = true then (zM p0.Code x39).bind fun y57 => (zfy x37 (⟨y57.Kind, y57.Op, y57.R, y57.S, y57.T, y57.N, y57.M⟩ : zc)).bind fun c62 => rec4 c62 (IntKind.i64.wrap (x39 + 1)) else some x37)
def ze1 (p0 : zbe) : Nat → (List UInt8) → Int → Option (List UInt8)
 | 0, _, _ => none
 | n + 1, x37, x39 => zgq (ze1 p0 n) p0 x37 x39
def zeF (p0 : zbe) : Option (List UInt8) :=
 (room (([] : List UInt8).length + p0.Bytes.length)).bind fun _ => ze1 p0 big (([] : List UInt8) ++ p0.Bytes) 0
def zdi (q0 : zf) : Option (List Int) :=
 (zc7 q0.words).bind fun c2 => some c2
def zd7 (q0 : zf) : Option (List Int) :=
 (zc7 ((List.range 16).map q0.regs)).bind fun c2 => some c2
def zfo (q0 : zf) : Option Int :=
 some q0.pc
def zgo (q0 : zf) : Option Int :=
 some (q0.input.length : Int)
def zfO (rec4 : Int → Option Bool) (p0 : (List Int)) (p1 : (List Int)) (x20 : Int) : Option Bool :=
 (if (decide (x20 < (p0.length : Int))) = true then (zM p0 x20).bind fun y35 => (zM p1 x20).bind fun y40 => (if (y35 != y40) = true then some false else rec4 (IntKind.i64.wrap (x20 + 1))) else some true)
def ze9 (p0 : (List Int)) (p1 : (List Int)) : Nat → Int → Option Bool
 | 0, _ => none
 | n + 1, x20 => zfO (ze9 p0 p1 n) p0 p1 x20
def zdI (p0 : (List Int)) (p1 : (List Int)) : Option Bool :=
 (if ((p0.length : Int) != (p1.length : Int)) = true then some false else ze9 p0 p1 big 0)
def zi9 (rec6 : Option Bool) (p0 : zbe)  : Option Bool :=
 (if (decide (0 < p0.Fuel)) = true then none else (zc1 ).bind fun c45 => some c45)
def zhR (p0 : zbe) : Nat → Option Bool
 | 0 => none
 | n + 1 => zi9 (zhR p0 n) p0
def ze8 (rec8 : (List UInt8) → Int → (Nat → Int) → (List Int) → (List Int) → (List Int) → UInt8 → Int → Int → Option Bool) (p0 : zbe) (x608 : List UInt8) (x610 : Int) (x611 : (Nat → Int)) (x615 : List Int) (x619 : List Int) (x624 : List Int) (x626 : UInt8) (x627 : Int) (x628 : Int) : Option Bool :=
 (if (decide (x628 < p0.Fuel)) = true then (zfo (⟨x608, x610, x611, x615, x619, x624, x626, x627⟩ : zf)).bind fun c790 => (zd7 (⟨x608, x610, x611, x615, x619, x624, x626, x627⟩ : zf)).bind fun c794 => (zdi (⟨x608, x610, x611, x615, x619, x624, x626, x627⟩ : zf)).bind fun c803 => (zc3 (⟨x608, x610, x611, x615, x619, x624, x626, x627⟩ : zf)).bind fun c812 => (zgo (⟨x608, x610, x611, x615, x619, x624, x626, x627⟩ : zf)).bind fun c821 => (zcl (⟨x608, x610, x611, x615, x619, x624, x626, x627⟩ : zf)).bind fun c825 => (zdA (⟨c825.2.code, c825.2.pc, c825.2.regs, c825.2.words, c825.2.input, c825.2.out, c825.2.how, c825.2.halting⟩ : zf)).bind fun c847 => (if (c825.1 != c847) = true then some false else (if (c825.1 != 0) = true then (zfo (⟨c825.2.code, c825.2.pc, c825.2.regs, c825.2.words, c825.2.input, c825.2.out, c825.2.how, c825.2.halting⟩ : zf)).bind fun c853 => ((if (c853 == c790) = true then (zgo (⟨c825.2.code, c825.2.pc, c825.2.regs, c825.2.words, c825.2.input, c825.2.out, c825.2.how, c825.2.halting⟩ : zf)).bind fun c860 => some (c860 == c821) else some false)).bind fun c857 => ((if c857 = true then (zd7 (⟨c825.2.code, c825.2.pc, c825.2.regs, c825.2.words, c825.2.input, c825.2.out, c825.2.how, c825.2.halting⟩ : zf)).bind fun c867 => (zdI c867 c794).bind fun c876 => some c876 else some false)).bind fun c864 => ((if c864 = true then (zdi (⟨c825.2.code, c825.2.pc, c825.2.regs, c825.2.words, c825.2.input, c825.2.out, c825.2.how, c825.2.halting⟩ : zf)).bind fun c883 => (zdI c883 c803).bind fun c892 => some c892 else some false)).bind fun c880 => ((if c880 = true then (zc3 (⟨c825.2.code, c825.2.pc, c825.2.regs, c825.2.words, c825.2.input, c825.2.out, c825.2.how, c825.2.halting⟩ : zf)).bind fun c899 => (zdI c899 c812).bind fun c908 => some c908 else some false)).bind fun c896 => ((if c896 = true then (zcl (⟨c825.2.code, c825.2.pc, c825.2.regs, c825.2.words, c825.2.input, c825.2.out, c825.2.how, c825.2.halting⟩ : zf)).bind fun c915 => some (c915.1 == c825.1) else some false)).bind fun c912 => ((if c912 = true then (zc1 ).bind fun c940 => some c940 else some false)).bind fun c937 => some c937 else rec8 c825.2.code c825.2.pc c825.2.regs c825.2.words c825.2.input c825.2.out c825.2.how c825.2.halting (IntKind.i64.wrap (x628 + 1)))) else (zc1 ).bind fun c944 => some c944)
def zgB (p0 : zbe) : Nat → (List UInt8) → Int → (Nat → Int) → (List Int) → (List Int) → (List Int) → UInt8 → Int → Int → Option Bool
 | 0, _, _, _, _, _, _, _, _, _ => none
 | n + 1, x608, x610, x611, x615, x619, x624, x626, x627, x628 => ze8 (zgB p0 n) p0 x608 x610 x611 x615 x619 x624 x626 x627 x628
def zhf (p0 : zbe) : Option Bool :=
 (zd6 (⟨p0.Code, p0.Bytes, p0.Start, p0.Words, p0.Input, p0.Fuel⟩ : zbe)).bind fun c3 => (if c3 = true then (zc1 ).bind fun c8 => some c8 else (zeF (⟨p0.Code, p0.Bytes, p0.Start, p0.Words, p0.Input, p0.Fuel⟩ : zbe)).bind fun c12 => (zez c12 p0.Start p0.Words p0.Input).bind fun c21 => ze5 c21.1 (if (c21.2 != 0) = true then ((if true = true then (zc1 ).bind fun c31 => some c31 else some false)).bind fun c28 => some c28 else zhR p0 big ) fun m25 => (if (c21.2 != 0) = true then ((if false = true then (zc1 ).bind fun c74 => some c74 else some false)).bind fun c71 => some c71 else zgB p0 big m25.code m25.pc m25.regs m25.words m25.input m25.out m25.how m25.halting 0))
end Go.Proofs.YtgkllgoelpfdkaaGreat
