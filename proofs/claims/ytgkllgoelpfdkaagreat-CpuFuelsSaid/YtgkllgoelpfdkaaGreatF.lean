import Derived.Test.YtgkllgoelpfdkaaGreatFM
namespace Go.Proofs.YtgkllgoelpfdkaaGreat
open Go.Ab Go.RowKit
set_option linter.unusedVariables false
set_option linter.unusedSimpArgs false
set_option maxRecDepth 10000
set_option maxHeartbeats 1000000
structure zc where
 Kind : UInt8
 Op : UInt8
 R : Int
 S : Int
 T : Int
 N : Int
 M : Int
 deriving DecidableEq
def zdf : Ty zc where
 sz := 7
 R := fun σ x cs => cs = [.int .u8 x.Kind.toNat, .int .u8 x.Op.toNat, .int .i64 x.R, .int .i64 x.S, .int .i64 x.T, .int .i64 x.N, .int .i64 x.M]
 len := by rintro σ x cs rfl; rfl
 one := by rintro σ x cs rfl; rfl
 mono := by rintro σ σ' x cs hle rfl; rfl
structure zbC where
 Code : (List zc)
 Bytes : (List UInt8)
 Start : Int
 Words : Int
 Input : (List Int)
 Fuel : Int
 deriving DecidableEq
def zoI : Ty zbC where
 sz := 6
 R := fun σ x cs => ∃ v0 v1 v4, cs = [v0, v1, .int .i64 x.Start, .int .i64 x.Words, v4, .int .i64 x.Fuel] ∧ RdT zdf σ v0 x.Code ∧ RdT Ty.u8 σ v1 x.Bytes ∧ RdT (Ty.int .i64) σ v4 x.Input
 len := by rintro σ x cs ⟨v0, v1, v4, rfl, h0, h1, h2⟩; rfl
 one := by rintro σ x cs ⟨v0, v1, v4, rfl, h0, h1, h2⟩; obtain ⟨_, ⟨_, _, rfl, _⟩, _⟩ := h0; obtain ⟨_, ⟨_, _, rfl, _⟩, _⟩ := h1; obtain ⟨_, ⟨_, _, rfl, _⟩, _⟩ := h2; rfl
 mono := by rintro σ σ' x cs hle ⟨v0, v1, v4, rfl, h0, h1, h2⟩; exact ⟨v0, v1, v4, rfl, h0.le hle, h1.le hle, h2.le hle⟩
structure ze where
 code : (List UInt8)
 pc : Int
 regs : (Nat → Int)
 words : (List Int)
 input : (List Int)
 out : (List Int)
 how : UInt8
 halting : Int
inductive zx where
 | c_one_1
 | c_both_1
 | c_op_1 (x0 : Int) (x1 : Int)
 | c_third_1
 | c_bound_1
 | c_to_1
 | c_how_1
 | c_parts_1
 | c_within
def zbz (σ : Hp) (x : zx) (u0 u1 u2 : Value) : Prop := match x with
 | .c_one_1 => ∃ a1_0 a2_0, u0 = .func (.func 85) #[] #[] ∧ u1 = .func (.func 117) #[] #[.pointer (some a1_0)] ∧ u2 = .func (.func 118) #[] #[.pointer (some a2_0)] ∧ At σ a1_0 [.func (.func 87) #[] #[]] ∧ At σ a2_0 [.func (.func 88) #[] #[]]
 | .c_both_1 => ∃ a1_0 a2_0, u0 = .func (.func 93) #[] #[] ∧ u1 = .func (.func 117) #[] #[.pointer (some a1_0)] ∧ u2 = .func (.func 118) #[] #[.pointer (some a2_0)] ∧ At σ a1_0 [.func (.func 94) #[] #[]] ∧ At σ a2_0 [.func (.func 96) #[] #[]]
 | .c_op_1 x0 x1 => ∃ a0_0 a0_1 a1_0 a2_0, u0 = .func (.func 98) #[] #[.pointer (some a0_0), .pointer (some a0_1)] ∧ u1 = .func (.func 117) #[] #[.pointer (some a1_0)] ∧ u2 = .func (.func 118) #[] #[.pointer (some a2_0)] ∧ At σ a0_0 [.int .u8 x0] ∧ At σ a0_1 [.int .u8 x1] ∧ At σ a1_0 [.func (.func 99) #[] #[]] ∧ At σ a2_0 [.func (.func 100) #[] #[]]
 | .c_third_1 => ∃ a1_0 a2_0, u0 = .func (.func 101) #[] #[] ∧ u1 = .func (.func 117) #[] #[.pointer (some a1_0)] ∧ u2 = .func (.func 118) #[] #[.pointer (some a2_0)] ∧ At σ a1_0 [.func (.func 102) #[] #[]] ∧ At σ a2_0 [.func (.func 103) #[] #[]]
 | .c_bound_1 => u0 = .func (.func 104) #[] #[] ∧ u1 = .func (.func 105) #[] #[] ∧ u2 = .func (.func 107) #[] #[]
 | .c_to_1 => u0 = .func (.func 109) #[] #[] ∧ u1 = .func (.func 110) #[] #[] ∧ u2 = .func (.func 112) #[] #[]
 | .c_how_1 => ∃ a1_0 a2_0, u0 = .func (.func 114) #[] #[] ∧ u1 = .func (.func 117) #[] #[.pointer (some a1_0)] ∧ u2 = .func (.func 118) #[] #[.pointer (some a2_0)] ∧ At σ a1_0 [.func (.func 115) #[] #[]] ∧ At σ a2_0 [.func (.func 116) #[] #[]]
 | .c_parts_1 => u0 = .func (.func 73) #[] #[] ∧ u1 = .func (.func 89) #[] #[] ∧ u2 = .func (.func 91) #[] #[]
 | .c_within => u0 = .func (.func 79) #[] #[] ∧ u1 = .func (.func 89) #[] #[] ∧ u2 = .func (.func 91) #[] #[]
theorem zbz.le {σ σ' : Hp} {x : zx} {u0 u1 u2 : Value} (h : zbz σ x u0 u1 u2) (hle : Hp.le σ σ') : zbz σ' x u0 u1 u2 := by
 cases x with
 | c_one_1 => obtain ⟨a1_0, a2_0, rfl, rfl, rfl, m0, m1⟩ := h; exact ⟨a1_0, a2_0, rfl, rfl, rfl, m0.le hle, m1.le hle⟩
 | c_both_1 => obtain ⟨a1_0, a2_0, rfl, rfl, rfl, m0, m1⟩ := h; exact ⟨a1_0, a2_0, rfl, rfl, rfl, m0.le hle, m1.le hle⟩
 | c_op_1 _ _ => obtain ⟨a0_0, a0_1, a1_0, a2_0, rfl, rfl, rfl, m0, m1, m2, m3⟩ := h; exact ⟨a0_0, a0_1, a1_0, a2_0, rfl, rfl, rfl, m0.le hle, m1.le hle, m2.le hle, m3.le hle⟩
 | c_third_1 => obtain ⟨a1_0, a2_0, rfl, rfl, rfl, m0, m1⟩ := h; exact ⟨a1_0, a2_0, rfl, rfl, rfl, m0.le hle, m1.le hle⟩
 | c_bound_1 => obtain ⟨rfl, rfl, rfl⟩ := h; exact ⟨rfl, rfl, rfl⟩
 | c_to_1 => obtain ⟨rfl, rfl, rfl⟩ := h; exact ⟨rfl, rfl, rfl⟩
 | c_how_1 => obtain ⟨a1_0, a2_0, rfl, rfl, rfl, m0, m1⟩ := h; exact ⟨a1_0, a2_0, rfl, rfl, rfl, m0.le hle, m1.le hle⟩
 | c_parts_1 => obtain ⟨rfl, rfl, rfl⟩ := h; exact ⟨rfl, rfl, rfl⟩
 | c_within => obtain ⟨rfl, rfl, rfl⟩ := h; exact ⟨rfl, rfl, rfl⟩
def zbV : Ty zx where
 sz := 3
 R := fun σ x cs => ∃ f0 a0 c0 f1 a1 c1 f2 a2 c2, cs = [.func f0 a0 c0, .func f1 a1 c1, .func f2 a2 c2] ∧ zbz σ x (.func f0 a0 c0) (.func f1 a1 c1) (.func f2 a2 c2)
 len := by rintro σ x cs ⟨_, _, _, _, _, _, _, _, _, rfl, _⟩; rfl
 one := by rintro σ x cs ⟨_, _, _, _, _, _, _, _, _, rfl, _⟩; rfl
 mono := by rintro σ σ' x cs hle ⟨_, _, _, _, _, _, _, _, _, rfl, h⟩; exact ⟨_, _, _, _, _, _, _, _, _, rfl, h.le hle⟩
def zeq (p0 : zbC) : Option Bool :=
 ((if ((decide ((p0.Code.length : Int) > 200)) || (decide ((p0.Bytes.length : Int) > 4096))) = true then some true else (if (decide (p0.Words > 1024)) = true then some (decide (p0.Words ≤ 65536)) else some false))).bind fun c3 => some ((c3 || (decide ((p0.Input.length : Int) > 100))) || (decide (p0.Fuel > 1000)))
def zcv (p0 : (List UInt8)) : Option (List UInt8) := (room p0.length).bind fun _ => some p0
def zdw (p0 : (List Int)) : Option (List Int) := (room p0.length).bind fun _ => some p0
def zjn (p1 : Int) (p2 : Int) (x36 : List UInt8) (x41 : List Int) (x46 : List Int) : Option ((Option ze) × Int) :=
 some ((some (⟨x36, p1, (zex [0, 0, 0, 0, 0, 0, 0, 0, 0, 0, 0, 0, 0, 0, 0, p2]), x41, x46, ([] : List Int), (0 : UInt8), 0⟩ : ze)), 0)
def zdH (p0 : (List UInt8)) (p1 : Int) (p2 : Int) (p3 : (List Int)) : Option ((Option ze) × Int) :=
 (if (((((decide ((p0.length : Int) > 1048576)) || (decide (p1 < 0))) || (decide (p1 > (p0.length : Int)))) || (decide (p2 < 1))) || (decide (p2 > 65536))) = true then some (none, 1) else (zcv p0).bind fun c49 => (mkI 0 p2 p2).bind fun y58 => (zdw p3).bind fun c65 => zjn p1 p2 c49 y58 c65)
def zeA (q0 : ze) : Option Int :=
 some (q0.how.toNat : Int)
def zh6 (q0 : zc) : Option (Bool × zc) :=
 some (true, (⟨q0.Kind, q0.Op, q0.R, q0.S, q0.T, q0.N, q0.M⟩ : zc))
def zdG (p0 : (List UInt8)) (p1 : Int) (p2 : Int) : Option ((List UInt8) × Int × Int) :=
 (if ((decide (p1 < 0)) || (decide (p1 > (p0.length : Int)))) = true then some ([], 0, 1) else (zb1 p0 p1 (p0.length : Int)).bind fun y5 => (if (decide ((y5.length : Int) ≥ p2)) = true then (zb1 y5 0 p2).bind fun y11 => some (y11, (IntKind.i64.wrap (p1 + p2)), 0) else some ([], 0, 5)))
def zcf (p0 : (List UInt8)) (p1 : Int) : Option (Int × Int × Int) :=
 (zdG p0 p1 1).bind fun c3 => (if (c3.2.2 != 0) = true then some (0, 0, c3.2.2) else (zH c3.1 0).bind fun y12 => some ((y12.toNat : Int), c3.2.1, 0))
def zcX (p0 : Int) : Option Bool :=
 some ((decide (p0 ≥ 0)) && (decide (p0 < 16)))
def zhW (q0 : zc) : Option (Bool × zc) :=
 (zcX q0.R).bind fun c2 => some (c2, (⟨q0.Kind, q0.Op, q0.R, q0.S, q0.T, q0.N, q0.M⟩ : zc))
def zhJ (q0 : zc) : Option (Int × zc) :=
 some ((IntKind.u8.wrap q0.R), (⟨q0.Kind, q0.Op, q0.R, q0.S, q0.T, q0.N, q0.M⟩ : zc))
def zfy (q0 : zc) (p1 : Int) : Option zc :=
 some (⟨q0.Kind, q0.Op, (IntKind.i64.wrap p1), q0.S, q0.T, q0.N, q0.M⟩ : zc)
def zjw  : Option zx :=
 some zx.c_one_1
def ze7  : Option zx :=
 (zjw ).bind fun c2 => some c2
def zf0 (rec4 : Int → (List UInt8) → Option (List UInt8))  (x30 : Int) (x34 : List UInt8) : Option (List UInt8) :=
 (if ((decide (x30 > 63)) || (decide (x30 < (-64)))) = true then (u8o (orI .u8 (IntKind.u8.wrap x30) 128)).bind fun z51 => (room (x34.length + 1)).bind fun _ => rec4 (zbR .i64 x30 7) (x34 ++ [z51]) else (u8o (zcd .u8 (IntKind.u8.wrap x30) 127)).bind fun z57 => (room (x34.length + 1)).bind fun _ => some (x34 ++ [z57]))
def ze3  : Nat → Int → (List UInt8) → Option (List UInt8)
 | 0, _, _ => none
 | n + 1, x30, x34 => zf0 (ze3  n)  x30 x34
def zeE (p0 : (List UInt8)) (p1 : Int) : Option (List UInt8) :=
 (zcv p0).bind fun c3 => ze3  big p1 c3
def zfe (rec4 : Int → Int → Option (Int × Int)) (p0 : (List UInt8)) (x18 : Int) (x19 : Int) : Option (Int × Int) :=
 (if (decide (x19 < (zbO (p0.length : Int) 10))) = true then (zH p0 x19).bind fun y36 => (zb3 .u64 (IntKind.u64.wrap (zcd .u8 (y36.toNat : Int) 127)) (IntKind.i64.wrap (7 * x19))).bind fun y41 => (zH p0 x19).bind fun y43 => (if (decide ((y43.toNat : Int) < 128)) = true then some ((orI .u64 x18 y41), (IntKind.i64.wrap (x19 + 1))) else rec4 (orI .u64 x18 y41) (IntKind.i64.wrap (x19 + 1))) else some (0, 0))
def ze0 (p0 : (List UInt8)) : Nat → Int → Int → Option (Int × Int)
 | 0, _, _ => none
 | n + 1, x18, x19 => zfe (ze0 p0 n) p0 x18 x19
def zgs (p0 : (List UInt8)) : Option (Int × Int) :=
 ze0 p0 big 0 0
def zfK (rec4 : Int → Option Bool) (p0 : (List UInt8)) (p1 : (List UInt8)) (x20 : Int) : Option Bool :=
 (if (decide (x20 < (p0.length : Int))) = true then (zH p0 x20).bind fun y35 => (zH p1 x20).bind fun y40 => (if ((y35.toNat : Int) != (y40.toNat : Int)) = true then some false else rec4 (IntKind.i64.wrap (x20 + 1))) else some true)
def zgt (p0 : (List UInt8)) (p1 : (List UInt8)) : Nat → Int → Option Bool
 | 0, _ => none
 | n + 1, x20 => zfK (zgt p0 p1 n) p0 p1 x20
def zeG (p0 : (List UInt8)) (p1 : (List UInt8)) : Option Bool :=
 (if ((p0.length : Int) != (p1.length : Int)) = true then some false else zgt p0 p1 big 0)
def ze5 (p0 : Int) (p1 : Int) : Option Int :=
 (zb3 .u64 p0 (zbg 0 (IntKind.i64.wrap (64 - (IntKind.i64.wrap (7 * p1)))))).bind fun y3 => (zcn .i64 (IntKind.i64.wrap y3) (zbg 0 (IntKind.i64.wrap (64 - (IntKind.i64.wrap (7 * p1)))))).bind fun y5 => some y5
def zhg (p0 : (List UInt8)) (p1 : Int) : Option (Int × Int × Int) :=
 (if ((decide (p1 < 0)) || (decide (p1 > (p0.length : Int)))) = true then some (0, 0, 1) else (zb1 p0 p1 (p0.length : Int)).bind fun y6 => (zgs y6).bind fun c11 => (ze5 c11.1 c11.2).bind fun c15 => ((if (c11.2 == 0) = true then some true else (zb1 p0 p1 (IntKind.i64.wrap (p1 + c11.2))).bind fun y22 => (zeE [] c15).bind fun c27 => (zeG c27 y22).bind fun c38 => some (!c38))).bind fun c19 => (if c19 = true then some (0, 0, 5) else some (c15, (IntKind.i64.wrap (p1 + c11.2)), 0)))
def zgh (p0 : (List UInt8)) (p1 : Int) : Option (Int × Int × Int) :=
 (zhg p0 p1).bind fun c3 => some (c3.1, c3.2.1, c3.2.2)
def zdq (p0 : (List UInt8)) (p1 : Int) (q2 : zc) : Option (Int × Bool × zc) :=
 (zgh p0 p1).bind fun c4 => some (c4.2.1, (c4.2.2 == 0), (⟨q2.Kind, q2.Op, q2.R, q2.S, q2.T, c4.1, q2.M⟩ : zc))
def zhm (q0 : zc) : Option (Bool × zc) :=
 (zcX q0.R).bind fun c2 => ((if c2 = true then (zcX q0.S).bind fun c9 => some c9 else some false)).bind fun c6 => some (c6, (⟨q0.Kind, q0.Op, q0.R, q0.S, q0.T, q0.N, q0.M⟩ : zc))
def zfq (p0 : Int) (p1 : Int) : Option (Int × Bool) :=
 (if ((((decide (p0 < 0)) || (decide (p0 ≥ 16))) || (decide (p1 < 0))) || (decide (p1 ≥ 16))) = true then some (0, false) else some ((IntKind.u8.wrap (orI .i64 (zbZ .i64 p0 4) p1)), true))
def zgU (q0 : zc) : Option (Int × zc) :=
 (zfq q0.R q0.S).bind fun c2 => some (c2.1, (⟨q0.Kind, q0.Op, q0.R, q0.S, q0.T, q0.N, q0.M⟩ : zc))
def zgu (p0 : Int) : Option (Int × Int) :=
 some ((IntKind.i64.wrap (zbR .u8 p0 4)), (IntKind.i64.wrap (zcd .u8 p0 15)))
def zfr (q0 : zc) (p1 : Int) : Option zc :=
 (zgu p1).bind fun c3 => some (⟨q0.Kind, q0.Op, c3.1, c3.2, q0.T, q0.N, q0.M⟩ : zc)
def zje  : Option zx :=
 some zx.c_both_1
def zdZ  : Option zx :=
 (zje ).bind fun c2 => some c2
def zhG (q0 : zc) : Option (Int × zc) :=
 some ((q0.Op.toNat : Int), (⟨q0.Kind, q0.Op, q0.R, q0.S, q0.T, q0.N, q0.M⟩ : zc))
def zfZ (q0 : zc) (p1 : Int) : Option zc :=
 (u8o p1).bind fun z3 => some (⟨q0.Kind, z3, q0.R, q0.S, q0.T, q0.N, q0.M⟩ : zc)
def ziE (q0_0 : Int) (q0_1 : Int) : Option zx :=
 some (zx.c_op_1 q0_0 q0_1)
def zhR (p0 : Int) (p1 : Int) : Option zx :=
 (ziE p0 p1).bind fun c10 => some c10
def zhy (q0 : zc) : Option (Bool × zc) :=
 (zcX q0.T).bind fun c2 => some (c2, (⟨q0.Kind, q0.Op, q0.R, q0.S, q0.T, q0.N, q0.M⟩ : zc))
def zhK (q0 : zc) : Option (Int × zc) :=
 some ((IntKind.u8.wrap q0.T), (⟨q0.Kind, q0.Op, q0.R, q0.S, q0.T, q0.N, q0.M⟩ : zc))
def zgS (q0 : zc) (p1 : Int) : Option zc :=
 some (⟨q0.Kind, q0.Op, q0.R, q0.S, (IntKind.i64.wrap p1), q0.N, q0.M⟩ : zc)
def zi7  : Option zx :=
 some zx.c_third_1
def zhl  : Option zx :=
 (zi7 ).bind fun c2 => some c2
def zia (q0 : zc) : Option (Bool × zc) :=
 some (((decide (q0.N ≥ (-65536))) && (decide (q0.N ≤ 65536))), (⟨q0.Kind, q0.Op, q0.R, q0.S, q0.T, q0.N, q0.M⟩ : zc))
def zg4 (q0 : zc) : Option (Bool × zc) :=
 some (((decide (q0.M ≥ 1)) && (decide (q0.M ≤ 65536))), (⟨q0.Kind, q0.Op, q0.R, q0.S, q0.T, q0.N, q0.M⟩ : zc))
def ze1 (rec4 : Int → (List UInt8) → Option (List UInt8))  (x30 : Int) (x34 : List UInt8) : Option (List UInt8) :=
 (if (decide (x30 > 127)) = true then (u8o (orI .u8 (IntKind.u8.wrap x30) 128)).bind fun z51 => (room (x34.length + 1)).bind fun _ => rec4 (zbR .u64 x30 7) (x34 ++ [z51]) else (u8o (IntKind.u8.wrap x30)).bind fun z57 => (room (x34.length + 1)).bind fun _ => some (x34 ++ [z57]))
def zfL  : Nat → Int → (List UInt8) → Option (List UInt8)
 | 0, _, _ => none
 | n + 1, x30, x34 => ze1 (zfL  n)  x30 x34
def zew (p0 : (List UInt8)) (p1 : Int) : Option (List UInt8) :=
 (zcv p0).bind fun c3 => zfL  big p1 c3
def zig (p0 : Int) (p1 : Int) : Option Int :=
 some p0
def zg6 (p0 : (List UInt8)) (p1 : Int) : Option (Int × Int × Int) :=
 (if ((decide (p1 < 0)) || (decide (p1 > (p0.length : Int)))) = true then some (0, 0, 1) else (zb1 p0 p1 (p0.length : Int)).bind fun y6 => (zgs y6).bind fun c11 => (zig c11.1 c11.2).bind fun c15 => ((if (c11.2 == 0) = true then some true else (zb1 p0 p1 (IntKind.i64.wrap (p1 + c11.2))).bind fun y22 => (zew [] c15).bind fun c27 => (zeG c27 y22).bind fun c38 => some (!c38))).bind fun c19 => (if c19 = true then some (0, 0, 5) else some (c15, (IntKind.i64.wrap (p1 + c11.2)), 0)))
def zfl (p0 : (List UInt8)) (p1 : Int) : Option (Int × Int × Int) :=
 (zg6 p0 p1).bind fun c3 => some (c3.1, c3.2.1, c3.2.2)
def zgC (p0 : (List UInt8)) (p1 : Int) (q2 : zc) : Option (Int × Bool × zc) :=
 (zfl p0 p1).bind fun c4 => some (c4.2.1, (c4.2.2 == 0), (⟨q2.Kind, q2.Op, q2.R, q2.S, q2.T, q2.N, (IntKind.i64.wrap (zbO c4.1 16777216))⟩ : zc))
def zjc  : Option zx :=
 some zx.c_bound_1
def zhX (q0 : zc) : Option (Bool × zc) :=
 some (((decide (q0.N ≥ 0)) && (decide (q0.N < 16777216))), (⟨q0.Kind, q0.Op, q0.R, q0.S, q0.T, q0.N, q0.M⟩ : zc))
def zhn (p1 : Int) : Option (List UInt8) :=
 (if (decide ((IntKind.i64.wrap (p1 - (IntKind.i64.wrap (0 - 0)))) > 0)) = true then (nneg (IntKind.i64.wrap (p1 - (IntKind.i64.wrap (0 - 0))))).bind fun _ => (room (([] : List UInt8).length + Int.toNat (IntKind.i64.wrap (p1 - (IntKind.i64.wrap (0 - 0)))))).bind fun _ => (zb1 (([] : List UInt8) ++ List.replicate (Int.toNat (IntKind.i64.wrap (p1 - (IntKind.i64.wrap (0 - 0))))) (0 : UInt8)) 0 0).bind fun y12 => some y12 else some ([]))
def zfs (_n0 : (List UInt8)) (p1 : Int) : Option (List UInt8) :=
 (if (decide (p1 < 0)) = true then none else zhn p1)
def zfS (rec16 : (List UInt8) → Int → Option (List UInt8)) (p0 : (List (List UInt8))) (x211 : List UInt8) (x214 : Int) : Option (List UInt8) :=
 (if (decide (x214 < (p0.length : Int))) = true then (zH p0 x214).bind fun y232 => (room (x211.length + y232.length)).bind fun _ => rec16 (x211 ++ y232) (IntKind.i64.wrap (x214 + 1)) else some x211)
def ze8 (p0 : (List (List UInt8))) : Nat → (List UInt8) → Int → Option (List UInt8)
 | 0, _, _ => none
 | n + 1, x211, x214 => zfS (ze8 p0 n) p0 x211 x214
def zfI (rec14 : Int → Int → Option (List UInt8)) (p0 : (List (List UInt8))) (x84 : Int) (x86 : Int) : Option (List UInt8) :=
 (if (decide (x86 < (p0.length : Int))) = true then (zH p0 x86).bind fun y168 => (if (decide ((IntKind.i64.wrap (x84 + (y168.length : Int))) < 0)) = true then none else rec14 (IntKind.i64.wrap (x84 + (y168.length : Int))) (IntKind.i64.wrap (x86 + 1))) else (zfs [] x84).bind fun c178 => ze8 p0 big c178 0)
def zfk (p0 : (List (List UInt8))) : Nat → Int → Int → Option (List UInt8)
 | 0, _, _ => none
 | n + 1, x84, x86 => zfI (zfk p0 n) p0 x84 x86
def zh2 (p0 : (List (List UInt8))) : Option (List UInt8) :=
 zfk p0 big 0 0
def zhU (rec4 : (List UInt8) → Int → Option ((List UInt8) × Int)) (p0 : (List UInt8)) (p1 : Int) (x44 : List UInt8) (x46 : Int) : Option ((List UInt8) × Int) :=
 (if (decide (x46 < 3)) = true then (zcn .i64 p1 (IntKind.i64.wrap (8 * x46))).bind fun y80 => (zH x44 (IntKind.i64.wrap (2 - x46))).bind fun y82 => (u8o (IntKind.u8.wrap y80)).bind fun z89 => rec4 (x44.set (Int.toNat (IntKind.i64.wrap (2 - x46))) z89) (IntKind.i64.wrap (x46 + 1)) else (zh2 ([p0, x44] : List (List UInt8))).bind fun c101 => some (c101, 0))
def zeM (p0 : (List UInt8)) (p1 : Int) : Nat → (List UInt8) → Int → Option ((List UInt8) × Int)
 | 0, _, _ => none
 | n + 1, x44, x46 => zhU (zeM p0 p1 n) p0 p1 x44 x46
def zfi (p0 : (List UInt8)) (p1 : Int) : Option ((List UInt8) × Int) :=
 (if ((decide (p1 < 0)) || (decide (p1 ≥ 16777216))) = true then some ([], 1) else zeM p0 p1 big ([(0 : UInt8), (0 : UInt8), (0 : UInt8)] : List UInt8) 0)
def zhM (rec4 : Int → Int → Option (Int × Int × Int)) (c3 : (List UInt8) × Int × Int) (x18 : Int) (x20 : Int) : Option (Int × Int × Int) :=
 (if (decide (x20 < (c3.1.length : Int))) = true then (zH c3.1 x20).bind fun y29 => rec4 (orI .i64 (zbZ .i64 x18 8) (IntKind.i64.wrap (y29.toNat : Int))) (IntKind.i64.wrap (x20 + 1)) else some (x18, c3.2.1, c3.2.2))
def zej (c3 : (List UInt8) × Int × Int) : Nat → Int → Int → Option (Int × Int × Int)
 | 0, _, _ => none
 | n + 1, x18, x20 => zhM (zej c3 n) c3 x18 x20
def zdF (p0 : (List UInt8)) (p1 : Int) : Option (Int × Int × Int) :=
 (zdG p0 p1 3).bind fun c3 => zej c3 big 0 0
def zfw (p0 : (List UInt8)) (p1 : Int) (q2 : zc) : Option (Int × Bool × zc) :=
 (zdF p0 p1).bind fun c4 => some (c4.2.1, (c4.2.2 == 0), (⟨q2.Kind, q2.Op, q2.R, q2.S, q2.T, c4.1, q2.M⟩ : zc))
def zh3  : Option zx :=
 some zx.c_to_1
def zhZ (q0 : zc) : Option (Bool × zc) :=
 some (((decide (q0.N ≥ 2)) && (decide (q0.N ≤ 4))), (⟨q0.Kind, q0.Op, q0.R, q0.S, q0.T, q0.N, q0.M⟩ : zc))
def zhO (q0 : zc) : Option (Int × zc) :=
 some ((IntKind.u8.wrap q0.N), (⟨q0.Kind, q0.Op, q0.R, q0.S, q0.T, q0.N, q0.M⟩ : zc))
def zfO (q0 : zc) (p1 : Int) : Option zc :=
 some (⟨q0.Kind, q0.Op, q0.R, q0.S, q0.T, (IntKind.i64.wrap p1), q0.M⟩ : zc)
def ziD  : Option zx :=
 some zx.c_how_1
def ziy  : Option zx :=
 (ziD ).bind fun c2 => some c2
def zjK  : Option zx :=
 some zx.c_parts_1
def zfz  : Option zx :=
 some zx.c_within
def zee (p0 : Int) (x310 : Bool) : Option ((List zx) × Bool) :=
 (if x310 = true then (ze7 ).bind fun c312 => some (([c312] : List zx), true) else (if (p0 == 18) = true then (ziy ).bind fun c331 => some (([c331] : List zx), true) else some ([], false)))
def zgx (p0 : Int) (x236 : Bool) : Option ((List zx) × Bool) :=
 (if x236 = true then (zh3 ).bind fun c238 => some (([c238] : List zx), true) else (if (p0 == 11) = true then (ze7 ).bind fun c257 => (zh3 ).bind fun c271 => some (([c257, c271] : List zx), true) else (if (p0 == 14) = true then (zfz ).bind fun c290 => some (([c290] : List zx), true) else (if (p0 == 15) = true then zee p0 (p0 == 15) else (if (p0 == 16) = true then zee p0 (p0 == 16) else zee p0 (p0 == 17))))))
def zfR (p0 : Int) (x173 : Bool) : Option ((List zx) × Bool) :=
 (if x173 = true then (zdZ ).bind fun c175 => (zhl ).bind fun c189 => (zfz ).bind fun c203 => (zjc ).bind fun c217 => some (([c175, c189, c203, c217] : List zx), true) else (if (p0 == 10) = true then zgx p0 (p0 == 10) else zgx p0 (p0 == 12)))
def zgP (p0 : Int) (x138 : Bool) : Option ((List zx) × Bool) :=
 (if x138 = true then (zdZ ).bind fun c140 => (zfz ).bind fun c154 => some (([c140, c154] : List zx), true) else (if (p0 == 8) = true then zfR p0 (p0 == 8) else zfR p0 (p0 == 9)))
def zge (p0 : Int) (x3 : Bool) : Option ((List zx) × Bool) :=
 (if x3 = true then some ([], true) else (if (p0 == 2) = true then (ze7 ).bind fun c6 => (zjK ).bind fun c20 => some (([c6, c20] : List zx), true) else (if (p0 == 3) = true then (zdZ ).bind fun c39 => some (([c39] : List zx), true) else (if (p0 == 4) = true then (zhR 1 13).bind fun c58 => (zdZ ).bind fun c72 => (zhl ).bind fun c86 => some (([c58, c72, c86] : List zx), true) else (if (p0 == 5) = true then (zhR 14 15).bind fun c105 => (zdZ ).bind fun c119 => some (([c105, c119] : List zx), true) else (if (p0 == 6) = true then zgP p0 (p0 == 6) else zgP p0 (p0 == 7)))))))
def zeK (p0 : Int) : Option ((List zx) × Bool) :=
 (if (p0 == 1) = true then zge p0 (p0 == 1) else zge p0 (p0 == 13))
def zgM (p0 : (List UInt8)) (p1 : Int) (q2 : zc) : Option (Int × Bool × zc) :=
 (zcf p0 p1).bind fun c4 => (zfy (⟨q2.Kind, q2.Op, q2.R, q2.S, q2.T, q2.N, q2.M⟩ : zc) c4.1).bind fun c8 => some (c4.2.1, (c4.2.2 == 0), (⟨c8.Kind, c8.Op, c8.R, c8.S, c8.T, c8.N, c8.M⟩ : zc))
def ze2 (p0 : (List UInt8)) (p1 : Int) (q2 : zc) : Option (Int × Bool × zc) :=
 (zcf p0 p1).bind fun c4 => (zfr (⟨q2.Kind, q2.Op, q2.R, q2.S, q2.T, q2.N, q2.M⟩ : zc) c4.1).bind fun c8 => some (c4.2.1, (c4.2.2 == 0), (⟨c8.Kind, c8.Op, c8.R, c8.S, c8.T, c8.N, c8.M⟩ : zc))
def zgB (p0 : (List UInt8)) (p1 : Int) (q2 : zc) : Option (Int × Bool × zc) :=
 (zcf p0 p1).bind fun c4 => (zfZ (⟨q2.Kind, q2.Op, q2.R, q2.S, q2.T, q2.N, q2.M⟩ : zc) c4.1).bind fun c8 => some (c4.2.1, (c4.2.2 == 0), (⟨c8.Kind, c8.Op, c8.R, c8.S, c8.T, c8.N, c8.M⟩ : zc))
def zgp (p0 : (List UInt8)) (p1 : Int) (q2 : zc) : Option (Int × Bool × zc) :=
 (zcf p0 p1).bind fun c4 => (zgS (⟨q2.Kind, q2.Op, q2.R, q2.S, q2.T, q2.N, q2.M⟩ : zc) c4.1).bind fun c8 => some (c4.2.1, (c4.2.2 == 0), (⟨c8.Kind, c8.Op, c8.R, c8.S, c8.T, c8.N, c8.M⟩ : zc))
def zgK (p0 : (List UInt8)) (p1 : Int) (q2 : zc) : Option (Int × Bool × zc) :=
 (zcf p0 p1).bind fun c4 => (zfO (⟨q2.Kind, q2.Op, q2.R, q2.S, q2.T, q2.N, q2.M⟩ : zc) c4.1).bind fun c8 => some (c4.2.1, (c4.2.2 == 0), (⟨c8.Kind, c8.Op, c8.R, c8.S, c8.T, c8.N, c8.M⟩ : zc))
def zdk (x : zx) (p0 : (List UInt8)) (p1 : Int) (q2 : zc) : Option (Int × Bool × zc) :=
 match x with
 | .c_one_1 => zgM p0 p1 q2
 | .c_both_1 => ze2 p0 p1 q2
 | .c_op_1 x0 x1 => zgB p0 p1 q2
 | .c_third_1 => zgp p0 p1 q2
 | .c_bound_1 => zgC p0 p1 q2
 | .c_to_1 => zfw p0 p1 q2
 | .c_how_1 => zgK p0 p1 q2
 | .c_parts_1 => zdq p0 p1 q2
 | .c_within => zdq p0 p1 q2
def zea (rec4 : UInt8 → UInt8 → Int → Int → Int → Int → Int → Int → Bool → (List zx) → Int → Option (zc × Int × Bool)) (p0 : (List UInt8)) (c10 : (List zx) × Bool) (x50 : UInt8) (x51 : UInt8) (x52 : Int) (x53 : Int) (x54 : Int) (x55 : Int) (x56 : Int) (x57 : Int) (x58 : Bool) (x62 : List zx) (x64 : Int) : Option (zc × Int × Bool) :=
 (if (decide (x64 < (c10.1.length : Int))) = true then (zH x62 x64).bind fun y91 => (if x58 = true then (zdk y91 p0 x57 (⟨x50, x51, x52, x53, x54, x55, x56⟩ : zc)).bind fun c110 => rec4 c110.2.2.Kind c110.2.2.Op c110.2.2.R c110.2.2.S c110.2.2.T c110.2.2.N c110.2.2.M c110.1 c110.2.1 x62 (IntKind.i64.wrap (x64 + 1)) else rec4 x50 x51 x52 x53 x54 x55 x56 x57 x58 x62 (IntKind.i64.wrap (x64 + 1))) else some ((⟨x50, x51, x52, x53, x54, x55, x56⟩ : zc), x57, x58))
def zeH (p0 : (List UInt8)) (c10 : (List zx) × Bool) : Nat → UInt8 → UInt8 → Int → Int → Int → Int → Int → Int → Bool → (List zx) → Int → Option (zc × Int × Bool)
 | 0, _, _, _, _, _, _, _, _, _, _, _ => none
 | n + 1, x50, x51, x52, x53, x54, x55, x56, x57, x58, x62, x64 => zea (zeH p0 c10 n) p0 c10 x50 x51 x52 x53 x54 x55 x56 x57 x58 x62 x64
def zc4 (p0 : (List UInt8)) (p1 : Int) : Option (zc × Int × Bool) :=
 (if (decide (p1 ≥ (p0.length : Int))) = true then some ((⟨(0 : UInt8), (0 : UInt8), 0, 0, 0, 0, 0⟩ : zc), 0, false) else (zH p0 p1).bind fun y5 => (zeK (y5.toNat : Int)).bind fun c10 => zeH p0 c10 big y5 (0 : UInt8) 0 0 0 0 0 (IntKind.i64.wrap (p1 + 1)) c10.2 c10.1 0)
def zh4 (q0 : zc) (qf0 : Int) (qf1 : Int) : Option (Bool × zc) :=
 ((if (decide ((q0.Op.toNat : Int) ≥ qf0)) = true then some (decide ((q0.Op.toNat : Int) ≤ qf1)) else some false)).bind fun c2 => some (c2, (⟨q0.Kind, q0.Op, q0.R, q0.S, q0.T, q0.N, q0.M⟩ : zc))
def zgY (x : zx) (q0 : zc) : Option (Bool × zc) :=
 match x with
 | .c_one_1 => zhW q0
 | .c_both_1 => zhm q0
 | .c_op_1 x0 x1 => zh4 q0 x0 x1
 | .c_third_1 => zhy q0
 | .c_bound_1 => zg4 q0
 | .c_to_1 => zhX q0
 | .c_how_1 => zhZ q0
 | .c_parts_1 => zh6 q0
 | .c_within => zia q0
def zg0 (p0 : (List UInt8)) (q1 : zc) : Option ((List UInt8) × zc) :=
 (zhJ (⟨q1.Kind, q1.Op, q1.R, q1.S, q1.T, q1.N, q1.M⟩ : zc)).bind fun c3 => (u8o c3.1).bind fun z7 => (room (p0.length + 1)).bind fun _ => some ((p0 ++ [z7]), (⟨c3.2.Kind, c3.2.Op, c3.2.R, c3.2.S, c3.2.T, c3.2.N, c3.2.M⟩ : zc))
def zhi (p0 : (List UInt8)) (q1 : zc) : Option ((List UInt8) × zc) :=
 (zgU (⟨q1.Kind, q1.Op, q1.R, q1.S, q1.T, q1.N, q1.M⟩ : zc)).bind fun c3 => (u8o c3.1).bind fun z7 => (room (p0.length + 1)).bind fun _ => some ((p0 ++ [z7]), (⟨c3.2.Kind, c3.2.Op, c3.2.R, c3.2.S, c3.2.T, c3.2.N, c3.2.M⟩ : zc))
def zgV (p0 : (List UInt8)) (q1 : zc) : Option ((List UInt8) × zc) :=
 (zhG (⟨q1.Kind, q1.Op, q1.R, q1.S, q1.T, q1.N, q1.M⟩ : zc)).bind fun c3 => (u8o c3.1).bind fun z7 => (room (p0.length + 1)).bind fun _ => some ((p0 ++ [z7]), (⟨c3.2.Kind, c3.2.Op, c3.2.R, c3.2.S, c3.2.T, c3.2.N, c3.2.M⟩ : zc))
def zhA (p0 : (List UInt8)) (q1 : zc) : Option ((List UInt8) × zc) :=
 (zhK (⟨q1.Kind, q1.Op, q1.R, q1.S, q1.T, q1.N, q1.M⟩ : zc)).bind fun c3 => (u8o c3.1).bind fun z7 => (room (p0.length + 1)).bind fun _ => some ((p0 ++ [z7]), (⟨c3.2.Kind, c3.2.Op, c3.2.R, c3.2.S, c3.2.T, c3.2.N, c3.2.M⟩ : zc))
def zhk (p0 : (List UInt8)) (q1 : zc) : Option ((List UInt8) × zc) :=
 (zew p0 (IntKind.u64.wrap q1.M)).bind fun c5 => some (c5, (⟨q1.Kind, q1.Op, q1.R, q1.S, q1.T, q1.N, q1.M⟩ : zc))
def zid (p0 : (List UInt8)) (q1 : zc) : Option ((List UInt8) × zc) :=
 (zfi p0 q1.N).bind fun c5 => some (c5.1, (⟨q1.Kind, q1.Op, q1.R, q1.S, q1.T, q1.N, q1.M⟩ : zc))
def zhC (p0 : (List UInt8)) (q1 : zc) : Option ((List UInt8) × zc) :=
 (zhO (⟨q1.Kind, q1.Op, q1.R, q1.S, q1.T, q1.N, q1.M⟩ : zc)).bind fun c3 => (u8o c3.1).bind fun z7 => (room (p0.length + 1)).bind fun _ => some ((p0 ++ [z7]), (⟨c3.2.Kind, c3.2.Op, c3.2.R, c3.2.S, c3.2.T, c3.2.N, c3.2.M⟩ : zc))
def zeg (p0 : (List UInt8)) (q1 : zc) : Option ((List UInt8) × zc) :=
 (zeE p0 q1.N).bind fun c5 => some (c5, (⟨q1.Kind, q1.Op, q1.R, q1.S, q1.T, q1.N, q1.M⟩ : zc))
def zhc (x : zx) (p0 : (List UInt8)) (q1 : zc) : Option ((List UInt8) × zc) :=
 match x with
 | .c_one_1 => zg0 p0 q1
 | .c_both_1 => zhi p0 q1
 | .c_op_1 x0 x1 => zgV p0 q1
 | .c_third_1 => zhA p0 q1
 | .c_bound_1 => zhk p0 q1
 | .c_to_1 => zid p0 q1
 | .c_how_1 => zhC p0 q1
 | .c_parts_1 => zeg p0 q1
 | .c_within => zeg p0 q1
def zgG (rec4 : UInt8 → UInt8 → Int → Int → Int → Int → Int → (List UInt8) → (List zx) → Int → Option ((List UInt8) × Bool)) (c3 : (List zx) × Bool) (x60 : UInt8) (x61 : UInt8) (x62 : Int) (x63 : Int) (x64 : Int) (x65 : Int) (x66 : Int) (x70 : List UInt8) (x75 : List zx) (x77 : Int) : Option ((List UInt8) × Bool) :=
 (if (decide (x77 < (c3.1.length : Int))) = true then (zH x75 x77).bind fun y113 => (zgY y113 (⟨x60, x61, x62, x63, x64, x65, x66⟩ : zc)).bind fun c131 => (if (!c131.1) = true then some ([], false) else (zhc y113 x70 (⟨c131.2.Kind, c131.2.Op, c131.2.R, c131.2.S, c131.2.T, c131.2.N, c131.2.M⟩ : zc)).bind fun c136 => rec4 c136.2.Kind c136.2.Op c136.2.R c136.2.S c136.2.T c136.2.N c136.2.M c136.1 x75 (IntKind.i64.wrap (x77 + 1))) else some (x70, true))
def zgQ (c3 : (List zx) × Bool) : Nat → UInt8 → UInt8 → Int → Int → Int → Int → Int → (List UInt8) → (List zx) → Int → Option ((List UInt8) × Bool)
 | 0, _, _, _, _, _, _, _, _, _, _ => none
 | n + 1, x60, x61, x62, x63, x64, x65, x66, x70, x75, x77 => zgG (zgQ c3 n) c3 x60 x61 x62 x63 x64 x65 x66 x70 x75 x77
def zdm (p0 : zc) : Option ((List UInt8) × Bool) :=
 (zeK (p0.Kind.toNat : Int)).bind fun c3 => (if (!c3.2) = true then some ([], false) else zgQ c3 big p0.Kind p0.Op p0.R p0.S p0.T p0.N p0.M ([p0.Kind] : List UInt8) c3.1 0)
def zdE (p0 : zc) : Option Bool :=
 (zdm (⟨p0.Kind, p0.Op, p0.R, p0.S, p0.T, p0.N, p0.M⟩ : zc)).bind fun c3 => (if (!c3.2) = true then some false else (zc4 c3.1 0).bind fun c15 => some (c15.2.2 && (( (c15.1.Kind.toNat : Int) == (p0.Kind.toNat : Int)) && (( (c15.1.Op.toNat : Int) == (p0.Op.toNat : Int)) && (( c15.1.R == p0.R) && (( c15.1.S == p0.S) && (( c15.1.T == p0.T) && (( c15.1.N == p0.N) && (( c15.1.M == p0.M) && true)))))))))
def zfj (p0 : (List UInt8)) (p1 : (List UInt8)) : Option Bool :=
 some (zhq (⟨p0.toArray⟩ : ByteArray) (⟨p1.toArray⟩ : ByteArray))
def zey (p0 : (List UInt8)) (p1 : zc) : Option (List UInt8) :=
 (zcv p0).bind fun c4 => (zdE (⟨p1.Kind, p1.Op, p1.R, p1.S, p1.T, p1.N, p1.M⟩ : zc)).bind fun c13 => (if (!c13) = true then some c4 else (zdm (⟨p1.Kind, p1.Op, p1.R, p1.S, p1.T, p1.N, p1.M⟩ : zc)).bind fun c18 => (room (c4.length + c18.1.length)).bind fun _ => some (c4 ++ c18.1))
def zeb (p0 : (List UInt8)) (p1 : Int) : Option (zc × Int × Int) :=
 (if ((decide (p1 < 0)) || (decide (p1 > (p0.length : Int)))) = true then some ((⟨(0 : UInt8), (0 : UInt8), 0, 0, 0, 0, 0⟩ : zc), 0, 1) else (zc4 p0 p1).bind fun c5 => ((if (!c5.2.2) = true then some true else (zdE (⟨c5.1.Kind, c5.1.Op, c5.1.R, c5.1.S, c5.1.T, c5.1.N, c5.1.M⟩ : zc)).bind fun c13 => some (!c13))).bind fun c10 => ((if c10 = true then some true else (zb1 p0 p1 c5.2.1).bind fun y20 => (zey [] (⟨c5.1.Kind, c5.1.Op, c5.1.R, c5.1.S, c5.1.T, c5.1.N, c5.1.M⟩ : zc)).bind fun c25 => (zfj c25 y20).bind fun c36 => some (!c36))).bind fun c17 => (if c17 = true then some ((⟨(0 : UInt8), (0 : UInt8), 0, 0, 0, 0, 0⟩ : zc), 0, 5) else some ((⟨c5.1.Kind, c5.1.Op, c5.1.R, c5.1.S, c5.1.T, c5.1.N, c5.1.M⟩ : zc), c5.2.1, 0)))
def zb8 (p0 : Int) : Option (Except (Value) (Unit)) :=
 some (.error (.iface 59 (.int .u8 p0) : Value))
def zeR (q0 : ze) (p1 : Int) : Option (Except (Value) (Int)) :=
 (if (decide ((IntKind.i64.wrap ((q0.regs 15) - p1)) < 0)) = true then zT (zb8 7) (fun x8 => some (.error x8)) fun c4 => some (.ok (IntKind.i64.wrap ((q0.regs 15) - p1))) else some (.ok (IntKind.i64.wrap ((q0.regs 15) - p1))))
def zdB (q0 : ze) (p1 : Int) : Option (Except (Value) (Int)) :=
 (if ((decide (p1 < 0)) || (decide (p1 ≥ (q0.words.length : Int)))) = true then zT (zb8 6) (fun x8 => some (.error x8)) fun c4 => (zH q0.words p1).bind fun y12 => some (.ok p1) else (zH q0.words p1).bind fun y19 => some (.ok p1))
def zhp (q0 : ze) (p1 : Int) (p2 : Int) : Option (Except (Value × ze) (Int × ze)) :=
 zT (zeR (⟨q0.code, q0.pc, q0.regs, q0.words, q0.input, q0.out, q0.how, q0.halting⟩ : ze) 1) (fun x8 => some (.error (x8, (⟨q0.code, q0.pc, q0.regs, q0.words, q0.input, q0.out, q0.how, q0.halting⟩ : ze)))) fun c4 => zT (zdB (⟨q0.code, q0.pc, q0.regs, q0.words, q0.input, q0.out, q0.how, q0.halting⟩ : ze) c4) (fun x16 => some (.error (x16, (⟨q0.code, q0.pc, q0.regs, q0.words, q0.input, q0.out, q0.how, q0.halting⟩ : ze)))) fun c12 => (zH q0.words c12).bind fun y21 => some (.ok (p1, (⟨q0.code, q0.pc, (zex [(q0.regs 0), (q0.regs 1), (q0.regs 2), (q0.regs 3), (q0.regs 4), (q0.regs 5), (q0.regs 6), (q0.regs 7), (q0.regs 8), (q0.regs 9), (q0.regs 10), (q0.regs 11), (q0.regs 12), (q0.regs 13), (q0.regs 14), c4]), (q0.words.set (Int.toNat c12) p2), q0.input, q0.out, q0.how, q0.halting⟩ : ze)))
def zfD (q0 : ze) (y11 : Int) : Option (Except (Value × ze) (Int × ze)) :=
 some (.ok (y11, (⟨q0.code, q0.pc, (zex [(q0.regs 0), (q0.regs 1), (q0.regs 2), (q0.regs 3), (q0.regs 4), (q0.regs 5), (q0.regs 6), (q0.regs 7), (q0.regs 8), (q0.regs 9), (q0.regs 10), (q0.regs 11), (q0.regs 12), (q0.regs 13), (q0.regs 14), (IntKind.i64.wrap ((q0.regs 15) + 1))]), q0.words, q0.input, q0.out, q0.how, q0.halting⟩ : ze)))
def zh8 (q0 : ze) : Option (Except (Value × ze) (Int × ze)) :=
 zT (zdB (⟨q0.code, q0.pc, q0.regs, q0.words, q0.input, q0.out, q0.how, q0.halting⟩ : ze) (q0.regs 15)) (fun x6 => some (.error (x6, (⟨q0.code, q0.pc, q0.regs, q0.words, q0.input, q0.out, q0.how, q0.halting⟩ : ze)))) fun c2 => (zH q0.words c2).bind fun y11 => (if ((decide (y11 < 0)) || (decide (y11 ≥ 16777216))) = true then zT (zb8 5) (fun x37 => some (.error (x37, (⟨q0.code, q0.pc, q0.regs, q0.words, q0.input, q0.out, q0.how, q0.halting⟩ : ze)))) fun c33 => zfD q0 y11 else zfD q0 y11)
def zcP (p0 : Bool) : Option Int :=
 (if p0 = true then some 1 else some 0)
def zf3 (p0 : Int) (p1 : Int) (p2 : Int) : Option (Except (Value) (Int)) :=
 (if (p0 == 4) = true then (zhL .i64 p1 p2).bind fun y14 => some (.ok y14) else (zhH .i64 p1 p2).bind fun y16 => some (.ok y16))
def zij (p0 : Int) (p1 : Int) (p2 : Int) : Option (Except (Value) (Int)) :=
 (if (p2 == 0) = true then zT (zb8 2) (fun x23 => some (.error x23)) fun c19 => zf3 p0 p1 p2 else zf3 p0 p1 p2)
def zeB (p0 : Int) (p1 : Int) (p2 : Int) (x8 : Bool) : Option (Except (Value) (Int)) :=
 (if x8 = true then zT (zij p0 p1 p2) (fun x14 => some (.error x14)) fun c10 => some (.ok c10) else (if (p0 == 6) = true then (zcP (p1 == p2)).bind fun c19 => some (.ok c19) else (if (p0 == 7) = true then (zcP (p1 != p2)).bind fun c24 => some (.ok c24) else (if (p0 == 8) = true then (zcP (decide (p1 < p2))).bind fun c29 => some (.ok c29) else (if (p0 == 9) = true then (zcP (decide (p1 ≤ p2))).bind fun c34 => some (.ok c34) else (if (p0 == 10) = true then (zcP (decide (p1 > p2))).bind fun c39 => some (.ok c39) else (if (p0 == 11) = true then (zcP (decide (p1 ≥ p2))).bind fun c44 => some (.ok c44) else (if (p0 == 12) = true then some (.ok (zcd .i64 p1 p2)) else some (.ok (orI .i64 p1 p2))))))))))
def zeF (p0 : Int) (p1 : Int) (p2 : Int) : Option (Except (Value) (Int)) :=
 (if (p0 == 1) = true then some (.ok (IntKind.i64.wrap (p1 + p2))) else (if (p0 == 2) = true then some (.ok (IntKind.i64.wrap (p1 - p2))) else (if (p0 == 3) = true then some (.ok (IntKind.i64.wrap (p1 * p2))) else (if (p0 == 4) = true then zeB p0 p1 p2 (p0 == 4) else zeB p0 p1 p2 (p0 == 5)))))
def zgq (q0 : ze) (p1 : zc) (y4 : Nat) (y7 : Nat) : Option (Except (Value) (Int)) :=
 zT (zdB (⟨q0.code, q0.pc, q0.regs, q0.words, q0.input, q0.out, q0.how, q0.halting⟩ : ze) (IntKind.i64.wrap ((IntKind.i64.wrap ((q0.regs y4) + p1.N)) + (q0.regs y7)))) (fun x26 => some (.error x26)) fun c22 => (zH q0.words c22).bind fun y31 => some (.ok c22)
def zeO (q0 : ze) (p1 : zc) : Option (Except (Value) (Int)) :=
 (zcr p1.S 16).bind fun y4 => (if (((p1.Kind.toNat : Int) == 8) || ((p1.Kind.toNat : Int) == 9)) = true then (zcr p1.T 16).bind fun y7 => (if ((decide ((q0.regs y7) < 0)) || (decide ((q0.regs y7) ≥ p1.M))) = true then zT (zb8 3) (fun x44 => some (.error x44)) fun c40 => zgq q0 p1 y4 y7 else zgq q0 p1 y4 y7) else zT (zdB (⟨q0.code, q0.pc, q0.regs, q0.words, q0.input, q0.out, q0.how, q0.halting⟩ : ze) (IntKind.i64.wrap ((q0.regs y4) + p1.N))) (fun x52 => some (.error x52)) fun c48 => (zH q0.words c48).bind fun y57 => some (.ok c48))
def zhs (q0 : ze) (p1 : Int) : Option (Except (Value × ze) (ze)) :=
 zT (zeR (⟨q0.code, q0.pc, q0.regs, q0.words, q0.input, q0.out, q0.how, q0.halting⟩ : ze) p1) (fun x7 => some (.error (x7, (⟨q0.code, q0.pc, q0.regs, q0.words, q0.input, q0.out, q0.how, q0.halting⟩ : ze)))) fun c3 => (if (decide (c3 > (q0.words.length : Int))) = true then zT (zb8 6) (fun x16 => some (.error (x16, (⟨q0.code, q0.pc, q0.regs, q0.words, q0.input, q0.out, q0.how, q0.halting⟩ : ze)))) fun c12 => some (.ok (⟨q0.code, q0.pc, (zex [(q0.regs 0), (q0.regs 1), (q0.regs 2), (q0.regs 3), (q0.regs 4), (q0.regs 5), (q0.regs 6), (q0.regs 7), (q0.regs 8), (q0.regs 9), (q0.regs 10), (q0.regs 11), (q0.regs 12), (q0.regs 13), (q0.regs 14), c3]), q0.words, q0.input, q0.out, q0.how, q0.halting⟩ : ze)) else some (.ok (⟨q0.code, q0.pc, (zex [(q0.regs 0), (q0.regs 1), (q0.regs 2), (q0.regs 3), (q0.regs 4), (q0.regs 5), (q0.regs 6), (q0.regs 7), (q0.regs 8), (q0.regs 9), (q0.regs 10), (q0.regs 11), (q0.regs 12), (q0.regs 13), (q0.regs 14), c3]), q0.words, q0.input, q0.out, q0.how, q0.halting⟩ : ze)))
def zfT (q0 : ze) : Option (Except (Value × ze) (Int × ze)) :=
 (zH q0.input 0).bind fun y15 => (zb1 q0.input 1 (q0.input.length : Int)).bind fun y20 => some (.ok (y15, (⟨q0.code, q0.pc, q0.regs, q0.words, y20, q0.out, q0.how, q0.halting⟩ : ze)))
def zil (q0 : ze) : Option (Except (Value × ze) (Int × ze)) :=
 (if ((q0.input.length : Int) == 0) = true then zT (zb8 4) (fun x30 => some (.error (x30, (⟨q0.code, q0.pc, q0.regs, q0.words, q0.input, q0.out, q0.how, q0.halting⟩ : ze)))) fun c26 => zfT q0 else zfT q0)
def zbk (x180 : List UInt8) (x182 : Int) (x183 : (Nat → Int)) (x188 : List Int) (x193 : List Int) (x198 : List Int) (x200 : UInt8) (x201 : Int) : Option (Except (Value × ze) (ze)) :=
 some (.ok (⟨x180, x182, x183, x188, x193, x198, x200, x201⟩ : ze))
def zbU (q0 : ze) (p1 : zc) (y4 : Nat) (x249 : Bool) : Option (Except (Value × ze) (ze)) :=
 (if x249 = true then zT (zeO (⟨q0.code, q0.pc, q0.regs, q0.words, q0.input, q0.out, q0.how, q0.halting⟩ : ze) (⟨p1.Kind, p1.Op, p1.R, p1.S, p1.T, p1.N, p1.M⟩ : zc)) (fun x255 => some (.error (x255, (⟨q0.code, q0.pc, q0.regs, q0.words, q0.input, q0.out, q0.how, q0.halting⟩ : ze)))) fun c251 => (zH q0.words c251).bind fun y260 => zbk q0.code q0.pc q0.regs (q0.words.set (Int.toNat c251) (q0.regs y4)) q0.input q0.out q0.how q0.halting else (if ((p1.Kind.toNat : Int) == 14) = true then zT (zhs (⟨q0.code, q0.pc, q0.regs, q0.words, q0.input, q0.out, q0.how, q0.halting⟩ : ze) p1.N) (fun x275 => some (.error (x275.1, (⟨x275.2.code, x275.2.pc, x275.2.regs, x275.2.words, x275.2.input, x275.2.out, x275.2.how, x275.2.halting⟩ : ze)))) fun c271 => zbk c271.code c271.pc c271.regs c271.words c271.input c271.out c271.how c271.halting else (if ((p1.Kind.toNat : Int) == 15) = true then zT (zil (⟨q0.code, q0.pc, q0.regs, q0.words, q0.input, q0.out, q0.how, q0.halting⟩ : ze)) (fun x320 => some (.error (x320.1, (⟨x320.2.code, x320.2.pc, x320.2.regs, x320.2.words, x320.2.input, x320.2.out, x320.2.how, x320.2.halting⟩ : ze)))) fun c316 => zbk c316.2.code c316.2.pc (zq c316.2.regs y4 c316.1) c316.2.words c316.2.input c316.2.out c316.2.how c316.2.halting else (if ((p1.Kind.toNat : Int) == 16) = true then (room (q0.out.length + ([(q0.regs y4)] : List Int).length)).bind fun _ => zbk q0.code q0.pc q0.regs q0.words q0.input (q0.out ++ ([(q0.regs y4)] : List Int)) q0.how q0.halting else zbk q0.code q0.pc q0.regs q0.words q0.input q0.out q0.how q0.halting))))
def zbW (q0 : ze) (p1 : zc) (y4 : Nat) (x225 : Bool) : Option (Except (Value × ze) (ze)) :=
 (if x225 = true then zT (zeO (⟨q0.code, q0.pc, q0.regs, q0.words, q0.input, q0.out, q0.how, q0.halting⟩ : ze) (⟨p1.Kind, p1.Op, p1.R, p1.S, p1.T, p1.N, p1.M⟩ : zc)) (fun x231 => some (.error (x231, (⟨q0.code, q0.pc, q0.regs, q0.words, q0.input, q0.out, q0.how, q0.halting⟩ : ze)))) fun c227 => (zH q0.words c227).bind fun y236 => zbk q0.code q0.pc (zq q0.regs y4 y236) q0.words q0.input q0.out q0.how q0.halting else (if ((p1.Kind.toNat : Int) == 7) = true then zbU q0 p1 y4 ((p1.Kind.toNat : Int) == 7) else zbU q0 p1 y4 ((p1.Kind.toNat : Int) == 9)))
def zdO (q0 : ze) (p1 : zc) : Option (Except (Value × ze) (ze)) :=
 (zcr p1.R 16).bind fun y4 => (zcr p1.S 16).bind fun y6 => (if ((p1.Kind.toNat : Int) == 2) = true then zbk q0.code q0.pc (zq q0.regs y4 p1.N) q0.words q0.input q0.out q0.how q0.halting else (if ((p1.Kind.toNat : Int) == 3) = true then zbk q0.code q0.pc (zq q0.regs y4 (q0.regs y6)) q0.words q0.input q0.out q0.how q0.halting else (if ((p1.Kind.toNat : Int) == 4) = true then (zcr p1.T 16).bind fun y205 => zT (zeF (p1.Op.toNat : Int) (q0.regs y6) (q0.regs y205)) (fun x211 => some (.error (x211, (⟨q0.code, q0.pc, q0.regs, q0.words, q0.input, q0.out, q0.how, q0.halting⟩ : ze)))) fun c207 => zbk q0.code q0.pc (zq q0.regs y4 c207) q0.words q0.input q0.out q0.how q0.halting else (if ((p1.Kind.toNat : Int) == 5) = true then (zcP ((p1.Op.toNat : Int) == 14)).bind fun c216 => zbk q0.code q0.pc (zq q0.regs y4 (IntKind.i64.wrap (c216 - (q0.regs y6)))) q0.words q0.input q0.out q0.how q0.halting else (if ((p1.Kind.toNat : Int) == 6) = true then zbW q0 p1 y4 ((p1.Kind.toNat : Int) == 6) else zbW q0 p1 y4 ((p1.Kind.toNat : Int) == 8))))))
def zgl (q0 : ze) (p1 : zc) (p2 : Int) : Option (Except (Value × ze) (Int × ze)) :=
 (if ((p1.Kind.toNat : Int) == 10) = true then some (.ok (p1.N, (⟨q0.code, q0.pc, q0.regs, q0.words, q0.input, q0.out, q0.how, q0.halting⟩ : ze))) else (if ((p1.Kind.toNat : Int) == 11) = true then (zcr p1.R 16).bind fun y7 => (if ((q0.regs y7) == 0) = true then some (.ok (p1.N, (⟨q0.code, q0.pc, q0.regs, q0.words, q0.input, q0.out, q0.how, q0.halting⟩ : ze))) else some (.ok (p2, (⟨q0.code, q0.pc, q0.regs, q0.words, q0.input, q0.out, q0.how, q0.halting⟩ : ze)))) else (if ((p1.Kind.toNat : Int) == 12) = true then zT (zhp (⟨q0.code, q0.pc, q0.regs, q0.words, q0.input, q0.out, q0.how, q0.halting⟩ : ze) p1.N p2) (fun x15 => some (.error (x15.1, (⟨x15.2.code, x15.2.pc, x15.2.regs, x15.2.words, x15.2.input, x15.2.out, x15.2.how, x15.2.halting⟩ : ze)))) fun c11 => some (.ok (c11.1, (⟨c11.2.code, c11.2.pc, c11.2.regs, c11.2.words, c11.2.input, c11.2.out, c11.2.how, c11.2.halting⟩ : ze))) else (if ((p1.Kind.toNat : Int) == 13) = true then zT (zh8 (⟨q0.code, q0.pc, q0.regs, q0.words, q0.input, q0.out, q0.how, q0.halting⟩ : ze)) (fun x60 => some (.error (x60.1, (⟨x60.2.code, x60.2.pc, x60.2.regs, x60.2.words, x60.2.input, x60.2.out, x60.2.how, x60.2.halting⟩ : ze)))) fun c56 => some (.ok (c56.1, (⟨c56.2.code, c56.2.pc, c56.2.regs, c56.2.words, c56.2.input, c56.2.out, c56.2.how, c56.2.halting⟩ : ze))) else (if ((p1.Kind.toNat : Int) == 17) = true then (zcr p1.R 16).bind fun y101 => zT (zb8 1) (fun x107 => some (.error (x107, (⟨q0.code, q0.pc, q0.regs, q0.words, q0.input, q0.out, q0.how, (q0.regs y101)⟩ : ze)))) fun c103 => zT (zdO (⟨q0.code, q0.pc, q0.regs, q0.words, q0.input, q0.out, q0.how, (q0.regs y101)⟩ : ze) (⟨p1.Kind, p1.Op, p1.R, p1.S, p1.T, p1.N, p1.M⟩ : zc)) (fun x115 => some (.error (x115.1, (⟨x115.2.code, x115.2.pc, x115.2.regs, x115.2.words, x115.2.input, x115.2.out, x115.2.how, x115.2.halting⟩ : ze)))) fun c111 => some (.ok (p2, (⟨c111.code, c111.pc, c111.regs, c111.words, c111.input, c111.out, c111.how, c111.halting⟩ : ze))) else (if ((p1.Kind.toNat : Int) == 18) = true then zT (zb8 (IntKind.u8.wrap p1.N)) (fun x160 => some (.error (x160, (⟨q0.code, q0.pc, q0.regs, q0.words, q0.input, q0.out, q0.how, q0.halting⟩ : ze)))) fun c156 => zT (zdO (⟨q0.code, q0.pc, q0.regs, q0.words, q0.input, q0.out, q0.how, q0.halting⟩ : ze) (⟨p1.Kind, p1.Op, p1.R, p1.S, p1.T, p1.N, p1.M⟩ : zc)) (fun x168 => some (.error (x168.1, (⟨x168.2.code, x168.2.pc, x168.2.regs, x168.2.words, x168.2.input, x168.2.out, x168.2.how, x168.2.halting⟩ : ze)))) fun c164 => some (.ok (p2, (⟨c164.code, c164.pc, c164.regs, c164.words, c164.input, c164.out, c164.how, c164.halting⟩ : ze))) else zT (zdO (⟨q0.code, q0.pc, q0.regs, q0.words, q0.input, q0.out, q0.how, q0.halting⟩ : ze) (⟨p1.Kind, p1.Op, p1.R, p1.S, p1.T, p1.N, p1.M⟩ : zc)) (fun x212 => some (.error (x212.1, (⟨x212.2.code, x212.2.pc, x212.2.regs, x212.2.words, x212.2.input, x212.2.out, x212.2.how, x212.2.halting⟩ : ze)))) fun c208 => some (.ok (p2, (⟨c208.code, c208.pc, c208.regs, c208.words, c208.input, c208.out, c208.how, c208.halting⟩ : ze)))))))))
def zfF (q0 : ze) (qf1 : UInt8) (x13 : UInt8) (x14 : UInt8) (x15 : Int) (x16 : Int) (x17 : Int) (x18 : Int) (x19 : Int) (x20 : Int) : Option (Except (Value × ze × UInt8) (ze × UInt8)) :=
 zT (zgl (⟨q0.code, q0.pc, q0.regs, q0.words, q0.input, q0.out, q0.how, q0.halting⟩ : ze) (⟨x13, x14, x15, x16, x17, x18, x19⟩ : zc) x20) (fun x40 => some (.error (x40.1, (⟨x40.2.code, x40.2.pc, x40.2.regs, x40.2.words, x40.2.input, x40.2.out, x40.2.how, x40.2.halting⟩ : ze), qf1))) fun c36 => some (.ok ((⟨c36.2.code, c36.1, c36.2.regs, c36.2.words, c36.2.input, c36.2.out, c36.2.how, c36.2.halting⟩ : ze), c36.2.how))
def zhN (q0 : ze) (qf1 : UInt8) (x13 : UInt8) (x14 : UInt8) (x15 : Int) (x16 : Int) (x17 : Int) (x18 : Int) (x19 : Int) (x20 : Int) (x21 : Int) : Option (Except (Value × ze × UInt8) (ze × UInt8)) :=
 (if (x21 != 0) = true then zT (zb8 5) (fun x85 => some (.error (x85, (⟨q0.code, q0.pc, q0.regs, q0.words, q0.input, q0.out, q0.how, q0.halting⟩ : ze), qf1))) fun c81 => zfF q0 qf1 x13 x14 x15 x16 x17 x18 x19 x20 else zfF q0 qf1 x13 x14 x15 x16 x17 x18 x19 x20)
def zfN (q0 : ze) (qf1 : UInt8) : Option (Except (Value × ze × UInt8) (ze × UInt8)) :=
 (zeb q0.code q0.pc).bind fun c89 => zhN q0 qf1 c89.1.Kind c89.1.Op c89.1.R c89.1.S c89.1.T c89.1.N c89.1.M c89.2.1 c89.2.2
def zih (qf0 : ze) (qf1 : UInt8) (k5 : UInt8) : Option (ze × UInt8) :=
 some ((⟨qf0.code, qf0.pc, qf0.regs, qf0.words, qf0.input, qf0.out, k5, qf0.halting⟩ : ze), k5)
def zds : Value → Option UInt8
 | .iface 59 (.int .u8 n) => if 0 ≤ n ∧ n < 256 then some (UInt8.ofNat n.toNat) else none
 | _ => none
def zb2 (q0 : ze) : Option (Int × ze) :=
 (if ((q0.how.toNat : Int) != 0) = true then some ((q0.how.toNat : Int), q0) else match zfN q0 0 with
  | none => none
  | some (.ok c) => some ((c.2.toNat : Int), c.1)
  | some (.error c) => (zds c.1).bind fun k => (zih c.2.1 c.2.2 k).bind fun c => some ((c.2.toNat : Int), c.1))
def zfG (rec4 : (List UInt8) → Int → (Nat → Int) → (List Int) → (List Int) → (List Int) → UInt8 → Int → Int → Option (Int × Int × ze))  (x43 : List UInt8) (x45 : Int) (x46 : (Nat → Int)) (x50 : List Int) (x54 : List Int) (x59 : List Int) (x61 : UInt8) (x62 : Int) (x63 : Int) : Option (Int × Int × ze) :=
 ((if (decide (x63 > 0)) = true then (zeA (⟨x43, x45, x46, x50, x54, x59, x61, x62⟩ : ze)).bind fun c102 => some (c102 == 0) else some false)).bind fun c99 => (if c99 = true then (zb2 (⟨x43, x45, x46, x50, x54, x59, x61, x62⟩ : ze)).bind fun c107 => rec4 c107.2.code c107.2.pc c107.2.regs c107.2.words c107.2.input c107.2.out c107.2.how c107.2.halting (IntKind.i64.wrap (x63 - 1)) else (zeA (⟨x43, x45, x46, x50, x54, x59, x61, x62⟩ : ze)).bind fun c129 => some (c129, x63, (⟨x43, x45, x46, x50, x54, x59, x61, x62⟩ : ze)))
def zev  : Nat → (List UInt8) → Int → (Nat → Int) → (List Int) → (List Int) → (List Int) → UInt8 → Int → Int → Option (Int × Int × ze)
 | 0, _, _, _, _, _, _, _, _, _ => none
 | n + 1, x43, x45, x46, x50, x54, x59, x61, x62, x63 => zfG (zev  n)  x43 x45 x46 x50 x54 x59 x61 x62 x63
def zb7 (q0 : ze) (p1 : Int) : Option (Int × Int × ze) :=
 zev  big q0.code q0.pc q0.regs q0.words q0.input q0.out q0.how q0.halting (zbg 0 p1)
def zcG (q0 : ze) : Option (List Int) :=
 (zdw q0.out).bind fun c2 => some c2
def zjy (q0 : ze) : Option (Int × Bool) :=
 (zeA (⟨q0.code, q0.pc, q0.regs, q0.words, q0.input, q0.out, q0.how, q0.halting⟩ : ze)).bind fun c2 => (if (c2 != 1) = true then some (0, false) else some (q0.halting, true))
def zdI  : Option Bool :=
 (zdH ([(2 : UInt8), (1 : UInt8), (7 : UInt8), (16 : UInt8), (1 : UInt8), (17 : UInt8), (1 : UInt8)] : List UInt8) 0 10 []).bind fun c5 => zdJ c5.1 (if ((c5.2 != 0) || true) = true then some false else none) fun m9 => (if ((c5.2 != 0) || false) = true then some false else (zb7 (⟨m9.code, m9.pc, m9.regs, m9.words, m9.input, m9.out, m9.how, m9.halting⟩ : ze) 2).bind fun c38 => (zb7 (⟨c38.2.2.code, c38.2.2.pc, c38.2.2.regs, c38.2.2.words, c38.2.2.input, c38.2.2.out, c38.2.2.how, c38.2.2.halting⟩ : ze) 5).bind fun c60 => (zjy (⟨c60.2.2.code, c60.2.2.pc, c60.2.2.regs, c60.2.2.words, c60.2.2.input, c60.2.2.out, c60.2.2.how, c60.2.2.halting⟩ : ze)).bind fun c82 => (zcG (⟨c60.2.2.code, c60.2.2.pc, c60.2.2.regs, c60.2.2.words, c60.2.2.input, c60.2.2.out, c60.2.2.how, c60.2.2.halting⟩ : ze)).bind fun c86 => ((if (((((((c38.1 == 0) && (c38.2.1 == 0)) && (c60.1 == 1)) && (c60.2.1 == 4)) && c82.2) && (c82.1 == 7)) && ((c86.length : Int) == 1)) = true then (zH c86 0).bind fun y98 => some (y98 == 7) else some false)).bind fun c95 => some c95)
def zdP (rec4 : (List UInt8) → Int → Option (List UInt8)) (p0 : (List UInt8)) (x18 : List UInt8) (x21 : Int) : Option (List UInt8) :=
 (if (decide (x21 < (p0.length : Int))) = true then (zH p0 x21).bind fun y35 => (room (x18.length + 1)).bind fun _ => rec4 (x18 ++ [y35]) (IntKind.i64.wrap (x21 + 1)) else some x18)
def zeC (p0 : (List UInt8)) : Nat → (List UInt8) → Int → Option (List UInt8)
 | 0, _, _ => none
 | n + 1, x18, x21 => zdP (zeC p0 n) p0 x18 x21
def zeS (p0 : (List UInt8)) : Option (List UInt8) :=
 zeC p0 big ([]) 0
def zbi (p0 : Int) : Option (ByteArray × Bool) :=
 (if ((decide (p0 < 1)) || (decide ((IntKind.i64.wrap p0) > (([(⟨#[]⟩ : ByteArray), (⟨#[114, 110]⟩ : ByteArray), (⟨#[97]⟩ : ByteArray), (⟨#[111, 97, 116]⟩ : ByteArray), (⟨#[111, 97]⟩ : ByteArray), (⟨#[97, 110]⟩ : ByteArray), (⟨#[97, 110]⟩ : ByteArray), (⟨#[97, 116, 110, 109]⟩ : ByteArray), (⟨#[97, 116, 110, 109]⟩ : ByteArray), (⟨#[106]⟩ : ByteArray), (⟨#[114, 106]⟩ : ByteArray), (⟨#[106]⟩ : ByteArray), (⟨#[]⟩ : ByteArray), (⟨#[110]⟩ : ByteArray), (⟨#[114]⟩ : ByteArray), (⟨#[114]⟩ : ByteArray), (⟨#[114]⟩ : ByteArray), (⟨#[107]⟩ : ByteArray)] : List ByteArray).length : Int)))) = true then some ((⟨#[]⟩ : ByteArray), false) else (zH ([(⟨#[]⟩ : ByteArray), (⟨#[114, 110]⟩ : ByteArray), (⟨#[97]⟩ : ByteArray), (⟨#[111, 97, 116]⟩ : ByteArray), (⟨#[111, 97]⟩ : ByteArray), (⟨#[97, 110]⟩ : ByteArray), (⟨#[97, 110]⟩ : ByteArray), (⟨#[97, 116, 110, 109]⟩ : ByteArray), (⟨#[97, 116, 110, 109]⟩ : ByteArray), (⟨#[106]⟩ : ByteArray), (⟨#[114, 106]⟩ : ByteArray), (⟨#[106]⟩ : ByteArray), (⟨#[]⟩ : ByteArray), (⟨#[110]⟩ : ByteArray), (⟨#[114]⟩ : ByteArray), (⟨#[114]⟩ : ByteArray), (⟨#[114]⟩ : ByteArray), (⟨#[107]⟩ : ByteArray)] : List ByteArray) (IntKind.u8.wrap (p0 - 1))).bind fun y7 => some (y7, true))
def zdx (p0 : Int) (p1 : Bool) : Option Bool :=
 ((if (p0 == 0) = true then some true else (if p1 = true then (if (decide (p0 > 0)) = true then some (decide (p0 < 16)) else some false) else (if false = true then some (decide (p0 < 16)) else some false)))).bind fun c3 => some c3
def zft (rec4 : Int → Option Bool) (p0 : ByteArray) (p1 : Int) (x7 : Int) : Option Bool :=
 (if (decide (x7 < (p0.size : Int))) = true then (zep p0 x7).bind fun y14 => (if ((y14.toNat : Int) == p1) = true then some true else rec4 (IntKind.i64.wrap (x7 + 1))) else some false)
def zfh (p0 : ByteArray) (p1 : Int) : Nat → Int → Option Bool
 | 0, _ => none
 | n + 1, x7 => zft (zfh p0 p1 n) p0 p1 x7
def zm (p0 : ByteArray) (p1 : Int) : Option Bool :=
 zfh p0 p1 big 0
def zbm (p0 : zc) (c3 : ByteArray × Bool) : Option Bool :=
 (if ((p0.Kind.toNat : Int) == 2) = true then some true else (zm c3.1 110).bind fun c73 => (if c73 = true then some ((decide (p0.N ≥ (-65536))) && (decide (p0.N ≤ 65536))) else (zm c3.1 106).bind fun c78 => (if c78 = true then some ((decide (p0.N ≥ 0)) && (decide (p0.N < 16777216))) else (zm c3.1 107).bind fun c83 => (if c83 = true then some ((decide (p0.N ≥ 2)) && (decide (p0.N ≤ 4))) else some (p0.N == 0)))))
def zW (p0 : zc) : Option Bool :=
 (zbi (p0.Kind.toNat : Int)).bind fun c3 => ((if (!c3.2) = true then some true else (zm c3.1 114).bind fun c10 => (if c10 = true then (zdx p0.R true).bind fun c15 => some (!c15) else (zm c3.1 97).bind fun c19 => (zdx p0.R c19).bind fun c23 => some (!c23)))).bind fun c7 => ((if c7 = true then some true else (zm c3.1 97).bind fun c30 => (zdx p0.S c30).bind fun c34 => some (!c34))).bind fun c27 => ((if c27 = true then some true else (zm c3.1 116).bind fun c41 => (zdx p0.T c41).bind fun c45 => some (!c45))).bind fun c38 => (if c38 = true then some false else (zm c3.1 109).bind fun c50 => ((if c50 = true then (if (decide (p0.M < 1)) = true then some true else some (decide (p0.M > 65536))) else some false)).bind fun c54 => ((if c54 = true then some true else (zm c3.1 109).bind fun c61 => (if (!c61) = true then some (p0.M != 0) else some false))).bind fun c58 => (if c58 = true then some false else (if ((p0.Kind.toNat : Int) == 4) = true then (if ((decide ((p0.Op.toNat : Int) < 1)) || (decide ((p0.Op.toNat : Int) > 13))) = true then some false else zbm p0 c3) else (if ((p0.Kind.toNat : Int) == 5) = true then (if (((p0.Op.toNat : Int) != 14) && ((p0.Op.toNat : Int) != 15)) = true then some false else zbm p0 c3) else (if ((p0.Op.toNat : Int) != 0) = true then some false else zbm p0 c3)))))
def zfV (rec4 : Int → Option (Int × Bool)) (p0 : Int) (p1 : Int) (x5 : Int) : Option (Int × Bool) :=
 (if (decide (x5 < 256)) = true then (if (((IntKind.i64.wrap (Int.tdiv x5 16)) == p0) && ((Int.tmod x5 16) == p1)) = true then some ((IntKind.u8.wrap x5), true) else rec4 (IntKind.i64.wrap (x5 + 1))) else some (0, false))
def zfv (p0 : Int) (p1 : Int) : Nat → Int → Option (Int × Bool)
 | 0, _ => none
 | n + 1, x5 => zfV (zfv p0 p1 n) p0 p1 x5
def zgE (p0 : Int) (p1 : Int) : Option (Int × Bool) :=
 zfv p0 p1 big 0
def zfQ (p0 : Int) (p1 : Int) : Option Bool :=
 (if (decide ((IntKind.i64.wrap ((IntKind.i64.wrap (7 * p1)) - 1)) ≥ 63)) = true then some true else (zb3 .i64 1 (IntKind.u64.wrap (IntKind.i64.wrap ((IntKind.i64.wrap (7 * p1)) - 1)))).bind fun y4 => ((if (decide (p0 ≥ (IntKind.i64.wrap (0 - y4)))) = true then (zb3 .i64 1 (IntKind.u64.wrap (IntKind.i64.wrap ((IntKind.i64.wrap (7 * p1)) - 1)))).bind fun y9 => some (decide (p0 < y9)) else some false)).bind fun c6 => some c6)
def zf8 (rec9 : Int → (List UInt8) → Int → Option (List UInt8)) (p3 : Int) (x41 : Int) (x47 : Int) (x73 : Int) (x77 : List UInt8) : Option (List UInt8) :=
 (if (decide (x47 < (IntKind.i64.wrap (p3 - 1)))) = true then (u8o (IntKind.u8.wrap (IntKind.u64.wrap ((Int.tmod x41 128) + 128)))).bind fun z80 => (room (x77.length + 1)).bind fun _ => rec9 x73 (x77 ++ [z80]) (IntKind.i64.wrap (x47 + 1)) else (u8o (IntKind.u8.wrap (Int.tmod x41 128))).bind fun z86 => (room (x77.length + 1)).bind fun _ => rec9 x73 (x77 ++ [z86]) (IntKind.i64.wrap (x47 + 1)))
def zf6 (rec9 : Int → (List UInt8) → Int → Option (List UInt8)) (p2 : Bool) (p3 : Int) (x41 : Int) (x45 : List UInt8) (x47 : Int) : Option (List UInt8) :=
 (if (decide (x47 < p3)) = true then (if p2 = true then zf8 rec9 p3 x41 x47 (orI .u64 (IntKind.u64.wrap (Int.tdiv x41 128)) 18302628885633695744) x45 else zf8 rec9 p3 x41 x47 (IntKind.u64.wrap (Int.tdiv x41 128)) x45) else some x45)
def zdj (p2 : Bool) (p3 : Int) : Nat → Int → (List UInt8) → Int → Option (List UInt8)
 | 0, _, _, _ => none
 | n + 1, x41, x45, x47 => zf6 (zdj p2 p3 n) p2 p3 x41 x45 x47
def zeV (p0 : (List UInt8)) (p1 : Int) (p2 : Bool) (p3 : Int) : Option (List UInt8) :=
 (zeS p0).bind fun c5 => zdj p2 p3 big p1 c5 0
def ze4 (rec4 : Int → Option (List UInt8)) (p0 : (List UInt8)) (p1 : Int) (x19 : Int) : Option (List UInt8) :=
 (zfQ p1 x19).bind fun c35 => (if (!c35) = true then rec4 (IntKind.i64.wrap (x19 + 1)) else (zeV p0 (IntKind.u64.wrap p1) (decide (p1 < 0)) x19).bind fun c40 => some c40)
def zgI (p0 : (List UInt8)) (p1 : Int) : Nat → Int → Option (List UInt8)
 | 0, _ => none
 | n + 1, x19 => ze4 (zgI p0 p1 n) p0 p1 x19
def zeD (p0 : (List UInt8)) (p1 : Int) : Option (List UInt8) :=
 zgI p0 p1 big 1
def zfU (p0 : Int) (p1 : Int) : Option Bool :=
 ((if (decide ((IntKind.i64.wrap (7 * p1)) ≥ 64)) = true then some true else (zb3 .u64 1 (IntKind.u64.wrap (IntKind.i64.wrap (7 * p1)))).bind fun y6 => some (decide (p0 < y6)))).bind fun c3 => some c3
def zgo (rec4 : Int → Option (List UInt8)) (p0 : (List UInt8)) (p1 : Int) (x19 : Int) : Option (List UInt8) :=
 (zfU p1 x19).bind fun c35 => (if (!c35) = true then rec4 (IntKind.i64.wrap (x19 + 1)) else (zeV p0 p1 false x19).bind fun c40 => some c40)
def zfY (p0 : (List UInt8)) (p1 : Int) : Nat → Int → Option (List UInt8)
 | 0, _ => none
 | n + 1, x19 => zgo (zfY p0 p1 n) p0 p1 x19
def zeY (p0 : (List UInt8)) (p1 : Int) : Option (List UInt8) :=
 zfY p0 p1 big 1
def zgr (p0 : (List UInt8)) (p1 : Int) : Option ((List UInt8) × Int) :=
 (if ((decide (p1 < 0)) || (decide (p1 ≥ 16777216))) = true then some ([], 1) else (room (([] : List UInt8).length + p0.length)).bind fun _ => (u8o (IntKind.u8.wrap (IntKind.i64.wrap (Int.tdiv p1 65536)))).bind fun z13 => (u8o (IntKind.u8.wrap (Int.tmod (IntKind.i64.wrap (Int.tdiv p1 256)) 256))).bind fun z14 => (u8o (IntKind.u8.wrap (Int.tmod p1 256))).bind fun z15 => (room ((([] : List UInt8) ++ p0).length + ([z13, z14, z15] : List UInt8).length)).bind fun _ => some (((([] : List UInt8) ++ p0) ++ ([z13, z14, z15] : List UInt8)), 0))
def zhd (rec19 : (List UInt8) → Int → Option (List UInt8)) (x353 : Int) (x830 : List UInt8) : Option (List UInt8) :=
 rec19 x830 (IntKind.i64.wrap (x353 + 1))
def zcj (rec19 : (List UInt8) → Int → Option (List UInt8)) (x353 : Int) (x911 : List UInt8) : Option (List UInt8) :=
 zhd rec19 x353 x911
def zf7 (rec19 : (List UInt8) → Int → Option (List UInt8)) (p1 : zc) (c23 : ByteArray × Bool) (x351 : List UInt8) (x353 : Int) : Option (List UInt8) :=
 (if (decide (x353 < (c23.1.size : Int))) = true then (zep c23.1 x353).bind fun y832 => (if ((y832.toNat : Int) == 111) = true then (room (x351.length + 1)).bind fun _ => zcj rec19 x353 (x351 ++ [p1.Op]) else (if ((y832.toNat : Int) == 114) = true then (u8o (IntKind.u8.wrap p1.R)).bind fun z920 => (room (x351.length + 1)).bind fun _ => zcj rec19 x353 (x351 ++ [z920]) else (if ((y832.toNat : Int) == 97) = true then (zgE p1.R p1.S).bind fun c927 => (u8o c927.1).bind fun z931 => (room (x351.length + 1)).bind fun _ => zcj rec19 x353 (x351 ++ [z931]) else (if ((y832.toNat : Int) == 116) = true then (u8o (IntKind.u8.wrap p1.T)).bind fun z938 => (room (x351.length + 1)).bind fun _ => zcj rec19 x353 (x351 ++ [z938]) else (if ((y832.toNat : Int) == 110) = true then (zeD x351 p1.N).bind fun c947 => zcj rec19 x353 c947 else (if ((y832.toNat : Int) == 109) = true then (zeY x351 (IntKind.u64.wrap p1.M)).bind fun c959 => zcj rec19 x353 c959 else (if ((y832.toNat : Int) == 106) = true then (zgr x351 p1.N).bind fun c971 => zcj rec19 x353 c971.1 else (if ((y832.toNat : Int) == 107) = true then (u8o (IntKind.u8.wrap p1.N)).bind fun z981 => (room (x351.length + 1)).bind fun _ => zcj rec19 x353 (x351 ++ [z981]) else zcj rec19 x353 x351)))))))) else some x351)
def zdD (p1 : zc) (c23 : ByteArray × Bool) : Nat → (List UInt8) → Int → Option (List UInt8)
 | 0, _, _ => none
 | n + 1, x351, x353 => zf7 (zdD p1 c23 n) p1 c23 x351 x353
def zgj (p0 : (List UInt8)) (p1 : zc) : Option (List UInt8) :=
 (zeS p0).bind fun c4 => (zW (⟨p1.Kind, p1.Op, p1.R, p1.S, p1.T, p1.N, p1.M⟩ : zc)).bind fun c13 => (if (!c13) = true then some c4 else (room (c4.length + 1)).bind fun _ => (zbi (p1.Kind.toNat : Int)).bind fun c23 => zdD p1 c23 big (c4 ++ [p1.Kind]) 0)
def zgv (rec4 : (List UInt8) → Int → Option (List UInt8)) (p0 : zbC) (x37 : List UInt8) (x39 : Int) : Option (List UInt8) :=
 (if (decide (x39 < (p0.Code.length : Int))) = true then (zH p0.Code x39).bind fun y57 => (zgj x37 (⟨y57.Kind, y57.Op, y57.R, y57.S, y57.T, y57.N, y57.M⟩ : zc)).bind fun c62 => rec4 c62 (IntKind.i64.wrap (x39 + 1)) else some x37)
def zfx (p0 : zbC) : Nat → (List UInt8) → Int → Option (List UInt8)
 | 0, _, _ => none
 | n + 1, x37, x39 => zgv (zfx p0 n) p0 x37 x39
def zel (p0 : zbC) : Option (List UInt8) :=
 (room (([] : List UInt8).length + p0.Bytes.length)).bind fun _ => zfx p0 big (([] : List UInt8) ++ p0.Bytes) 0
def zcO (q0 : ze) : Option (List Int) :=
 (zdw q0.words).bind fun c2 => some c2
def zdr (q0 : ze) : Option (List Int) :=
 (zdw ((List.range 16).map q0.regs)).bind fun c2 => some c2
def zfX (q0 : ze) : Option Int :=
 some q0.pc
def zfu (q0 : ze) : Option Int :=
 some (q0.input.length : Int)
def zfp (rec4 : Int → Option Bool) (p0 : (List Int)) (p1 : (List Int)) (x20 : Int) : Option Bool :=
 (if (decide (x20 < (p0.length : Int))) = true then (zH p0 x20).bind fun y35 => (zH p1 x20).bind fun y40 => (if (y35 != y40) = true then some false else rec4 (IntKind.i64.wrap (x20 + 1))) else some true)
def zgF (p0 : (List Int)) (p1 : (List Int)) : Nat → Int → Option Bool
 | 0, _ => none
 | n + 1, x20 => zfp (zgF p0 p1 n) p0 p1 x20
def zcQ (p0 : (List Int)) (p1 : (List Int)) : Option Bool :=
 (if ((p0.length : Int) != (p1.length : Int)) = true then some false else zgF p0 p1 big 0)
def zfc (rec52 : (List Int) → Int → Option Bool) (c190 : Int × Int × ze) (c216 : Int × Int × ze) (c326 : Bool) (x3364 : List Int) (x3367 : Int) : Option Bool :=
 (if (decide (x3367 < (x3364.length : Int))) = true then (zH x3364 x3367).bind fun y3469 => (zH x3364 x3367).bind fun y3476 => rec52 (x3364.set (Int.toNat x3367) (IntKind.i64.wrap (y3469 + 1))) (IntKind.i64.wrap (x3367 + 1)) else ((if c326 = true then (zcO (⟨c190.2.2.code, c190.2.2.pc, c190.2.2.regs, c190.2.2.words, c190.2.2.input, c190.2.2.out, c190.2.2.how, c190.2.2.halting⟩ : ze)).bind fun c3488 => (zcO (⟨c216.2.2.code, c216.2.2.pc, c216.2.2.regs, c216.2.2.words, c216.2.2.input, c216.2.2.out, c216.2.2.how, c216.2.2.halting⟩ : ze)).bind fun c3497 => (zcQ c3488 c3497).bind fun c3506 => some c3506 else some false)).bind fun c3485 => ((if c3485 = true then (zdr (⟨c190.2.2.code, c190.2.2.pc, c190.2.2.regs, c190.2.2.words, c190.2.2.input, c190.2.2.out, c190.2.2.how, c190.2.2.halting⟩ : ze)).bind fun c3513 => (zdr (⟨c216.2.2.code, c216.2.2.pc, c216.2.2.regs, c216.2.2.words, c216.2.2.input, c216.2.2.out, c216.2.2.how, c216.2.2.halting⟩ : ze)).bind fun c3522 => (zcQ c3513 c3522).bind fun c3531 => some c3531 else some false)).bind fun c3510 => ((if c3510 = true then (zcG (⟨c190.2.2.code, c190.2.2.pc, c190.2.2.regs, c190.2.2.words, c190.2.2.input, c190.2.2.out, c190.2.2.how, c190.2.2.halting⟩ : ze)).bind fun c3538 => (zcG (⟨c216.2.2.code, c216.2.2.pc, c216.2.2.regs, c216.2.2.words, c216.2.2.input, c216.2.2.out, c216.2.2.how, c216.2.2.halting⟩ : ze)).bind fun c3547 => (zcQ c3538 c3547).bind fun c3556 => some c3556 else some false)).bind fun c3535 => ((if c3535 = true then (zdI ).bind fun c3563 => some c3563 else some false)).bind fun c3560 => some c3560)
def zek (c190 : Int × Int × ze) (c216 : Int × Int × ze) (c326 : Bool) : Nat → (List Int) → Int → Option Bool
 | 0, _, _ => none
 | n + 1, x3364, x3367 => zfc (zek c190 c216 c326 n) c190 c216 c326 x3364 x3367
def zgA (rec50 : (List Int) → Int → Option Bool) (c190 : Int × Int × ze) (c216 : Int × Int × ze) (c266 : (List Int)) (c326 : Bool) (x2881 : List Int) (x2885 : Int) : Option Bool :=
 (if (decide (x2885 < (x2881.length : Int))) = true then (zH x2881 x2885).bind fun y3228 => (zH x2881 x2885).bind fun y3235 => rec50 (x2881.set (Int.toNat x2885) (IntKind.i64.wrap (y3228 + 1))) (IntKind.i64.wrap (x2885 + 1)) else zek c190 c216 c326 big c266 0)
def zeX (c190 : Int × Int × ze) (c216 : Int × Int × ze) (c266 : (List Int)) (c326 : Bool) : Nat → (List Int) → Int → Option Bool
 | 0, _, _ => none
 | n + 1, x2881, x2885 => zgA (zeX c190 c216 c266 c326 n) c190 c216 c266 c326 x2881 x2885
def zeZ (rec44 : (List Int) → Int → Option Bool) (c190 : Int × Int × ze) (c216 : Int × Int × ze) (c257 : (List Int)) (c266 : (List Int)) (c326 : Bool) (x1430 : List Int) (x1435 : Int) : Option Bool :=
 (if (decide (x1435 < (x1430.length : Int))) = true then (zH x1430 x1435).bind fun y2503 => (zH x1430 x1435).bind fun y2510 => rec44 (x1430.set (Int.toNat x1435) (IntKind.i64.wrap (y2503 + 1))) (IntKind.i64.wrap (x1435 + 1)) else zeX c190 c216 c266 c326 big c257 0)
def zfo (c190 : Int × Int × ze) (c216 : Int × Int × ze) (c257 : (List Int)) (c266 : (List Int)) (c326 : Bool) : Nat → (List Int) → Int → Option Bool
 | 0, _, _ => none
 | n + 1, x1430, x1435 => zeZ (zfo c190 c216 c257 c266 c326 n) c190 c216 c257 c266 c326 x1430 x1435
def zhP (p0 : zbC) (p1 : Int) (p2 : Int) : Option Bool :=
 (zeq (⟨p0.Code, p0.Bytes, p0.Start, p0.Words, p0.Input, p0.Fuel⟩ : zbC)).bind fun c5 => (if ((c5 || (decide (p1 > 1000))) || (decide (p2 > 1000))) = true then (zdI ).bind fun c10 => some c10 else (zel (⟨p0.Code, p0.Bytes, p0.Start, p0.Words, p0.Input, p0.Fuel⟩ : zbC)).bind fun c14 => (zdH c14 p0.Start p0.Words p0.Input).bind fun c23 => zdJ c23.1 ((zdH c14 p0.Start p0.Words p0.Input).bind fun c29 => zdJ c29.1 (if (((c23.2 != c29.2) || (!(true == true))) || (!((c23.2 == 0) == false))) = true then some false else (zdI ).bind fun c36 => some c36) fun m33 => (if (((c23.2 != c29.2) || (!(true == false))) || (!((c23.2 == 0) == false))) = true then some false else (zdI ).bind fun c62 => some c62)) fun m27 => (zdH c14 p0.Start p0.Words p0.Input).bind fun c87 => zdJ c87.1 (if (((c23.2 != c87.2) || (!(false == true))) || (!((c23.2 == 0) == true))) = true then some false else (zb7 (⟨m27.code, m27.pc, m27.regs, m27.words, m27.input, m27.out, m27.how, m27.halting⟩ : ze) p1).bind fun c98 => (zb7 (⟨c98.2.2.code, c98.2.2.pc, c98.2.2.regs, c98.2.2.words, c98.2.2.input, c98.2.2.out, c98.2.2.how, c98.2.2.halting⟩ : ze) p2).bind fun c120 => none) fun m91 => (if (((c23.2 != c87.2) || (!(false == false))) || (!((c23.2 == 0) == true))) = true then some false else (zb7 (⟨m27.code, m27.pc, m27.regs, m27.words, m27.input, m27.out, m27.how, m27.halting⟩ : ze) p1).bind fun c168 => (zb7 (⟨c168.2.2.code, c168.2.2.pc, c168.2.2.regs, c168.2.2.words, c168.2.2.input, c168.2.2.out, c168.2.2.how, c168.2.2.halting⟩ : ze) p2).bind fun c190 => (zb7 (⟨m91.code, m91.pc, m91.regs, m91.words, m91.input, m91.out, m91.how, m91.halting⟩ : ze) (IntKind.i64.wrap ((zbg 0 p1) + (zbg 0 p2)))).bind fun c216 => ((if (c190.1 != c216.1) = true then some true else (if (c168.1 != 0) = true then (if (c190.1 != c168.1) = true then some true else some (c190.2.1 != (zbg 0 p2))) else some false))).bind fun c238 => ((if (c238 || ((IntKind.i64.wrap (c168.2.1 + c190.2.1)) != c216.2.1)) = true then some true else (if (c168.1 == 0) = true then some (c168.2.1 != 0) else some false))).bind fun c243 => (if c243 = true then some false else (zcO (⟨c190.2.2.code, c190.2.2.pc, c190.2.2.regs, c190.2.2.words, c190.2.2.input, c190.2.2.out, c190.2.2.how, c190.2.2.halting⟩ : ze)).bind fun c248 => (zdr (⟨c190.2.2.code, c190.2.2.pc, c190.2.2.regs, c190.2.2.words, c190.2.2.input, c190.2.2.out, c190.2.2.how, c190.2.2.halting⟩ : ze)).bind fun c257 => (zcG (⟨c190.2.2.code, c190.2.2.pc, c190.2.2.regs, c190.2.2.words, c190.2.2.input, c190.2.2.out, c190.2.2.how, c190.2.2.halting⟩ : ze)).bind fun c266 => (zfX (⟨c190.2.2.code, c190.2.2.pc, c190.2.2.regs, c190.2.2.words, c190.2.2.input, c190.2.2.out, c190.2.2.how, c190.2.2.halting⟩ : ze)).bind fun c275 => (zfX (⟨c216.2.2.code, c216.2.2.pc, c216.2.2.regs, c216.2.2.words, c216.2.2.input, c216.2.2.out, c216.2.2.how, c216.2.2.halting⟩ : ze)).bind fun c279 => ((if (c275 == c279) = true then (zfu (⟨c190.2.2.code, c190.2.2.pc, c190.2.2.regs, c190.2.2.words, c190.2.2.input, c190.2.2.out, c190.2.2.how, c190.2.2.halting⟩ : ze)).bind fun c286 => (zfu (⟨c216.2.2.code, c216.2.2.pc, c216.2.2.regs, c216.2.2.words, c216.2.2.input, c216.2.2.out, c216.2.2.how, c216.2.2.halting⟩ : ze)).bind fun c290 => some (c286 == c290) else some false)).bind fun c283 => ((if c283 = true then (zcO (⟨c216.2.2.code, c216.2.2.pc, c216.2.2.regs, c216.2.2.words, c216.2.2.input, c216.2.2.out, c216.2.2.how, c216.2.2.halting⟩ : ze)).bind fun c297 => (zcQ c248 c297).bind fun c306 => some c306 else some false)).bind fun c294 => ((if c294 = true then (zdr (⟨c216.2.2.code, c216.2.2.pc, c216.2.2.regs, c216.2.2.words, c216.2.2.input, c216.2.2.out, c216.2.2.how, c216.2.2.halting⟩ : ze)).bind fun c313 => (zcQ c257 c313).bind fun c322 => some c322 else some false)).bind fun c310 => ((if c310 = true then (zcG (⟨c216.2.2.code, c216.2.2.pc, c216.2.2.regs, c216.2.2.words, c216.2.2.input, c216.2.2.out, c216.2.2.how, c216.2.2.halting⟩ : ze)).bind fun c329 => (zcQ c266 c329).bind fun c338 => some c338 else some false)).bind fun c326 => zfo c190 c216 c257 c266 c326 big c248 0)))
end Go.Proofs.YtgkllgoelpfdkaaGreat
