import Derived.Test.YtgkllgoelpfdkaaFM
namespace Go.Proofs.Ytgkllgoelpfdkaa
open Go.Ab Go.RowKit
set_option linter.unusedVariables false
set_option linter.unusedSimpArgs false
set_option maxRecDepth 10000
set_option maxHeartbeats 1000000
structure zb where
 Kind : UInt8
 Op : UInt8
 R : Int
 S : Int
 T : Int
 N : Int
 M : Int
 deriving DecidableEq
inductive zn where
 | c_one_1
 | c_both_1
 | c_op_1 (x0 : Int) (x1 : Int)
 | c_third_1
 | c_bound_1
 | c_to_1
 | c_how_1
 | c_parts_1
 | c_within
def zbe (σ : Hp) (x : zn) (u0 u1 u2 : Value) : Prop := match x with
 | .c_one_1 => ∃ a1_0 a2_0, u0 = .func (.func 38) #[] #[] ∧ u1 = .func (.func 77) #[] #[.pointer (some a1_0)] ∧ u2 = .func (.func 78) #[] #[.pointer (some a2_0)] ∧ At σ a1_0 [.func (.func 40) #[] #[]] ∧ At σ a2_0 [.func (.func 41) #[] #[]]
 | .c_both_1 => ∃ a1_0 a2_0, u0 = .func (.func 46) #[] #[] ∧ u1 = .func (.func 77) #[] #[.pointer (some a1_0)] ∧ u2 = .func (.func 78) #[] #[.pointer (some a2_0)] ∧ At σ a1_0 [.func (.func 47) #[] #[]] ∧ At σ a2_0 [.func (.func 49) #[] #[]]
 | .c_op_1 x0 x1 => ∃ a0_0 a0_1 a1_0 a2_0, u0 = .func (.func 51) #[] #[.pointer (some a0_0), .pointer (some a0_1)] ∧ u1 = .func (.func 77) #[] #[.pointer (some a1_0)] ∧ u2 = .func (.func 78) #[] #[.pointer (some a2_0)] ∧ At σ a0_0 [.int .u8 x0] ∧ At σ a0_1 [.int .u8 x1] ∧ At σ a1_0 [.func (.func 52) #[] #[]] ∧ At σ a2_0 [.func (.func 53) #[] #[]]
 | .c_third_1 => ∃ a1_0 a2_0, u0 = .func (.func 54) #[] #[] ∧ u1 = .func (.func 77) #[] #[.pointer (some a1_0)] ∧ u2 = .func (.func 78) #[] #[.pointer (some a2_0)] ∧ At σ a1_0 [.func (.func 55) #[] #[]] ∧ At σ a2_0 [.func (.func 56) #[] #[]]
 | .c_bound_1 => u0 = .func (.func 57) #[] #[] ∧ u1 = .func (.func 58) #[] #[] ∧ u2 = .func (.func 60) #[] #[]
 | .c_to_1 => u0 = .func (.func 62) #[] #[] ∧ u1 = .func (.func 63) #[] #[] ∧ u2 = .func (.func 65) #[] #[]
 | .c_how_1 => ∃ a1_0 a2_0, u0 = .func (.func 67) #[] #[] ∧ u1 = .func (.func 77) #[] #[.pointer (some a1_0)] ∧ u2 = .func (.func 78) #[] #[.pointer (some a2_0)] ∧ At σ a1_0 [.func (.func 68) #[] #[]] ∧ At σ a2_0 [.func (.func 69) #[] #[]]
 | .c_parts_1 => u0 = .func (.func 23) #[] #[] ∧ u1 = .func (.func 42) #[] #[] ∧ u2 = .func (.func 44) #[] #[]
 | .c_within => u0 = .func (.func 29) #[] #[] ∧ u1 = .func (.func 42) #[] #[] ∧ u2 = .func (.func 44) #[] #[]
theorem zbe.le {σ σ' : Hp} {x : zn} {u0 u1 u2 : Value} (h : zbe σ x u0 u1 u2) (hle : Hp.le σ σ') : zbe σ' x u0 u1 u2 := by
 cases x with
 | c_one_1 => obtain ⟨a1_0, a2_0, rfl, rfl, rfl, m0, m1⟩ := h; exact ⟨a1_0, a2_0, rfl, rfl, rfl, m0.le hle, m1.le hle⟩
 | c_both_1 => obtain ⟨a1_0, a2_0, rfl, rfl, rfl, m0, m1⟩ := h; exact ⟨a1_0, a2_0, rfl, rfl, rfl, m0.le hle, m1.le hle⟩
 | c_op_1 _ _ => obtain ⟨a0_0, a0_1, a1_0, a2_0, rfl, rfl, rfl, m0, m1, m2, m3⟩ := h; exact ⟨a0_0, a0_1, a1_0, a2_0, rfl, rfl, rfl, m0.le hle, m1.le hle, m2.le hle, m3.le hle⟩
 | c_third_1 => obtain ⟨a1_0, a2_0, rfl, rfl, rfl, m0, m1⟩ := h; exact ⟨a1_0, a2_0, rfl, rfl, rfl, m0.le hle, m1.le hle⟩
 | c_bound_1 => obtain ⟨rfl, rfl, rfl⟩ := h; exact ⟨rfl, rfl, rfl⟩
 | c_to_1 => obtain ⟨rfl, rfl, rfl⟩ := h; exact ⟨rfl, rfl, rfl⟩
 | c_how_1 => obtain ⟨a1_0, a2_0, rfl, rfl, rfl, m0, m1⟩ := h; exact ⟨a1_0, a2_0, rfl, rfl, rfl, m0.le hle, m1.le hle⟩
 | c_parts_1 => obtain ⟨rfl, rfl, rfl⟩ := h; exact ⟨rfl, rfl, rfl⟩
 | c_within => obtain ⟨rfl, rfl, rfl⟩ := h; exact ⟨rfl, rfl, rfl⟩
def zbA : Ty zn where
 sz := 3
 R := fun σ x cs => ∃ f0 a0 c0 f1 a1 c1 f2 a2 c2, cs = [.func f0 a0 c0, .func f1 a1 c1, .func f2 a2 c2] ∧ zbe σ x (.func f0 a0 c0) (.func f1 a1 c1) (.func f2 a2 c2)
 len := by rintro σ x cs ⟨_, _, _, _, _, _, _, _, _, rfl, _⟩; rfl
 one := by rintro σ x cs ⟨_, _, _, _, _, _, _, _, _, rfl, _⟩; rfl
 mono := by rintro σ σ' x cs hle ⟨_, _, _, _, _, _, _, _, _, rfl, h⟩; exact ⟨_, _, _, _, _, _, _, _, _, rfl, h.le hle⟩
structure ze where
 code : (List UInt8)
 pc : Int
 regs : (Nat → Int)
 words : (List Int)
 input : (List Int)
 out : (List Int)
 how : UInt8
 halting : Int
def zcj (p0 : (List UInt8)) : Option (List UInt8) := (room p0.length).bind fun _ => some p0
def zgt (q0 : zb) : Option (Bool × zb) :=
 some (true, (⟨q0.Kind, q0.Op, q0.R, q0.S, q0.T, q0.N, q0.M⟩ : zb))
def zcZ (p0 : (List UInt8)) (p1 : Int) (p2 : Int) : Option ((List UInt8) × Int × Int) :=
 (if ((decide (p1 < 0)) || (decide (p1 > (p0.length : Int)))) = true then some ([], 0, 1) else (zby p0 p1 (p0.length : Int)).bind fun y5 => (if (decide ((y5.length : Int) ≥ p2)) = true then (zby y5 0 p2).bind fun y11 => some (y11, (IntKind.i64.wrap (p1 + p2)), 0) else some ([], 0, 5)))
def zbN (p0 : (List UInt8)) (p1 : Int) : Option (Int × Int × Int) :=
 (zcZ p0 p1 1).bind fun c3 => (if (c3.2.2 != 0) = true then some (0, 0, c3.2.2) else (zF c3.1 0).bind fun y12 => some ((y12.toNat : Int), c3.2.1, 0))
def zcz (p0 : Int) : Option Bool :=
 some ((decide (p0 ≥ 0)) && (decide (p0 < 16)))
def zgH (q0 : zb) : Option (Bool × zb) :=
 (zcz q0.R).bind fun c2 => some (c2, (⟨q0.Kind, q0.Op, q0.R, q0.S, q0.T, q0.N, q0.M⟩ : zb))
def zfE (q0 : zb) : Option (Int × zb) :=
 some ((IntKind.u8.wrap q0.R), (⟨q0.Kind, q0.Op, q0.R, q0.S, q0.T, q0.N, q0.M⟩ : zb))
def zfb (q0 : zb) (p1 : Int) : Option zb :=
 some (⟨q0.Kind, q0.Op, (IntKind.i64.wrap p1), q0.S, q0.T, q0.N, q0.M⟩ : zb)
def zh0  : Option zn :=
 some zn.c_one_1
def zes  : Option zn :=
 (zh0 ).bind fun c2 => some c2
def zeT (rec4 : Int → (List UInt8) → Option (List UInt8))  (x30 : Int) (x34 : List UInt8) : Option (List UInt8) :=
 (if ((decide (x30 > 63)) || (decide (x30 < (-64)))) = true then (u8o (orI .u8 (IntKind.u8.wrap x30) 128)).bind fun z51 => (room (x34.length + 1)).bind fun _ => rec4 (zbu .i64 x30 7) (x34 ++ [z51]) else (u8o (zbS .u8 (IntKind.u8.wrap x30) 127)).bind fun z57 => (room (x34.length + 1)).bind fun _ => some (x34 ++ [z57]))
def zem  : Nat → Int → (List UInt8) → Option (List UInt8)
 | 0, _, _ => none
 | n + 1, x30, x34 => zeT (zem  n)  x30 x34
def zdY (p0 : (List UInt8)) (p1 : Int) : Option (List UInt8) :=
 (zcj p0).bind fun c3 => zem  big p1 c3
def zeV (rec4 : Int → Int → Option (Int × Int)) (p0 : (List UInt8)) (x18 : Int) (x19 : Int) : Option (Int × Int) :=
 (if (decide (x19 < (zbp (p0.length : Int) 10))) = true then (zF p0 x19).bind fun y36 => (zcS .u64 (IntKind.u64.wrap (zbS .u8 (y36.toNat : Int) 127)) (IntKind.i64.wrap (7 * x19))).bind fun y41 => (zF p0 x19).bind fun y43 => (if (decide ((y43.toNat : Int) < 128)) = true then some ((orI .u64 x18 y41), (IntKind.i64.wrap (x19 + 1))) else rec4 (orI .u64 x18 y41) (IntKind.i64.wrap (x19 + 1))) else some (0, 0))
def zfs (p0 : (List UInt8)) : Nat → Int → Int → Option (Int × Int)
 | 0, _, _ => none
 | n + 1, x18, x19 => zeV (zfs p0 n) p0 x18 x19
def zet (p0 : (List UInt8)) : Option (Int × Int) :=
 zfs p0 big 0 0
def zeU (rec4 : Int → Option Bool) (p0 : (List UInt8)) (p1 : (List UInt8)) (x20 : Int) : Option Bool :=
 (if (decide (x20 < (p0.length : Int))) = true then (zF p0 x20).bind fun y35 => (zF p1 x20).bind fun y40 => (if ((y35.toNat : Int) != (y40.toNat : Int)) = true then some false else rec4 (IntKind.i64.wrap (x20 + 1))) else some true)
def zeg (p0 : (List UInt8)) (p1 : (List UInt8)) : Nat → Int → Option Bool
 | 0, _ => none
 | n + 1, x20 => zeU (zeg p0 p1 n) p0 p1 x20
def zdQ (p0 : (List UInt8)) (p1 : (List UInt8)) : Option Bool :=
 (if ((p0.length : Int) != (p1.length : Int)) = true then some false else zeg p0 p1 big 0)
def ze7 (p0 : Int) (p1 : Int) : Option Int :=
 (zcS .u64 p0 (zbR 0 (IntKind.i64.wrap (64 - (IntKind.i64.wrap (7 * p1)))))).bind fun y3 => (zbY .i64 (IntKind.i64.wrap y3) (zbR 0 (IntKind.i64.wrap (64 - (IntKind.i64.wrap (7 * p1)))))).bind fun y5 => some y5
def zgM (p0 : (List UInt8)) (p1 : Int) : Option (Int × Int × Int) :=
 (if ((decide (p1 < 0)) || (decide (p1 > (p0.length : Int)))) = true then some (0, 0, 1) else (zby p0 p1 (p0.length : Int)).bind fun y6 => (zet y6).bind fun c11 => (ze7 c11.1 c11.2).bind fun c15 => ((if (c11.2 == 0) = true then some true else (zby p0 p1 (IntKind.i64.wrap (p1 + c11.2))).bind fun y22 => (zdY [] c15).bind fun c27 => (zdQ c27 y22).bind fun c38 => some (!c38))).bind fun c19 => (if c19 = true then some (0, 0, 5) else some (c15, (IntKind.i64.wrap (p1 + c11.2)), 0)))
def zff (p0 : (List UInt8)) (p1 : Int) : Option (Int × Int × Int) :=
 (zgM p0 p1).bind fun c3 => some (c3.1, c3.2.1, c3.2.2)
def zcJ (p0 : (List UInt8)) (p1 : Int) (q2 : zb) : Option (Int × Bool × zb) :=
 (zff p0 p1).bind fun c4 => some (c4.2.1, (c4.2.2 == 0), (⟨q2.Kind, q2.Op, q2.R, q2.S, q2.T, c4.1, q2.M⟩ : zb))
def zgZ (q0 : zb) : Option (Bool × zb) :=
 (zcz q0.R).bind fun c2 => ((if c2 = true then (zcz q0.S).bind fun c9 => some c9 else some false)).bind fun c6 => some (c6, (⟨q0.Kind, q0.Op, q0.R, q0.S, q0.T, q0.N, q0.M⟩ : zb))
def zfh (p0 : Int) (p1 : Int) : Option (Int × Bool) :=
 (if ((((decide (p0 < 0)) || (decide (p0 ≥ 16))) || (decide (p1 < 0))) || (decide (p1 ≥ 16))) = true then some (0, false) else some ((IntKind.u8.wrap (orI .i64 (zbM .i64 p0 4) p1)), true))
def zgF (q0 : zb) : Option (Int × zb) :=
 (zfh q0.R q0.S).bind fun c2 => some (c2.1, (⟨q0.Kind, q0.Op, q0.R, q0.S, q0.T, q0.N, q0.M⟩ : zb))
def zeR (p0 : Int) : Option (Int × Int) :=
 some ((IntKind.i64.wrap (zbu .u8 p0 4)), (IntKind.i64.wrap (zbS .u8 p0 15)))
def zex (q0 : zb) (p1 : Int) : Option zb :=
 (zeR p1).bind fun c3 => some (⟨q0.Kind, q0.Op, c3.1, c3.2, q0.T, q0.N, q0.M⟩ : zb)
def zhN  : Option zn :=
 some zn.c_both_1
def zdl  : Option zn :=
 (zhN ).bind fun c2 => some c2
def zgW (q0 : zb) : Option (Int × zb) :=
 some ((q0.Op.toNat : Int), (⟨q0.Kind, q0.Op, q0.R, q0.S, q0.T, q0.N, q0.M⟩ : zb))
def zea (q0 : zb) (p1 : Int) : Option zb :=
 (u8o p1).bind fun z3 => some (⟨q0.Kind, z3, q0.R, q0.S, q0.T, q0.N, q0.M⟩ : zb)
def zhD (q0_0 : Int) (q0_1 : Int) : Option zn :=
 some (zn.c_op_1 q0_0 q0_1)
def zgR (p0 : Int) (p1 : Int) : Option zn :=
 (zhD p0 p1).bind fun c10 => some c10
def zgj (q0 : zb) : Option (Bool × zb) :=
 (zcz q0.T).bind fun c2 => some (c2, (⟨q0.Kind, q0.Op, q0.R, q0.S, q0.T, q0.N, q0.M⟩ : zb))
def zgf (q0 : zb) : Option (Int × zb) :=
 some ((IntKind.u8.wrap q0.T), (⟨q0.Kind, q0.Op, q0.R, q0.S, q0.T, q0.N, q0.M⟩ : zb))
def ze0 (q0 : zb) (p1 : Int) : Option zb :=
 some (⟨q0.Kind, q0.Op, q0.R, q0.S, (IntKind.i64.wrap p1), q0.N, q0.M⟩ : zb)
def zhw  : Option zn :=
 some zn.c_third_1
def zgp  : Option zn :=
 (zhw ).bind fun c2 => some c2
def zfN (q0 : zb) : Option (Bool × zb) :=
 some (((decide (q0.N ≥ (-65536))) && (decide (q0.N ≤ 65536))), (⟨q0.Kind, q0.Op, q0.R, q0.S, q0.T, q0.N, q0.M⟩ : zb))
def zgP (q0 : zb) : Option (Bool × zb) :=
 some (((decide (q0.M ≥ 1)) && (decide (q0.M ≤ 65536))), (⟨q0.Kind, q0.Op, q0.R, q0.S, q0.T, q0.N, q0.M⟩ : zb))
def zeC (rec4 : Int → (List UInt8) → Option (List UInt8))  (x30 : Int) (x34 : List UInt8) : Option (List UInt8) :=
 (if (decide (x30 > 127)) = true then (u8o (orI .u8 (IntKind.u8.wrap x30) 128)).bind fun z51 => (room (x34.length + 1)).bind fun _ => rec4 (zbu .u64 x30 7) (x34 ++ [z51]) else (u8o (IntKind.u8.wrap x30)).bind fun z57 => (room (x34.length + 1)).bind fun _ => some (x34 ++ [z57]))
def zeO  : Nat → Int → (List UInt8) → Option (List UInt8)
 | 0, _, _ => none
 | n + 1, x30, x34 => zeC (zeO  n)  x30 x34
def zdB (p0 : (List UInt8)) (p1 : Int) : Option (List UInt8) :=
 (zcj p0).bind fun c3 => zeO  big p1 c3
def zfI (p0 : Int) (p1 : Int) : Option Int :=
 some p0
def zf3 (p0 : (List UInt8)) (p1 : Int) : Option (Int × Int × Int) :=
 (if ((decide (p1 < 0)) || (decide (p1 > (p0.length : Int)))) = true then some (0, 0, 1) else (zby p0 p1 (p0.length : Int)).bind fun y6 => (zet y6).bind fun c11 => (zfI c11.1 c11.2).bind fun c15 => ((if (c11.2 == 0) = true then some true else (zby p0 p1 (IntKind.i64.wrap (p1 + c11.2))).bind fun y22 => (zdB [] c15).bind fun c27 => (zdQ c27 y22).bind fun c38 => some (!c38))).bind fun c19 => (if c19 = true then some (0, 0, 5) else some (c15, (IntKind.i64.wrap (p1 + c11.2)), 0)))
def zeu (p0 : (List UInt8)) (p1 : Int) : Option (Int × Int × Int) :=
 (zf3 p0 p1).bind fun c3 => some (c3.1, c3.2.1, c3.2.2)
def zez (p0 : (List UInt8)) (p1 : Int) (q2 : zb) : Option (Int × Bool × zb) :=
 (zeu p0 p1).bind fun c4 => some (c4.2.1, (c4.2.2 == 0), (⟨q2.Kind, q2.Op, q2.R, q2.S, q2.T, q2.N, (IntKind.i64.wrap (zbp c4.1 16777216))⟩ : zb))
def zg0  : Option zn :=
 some zn.c_bound_1
def zfQ (q0 : zb) : Option (Bool × zb) :=
 some (((decide (q0.N ≥ 0)) && (decide (q0.N < 16777216))), (⟨q0.Kind, q0.Op, q0.R, q0.S, q0.T, q0.N, q0.M⟩ : zb))
def zgv (p1 : Int) : Option (List UInt8) :=
 (if (decide ((IntKind.i64.wrap (p1 - (IntKind.i64.wrap (0 - 0)))) > 0)) = true then (nneg (IntKind.i64.wrap (p1 - (IntKind.i64.wrap (0 - 0))))).bind fun _ => (room (([] : List UInt8).length + Int.toNat (IntKind.i64.wrap (p1 - (IntKind.i64.wrap (0 - 0)))))).bind fun _ => (zby (([] : List UInt8) ++ List.replicate (Int.toNat (IntKind.i64.wrap (p1 - (IntKind.i64.wrap (0 - 0))))) (0 : UInt8)) 0 0).bind fun y12 => some y12 else some ([]))
def zeW (_n0 : (List UInt8)) (p1 : Int) : Option (List UInt8) :=
 (if (decide (p1 < 0)) = true then none else zgv p1)
def zfn (rec16 : (List UInt8) → Int → Option (List UInt8)) (p0 : (List (List UInt8))) (x211 : List UInt8) (x214 : Int) : Option (List UInt8) :=
 (if (decide (x214 < (p0.length : Int))) = true then (zF p0 x214).bind fun y232 => (room (x211.length + y232.length)).bind fun _ => rec16 (x211 ++ y232) (IntKind.i64.wrap (x214 + 1)) else some x211)
def ze1 (p0 : (List (List UInt8))) : Nat → (List UInt8) → Int → Option (List UInt8)
 | 0, _, _ => none
 | n + 1, x211, x214 => zfn (ze1 p0 n) p0 x211 x214
def ze4 (rec14 : Int → Int → Option (List UInt8)) (p0 : (List (List UInt8))) (x84 : Int) (x86 : Int) : Option (List UInt8) :=
 (if (decide (x86 < (p0.length : Int))) = true then (zF p0 x86).bind fun y168 => (if (decide ((IntKind.i64.wrap (x84 + (y168.length : Int))) < 0)) = true then none else rec14 (IntKind.i64.wrap (x84 + (y168.length : Int))) (IntKind.i64.wrap (x86 + 1))) else (zeW [] x84).bind fun c178 => ze1 p0 big c178 0)
def zfe (p0 : (List (List UInt8))) : Nat → Int → Int → Option (List UInt8)
 | 0, _, _ => none
 | n + 1, x84, x86 => ze4 (zfe p0 n) p0 x84 x86
def zf5 (p0 : (List (List UInt8))) : Option (List UInt8) :=
 zfe p0 big 0 0
def zgd (rec4 : (List UInt8) → Int → Option ((List UInt8) × Int)) (p0 : (List UInt8)) (p1 : Int) (x44 : List UInt8) (x46 : Int) : Option ((List UInt8) × Int) :=
 (if (decide (x46 < 3)) = true then (zbY .i64 p1 (IntKind.i64.wrap (8 * x46))).bind fun y80 => (zF x44 (IntKind.i64.wrap (2 - x46))).bind fun y82 => (u8o (IntKind.u8.wrap y80)).bind fun z89 => rec4 (x44.set (Int.toNat (IntKind.i64.wrap (2 - x46))) z89) (IntKind.i64.wrap (x46 + 1)) else (zf5 ([p0, x44] : List (List UInt8))).bind fun c101 => some (c101, 0))
def zdD (p0 : (List UInt8)) (p1 : Int) : Nat → (List UInt8) → Int → Option ((List UInt8) × Int)
 | 0, _, _ => none
 | n + 1, x44, x46 => zgd (zdD p0 p1 n) p0 p1 x44 x46
def zfu (p0 : (List UInt8)) (p1 : Int) : Option ((List UInt8) × Int) :=
 (if ((decide (p1 < 0)) || (decide (p1 ≥ 16777216))) = true then some ([], 1) else zdD p0 p1 big ([(0 : UInt8), (0 : UInt8), (0 : UInt8)] : List UInt8) 0)
def zgm (rec4 : Int → Int → Option (Int × Int × Int)) (c3 : (List UInt8) × Int × Int) (x18 : Int) (x20 : Int) : Option (Int × Int × Int) :=
 (if (decide (x20 < (c3.1.length : Int))) = true then (zF c3.1 x20).bind fun y29 => rec4 (orI .i64 (zbM .i64 x18 8) (IntKind.i64.wrap (y29.toNat : Int))) (IntKind.i64.wrap (x20 + 1)) else some (x18, c3.2.1, c3.2.2))
def zdL (c3 : (List UInt8) × Int × Int) : Nat → Int → Int → Option (Int × Int × Int)
 | 0, _, _ => none
 | n + 1, x18, x20 => zgm (zdL c3 n) c3 x18 x20
def zcW (p0 : (List UInt8)) (p1 : Int) : Option (Int × Int × Int) :=
 (zcZ p0 p1 3).bind fun c3 => zdL c3 big 0 0
def zeG (p0 : (List UInt8)) (p1 : Int) (q2 : zb) : Option (Int × Bool × zb) :=
 (zcW p0 p1).bind fun c4 => some (c4.2.1, (c4.2.2 == 0), (⟨q2.Kind, q2.Op, q2.R, q2.S, q2.T, c4.1, q2.M⟩ : zb))
def zgn  : Option zn :=
 some zn.c_to_1
def zfO (q0 : zb) : Option (Bool × zb) :=
 some (((decide (q0.N ≥ 2)) && (decide (q0.N ≤ 4))), (⟨q0.Kind, q0.Op, q0.R, q0.S, q0.T, q0.N, q0.M⟩ : zb))
def zgA (q0 : zb) : Option (Int × zb) :=
 some ((IntKind.u8.wrap q0.N), (⟨q0.Kind, q0.Op, q0.R, q0.S, q0.T, q0.N, q0.M⟩ : zb))
def zeK (q0 : zb) (p1 : Int) : Option zb :=
 some (⟨q0.Kind, q0.Op, q0.R, q0.S, q0.T, (IntKind.i64.wrap p1), q0.M⟩ : zb)
def zhZ  : Option zn :=
 some zn.c_how_1
def zg5  : Option zn :=
 (zhZ ).bind fun c2 => some c2
def zhg  : Option zn :=
 some zn.c_parts_1
def zfa  : Option zn :=
 some zn.c_within
def zdH (p0 : Int) (x310 : Bool) : Option ((List zn) × Bool) :=
 (if x310 = true then (zes ).bind fun c312 => some (([c312] : List zn), true) else (if (p0 == 18) = true then (zg5 ).bind fun c331 => some (([c331] : List zn), true) else some ([], false)))
def ze2 (p0 : Int) (x236 : Bool) : Option ((List zn) × Bool) :=
 (if x236 = true then (zgn ).bind fun c238 => some (([c238] : List zn), true) else (if (p0 == 11) = true then (zes ).bind fun c257 => (zgn ).bind fun c271 => some (([c257, c271] : List zn), true) else (if (p0 == 14) = true then (zfa ).bind fun c290 => some (([c290] : List zn), true) else (if (p0 == 15) = true then zdH p0 (p0 == 15) else (if (p0 == 16) = true then zdH p0 (p0 == 16) else zdH p0 (p0 == 17))))))
def zeF (p0 : Int) (x173 : Bool) : Option ((List zn) × Bool) :=
 (if x173 = true then (zdl ).bind fun c175 => (zgp ).bind fun c189 => (zfa ).bind fun c203 => (zg0 ).bind fun c217 => some (([c175, c189, c203, c217] : List zn), true) else (if (p0 == 10) = true then ze2 p0 (p0 == 10) else ze2 p0 (p0 == 12)))
def zeY (p0 : Int) (x138 : Bool) : Option ((List zn) × Bool) :=
 (if x138 = true then (zdl ).bind fun c140 => (zfa ).bind fun c154 => some (([c140, c154] : List zn), true) else (if (p0 == 8) = true then zeF p0 (p0 == 8) else zeF p0 (p0 == 9)))
def zei (p0 : Int) (x3 : Bool) : Option ((List zn) × Bool) :=
 (if x3 = true then some ([], true) else (if (p0 == 2) = true then (zes ).bind fun c6 => (zhg ).bind fun c20 => some (([c6, c20] : List zn), true) else (if (p0 == 3) = true then (zdl ).bind fun c39 => some (([c39] : List zn), true) else (if (p0 == 4) = true then (zgR 1 13).bind fun c58 => (zdl ).bind fun c72 => (zgp ).bind fun c86 => some (([c58, c72, c86] : List zn), true) else (if (p0 == 5) = true then (zgR 14 15).bind fun c105 => (zdl ).bind fun c119 => some (([c105, c119] : List zn), true) else (if (p0 == 6) = true then zeY p0 (p0 == 6) else zeY p0 (p0 == 7)))))))
def zdM (p0 : Int) : Option ((List zn) × Bool) :=
 (if (p0 == 1) = true then zei p0 (p0 == 1) else zei p0 (p0 == 13))
def zgw (q0 : zb) (qf0 : Int) (qf1 : Int) : Option (Bool × zb) :=
 ((if (decide ((q0.Op.toNat : Int) ≥ qf0)) = true then some (decide ((q0.Op.toNat : Int) ≤ qf1)) else some false)).bind fun c2 => some (c2, (⟨q0.Kind, q0.Op, q0.R, q0.S, q0.T, q0.N, q0.M⟩ : zb))
def zfC (x : zn) (q0 : zb) : Option (Bool × zb) :=
 match x with
 | .c_one_1 => zgH q0
 | .c_both_1 => zgZ q0
 | .c_op_1 x0 x1 => zgw q0 x0 x1
 | .c_third_1 => zgj q0
 | .c_bound_1 => zgP q0
 | .c_to_1 => zfQ q0
 | .c_how_1 => zfO q0
 | .c_parts_1 => zgt q0
 | .c_within => zfN q0
def zfR (p0 : (List UInt8)) (q1 : zb) : Option ((List UInt8) × zb) :=
 (zfE (⟨q1.Kind, q1.Op, q1.R, q1.S, q1.T, q1.N, q1.M⟩ : zb)).bind fun c3 => (u8o c3.1).bind fun z7 => (room (p0.length + 1)).bind fun _ => some ((p0 ++ [z7]), (⟨c3.2.Kind, c3.2.Op, c3.2.R, c3.2.S, c3.2.T, c3.2.N, c3.2.M⟩ : zb))
def zfY (p0 : (List UInt8)) (q1 : zb) : Option ((List UInt8) × zb) :=
 (zgF (⟨q1.Kind, q1.Op, q1.R, q1.S, q1.T, q1.N, q1.M⟩ : zb)).bind fun c3 => (u8o c3.1).bind fun z7 => (room (p0.length + 1)).bind fun _ => some ((p0 ++ [z7]), (⟨c3.2.Kind, c3.2.Op, c3.2.R, c3.2.S, c3.2.T, c3.2.N, c3.2.M⟩ : zb))
def zfD (p0 : (List UInt8)) (q1 : zb) : Option ((List UInt8) × zb) :=
 (zgW (⟨q1.Kind, q1.Op, q1.R, q1.S, q1.T, q1.N, q1.M⟩ : zb)).bind fun c3 => (u8o c3.1).bind fun z7 => (room (p0.length + 1)).bind fun _ => some ((p0 ++ [z7]), (⟨c3.2.Kind, c3.2.Op, c3.2.R, c3.2.S, c3.2.T, c3.2.N, c3.2.M⟩ : zb))
def zfJ (p0 : (List UInt8)) (q1 : zb) : Option ((List UInt8) × zb) :=
 (zgf (⟨q1.Kind, q1.Op, q1.R, q1.S, q1.T, q1.N, q1.M⟩ : zb)).bind fun c3 => (u8o c3.1).bind fun z7 => (room (p0.length + 1)).bind fun _ => some ((p0 ++ [z7]), (⟨c3.2.Kind, c3.2.Op, c3.2.R, c3.2.S, c3.2.T, c3.2.N, c3.2.M⟩ : zb))
def zgc (p0 : (List UInt8)) (q1 : zb) : Option ((List UInt8) × zb) :=
 (zdB p0 (IntKind.u64.wrap q1.M)).bind fun c5 => some (c5, (⟨q1.Kind, q1.Op, q1.R, q1.S, q1.T, q1.N, q1.M⟩ : zb))
def zfA (p0 : (List UInt8)) (q1 : zb) : Option ((List UInt8) × zb) :=
 (zfu p0 q1.N).bind fun c5 => some (c5.1, (⟨q1.Kind, q1.Op, q1.R, q1.S, q1.T, q1.N, q1.M⟩ : zb))
def zfU (p0 : (List UInt8)) (q1 : zb) : Option ((List UInt8) × zb) :=
 (zgA (⟨q1.Kind, q1.Op, q1.R, q1.S, q1.T, q1.N, q1.M⟩ : zb)).bind fun c3 => (u8o c3.1).bind fun z7 => (room (p0.length + 1)).bind fun _ => some ((p0 ++ [z7]), (⟨c3.2.Kind, c3.2.Op, c3.2.R, c3.2.S, c3.2.T, c3.2.N, c3.2.M⟩ : zb))
def zdJ (p0 : (List UInt8)) (q1 : zb) : Option ((List UInt8) × zb) :=
 (zdY p0 q1.N).bind fun c5 => some (c5, (⟨q1.Kind, q1.Op, q1.R, q1.S, q1.T, q1.N, q1.M⟩ : zb))
def zgV (x : zn) (p0 : (List UInt8)) (q1 : zb) : Option ((List UInt8) × zb) :=
 match x with
 | .c_one_1 => zfR p0 q1
 | .c_both_1 => zfY p0 q1
 | .c_op_1 x0 x1 => zfD p0 q1
 | .c_third_1 => zfJ p0 q1
 | .c_bound_1 => zgc p0 q1
 | .c_to_1 => zfA p0 q1
 | .c_how_1 => zfU p0 q1
 | .c_parts_1 => zdJ p0 q1
 | .c_within => zdJ p0 q1
def zeI (rec4 : UInt8 → UInt8 → Int → Int → Int → Int → Int → (List UInt8) → (List zn) → Int → Option ((List UInt8) × Bool)) (c3 : (List zn) × Bool) (x60 : UInt8) (x61 : UInt8) (x62 : Int) (x63 : Int) (x64 : Int) (x65 : Int) (x66 : Int) (x70 : List UInt8) (x75 : List zn) (x77 : Int) : Option ((List UInt8) × Bool) :=
 (if (decide (x77 < (c3.1.length : Int))) = true then (zF x75 x77).bind fun y113 => (zfC y113 (⟨x60, x61, x62, x63, x64, x65, x66⟩ : zb)).bind fun c131 => (if (!c131.1) = true then some ([], false) else (zgV y113 x70 (⟨c131.2.Kind, c131.2.Op, c131.2.R, c131.2.S, c131.2.T, c131.2.N, c131.2.M⟩ : zb)).bind fun c136 => rec4 c136.2.Kind c136.2.Op c136.2.R c136.2.S c136.2.T c136.2.N c136.2.M c136.1 x75 (IntKind.i64.wrap (x77 + 1))) else some (x70, true))
def zeZ (c3 : (List zn) × Bool) : Nat → UInt8 → UInt8 → Int → Int → Int → Int → Int → (List UInt8) → (List zn) → Int → Option ((List UInt8) × Bool)
 | 0, _, _, _, _, _, _, _, _, _, _ => none
 | n + 1, x60, x61, x62, x63, x64, x65, x66, x70, x75, x77 => zeI (zeZ c3 n) c3 x60 x61 x62 x63 x64 x65 x66 x70 x75 x77
def zcR (p0 : zb) : Option ((List UInt8) × Bool) :=
 (zdM (p0.Kind.toNat : Int)).bind fun c3 => (if (!c3.2) = true then some ([], false) else zeZ c3 big p0.Kind p0.Op p0.R p0.S p0.T p0.N p0.M ([p0.Kind] : List UInt8) c3.1 0)
def zeP (p0 : (List UInt8)) (p1 : Int) (q2 : zb) : Option (Int × Bool × zb) :=
 (zbN p0 p1).bind fun c4 => (zfb (⟨q2.Kind, q2.Op, q2.R, q2.S, q2.T, q2.N, q2.M⟩ : zb) c4.1).bind fun c8 => some (c4.2.1, (c4.2.2 == 0), (⟨c8.Kind, c8.Op, c8.R, c8.S, c8.T, c8.N, c8.M⟩ : zb))
def zek (p0 : (List UInt8)) (p1 : Int) (q2 : zb) : Option (Int × Bool × zb) :=
 (zbN p0 p1).bind fun c4 => (zex (⟨q2.Kind, q2.Op, q2.R, q2.S, q2.T, q2.N, q2.M⟩ : zb) c4.1).bind fun c8 => some (c4.2.1, (c4.2.2 == 0), (⟨c8.Kind, c8.Op, c8.R, c8.S, c8.T, c8.N, c8.M⟩ : zb))
def zen (p0 : (List UInt8)) (p1 : Int) (q2 : zb) : Option (Int × Bool × zb) :=
 (zbN p0 p1).bind fun c4 => (zea (⟨q2.Kind, q2.Op, q2.R, q2.S, q2.T, q2.N, q2.M⟩ : zb) c4.1).bind fun c8 => some (c4.2.1, (c4.2.2 == 0), (⟨c8.Kind, c8.Op, c8.R, c8.S, c8.T, c8.N, c8.M⟩ : zb))
def zer (p0 : (List UInt8)) (p1 : Int) (q2 : zb) : Option (Int × Bool × zb) :=
 (zbN p0 p1).bind fun c4 => (ze0 (⟨q2.Kind, q2.Op, q2.R, q2.S, q2.T, q2.N, q2.M⟩ : zb) c4.1).bind fun c8 => some (c4.2.1, (c4.2.2 == 0), (⟨c8.Kind, c8.Op, c8.R, c8.S, c8.T, c8.N, c8.M⟩ : zb))
def zeE (p0 : (List UInt8)) (p1 : Int) (q2 : zb) : Option (Int × Bool × zb) :=
 (zbN p0 p1).bind fun c4 => (zeK (⟨q2.Kind, q2.Op, q2.R, q2.S, q2.T, q2.N, q2.M⟩ : zb) c4.1).bind fun c8 => some (c4.2.1, (c4.2.2 == 0), (⟨c8.Kind, c8.Op, c8.R, c8.S, c8.T, c8.N, c8.M⟩ : zb))
def zc9 (x : zn) (p0 : (List UInt8)) (p1 : Int) (q2 : zb) : Option (Int × Bool × zb) :=
 match x with
 | .c_one_1 => zeP p0 p1 q2
 | .c_both_1 => zek p0 p1 q2
 | .c_op_1 x0 x1 => zen p0 p1 q2
 | .c_third_1 => zer p0 p1 q2
 | .c_bound_1 => zez p0 p1 q2
 | .c_to_1 => zeG p0 p1 q2
 | .c_how_1 => zeE p0 p1 q2
 | .c_parts_1 => zcJ p0 p1 q2
 | .c_within => zcJ p0 p1 q2
def zdd (rec4 : UInt8 → UInt8 → Int → Int → Int → Int → Int → Int → Bool → (List zn) → Int → Option (zb × Int × Bool)) (p0 : (List UInt8)) (c10 : (List zn) × Bool) (x50 : UInt8) (x51 : UInt8) (x52 : Int) (x53 : Int) (x54 : Int) (x55 : Int) (x56 : Int) (x57 : Int) (x58 : Bool) (x62 : List zn) (x64 : Int) : Option (zb × Int × Bool) :=
 (if (decide (x64 < (c10.1.length : Int))) = true then (zF x62 x64).bind fun y91 => (if x58 = true then (zc9 y91 p0 x57 (⟨x50, x51, x52, x53, x54, x55, x56⟩ : zb)).bind fun c110 => rec4 c110.2.2.Kind c110.2.2.Op c110.2.2.R c110.2.2.S c110.2.2.T c110.2.2.N c110.2.2.M c110.1 c110.2.1 x62 (IntKind.i64.wrap (x64 + 1)) else rec4 x50 x51 x52 x53 x54 x55 x56 x57 x58 x62 (IntKind.i64.wrap (x64 + 1))) else some ((⟨x50, x51, x52, x53, x54, x55, x56⟩ : zb), x57, x58))
def zd1 (p0 : (List UInt8)) (c10 : (List zn) × Bool) : Nat → UInt8 → UInt8 → Int → Int → Int → Int → Int → Int → Bool → (List zn) → Int → Option (zb × Int × Bool)
 | 0, _, _, _, _, _, _, _, _, _, _, _ => none
 | n + 1, x50, x51, x52, x53, x54, x55, x56, x57, x58, x62, x64 => zdd (zd1 p0 c10 n) p0 c10 x50 x51 x52 x53 x54 x55 x56 x57 x58 x62 x64
def zcn (p0 : (List UInt8)) (p1 : Int) : Option (zb × Int × Bool) :=
 (if (decide (p1 ≥ (p0.length : Int))) = true then some ((⟨(0 : UInt8), (0 : UInt8), 0, 0, 0, 0, 0⟩ : zb), 0, false) else (zF p0 p1).bind fun y5 => (zdM (y5.toNat : Int)).bind fun c10 => zd1 p0 c10 big y5 (0 : UInt8) 0 0 0 0 0 (IntKind.i64.wrap (p1 + 1)) c10.2 c10.1 0)
def zcH (p0 : zb) : Option Bool :=
 (zcR (⟨p0.Kind, p0.Op, p0.R, p0.S, p0.T, p0.N, p0.M⟩ : zb)).bind fun c3 => (if (!c3.2) = true then some false else (zcn c3.1 0).bind fun c15 => some (c15.2.2 && (( (c15.1.Kind.toNat : Int) == (p0.Kind.toNat : Int)) && (( (c15.1.Op.toNat : Int) == (p0.Op.toNat : Int)) && (( c15.1.R == p0.R) && (( c15.1.S == p0.S) && (( c15.1.T == p0.T) && (( c15.1.N == p0.N) && (( c15.1.M == p0.M) && true)))))))))
def zbq (p0 : (List UInt8)) (p1 : zb) : Option (List UInt8) :=
 (zcj p0).bind fun c4 => (zcH (⟨p1.Kind, p1.Op, p1.R, p1.S, p1.T, p1.N, p1.M⟩ : zb)).bind fun c13 => (if (!c13) = true then some c4 else (zcR (⟨p1.Kind, p1.Op, p1.R, p1.S, p1.T, p1.N, p1.M⟩ : zb)).bind fun c18 => (room (c4.length + c18.1.length)).bind fun _ => some (c4 ++ c18.1))
def zdc (p0 : (List Int)) : Option (List Int) := (room p0.length).bind fun _ => some p0
def zhJ (p1 : Int) (p2 : Int) (x36 : List UInt8) (x41 : List Int) (x46 : List Int) : Option ((Option ze) × Int) :=
 some ((some (⟨x36, p1, (zdC [0, 0, 0, 0, 0, 0, 0, 0, 0, 0, 0, 0, 0, 0, 0, p2]), x41, x46, ([] : List Int), (0 : UInt8), 0⟩ : ze)), 0)
def zdU (p0 : (List UInt8)) (p1 : Int) (p2 : Int) (p3 : (List Int)) : Option ((Option ze) × Int) :=
 (if (((((decide ((p0.length : Int) > 1048576)) || (decide (p1 < 0))) || (decide (p1 > (p0.length : Int)))) || (decide (p2 < 1))) || (decide (p2 > 65536))) = true then some (none, 1) else (zcj p0).bind fun c49 => (mkI 0 p2 p2).bind fun y58 => (zdc p3).bind fun c65 => zhJ p1 p2 c49 y58 c65)
def zcL (q0 : ze) : Option Int :=
 some (q0.how.toNat : Int)
def zey (p0 : (List UInt8)) (p1 : (List UInt8)) : Option Bool :=
 some (zf1 (⟨p0.toArray⟩ : ByteArray) (⟨p1.toArray⟩ : ByteArray))
def z6 (p0 : (List UInt8)) (p1 : Int) : Option (zb × Int × Int) :=
 (if ((decide (p1 < 0)) || (decide (p1 > (p0.length : Int)))) = true then some ((⟨(0 : UInt8), (0 : UInt8), 0, 0, 0, 0, 0⟩ : zb), 0, 1) else (zcn p0 p1).bind fun c5 => ((if (!c5.2.2) = true then some true else (zcH (⟨c5.1.Kind, c5.1.Op, c5.1.R, c5.1.S, c5.1.T, c5.1.N, c5.1.M⟩ : zb)).bind fun c13 => some (!c13))).bind fun c10 => ((if c10 = true then some true else (zby p0 p1 c5.2.1).bind fun y20 => (zbq [] (⟨c5.1.Kind, c5.1.Op, c5.1.R, c5.1.S, c5.1.T, c5.1.N, c5.1.M⟩ : zb)).bind fun c25 => (zey c25 y20).bind fun c36 => some (!c36))).bind fun c17 => (if c17 = true then some ((⟨(0 : UInt8), (0 : UInt8), 0, 0, 0, 0, 0⟩ : zb), 0, 5) else some ((⟨c5.1.Kind, c5.1.Op, c5.1.R, c5.1.S, c5.1.T, c5.1.N, c5.1.M⟩ : zb), c5.2.1, 0)))
def zbJ (p0 : Int) : Option (Except (Value) (Unit)) :=
 some (.error (.iface 58 (.int .u8 p0) : Value))
def zdX (q0 : ze) (p1 : Int) : Option (Except (Value) (Int)) :=
 (if (decide ((IntKind.i64.wrap ((q0.regs 15) - p1)) < 0)) = true then zH (zbJ 7) (fun x8 => some (.error x8)) fun c4 => some (.ok (IntKind.i64.wrap ((q0.regs 15) - p1))) else some (.ok (IntKind.i64.wrap ((q0.regs 15) - p1))))
def zcN (q0 : ze) (p1 : Int) : Option (Except (Value) (Int)) :=
 (if ((decide (p1 < 0)) || (decide (p1 ≥ (q0.words.length : Int)))) = true then zH (zbJ 6) (fun x8 => some (.error x8)) fun c4 => (zF q0.words p1).bind fun y12 => some (.ok p1) else (zF q0.words p1).bind fun y19 => some (.ok p1))
def zgD (q0 : ze) (p1 : Int) (p2 : Int) : Option (Except (Value × ze) (Int × ze)) :=
 zH (zdX (⟨q0.code, q0.pc, q0.regs, q0.words, q0.input, q0.out, q0.how, q0.halting⟩ : ze) 1) (fun x8 => some (.error (x8, (⟨q0.code, q0.pc, q0.regs, q0.words, q0.input, q0.out, q0.how, q0.halting⟩ : ze)))) fun c4 => zH (zcN (⟨q0.code, q0.pc, q0.regs, q0.words, q0.input, q0.out, q0.how, q0.halting⟩ : ze) c4) (fun x16 => some (.error (x16, (⟨q0.code, q0.pc, q0.regs, q0.words, q0.input, q0.out, q0.how, q0.halting⟩ : ze)))) fun c12 => (zF q0.words c12).bind fun y21 => some (.ok (p1, (⟨q0.code, q0.pc, (zdC [(q0.regs 0), (q0.regs 1), (q0.regs 2), (q0.regs 3), (q0.regs 4), (q0.regs 5), (q0.regs 6), (q0.regs 7), (q0.regs 8), (q0.regs 9), (q0.regs 10), (q0.regs 11), (q0.regs 12), (q0.regs 13), (q0.regs 14), c4]), (q0.words.set (Int.toNat c12) p2), q0.input, q0.out, q0.how, q0.halting⟩ : ze)))
def zeD (q0 : ze) (y11 : Int) : Option (Except (Value × ze) (Int × ze)) :=
 some (.ok (y11, (⟨q0.code, q0.pc, (zdC [(q0.regs 0), (q0.regs 1), (q0.regs 2), (q0.regs 3), (q0.regs 4), (q0.regs 5), (q0.regs 6), (q0.regs 7), (q0.regs 8), (q0.regs 9), (q0.regs 10), (q0.regs 11), (q0.regs 12), (q0.regs 13), (q0.regs 14), (IntKind.i64.wrap ((q0.regs 15) + 1))]), q0.words, q0.input, q0.out, q0.how, q0.halting⟩ : ze)))
def zgK (q0 : ze) : Option (Except (Value × ze) (Int × ze)) :=
 zH (zcN (⟨q0.code, q0.pc, q0.regs, q0.words, q0.input, q0.out, q0.how, q0.halting⟩ : ze) (q0.regs 15)) (fun x6 => some (.error (x6, (⟨q0.code, q0.pc, q0.regs, q0.words, q0.input, q0.out, q0.how, q0.halting⟩ : ze)))) fun c2 => (zF q0.words c2).bind fun y11 => (if ((decide (y11 < 0)) || (decide (y11 ≥ 16777216))) = true then zH (zbJ 5) (fun x37 => some (.error (x37, (⟨q0.code, q0.pc, q0.regs, q0.words, q0.input, q0.out, q0.how, q0.halting⟩ : ze)))) fun c33 => zeD q0 y11 else zeD q0 y11)
def zco (p0 : Bool) : Option Int :=
 (if p0 = true then some 1 else some 0)
def zeh (p0 : Int) (p1 : Int) (p2 : Int) : Option (Except (Value) (Int)) :=
 (if (p0 == 4) = true then (zfH .i64 p1 p2).bind fun y14 => some (.ok y14) else (zfz .i64 p1 p2).bind fun y16 => some (.ok y16))
def zf7 (p0 : Int) (p1 : Int) (p2 : Int) : Option (Except (Value) (Int)) :=
 (if (p2 == 0) = true then zH (zbJ 2) (fun x23 => some (.error x23)) fun c19 => zeh p0 p1 p2 else zeh p0 p1 p2)
def zdA (p0 : Int) (p1 : Int) (p2 : Int) (x8 : Bool) : Option (Except (Value) (Int)) :=
 (if x8 = true then zH (zf7 p0 p1 p2) (fun x14 => some (.error x14)) fun c10 => some (.ok c10) else (if (p0 == 6) = true then (zco (p1 == p2)).bind fun c19 => some (.ok c19) else (if (p0 == 7) = true then (zco (p1 != p2)).bind fun c24 => some (.ok c24) else (if (p0 == 8) = true then (zco (decide (p1 < p2))).bind fun c29 => some (.ok c29) else (if (p0 == 9) = true then (zco (decide (p1 ≤ p2))).bind fun c34 => some (.ok c34) else (if (p0 == 10) = true then (zco (decide (p1 > p2))).bind fun c39 => some (.ok c39) else (if (p0 == 11) = true then (zco (decide (p1 ≥ p2))).bind fun c44 => some (.ok c44) else (if (p0 == 12) = true then some (.ok (zbS .i64 p1 p2)) else some (.ok (orI .i64 p1 p2))))))))))
def zdK (p0 : Int) (p1 : Int) (p2 : Int) : Option (Except (Value) (Int)) :=
 (if (p0 == 1) = true then some (.ok (IntKind.i64.wrap (p1 + p2))) else (if (p0 == 2) = true then some (.ok (IntKind.i64.wrap (p1 - p2))) else (if (p0 == 3) = true then some (.ok (IntKind.i64.wrap (p1 * p2))) else (if (p0 == 4) = true then zdA p0 p1 p2 (p0 == 4) else zdA p0 p1 p2 (p0 == 5)))))
def zfl (q0 : ze) (p1 : zb) (y4 : Nat) (y7 : Nat) : Option (Except (Value) (Int)) :=
 zH (zcN (⟨q0.code, q0.pc, q0.regs, q0.words, q0.input, q0.out, q0.how, q0.halting⟩ : ze) (IntKind.i64.wrap ((IntKind.i64.wrap ((q0.regs y4) + p1.N)) + (q0.regs y7)))) (fun x26 => some (.error x26)) fun c22 => (zF q0.words c22).bind fun y31 => some (.ok c22)
def zdE (q0 : ze) (p1 : zb) : Option (Except (Value) (Int)) :=
 (zb6 p1.S 16).bind fun y4 => (if (((p1.Kind.toNat : Int) == 8) || ((p1.Kind.toNat : Int) == 9)) = true then (zb6 p1.T 16).bind fun y7 => (if ((decide ((q0.regs y7) < 0)) || (decide ((q0.regs y7) ≥ p1.M))) = true then zH (zbJ 3) (fun x44 => some (.error x44)) fun c40 => zfl q0 p1 y4 y7 else zfl q0 p1 y4 y7) else zH (zcN (⟨q0.code, q0.pc, q0.regs, q0.words, q0.input, q0.out, q0.how, q0.halting⟩ : ze) (IntKind.i64.wrap ((q0.regs y4) + p1.N))) (fun x52 => some (.error x52)) fun c48 => (zF q0.words c48).bind fun y57 => some (.ok c48))
def zfB (q0 : ze) (p1 : Int) : Option (Except (Value × ze) (ze)) :=
 zH (zdX (⟨q0.code, q0.pc, q0.regs, q0.words, q0.input, q0.out, q0.how, q0.halting⟩ : ze) p1) (fun x7 => some (.error (x7, (⟨q0.code, q0.pc, q0.regs, q0.words, q0.input, q0.out, q0.how, q0.halting⟩ : ze)))) fun c3 => (if (decide (c3 > (q0.words.length : Int))) = true then zH (zbJ 6) (fun x16 => some (.error (x16, (⟨q0.code, q0.pc, q0.regs, q0.words, q0.input, q0.out, q0.how, q0.halting⟩ : ze)))) fun c12 => some (.ok (⟨q0.code, q0.pc, (zdC [(q0.regs 0), (q0.regs 1), (q0.regs 2), (q0.regs 3), (q0.regs 4), (q0.regs 5), (q0.regs 6), (q0.regs 7), (q0.regs 8), (q0.regs 9), (q0.regs 10), (q0.regs 11), (q0.regs 12), (q0.regs 13), (q0.regs 14), c3]), q0.words, q0.input, q0.out, q0.how, q0.halting⟩ : ze)) else some (.ok (⟨q0.code, q0.pc, (zdC [(q0.regs 0), (q0.regs 1), (q0.regs 2), (q0.regs 3), (q0.regs 4), (q0.regs 5), (q0.regs 6), (q0.regs 7), (q0.regs 8), (q0.regs 9), (q0.regs 10), (q0.regs 11), (q0.regs 12), (q0.regs 13), (q0.regs 14), c3]), q0.words, q0.input, q0.out, q0.how, q0.halting⟩ : ze)))
def zfc (q0 : ze) : Option (Except (Value × ze) (Int × ze)) :=
 (zF q0.input 0).bind fun y15 => (zby q0.input 1 (q0.input.length : Int)).bind fun y20 => some (.ok (y15, (⟨q0.code, q0.pc, q0.regs, q0.words, y20, q0.out, q0.how, q0.halting⟩ : ze)))
def zfT (q0 : ze) : Option (Except (Value × ze) (Int × ze)) :=
 (if ((q0.input.length : Int) == 0) = true then zH (zbJ 4) (fun x30 => some (.error (x30, (⟨q0.code, q0.pc, q0.regs, q0.words, q0.input, q0.out, q0.how, q0.halting⟩ : ze)))) fun c26 => zfc q0 else zfc q0)
def z2 (x180 : List UInt8) (x182 : Int) (x183 : (Nat → Int)) (x188 : List Int) (x193 : List Int) (x198 : List Int) (x200 : UInt8) (x201 : Int) : Option (Except (Value × ze) (ze)) :=
 some (.ok (⟨x180, x182, x183, x188, x193, x198, x200, x201⟩ : ze))
def zbz (q0 : ze) (p1 : zb) (y4 : Nat) (x249 : Bool) : Option (Except (Value × ze) (ze)) :=
 (if x249 = true then zH (zdE (⟨q0.code, q0.pc, q0.regs, q0.words, q0.input, q0.out, q0.how, q0.halting⟩ : ze) (⟨p1.Kind, p1.Op, p1.R, p1.S, p1.T, p1.N, p1.M⟩ : zb)) (fun x255 => some (.error (x255, (⟨q0.code, q0.pc, q0.regs, q0.words, q0.input, q0.out, q0.how, q0.halting⟩ : ze)))) fun c251 => (zF q0.words c251).bind fun y260 => z2 q0.code q0.pc q0.regs (q0.words.set (Int.toNat c251) (q0.regs y4)) q0.input q0.out q0.how q0.halting else (if ((p1.Kind.toNat : Int) == 14) = true then zH (zfB (⟨q0.code, q0.pc, q0.regs, q0.words, q0.input, q0.out, q0.how, q0.halting⟩ : ze) p1.N) (fun x275 => some (.error (x275.1, (⟨x275.2.code, x275.2.pc, x275.2.regs, x275.2.words, x275.2.input, x275.2.out, x275.2.how, x275.2.halting⟩ : ze)))) fun c271 => z2 c271.code c271.pc c271.regs c271.words c271.input c271.out c271.how c271.halting else (if ((p1.Kind.toNat : Int) == 15) = true then zH (zfT (⟨q0.code, q0.pc, q0.regs, q0.words, q0.input, q0.out, q0.how, q0.halting⟩ : ze)) (fun x320 => some (.error (x320.1, (⟨x320.2.code, x320.2.pc, x320.2.regs, x320.2.words, x320.2.input, x320.2.out, x320.2.how, x320.2.halting⟩ : ze)))) fun c316 => z2 c316.2.code c316.2.pc (zh c316.2.regs y4 c316.1) c316.2.words c316.2.input c316.2.out c316.2.how c316.2.halting else (if ((p1.Kind.toNat : Int) == 16) = true then (room (q0.out.length + ([(q0.regs y4)] : List Int).length)).bind fun _ => z2 q0.code q0.pc q0.regs q0.words q0.input (q0.out ++ ([(q0.regs y4)] : List Int)) q0.how q0.halting else z2 q0.code q0.pc q0.regs q0.words q0.input q0.out q0.how q0.halting))))
def zbC (q0 : ze) (p1 : zb) (y4 : Nat) (x225 : Bool) : Option (Except (Value × ze) (ze)) :=
 (if x225 = true then zH (zdE (⟨q0.code, q0.pc, q0.regs, q0.words, q0.input, q0.out, q0.how, q0.halting⟩ : ze) (⟨p1.Kind, p1.Op, p1.R, p1.S, p1.T, p1.N, p1.M⟩ : zb)) (fun x231 => some (.error (x231, (⟨q0.code, q0.pc, q0.regs, q0.words, q0.input, q0.out, q0.how, q0.halting⟩ : ze)))) fun c227 => (zF q0.words c227).bind fun y236 => z2 q0.code q0.pc (zh q0.regs y4 y236) q0.words q0.input q0.out q0.how q0.halting else (if ((p1.Kind.toNat : Int) == 7) = true then zbz q0 p1 y4 ((p1.Kind.toNat : Int) == 7) else zbz q0 p1 y4 ((p1.Kind.toNat : Int) == 9)))
def zdk (q0 : ze) (p1 : zb) : Option (Except (Value × ze) (ze)) :=
 (zb6 p1.R 16).bind fun y4 => (zb6 p1.S 16).bind fun y6 => (if ((p1.Kind.toNat : Int) == 2) = true then z2 q0.code q0.pc (zh q0.regs y4 p1.N) q0.words q0.input q0.out q0.how q0.halting else (if ((p1.Kind.toNat : Int) == 3) = true then z2 q0.code q0.pc (zh q0.regs y4 (q0.regs y6)) q0.words q0.input q0.out q0.how q0.halting else (if ((p1.Kind.toNat : Int) == 4) = true then (zb6 p1.T 16).bind fun y205 => zH (zdK (p1.Op.toNat : Int) (q0.regs y6) (q0.regs y205)) (fun x211 => some (.error (x211, (⟨q0.code, q0.pc, q0.regs, q0.words, q0.input, q0.out, q0.how, q0.halting⟩ : ze)))) fun c207 => z2 q0.code q0.pc (zh q0.regs y4 c207) q0.words q0.input q0.out q0.how q0.halting else (if ((p1.Kind.toNat : Int) == 5) = true then (zco ((p1.Op.toNat : Int) == 14)).bind fun c216 => z2 q0.code q0.pc (zh q0.regs y4 (IntKind.i64.wrap (c216 - (q0.regs y6)))) q0.words q0.input q0.out q0.how q0.halting else (if ((p1.Kind.toNat : Int) == 6) = true then zbC q0 p1 y4 ((p1.Kind.toNat : Int) == 6) else zbC q0 p1 y4 ((p1.Kind.toNat : Int) == 8))))))
def zeS (q0 : ze) (p1 : zb) (p2 : Int) : Option (Except (Value × ze) (Int × ze)) :=
 (if ((p1.Kind.toNat : Int) == 10) = true then some (.ok (p1.N, (⟨q0.code, q0.pc, q0.regs, q0.words, q0.input, q0.out, q0.how, q0.halting⟩ : ze))) else (if ((p1.Kind.toNat : Int) == 11) = true then (zb6 p1.R 16).bind fun y7 => (if ((q0.regs y7) == 0) = true then some (.ok (p1.N, (⟨q0.code, q0.pc, q0.regs, q0.words, q0.input, q0.out, q0.how, q0.halting⟩ : ze))) else some (.ok (p2, (⟨q0.code, q0.pc, q0.regs, q0.words, q0.input, q0.out, q0.how, q0.halting⟩ : ze)))) else (if ((p1.Kind.toNat : Int) == 12) = true then zH (zgD (⟨q0.code, q0.pc, q0.regs, q0.words, q0.input, q0.out, q0.how, q0.halting⟩ : ze) p1.N p2) (fun x15 => some (.error (x15.1, (⟨x15.2.code, x15.2.pc, x15.2.regs, x15.2.words, x15.2.input, x15.2.out, x15.2.how, x15.2.halting⟩ : ze)))) fun c11 => some (.ok (c11.1, (⟨c11.2.code, c11.2.pc, c11.2.regs, c11.2.words, c11.2.input, c11.2.out, c11.2.how, c11.2.halting⟩ : ze))) else (if ((p1.Kind.toNat : Int) == 13) = true then zH (zgK (⟨q0.code, q0.pc, q0.regs, q0.words, q0.input, q0.out, q0.how, q0.halting⟩ : ze)) (fun x60 => some (.error (x60.1, (⟨x60.2.code, x60.2.pc, x60.2.regs, x60.2.words, x60.2.input, x60.2.out, x60.2.how, x60.2.halting⟩ : ze)))) fun c56 => some (.ok (c56.1, (⟨c56.2.code, c56.2.pc, c56.2.regs, c56.2.words, c56.2.input, c56.2.out, c56.2.how, c56.2.halting⟩ : ze))) else (if ((p1.Kind.toNat : Int) == 17) = true then (zb6 p1.R 16).bind fun y101 => zH (zbJ 1) (fun x107 => some (.error (x107, (⟨q0.code, q0.pc, q0.regs, q0.words, q0.input, q0.out, q0.how, (q0.regs y101)⟩ : ze)))) fun c103 => zH (zdk (⟨q0.code, q0.pc, q0.regs, q0.words, q0.input, q0.out, q0.how, (q0.regs y101)⟩ : ze) (⟨p1.Kind, p1.Op, p1.R, p1.S, p1.T, p1.N, p1.M⟩ : zb)) (fun x115 => some (.error (x115.1, (⟨x115.2.code, x115.2.pc, x115.2.regs, x115.2.words, x115.2.input, x115.2.out, x115.2.how, x115.2.halting⟩ : ze)))) fun c111 => some (.ok (p2, (⟨c111.code, c111.pc, c111.regs, c111.words, c111.input, c111.out, c111.how, c111.halting⟩ : ze))) else (if ((p1.Kind.toNat : Int) == 18) = true then zH (zbJ (IntKind.u8.wrap p1.N)) (fun x160 => some (.error (x160, (⟨q0.code, q0.pc, q0.regs, q0.words, q0.input, q0.out, q0.how, q0.halting⟩ : ze)))) fun c156 => zH (zdk (⟨q0.code, q0.pc, q0.regs, q0.words, q0.input, q0.out, q0.how, q0.halting⟩ : ze) (⟨p1.Kind, p1.Op, p1.R, p1.S, p1.T, p1.N, p1.M⟩ : zb)) (fun x168 => some (.error (x168.1, (⟨x168.2.code, x168.2.pc, x168.2.regs, x168.2.words, x168.2.input, x168.2.out, x168.2.how, x168.2.halting⟩ : ze)))) fun c164 => some (.ok (p2, (⟨c164.code, c164.pc, c164.regs, c164.words, c164.input, c164.out, c164.how, c164.halting⟩ : ze))) else zH (zdk (⟨q0.code, q0.pc, q0.regs, q0.words, q0.input, q0.out, q0.how, q0.halting⟩ : ze) (⟨p1.Kind, p1.Op, p1.R, p1.S, p1.T, p1.N, p1.M⟩ : zb)) (fun x212 => some (.error (x212.1, (⟨x212.2.code, x212.2.pc, x212.2.regs, x212.2.words, x212.2.input, x212.2.out, x212.2.how, x212.2.halting⟩ : ze)))) fun c208 => some (.ok (p2, (⟨c208.code, c208.pc, c208.regs, c208.words, c208.input, c208.out, c208.how, c208.halting⟩ : ze)))))))))
def zfp (q0 : ze) (qf1 : UInt8) (x13 : UInt8) (x14 : UInt8) (x15 : Int) (x16 : Int) (x17 : Int) (x18 : Int) (x19 : Int) (x20 : Int) : Option (Except (Value × ze × UInt8) (ze × UInt8)) :=
 zH (zeS (⟨q0.code, q0.pc, q0.regs, q0.words, q0.input, q0.out, q0.how, q0.halting⟩ : ze) (⟨x13, x14, x15, x16, x17, x18, x19⟩ : zb) x20) (fun x40 => some (.error (x40.1, (⟨x40.2.code, x40.2.pc, x40.2.regs, x40.2.words, x40.2.input, x40.2.out, x40.2.how, x40.2.halting⟩ : ze), qf1))) fun c36 => some (.ok ((⟨c36.2.code, c36.1, c36.2.regs, c36.2.words, c36.2.input, c36.2.out, c36.2.how, c36.2.halting⟩ : ze), c36.2.how))
def zfS (q0 : ze) (qf1 : UInt8) (x13 : UInt8) (x14 : UInt8) (x15 : Int) (x16 : Int) (x17 : Int) (x18 : Int) (x19 : Int) (x20 : Int) (x21 : Int) : Option (Except (Value × ze × UInt8) (ze × UInt8)) :=
 (if (x21 != 0) = true then zH (zbJ 5) (fun x85 => some (.error (x85, (⟨q0.code, q0.pc, q0.regs, q0.words, q0.input, q0.out, q0.how, q0.halting⟩ : ze), qf1))) fun c81 => zfp q0 qf1 x13 x14 x15 x16 x17 x18 x19 x20 else zfp q0 qf1 x13 x14 x15 x16 x17 x18 x19 x20)
def zev (q0 : ze) (qf1 : UInt8) : Option (Except (Value × ze × UInt8) (ze × UInt8)) :=
 (z6 q0.code q0.pc).bind fun c89 => zfS q0 qf1 c89.1.Kind c89.1.Op c89.1.R c89.1.S c89.1.T c89.1.N c89.1.M c89.2.1 c89.2.2
def zgG (qf0 : ze) (qf1 : UInt8) (k5 : UInt8) : Option (ze × UInt8) :=
 some ((⟨qf0.code, qf0.pc, qf0.regs, qf0.words, qf0.input, qf0.out, k5, qf0.halting⟩ : ze), k5)
def zcM : Value → Option UInt8
 | .iface 58 (.int .u8 n) => if 0 ≤ n ∧ n < 256 then some (UInt8.ofNat n.toNat) else none
 | _ => none
def zbK (q0 : ze) : Option (Int × ze) :=
 (if ((q0.how.toNat : Int) != 0) = true then some ((q0.how.toNat : Int), q0) else match zev q0 0 with
  | none => none
  | some (.ok c) => some ((c.2.toNat : Int), c.1)
  | some (.error c) => (zcM c.1).bind fun k => (zgG c.2.1 c.2.2 k).bind fun c => some ((c.2.toNat : Int), c.1))
def zep (rec4 : (List UInt8) → Int → (Nat → Int) → (List Int) → (List Int) → (List Int) → UInt8 → Int → Int → Option (Int × Int × ze))  (x43 : List UInt8) (x45 : Int) (x46 : (Nat → Int)) (x50 : List Int) (x54 : List Int) (x59 : List Int) (x61 : UInt8) (x62 : Int) (x63 : Int) : Option (Int × Int × ze) :=
 ((if (decide (x63 > 0)) = true then (zcL (⟨x43, x45, x46, x50, x54, x59, x61, x62⟩ : ze)).bind fun c102 => some (c102 == 0) else some false)).bind fun c99 => (if c99 = true then (zbK (⟨x43, x45, x46, x50, x54, x59, x61, x62⟩ : ze)).bind fun c107 => rec4 c107.2.code c107.2.pc c107.2.regs c107.2.words c107.2.input c107.2.out c107.2.how c107.2.halting (IntKind.i64.wrap (x63 - 1)) else (zcL (⟨x43, x45, x46, x50, x54, x59, x61, x62⟩ : ze)).bind fun c129 => some (c129, x63, (⟨x43, x45, x46, x50, x54, x59, x61, x62⟩ : ze)))
def zdS  : Nat → (List UInt8) → Int → (Nat → Int) → (List Int) → (List Int) → (List Int) → UInt8 → Int → Int → Option (Int × Int × ze)
 | 0, _, _, _, _, _, _, _, _, _ => none
 | n + 1, x43, x45, x46, x50, x54, x59, x61, x62, x63 => zep (zdS  n)  x43 x45 x46 x50 x54 x59 x61 x62 x63
def zcO (q0 : ze) (p1 : Int) : Option (Int × Int × ze) :=
 zdS  big q0.code q0.pc q0.regs q0.words q0.input q0.out q0.how q0.halting (zbR 0 p1)
def zdV (q0 : ze) : Option (Int × Bool) :=
 (zcL (⟨q0.code, q0.pc, q0.regs, q0.words, q0.input, q0.out, q0.how, q0.halting⟩ : ze)).bind fun c2 => (if (c2 != 1) = true then some (0, false) else some (q0.halting, true))
def ze5 (q0 : ze) : Option (List Int) :=
 (zdc ((List.range 16).map q0.regs)).bind fun c2 => some c2
def zib (q0 : ze) : Option (List Int) :=
 (zdc q0.out).bind fun c2 => some c2
def zd6  : Option Bool :=
 (zdU ([(2 : UInt8), (1 : UInt8), (7 : UInt8), (16 : UInt8), (1 : UInt8), (17 : UInt8), (1 : UInt8)] : List UInt8) 0 10 []).bind fun c5 => zgS c5.1 (if ((c5.2 != 0) || true) = true then some false else none) fun m9 => (if ((c5.2 != 0) || false) = true then some false else (zcO (⟨m9.code, m9.pc, m9.regs, m9.words, m9.input, m9.out, m9.how, m9.halting⟩ : ze) 2).bind fun c38 => (zcO (⟨c38.2.2.code, c38.2.2.pc, c38.2.2.regs, c38.2.2.words, c38.2.2.input, c38.2.2.out, c38.2.2.how, c38.2.2.halting⟩ : ze) 5).bind fun c60 => (zdV (⟨c60.2.2.code, c60.2.2.pc, c60.2.2.regs, c60.2.2.words, c60.2.2.input, c60.2.2.out, c60.2.2.how, c60.2.2.halting⟩ : ze)).bind fun c82 => (zib (⟨c60.2.2.code, c60.2.2.pc, c60.2.2.regs, c60.2.2.words, c60.2.2.input, c60.2.2.out, c60.2.2.how, c60.2.2.halting⟩ : ze)).bind fun c86 => ((if (((((((c38.1 == 0) && (c38.2.1 == 0)) && (c60.1 == 1)) && (c60.2.1 == 4)) && c82.2) && (c82.1 == 7)) && ((c86.length : Int) == 1)) = true then (zF c86 0).bind fun y98 => some (y98 == 7) else some false)).bind fun c95 => some c95)
def zde (rec4 : (List UInt8) → Int → Option Bool) (p0 : Int) (p1 : Int) (x146 : List UInt8) (x148 : Int) : Option Bool :=
 (if (decide (x148 < (IntKind.i64.wrap (1 + (Int.tmod (IntKind.i64.wrap p1) 60))))) = true then (zbq x146 (⟨(12 : UInt8), (0 : UInt8), 0, 0, 0, (IntKind.i64.wrap ((x146.length : Int) + 5)), 0⟩ : zb)).bind fun c272 => (zbq c272 (⟨(13 : UInt8), (0 : UInt8), 0, 0, 0, 0, 0⟩ : zb)).bind fun c281 => rec4 c281 (IntKind.i64.wrap (x148 + 1)) else (zbq x146 (⟨(13 : UInt8), (0 : UInt8), 0, 0, 0, 0, 0⟩ : zb)).bind fun c290 => (zdU c290 0 (IntKind.i64.wrap (1 + (Int.tmod (IntKind.i64.wrap p0) 40))) []).bind fun c299 => zgS c299.1 (if (c299.2 != 0) = true then some false else none) fun m303 => (if (c299.2 != 0) = true then some false else (zcO (⟨m303.code, m303.pc, m303.regs, m303.words, m303.input, m303.out, m303.how, m303.halting⟩ : ze) 1000).bind fun c332 => (zdV (⟨c332.2.2.code, c332.2.2.pc, c332.2.2.regs, c332.2.2.words, c332.2.2.input, c332.2.2.out, c332.2.2.how, c332.2.2.halting⟩ : ze)).bind fun c354 => (if (decide ((IntKind.i64.wrap (1 + (Int.tmod (IntKind.i64.wrap p1) 60))) > (IntKind.i64.wrap (1 + (Int.tmod (IntKind.i64.wrap p0) 40))))) = true then ((if ((c332.1 == 7) && (!c354.2)) = true then (ze5 (⟨c332.2.2.code, c332.2.2.pc, c332.2.2.regs, c332.2.2.words, c332.2.2.input, c332.2.2.out, c332.2.2.how, c332.2.2.halting⟩ : ze)).bind fun c362 => (zF c362 15).bind fun y371 => some (y371 == 0) else some false)).bind fun c359 => ((if c359 = true then (zd6 ).bind fun c381 => some c381 else some false)).bind fun c378 => some c378 else ((if (((c332.1 == 1) && c354.2) && (c354.1 == (IntKind.i64.wrap (1 + (Int.tmod (IntKind.i64.wrap p0) 40))))) = true then (zd6 ).bind fun c388 => some c388 else some false)).bind fun c385 => some c385)))
def zcI (p0 : Int) (p1 : Int) : Nat → (List UInt8) → Int → Option Bool
 | 0, _, _ => none
 | n + 1, x146, x148 => zde (zcI p0 p1 n) p0 p1 x146 x148
def zgg (p0 : Int) (p1 : Int) : Option Bool :=
 (zbq [] (⟨(12 : UInt8), (0 : UInt8), 0, 0, 0, 6, 0⟩ : zb)).bind fun c3 => (zbq c3 (⟨(17 : UInt8), (0 : UInt8), 15, 0, 0, 0, 0⟩ : zb)).bind fun c12 => zcI p0 p1 big c12 1
end Go.Proofs.Ytgkllgoelpfdkaa
