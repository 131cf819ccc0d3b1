import Derived.Test.YtnaafaopdefigaaAd
import Derived.Test.YtnaafaopdefigaaFM
namespace Go.Proofs.Ytnaafaopdefigaa
open Go.Ab Go.RowKit
set_option linter.unusedVariables false
set_option linter.unusedSimpArgs false
set_option maxRecDepth 10000
structure za where
  Kind : UInt8
  Op : UInt8
  R : Int
  S : Int
  T : Int
  N : Int
  M : Int
  deriving DecidableEq
inductive zd where
  | c_one_1
  | c_both_1
  | c_op_1 (x0 : Int) (x1 : Int)
  | c_third_1
  | c_bound_1
  | c_to_1
  | c_how_1
  | c_parts_1
  | c_within
def zi (σ : Hp) (x : zd) (u0 u1 u2 : Value) : Prop := match x with
  | .c_one_1 => ∃ a1_0 a2_0, u0 = .func (.func 57) #[] #[] ∧ u1 = .func (.func 89) #[] #[.pointer (some a1_0)] ∧ u2 = .func (.func 90) #[] #[.pointer (some a2_0)] ∧ At σ a1_0 [.func (.func 59) #[] #[]] ∧ At σ a2_0 [.func (.func 60) #[] #[]]
  | .c_both_1 => ∃ a1_0 a2_0, u0 = .func (.func 65) #[] #[] ∧ u1 = .func (.func 89) #[] #[.pointer (some a1_0)] ∧ u2 = .func (.func 90) #[] #[.pointer (some a2_0)] ∧ At σ a1_0 [.func (.func 66) #[] #[]] ∧ At σ a2_0 [.func (.func 68) #[] #[]]
  | .c_op_1 x0 x1 => ∃ a0_0 a0_1 a1_0 a2_0, u0 = .func (.func 70) #[] #[.pointer (some a0_0), .pointer (some a0_1)] ∧ u1 = .func (.func 89) #[] #[.pointer (some a1_0)] ∧ u2 = .func (.func 90) #[] #[.pointer (some a2_0)] ∧ At σ a0_0 [.int .u8 x0] ∧ At σ a0_1 [.int .u8 x1] ∧ At σ a1_0 [.func (.func 71) #[] #[]] ∧ At σ a2_0 [.func (.func 72) #[] #[]]
  | .c_third_1 => ∃ a1_0 a2_0, u0 = .func (.func 73) #[] #[] ∧ u1 = .func (.func 89) #[] #[.pointer (some a1_0)] ∧ u2 = .func (.func 90) #[] #[.pointer (some a2_0)] ∧ At σ a1_0 [.func (.func 74) #[] #[]] ∧ At σ a2_0 [.func (.func 75) #[] #[]]
  | .c_bound_1 => u0 = .func (.func 76) #[] #[] ∧ u1 = .func (.func 77) #[] #[] ∧ u2 = .func (.func 79) #[] #[]
  | .c_to_1 => u0 = .func (.func 81) #[] #[] ∧ u1 = .func (.func 82) #[] #[] ∧ u2 = .func (.func 84) #[] #[]
  | .c_how_1 => ∃ a1_0 a2_0, u0 = .func (.func 86) #[] #[] ∧ u1 = .func (.func 89) #[] #[.pointer (some a1_0)] ∧ u2 = .func (.func 90) #[] #[.pointer (some a2_0)] ∧ At σ a1_0 [.func (.func 87) #[] #[]] ∧ At σ a2_0 [.func (.func 88) #[] #[]]
  | .c_parts_1 => u0 = .func (.func 46) #[] #[] ∧ u1 = .func (.func 61) #[] #[] ∧ u2 = .func (.func 63) #[] #[]
  | .c_within => u0 = .func (.func 52) #[] #[] ∧ u1 = .func (.func 61) #[] #[] ∧ u2 = .func (.func 63) #[] #[]
theorem zi.le {σ σ' : Hp} {x : zd} {u0 u1 u2 : Value} (h : zi σ x u0 u1 u2) (hle : Hp.le σ σ') : zi σ' x u0 u1 u2 := by
  cases x with
  | c_one_1 => obtain ⟨a1_0, a2_0, rfl, rfl, rfl, m0, m1⟩ := h; exact ⟨a1_0, a2_0, rfl, rfl, rfl, m0.le hle, m1.le hle⟩
  | c_both_1 => obtain ⟨a1_0, a2_0, rfl, rfl, rfl, m0, m1⟩ := h; exact ⟨a1_0, a2_0, rfl, rfl, rfl, m0.le hle, m1.le hle⟩
  | c_op_1 _ _ => obtain ⟨a0_0, a0_1, a1_0, a2_0, rfl, rfl, rfl, m0, m1, m2, m3⟩ := h; exact ⟨a0_0, a0_1, a1_0, a2_0, rfl, rfl, rfl, m0.le hle, m1.le hle, m2.le hle, m3.le hle⟩
  | c_third_1 => obtain ⟨a1_0, a2_0, rfl, rfl, rfl, m0, m1⟩ := h; exact ⟨a1_0, a2_0, rfl, rfl, rfl, m0.le hle, m1.le hle⟩
  | c_bound_1 => obtain ⟨rfl, rfl, rfl⟩ := h; exact ⟨rfl, rfl, rfl⟩
  | c_to_1 => obtain ⟨rfl, rfl, rfl⟩ := h; exact ⟨rfl, rfl, rfl⟩
  | c_how_1 => obtain ⟨a1_0, a2_0, rfl, rfl, rfl, m0, m1⟩ := h; exact ⟨a1_0, a2_0, rfl, rfl, rfl, m0.le hle, m1.le hle⟩
  | c_parts_1 => obtain ⟨rfl, rfl, rfl⟩ := h; exact ⟨rfl, rfl, rfl⟩
  | c_within => obtain ⟨rfl, rfl, rfl⟩ := h; exact ⟨rfl, rfl, rfl⟩
def zk : Ty zd where
  sz := 3
  R := fun σ x cs => ∃ f0 a0 c0 f1 a1 c1 f2 a2 c2, cs = [.func f0 a0 c0, .func f1 a1 c1, .func f2 a2 c2] ∧ zi σ x (.func f0 a0 c0) (.func f1 a1 c1) (.func f2 a2 c2)
  len := by rintro σ x cs ⟨_, _, _, _, _, _, _, _, _, rfl, _⟩; rfl
  one := by rintro σ x cs ⟨_, _, _, _, _, _, _, _, _, rfl, _⟩; rfl
  mono := by rintro σ σ' x cs hle ⟨_, _, _, _, _, _, _, _, _, rfl, h⟩; exact ⟨_, _, _, _, _, _, _, _, _, rfl, h.le hle⟩
def zcX (q0 : za) : Option (Bool × za) :=
  some (true, (⟨q0.Kind, q0.Op, q0.R, q0.S, q0.T, q0.N, q0.M⟩ : za))
def zF (p0 : (List UInt8)) (p1 : Int) (p2 : Int) : Option ((List UInt8) × Int × Int) :=
  (if ((decide (p1 < 0)) || (decide (p1 > (p0.length : Int)))) = true then some ([], 0, 1) else (cutI p0 p1 (p0.length : Int)).bind fun y5 => (if (decide ((y5.length : Int) ≥ p2)) = true then (cutI y5 0 p2).bind fun y11 => some (y11, (IntKind.i64.wrap (p1 + p2)), 0) else some ([], 0, 5)))
def zm (p0 : (List UInt8)) (p1 : Int) : Option (Int × Int × Int) :=
  (zF p0 p1 1).bind fun c3 => (if (c3.2.2 != 0) = true then some (0, 0, c3.2.2) else (getI c3.1 0).bind fun y12 => some ((y12.toNat : Int), c3.2.1, 0))
def zv (p0 : Int) : Option Bool :=
  some ((decide (p0 ≥ 0)) && (decide (p0 < 16)))
def zcO (q0 : za) : Option (Bool × za) :=
  (zv q0.R).bind fun c2 => some (c2, (⟨q0.Kind, q0.Op, q0.R, q0.S, q0.T, q0.N, q0.M⟩ : za))
def zcS (q0 : za) : Option (Int × za) :=
  some ((IntKind.u8.wrap q0.R), (⟨q0.Kind, q0.Op, q0.R, q0.S, q0.T, q0.N, q0.M⟩ : za))
def zcg (q0 : za) (p1 : Int) : Option za :=
  some (⟨q0.Kind, q0.Op, (IntKind.i64.wrap p1), q0.S, q0.T, q0.N, q0.M⟩ : za)
def zda  : Option zd :=
  some zd.c_one_1
def zb9  : Option zd :=
  (zda ).bind fun c2 => some c2
def zG (p0 : (List UInt8)) : Option (List UInt8) := (room p0.length).bind fun _ => some p0
def zbt (rec4 : Int → (List UInt8) → Option (List UInt8))  (x28 : Int) (x32 : List UInt8) : Option (List UInt8) :=
  (if ((decide (x28 > 63)) || (decide (x28 < (-64)))) = true then (u8o (orI .u8 (IntKind.u8.wrap x28) 128)).bind fun z47 => (room (x32.length + 1)).bind fun _ => rec4 (shrI .i64 x28 7) (x32 ++ [z47]) else (u8o (andI .u8 (IntKind.u8.wrap x28) 127)).bind fun z52 => (room (x32.length + 1)).bind fun _ => some (x32 ++ [z52]))
def zbX  : Nat → Int → (List UInt8) → Option (List UInt8)
  | 0, _, _ => none
  | n + 1, x28, x32 => zbt (zbX  n)  x28 x32
def zP (p0 : (List UInt8)) (p1 : Int) : Option (List UInt8) :=
  (zG p0).bind fun c3 => zbX  big p1 c3
def zbG (rec4 : Int → Int → Option (Int × Int)) (p0 : (List UInt8)) (x18 : Int) (x19 : Int) : Option (Int × Int) :=
  (if (decide (x19 < (minI (p0.length : Int) 10))) = true then (getI p0 x19).bind fun y36 => (shlO .u64 (IntKind.u64.wrap (andI .u8 (y36.toNat : Int) 127)) (IntKind.i64.wrap (7 * x19))).bind fun y41 => (getI p0 x19).bind fun y43 => (if (decide ((y43.toNat : Int) < 128)) = true then some ((orI .u64 x18 y41), (IntKind.i64.wrap (x19 + 1))) else rec4 (orI .u64 x18 y41) (IntKind.i64.wrap (x19 + 1))) else some (0, 0))
def zbj (p0 : (List UInt8)) : Nat → Int → Int → Option (Int × Int)
  | 0, _, _ => none
  | n + 1, x18, x19 => zbG (zbj p0 n) p0 x18 x19
def zbO (p0 : (List UInt8)) : Option (Int × Int) :=
  zbj p0 big 0 0
def zbs (rec4 : Int → Option Bool) (p0 : (List UInt8)) (p1 : (List UInt8)) (x20 : Int) : Option Bool :=
  (if (decide (x20 < (p0.length : Int))) = true then (getI p0 x20).bind fun y35 => (getI p1 x20).bind fun y40 => (if ((y35.toNat : Int) != (y40.toNat : Int)) = true then some false else rec4 (IntKind.i64.wrap (x20 + 1))) else some true)
def zb4 (p0 : (List UInt8)) (p1 : (List UInt8)) : Nat → Int → Option Bool
  | 0, _ => none
  | n + 1, x20 => zbs (zb4 p0 p1 n) p0 p1 x20
def z9 (p0 : (List UInt8)) (p1 : (List UInt8)) : Option Bool :=
  (if ((p0.length : Int) != (p1.length : Int)) = true then some false else zb4 p0 p1 big 0)
def zbo (p0 : Int) (p1 : Int) : Option Int :=
  (shlO .u64 p0 (maxI 0 (IntKind.i64.wrap (64 - (IntKind.i64.wrap (7 * p1)))))).bind fun y3 => (shrO .i64 (IntKind.i64.wrap y3) (maxI 0 (IntKind.i64.wrap (64 - (IntKind.i64.wrap (7 * p1)))))).bind fun y5 => some y5
def zcJ (p0 : (List UInt8)) (p1 : Int) : Option (Int × Int × Int) :=
  (if ((decide (p1 < 0)) || (decide (p1 > (p0.length : Int)))) = true then some (0, 0, 1) else (cutI p0 p1 (p0.length : Int)).bind fun y6 => (zbO y6).bind fun c11 => (zbo c11.1 c11.2).bind fun c15 => ((if (c11.2 == 0) = true then some true else (cutI p0 p1 (IntKind.i64.wrap (p1 + c11.2))).bind fun y22 => (zP [] c15).bind fun c27 => (z9 c27 y22).bind fun c38 => some (!c38))).bind fun c19 => (if c19 = true then some (0, 0, 5) else some (c15, (IntKind.i64.wrap (p1 + c11.2)), 0)))
def zch (p0 : (List UInt8)) (p1 : Int) : Option (Int × Int × Int) :=
  (zcJ p0 p1).bind fun c3 => some (c3.1, c3.2.1, c3.2.2)
def zH (p0 : (List UInt8)) (p1 : Int) (q2 : za) : Option (Int × Bool × za) :=
  (zch p0 p1).bind fun c4 => some (c4.2.1, (c4.2.2 == 0), (⟨q2.Kind, q2.Op, q2.R, q2.S, q2.T, c4.1, q2.M⟩ : za))
def zcH (q0 : za) : Option (Bool × za) :=
  (zv q0.R).bind fun c2 => ((if c2 = true then (zv q0.S).bind fun c9 => some c9 else some false)).bind fun c6 => some (c6, (⟨q0.Kind, q0.Op, q0.R, q0.S, q0.T, q0.N, q0.M⟩ : za))
def zbg (p0 : Int) (p1 : Int) : Option (Int × Bool) :=
  (if ((((decide (p0 < 0)) || (decide (p0 ≥ 16))) || (decide (p1 < 0))) || (decide (p1 ≥ 16))) = true then some (0, false) else some ((IntKind.u8.wrap (orI .i64 (shlI .i64 p0 4) p1)), true))
def zcu (q0 : za) : Option (Int × za) :=
  (zbg q0.R q0.S).bind fun c2 => some (c2.1, (⟨q0.Kind, q0.Op, q0.R, q0.S, q0.T, q0.N, q0.M⟩ : za))
def zbv (p0 : Int) : Option (Int × Int) :=
  some ((IntKind.i64.wrap (shrI .u8 p0 4)), (IntKind.i64.wrap (andI .u8 p0 15)))
def zbE (q0 : za) (p1 : Int) : Option za :=
  (zbv p1).bind fun c3 => some (⟨q0.Kind, q0.Op, c3.1, c3.2, q0.T, q0.N, q0.M⟩ : za)
def zdb  : Option zd :=
  some zd.c_both_1
def zN  : Option zd :=
  (zdb ).bind fun c2 => some c2
def zcq (q0 : za) : Option (Int × za) :=
  some ((q0.Op.toNat : Int), (⟨q0.Kind, q0.Op, q0.R, q0.S, q0.T, q0.N, q0.M⟩ : za))
def zcd (q0 : za) (p1 : Int) : Option za :=
  (u8o p1).bind fun z3 => some (⟨q0.Kind, z3, q0.R, q0.S, q0.T, q0.N, q0.M⟩ : za)
def zc1 (q0_0 : Int) (q0_1 : Int) : Option zd :=
  some (zd.c_op_1 q0_0 q0_1)
def zcT (p0 : Int) (p1 : Int) : Option zd :=
  (zc1 p0 p1).bind fun c10 => some c10
def zcB (q0 : za) : Option (Bool × za) :=
  (zv q0.T).bind fun c2 => some (c2, (⟨q0.Kind, q0.Op, q0.R, q0.S, q0.T, q0.N, q0.M⟩ : za))
def zcE (q0 : za) : Option (Int × za) :=
  some ((IntKind.u8.wrap q0.T), (⟨q0.Kind, q0.Op, q0.R, q0.S, q0.T, q0.N, q0.M⟩ : za))
def zbS (q0 : za) (p1 : Int) : Option za :=
  some (⟨q0.Kind, q0.Op, q0.R, q0.S, (IntKind.i64.wrap p1), q0.N, q0.M⟩ : za)
def zc8  : Option zd :=
  some zd.c_third_1
def zcn  : Option zd :=
  (zc8 ).bind fun c2 => some c2
def zcC (q0 : za) : Option (Bool × za) :=
  some (((decide (q0.N ≥ (-65536))) && (decide (q0.N ≤ 65536))), (⟨q0.Kind, q0.Op, q0.R, q0.S, q0.T, q0.N, q0.M⟩ : za))
def zcU (q0 : za) : Option (Bool × za) :=
  some (((decide (q0.M ≥ 1)) && (decide (q0.M ≤ 65536))), (⟨q0.Kind, q0.Op, q0.R, q0.S, q0.T, q0.N, q0.M⟩ : za))
def zbY (rec4 : Int → (List UInt8) → Option (List UInt8))  (x28 : Int) (x32 : List UInt8) : Option (List UInt8) :=
  (if (decide (x28 > 127)) = true then (u8o (orI .u8 (IntKind.u8.wrap x28) 128)).bind fun z47 => (room (x32.length + 1)).bind fun _ => rec4 (shrI .u64 x28 7) (x32 ++ [z47]) else (u8o (IntKind.u8.wrap x28)).bind fun z52 => (room (x32.length + 1)).bind fun _ => some (x32 ++ [z52]))
def zcb  : Nat → Int → (List UInt8) → Option (List UInt8)
  | 0, _, _ => none
  | n + 1, x28, x32 => zbY (zcb  n)  x28 x32
def zU (p0 : (List UInt8)) (p1 : Int) : Option (List UInt8) :=
  (zG p0).bind fun c3 => zcb  big p1 c3
def zcN (p0 : Int) (p1 : Int) : Option Int :=
  some p0
def zco (p0 : (List UInt8)) (p1 : Int) : Option (Int × Int × Int) :=
  (if ((decide (p1 < 0)) || (decide (p1 > (p0.length : Int)))) = true then some (0, 0, 1) else (cutI p0 p1 (p0.length : Int)).bind fun y6 => (zbO y6).bind fun c11 => (zcN c11.1 c11.2).bind fun c15 => ((if (c11.2 == 0) = true then some true else (cutI p0 p1 (IntKind.i64.wrap (p1 + c11.2))).bind fun y22 => (zU [] c15).bind fun c27 => (z9 c27 y22).bind fun c38 => some (!c38))).bind fun c19 => (if c19 = true then some (0, 0, 5) else some (c15, (IntKind.i64.wrap (p1 + c11.2)), 0)))
def zbH (p0 : (List UInt8)) (p1 : Int) : Option (Int × Int × Int) :=
  (zco p0 p1).bind fun c3 => some (c3.1, c3.2.1, c3.2.2)
def zbB (p0 : (List UInt8)) (p1 : Int) (q2 : za) : Option (Int × Bool × za) :=
  (zbH p0 p1).bind fun c4 => some (c4.2.1, (c4.2.2 == 0), (⟨q2.Kind, q2.Op, q2.R, q2.S, q2.T, q2.N, (IntKind.i64.wrap (minI c4.1 16777216))⟩ : za))
def zc9  : Option zd :=
  some zd.c_bound_1
def zcs (q0 : za) : Option (Bool × za) :=
  some (((decide (q0.N ≥ 0)) && (decide (q0.N < 16777216))), (⟨q0.Kind, q0.Op, q0.R, q0.S, q0.T, q0.N, q0.M⟩ : za))
def zcK (p1 : Int) : Option (List UInt8) :=
  (if (decide ((IntKind.i64.wrap (p1 - (IntKind.i64.wrap (0 - 0)))) > 0)) = true then (nneg (IntKind.i64.wrap (p1 - (IntKind.i64.wrap (0 - 0))))).bind fun _ => (room (([] : List UInt8).length + Int.toNat (IntKind.i64.wrap (p1 - (IntKind.i64.wrap (0 - 0)))))).bind fun _ => (cutI (([] : List UInt8) ++ List.replicate (Int.toNat (IntKind.i64.wrap (p1 - (IntKind.i64.wrap (0 - 0))))) (0 : UInt8)) 0 0).bind fun y11 => some y11 else some ([]))
def zb8 (_n0 : (List UInt8)) (p1 : Int) : Option (List UInt8) :=
  (if (decide (p1 < 0)) = true then none else zcK p1)
def zbp (rec16 : (List UInt8) → Int → Option (List UInt8)) (p0 : (List (List UInt8))) (x204 : List UInt8) (x207 : Int) : Option (List UInt8) :=
  (if (decide (x207 < (p0.length : Int))) = true then (getI p0 x207).bind fun y224 => (room (x204.length + y224.length)).bind fun _ => rec16 (x204 ++ y224) (IntKind.i64.wrap (x207 + 1)) else some x204)
def zbx (p0 : (List (List UInt8))) : Nat → (List UInt8) → Int → Option (List UInt8)
  | 0, _, _ => none
  | n + 1, x204, x207 => zbp (zbx p0 n) p0 x204 x207
def zbw (rec14 : Int → Int → Option (List UInt8)) (p0 : (List (List UInt8))) (x81 : Int) (x83 : Int) : Option (List UInt8) :=
  (if (decide (x83 < (p0.length : Int))) = true then (getI p0 x83).bind fun y162 => (if (decide ((IntKind.i64.wrap (x81 + (y162.length : Int))) < 0)) = true then none else rec14 (IntKind.i64.wrap (x81 + (y162.length : Int))) (IntKind.i64.wrap (x83 + 1))) else (zb8 [] x81).bind fun c172 => zbx p0 big c172 0)
def zbW (p0 : (List (List UInt8))) : Nat → Int → Int → Option (List UInt8)
  | 0, _, _ => none
  | n + 1, x81, x83 => zbw (zbW p0 n) p0 x81 x83
def zck (p0 : (List (List UInt8))) : Option (List UInt8) :=
  zbW p0 big 0 0
def zcm (rec4 : (List UInt8) → Int → Option ((List UInt8) × Int)) (p0 : (List UInt8)) (p1 : Int) (x44 : List UInt8) (x46 : Int) : Option ((List UInt8) × Int) :=
  (if (decide (x46 < 3)) = true then (shrO .i64 p1 (IntKind.i64.wrap (8 * x46))).bind fun y80 => (getI x44 (IntKind.i64.wrap (2 - x46))).bind fun y82 => (u8o (IntKind.u8.wrap y80)).bind fun z89 => rec4 (x44.set (Int.toNat (IntKind.i64.wrap (2 - x46))) z89) (IntKind.i64.wrap (x46 + 1)) else (zck ([p0, x44] : List (List UInt8))).bind fun c101 => some (c101, 0))
def z6 (p0 : (List UInt8)) (p1 : Int) : Nat → (List UInt8) → Int → Option ((List UInt8) × Int)
  | 0, _, _ => none
  | n + 1, x44, x46 => zcm (z6 p0 p1 n) p0 p1 x44 x46
def zci (p0 : (List UInt8)) (p1 : Int) : Option ((List UInt8) × Int) :=
  (if ((decide (p1 < 0)) || (decide (p1 ≥ 16777216))) = true then some ([], 1) else z6 p0 p1 big ([(0 : UInt8), (0 : UInt8), (0 : UInt8)] : List UInt8) 0)
def zcV (rec4 : Int → Int → Option (Int × Int × Int)) (c3 : (List UInt8) × Int × Int) (x18 : Int) (x20 : Int) : Option (Int × Int × Int) :=
  (if (decide (x20 < (c3.1.length : Int))) = true then (getI c3.1 x20).bind fun y29 => rec4 (orI .i64 (shlI .i64 x18 8) (IntKind.i64.wrap (y29.toNat : Int))) (IntKind.i64.wrap (x20 + 1)) else some (x18, c3.2.1, c3.2.2))
def z4 (c3 : (List UInt8) × Int × Int) : Nat → Int → Int → Option (Int × Int × Int)
  | 0, _, _ => none
  | n + 1, x18, x20 => zcV (z4 c3 n) c3 x18 x20
def zA (p0 : (List UInt8)) (p1 : Int) : Option (Int × Int × Int) :=
  (zF p0 p1 3).bind fun c3 => z4 c3 big 0 0
def zbl (p0 : (List UInt8)) (p1 : Int) (q2 : za) : Option (Int × Bool × za) :=
  (zA p0 p1).bind fun c4 => some (c4.2.1, (c4.2.2 == 0), (⟨q2.Kind, q2.Op, q2.R, q2.S, q2.T, c4.1, q2.M⟩ : za))
def zcQ  : Option zd :=
  some zd.c_to_1
def zcz (q0 : za) : Option (Bool × za) :=
  some (((decide (q0.N ≥ 2)) && (decide (q0.N ≤ 4))), (⟨q0.Kind, q0.Op, q0.R, q0.S, q0.T, q0.N, q0.M⟩ : za))
def zcv (q0 : za) : Option (Int × za) :=
  some ((IntKind.u8.wrap q0.N), (⟨q0.Kind, q0.Op, q0.R, q0.S, q0.T, q0.N, q0.M⟩ : za))
def zbP (q0 : za) (p1 : Int) : Option za :=
  some (⟨q0.Kind, q0.Op, q0.R, q0.S, q0.T, (IntKind.i64.wrap p1), q0.M⟩ : za)
def zdd  : Option zd :=
  some zd.c_how_1
def zc4  : Option zd :=
  (zdd ).bind fun c2 => some c2
def zc0  : Option zd :=
  some zd.c_parts_1
def zbk  : Option zd :=
  some zd.c_within
def z5 (p0 : Int) (x310 : Bool) : Option ((List zd) × Bool) :=
  (if x310 = true then (zb9 ).bind fun c312 => some (([c312] : List zd), true) else (if (p0 == 18) = true then (zc4 ).bind fun c331 => some (([c331] : List zd), true) else some ([], false)))
def zbT (p0 : Int) (x236 : Bool) : Option ((List zd) × Bool) :=
  (if x236 = true then (zcQ ).bind fun c238 => some (([c238] : List zd), true) else (if (p0 == 11) = true then (zb9 ).bind fun c257 => (zcQ ).bind fun c271 => some (([c257, c271] : List zd), true) else (if (p0 == 14) = true then (zbk ).bind fun c290 => some (([c290] : List zd), true) else (if (p0 == 15) = true then z5 p0 (p0 == 15) else (if (p0 == 16) = true then z5 p0 (p0 == 16) else z5 p0 (p0 == 17))))))
def zbM (p0 : Int) (x173 : Bool) : Option ((List zd) × Bool) :=
  (if x173 = true then (zN ).bind fun c175 => (zcn ).bind fun c189 => (zbk ).bind fun c203 => (zc9 ).bind fun c217 => some (([c175, c189, c203, c217] : List zd), true) else (if (p0 == 10) = true then zbT p0 (p0 == 10) else zbT p0 (p0 == 12)))
def zbD (p0 : Int) (x138 : Bool) : Option ((List zd) × Bool) :=
  (if x138 = true then (zN ).bind fun c140 => (zbk ).bind fun c154 => some (([c140, c154] : List zd), true) else (if (p0 == 8) = true then zbM p0 (p0 == 8) else zbM p0 (p0 == 9)))
def zbK (p0 : Int) (x3 : Bool) : Option ((List zd) × Bool) :=
  (if x3 = true then some ([], true) else (if (p0 == 2) = true then (zb9 ).bind fun c6 => (zc0 ).bind fun c20 => some (([c6, c20] : List zd), true) else (if (p0 == 3) = true then (zN ).bind fun c39 => some (([c39] : List zd), true) else (if (p0 == 4) = true then (zcT 1 13).bind fun c58 => (zN ).bind fun c72 => (zcn ).bind fun c86 => some (([c58, c72, c86] : List zd), true) else (if (p0 == 5) = true then (zcT 14 15).bind fun c105 => (zN ).bind fun c119 => some (([c105, c119] : List zd), true) else (if (p0 == 6) = true then zbD p0 (p0 == 6) else zbD p0 (p0 == 7)))))))
def zX (p0 : Int) : Option ((List zd) × Bool) :=
  (if (p0 == 1) = true then zbK p0 (p0 == 1) else zbK p0 (p0 == 13))
def zcI (q0 : za) (qf0 : Int) (qf1 : Int) : Option (Bool × za) :=
  ((if (decide ((q0.Op.toNat : Int) ≥ qf0)) = true then some (decide ((q0.Op.toNat : Int) ≤ qf1)) else some false)).bind fun c2 => some (c2, (⟨q0.Kind, q0.Op, q0.R, q0.S, q0.T, q0.N, q0.M⟩ : za))
def zcM (x : zd) (q0 : za) : Option (Bool × za) :=
  match x with
  | .c_one_1 => zcO q0
  | .c_both_1 => zcH q0
  | .c_op_1 x0 x1 => zcI q0 x0 x1
  | .c_third_1 => zcB q0
  | .c_bound_1 => zcU q0
  | .c_to_1 => zcs q0
  | .c_how_1 => zcz q0
  | .c_parts_1 => zcX q0
  | .c_within => zcC q0
def zcD (p0 : (List UInt8)) (q1 : za) : Option ((List UInt8) × za) :=
  (zcS (⟨q1.Kind, q1.Op, q1.R, q1.S, q1.T, q1.N, q1.M⟩ : za)).bind fun c3 => (u8o c3.1).bind fun z7 => (room (p0.length + 1)).bind fun _ => some ((p0 ++ [z7]), (⟨c3.2.Kind, c3.2.Op, c3.2.R, c3.2.S, c3.2.T, c3.2.N, c3.2.M⟩ : za))
def zcR (p0 : (List UInt8)) (q1 : za) : Option ((List UInt8) × za) :=
  (zcu (⟨q1.Kind, q1.Op, q1.R, q1.S, q1.T, q1.N, q1.M⟩ : za)).bind fun c3 => (u8o c3.1).bind fun z7 => (room (p0.length + 1)).bind fun _ => some ((p0 ++ [z7]), (⟨c3.2.Kind, c3.2.Op, c3.2.R, c3.2.S, c3.2.T, c3.2.N, c3.2.M⟩ : za))
def zcr (p0 : (List UInt8)) (q1 : za) : Option ((List UInt8) × za) :=
  (zcq (⟨q1.Kind, q1.Op, q1.R, q1.S, q1.T, q1.N, q1.M⟩ : za)).bind fun c3 => (u8o c3.1).bind fun z7 => (room (p0.length + 1)).bind fun _ => some ((p0 ++ [z7]), (⟨c3.2.Kind, c3.2.Op, c3.2.R, c3.2.S, c3.2.T, c3.2.N, c3.2.M⟩ : za))
def zcP (p0 : (List UInt8)) (q1 : za) : Option ((List UInt8) × za) :=
  (zcE (⟨q1.Kind, q1.Op, q1.R, q1.S, q1.T, q1.N, q1.M⟩ : za)).bind fun c3 => (u8o c3.1).bind fun z7 => (room (p0.length + 1)).bind fun _ => some ((p0 ++ [z7]), (⟨c3.2.Kind, c3.2.Op, c3.2.R, c3.2.S, c3.2.T, c3.2.N, c3.2.M⟩ : za))
def zcx (p0 : (List UInt8)) (q1 : za) : Option ((List UInt8) × za) :=
  (zU p0 (IntKind.u64.wrap q1.M)).bind fun c5 => some (c5, (⟨q1.Kind, q1.Op, q1.R, q1.S, q1.T, q1.N, q1.M⟩ : za))
def zcl (p0 : (List UInt8)) (q1 : za) : Option ((List UInt8) × za) :=
  (zci p0 q1.N).bind fun c5 => some (c5.1, (⟨q1.Kind, q1.Op, q1.R, q1.S, q1.T, q1.N, q1.M⟩ : za))
def zcw (p0 : (List UInt8)) (q1 : za) : Option ((List UInt8) × za) :=
  (zcv (⟨q1.Kind, q1.Op, q1.R, q1.S, q1.T, q1.N, q1.M⟩ : za)).bind fun c3 => (u8o c3.1).bind fun z7 => (room (p0.length + 1)).bind fun _ => some ((p0 ++ [z7]), (⟨c3.2.Kind, c3.2.Op, c3.2.R, c3.2.S, c3.2.T, c3.2.N, c3.2.M⟩ : za))
def zba (p0 : (List UInt8)) (q1 : za) : Option ((List UInt8) × za) :=
  (zP p0 q1.N).bind fun c5 => some (c5, (⟨q1.Kind, q1.Op, q1.R, q1.S, q1.T, q1.N, q1.M⟩ : za))
def zcA (x : zd) (p0 : (List UInt8)) (q1 : za) : Option ((List UInt8) × za) :=
  match x with
  | .c_one_1 => zcD p0 q1
  | .c_both_1 => zcR p0 q1
  | .c_op_1 x0 x1 => zcr p0 q1
  | .c_third_1 => zcP p0 q1
  | .c_bound_1 => zcx p0 q1
  | .c_to_1 => zcl p0 q1
  | .c_how_1 => zcw p0 q1
  | .c_parts_1 => zba p0 q1
  | .c_within => zba p0 q1
def zbU (rec4 : UInt8 → UInt8 → Int → Int → Int → Int → Int → (List UInt8) → (List zd) → Int → Option ((List UInt8) × Bool)) (c3 : (List zd) × Bool) (x60 : UInt8) (x61 : UInt8) (x62 : Int) (x63 : Int) (x64 : Int) (x65 : Int) (x66 : Int) (x70 : List UInt8) (x75 : List zd) (x77 : Int) : Option ((List UInt8) × Bool) :=
  (if (decide (x77 < (c3.1.length : Int))) = true then (getI x75 x77).bind fun y113 => (zcM y113 (⟨x60, x61, x62, x63, x64, x65, x66⟩ : za)).bind fun c131 => (if (!c131.1) = true then some ([], false) else (zcA y113 x70 (⟨c131.2.Kind, c131.2.Op, c131.2.R, c131.2.S, c131.2.T, c131.2.N, c131.2.M⟩ : za)).bind fun c136 => rec4 c136.2.Kind c136.2.Op c136.2.R c136.2.S c136.2.T c136.2.N c136.2.M c136.1 x75 (IntKind.i64.wrap (x77 + 1))) else some (x70, true))
def zbJ (c3 : (List zd) × Bool) : Nat → UInt8 → UInt8 → Int → Int → Int → Int → Int → (List UInt8) → (List zd) → Int → Option ((List UInt8) × Bool)
  | 0, _, _, _, _, _, _, _, _, _, _ => none
  | n + 1, x60, x61, x62, x63, x64, x65, x66, x70, x75, x77 => zbU (zbJ c3 n) c3 x60 x61 x62 x63 x64 x65 x66 x70 x75 x77
def zB (p0 : za) : Option ((List UInt8) × Bool) :=
  (zX (p0.Kind.toNat : Int)).bind fun c3 => (if (!c3.2) = true then some ([], false) else zbJ c3 big p0.Kind p0.Op p0.R p0.S p0.T p0.N p0.M ([p0.Kind] : List UInt8) c3.1 0)
def zb1 (p0 : (List UInt8)) (p1 : Int) (q2 : za) : Option (Int × Bool × za) :=
  (zm p0 p1).bind fun c4 => (zcg (⟨q2.Kind, q2.Op, q2.R, q2.S, q2.T, q2.N, q2.M⟩ : za) c4.1).bind fun c8 => some (c4.2.1, (c4.2.2 == 0), (⟨c8.Kind, c8.Op, c8.R, c8.S, c8.T, c8.N, c8.M⟩ : za))
def zbN (p0 : (List UInt8)) (p1 : Int) (q2 : za) : Option (Int × Bool × za) :=
  (zm p0 p1).bind fun c4 => (zbE (⟨q2.Kind, q2.Op, q2.R, q2.S, q2.T, q2.N, q2.M⟩ : za) c4.1).bind fun c8 => some (c4.2.1, (c4.2.2 == 0), (⟨c8.Kind, c8.Op, c8.R, c8.S, c8.T, c8.N, c8.M⟩ : za))
def zbV (p0 : (List UInt8)) (p1 : Int) (q2 : za) : Option (Int × Bool × za) :=
  (zm p0 p1).bind fun c4 => (zcd (⟨q2.Kind, q2.Op, q2.R, q2.S, q2.T, q2.N, q2.M⟩ : za) c4.1).bind fun c8 => some (c4.2.1, (c4.2.2 == 0), (⟨c8.Kind, c8.Op, c8.R, c8.S, c8.T, c8.N, c8.M⟩ : za))
def zbz (p0 : (List UInt8)) (p1 : Int) (q2 : za) : Option (Int × Bool × za) :=
  (zm p0 p1).bind fun c4 => (zbS (⟨q2.Kind, q2.Op, q2.R, q2.S, q2.T, q2.N, q2.M⟩ : za) c4.1).bind fun c8 => some (c4.2.1, (c4.2.2 == 0), (⟨c8.Kind, c8.Op, c8.R, c8.S, c8.T, c8.N, c8.M⟩ : za))
def zbR (p0 : (List UInt8)) (p1 : Int) (q2 : za) : Option (Int × Bool × za) :=
  (zm p0 p1).bind fun c4 => (zbP (⟨q2.Kind, q2.Op, q2.R, q2.S, q2.T, q2.N, q2.M⟩ : za) c4.1).bind fun c8 => some (c4.2.1, (c4.2.2 == 0), (⟨c8.Kind, c8.Op, c8.R, c8.S, c8.T, c8.N, c8.M⟩ : za))
def zE (x : zd) (p0 : (List UInt8)) (p1 : Int) (q2 : za) : Option (Int × Bool × za) :=
  match x with
  | .c_one_1 => zb1 p0 p1 q2
  | .c_both_1 => zbN p0 p1 q2
  | .c_op_1 x0 x1 => zbV p0 p1 q2
  | .c_third_1 => zbz p0 p1 q2
  | .c_bound_1 => zbB p0 p1 q2
  | .c_to_1 => zbl p0 p1 q2
  | .c_how_1 => zbR p0 p1 q2
  | .c_parts_1 => zH p0 p1 q2
  | .c_within => zH p0 p1 q2
def zM (rec4 : UInt8 → UInt8 → Int → Int → Int → Int → Int → Int → Bool → (List zd) → Int → Option (za × Int × Bool)) (p0 : (List UInt8)) (c10 : (List zd) × Bool) (x50 : UInt8) (x51 : UInt8) (x52 : Int) (x53 : Int) (x54 : Int) (x55 : Int) (x56 : Int) (x57 : Int) (x58 : Bool) (x62 : List zd) (x64 : Int) : Option (za × Int × Bool) :=
  (if (decide (x64 < (c10.1.length : Int))) = true then (getI x62 x64).bind fun y91 => (if x58 = true then (zE y91 p0 x57 (⟨x50, x51, x52, x53, x54, x55, x56⟩ : za)).bind fun c110 => rec4 c110.2.2.Kind c110.2.2.Op c110.2.2.R c110.2.2.S c110.2.2.T c110.2.2.N c110.2.2.M c110.1 c110.2.1 x62 (IntKind.i64.wrap (x64 + 1)) else rec4 x50 x51 x52 x53 x54 x55 x56 x57 x58 x62 (IntKind.i64.wrap (x64 + 1))) else some ((⟨x50, x51, x52, x53, x54, x55, x56⟩ : za), x57, x58))
def zS (p0 : (List UInt8)) (c10 : (List zd) × Bool) : Nat → UInt8 → UInt8 → Int → Int → Int → Int → Int → Int → Bool → (List zd) → Int → Option (za × Int × Bool)
  | 0, _, _, _, _, _, _, _, _, _, _, _ => none
  | n + 1, x50, x51, x52, x53, x54, x55, x56, x57, x58, x62, x64 => zM (zS p0 c10 n) p0 c10 x50 x51 x52 x53 x54 x55 x56 x57 x58 x62 x64
def zt (p0 : (List UInt8)) (p1 : Int) : Option (za × Int × Bool) :=
  (if (decide (p1 ≥ (p0.length : Int))) = true then some ((⟨(0 : UInt8), (0 : UInt8), 0, 0, 0, 0, 0⟩ : za), 0, false) else (getI p0 p1).bind fun y5 => (zX (y5.toNat : Int)).bind fun c10 => zS p0 c10 big y5 (0 : UInt8) 0 0 0 0 0 (IntKind.i64.wrap (p1 + 1)) c10.2 c10.1 0)
def zn (p0 : za) : Option Bool :=
  (zB (⟨p0.Kind, p0.Op, p0.R, p0.S, p0.T, p0.N, p0.M⟩ : za)).bind fun c3 => (if (!c3.2) = true then some false else (zt c3.1 0).bind fun c15 => some (c15.2.2 && (( (c15.1.Kind.toNat : Int) == (p0.Kind.toNat : Int)) && (( (c15.1.Op.toNat : Int) == (p0.Op.toNat : Int)) && (( c15.1.R == p0.R) && (( c15.1.S == p0.S) && (( c15.1.T == p0.T) && (( c15.1.N == p0.N) && (( c15.1.M == p0.M) && true)))))))))
def zq (p0 : (List UInt8)) (p1 : za) : Option (List UInt8) :=
  (zG p0).bind fun c4 => (zn (⟨p1.Kind, p1.Op, p1.R, p1.S, p1.T, p1.N, p1.M⟩ : za)).bind fun c13 => (if (!c13) = true then some c4 else (zB (⟨p1.Kind, p1.Op, p1.R, p1.S, p1.T, p1.N, p1.M⟩ : za)).bind fun c18 => (room (c4.length + c18.1.length)).bind fun _ => some (c4 ++ c18.1))
def z0 (p0 : za) : Option Int :=
  (zq [] (⟨p0.Kind, p0.Op, p0.R, p0.S, p0.T, p0.N, p0.M⟩ : za)).bind fun c3 => some (c3.length : Int)
def zb3 (p0 : (List UInt8)) (p1 : (List UInt8)) : Option Bool :=
  some (strEq (⟨p0.toArray⟩ : ByteArray) (⟨p1.toArray⟩ : ByteArray))
def zr (p0 : (List UInt8)) (p1 : Int) : Option (za × Int × Int) :=
  (if ((decide (p1 < 0)) || (decide (p1 > (p0.length : Int)))) = true then some ((⟨(0 : UInt8), (0 : UInt8), 0, 0, 0, 0, 0⟩ : za), 0, 1) else (zt p0 p1).bind fun c5 => ((if (!c5.2.2) = true then some true else (zn (⟨c5.1.Kind, c5.1.Op, c5.1.R, c5.1.S, c5.1.T, c5.1.N, c5.1.M⟩ : za)).bind fun c13 => some (!c13))).bind fun c10 => ((if c10 = true then some true else (cutI p0 p1 c5.2.1).bind fun y20 => (zq [] (⟨c5.1.Kind, c5.1.Op, c5.1.R, c5.1.S, c5.1.T, c5.1.N, c5.1.M⟩ : za)).bind fun c25 => (zb3 c25 y20).bind fun c36 => some (!c36))).bind fun c17 => (if c17 = true then some ((⟨(0 : UInt8), (0 : UInt8), 0, 0, 0, 0, 0⟩ : za), 0, 5) else some ((⟨c5.1.Kind, c5.1.Op, c5.1.R, c5.1.S, c5.1.T, c5.1.N, c5.1.M⟩ : za), c5.2.1, 0)))
def zQ  : Option Bool :=
  (zq ([(255 : UInt8)] : List UInt8) (⟨(8 : UInt8), (0 : UInt8), 1, 2, 3, (-2), 4⟩ : za)).bind fun c8 => (zr c8 1).bind fun c19 => (zn (⟨(8 : UInt8), (0 : UInt8), 1, 2, 3, (-2), 4⟩ : za)).bind fun c24 => ((if (c24 && ((c8.length : Int) == 6)) = true then (getI c8 2).bind fun y31 => some ((y31.toNat : Int) == 18) else some false)).bind fun c28 => ((if (((c28 && (( (c19.1.Kind.toNat : Int) == 8) && (( (c19.1.Op.toNat : Int) == 0) && (( c19.1.R == 1) && (( c19.1.S == 2) && (( c19.1.T == 3) && (( c19.1.N == (-2)) && (( c19.1.M == 4) && true)))))))) && (c19.2.1 == 6)) && (c19.2.2 == 0)) = true then (z0 (⟨(8 : UInt8), (0 : UInt8), 1, 2, 3, (-2), 4⟩ : za)).bind fun c39 => some (c39 == 5) else some false)).bind fun c36 => ((if c36 = true then (zn (⟨(0 : UInt8), (0 : UInt8), 0, 0, 0, 0, 0⟩ : za)).bind fun c46 => some (!c46) else some false)).bind fun c43 => some c43
def zf (p0 : Int) : Option (ByteArray × Bool) :=
  (if ((decide (p0 < 1)) || (decide ((IntKind.i64.wrap p0) > (([(⟨#[]⟩ : ByteArray), (⟨#[114, 110]⟩ : ByteArray), (⟨#[97]⟩ : ByteArray), (⟨#[111, 97, 116]⟩ : ByteArray), (⟨#[111, 97]⟩ : ByteArray), (⟨#[97, 110]⟩ : ByteArray), (⟨#[97, 110]⟩ : ByteArray), (⟨#[97, 116, 110, 109]⟩ : ByteArray), (⟨#[97, 116, 110, 109]⟩ : ByteArray), (⟨#[106]⟩ : ByteArray), (⟨#[114, 106]⟩ : ByteArray), (⟨#[106]⟩ : ByteArray), (⟨#[]⟩ : ByteArray), (⟨#[110]⟩ : ByteArray), (⟨#[114]⟩ : ByteArray), (⟨#[114]⟩ : ByteArray), (⟨#[114]⟩ : ByteArray), (⟨#[107]⟩ : ByteArray)] : List ByteArray).length : Int)))) = true then some ((⟨#[]⟩ : ByteArray), false) else (getI ([(⟨#[]⟩ : ByteArray), (⟨#[114, 110]⟩ : ByteArray), (⟨#[97]⟩ : ByteArray), (⟨#[111, 97, 116]⟩ : ByteArray), (⟨#[111, 97]⟩ : ByteArray), (⟨#[97, 110]⟩ : ByteArray), (⟨#[97, 110]⟩ : ByteArray), (⟨#[97, 116, 110, 109]⟩ : ByteArray), (⟨#[97, 116, 110, 109]⟩ : ByteArray), (⟨#[106]⟩ : ByteArray), (⟨#[114, 106]⟩ : ByteArray), (⟨#[106]⟩ : ByteArray), (⟨#[]⟩ : ByteArray), (⟨#[110]⟩ : ByteArray), (⟨#[114]⟩ : ByteArray), (⟨#[114]⟩ : ByteArray), (⟨#[114]⟩ : ByteArray), (⟨#[107]⟩ : ByteArray)] : List ByteArray) (IntKind.u8.wrap (p0 - 1))).bind fun y7 => some (y7, true))
def zx (p0 : Int) (p1 : Bool) : Option Bool :=
  ((if (p0 == 0) = true then some true else (if p1 = true then (if (decide (p0 > 0)) = true then some (decide (p0 < 16)) else some false) else (if false = true then some (decide (p0 < 16)) else some false)))).bind fun c3 => some c3
def zby (rec4 : Int → Option Bool) (p0 : ByteArray) (p1 : Int) (x7 : Int) : Option Bool :=
  (if (decide (x7 < (p0.size : Int))) = true then (getS p0 x7).bind fun y14 => (if ((y14.toNat : Int) == p1) = true then some true else rec4 (IntKind.i64.wrap (x7 + 1))) else some false)
def zb0 (p0 : ByteArray) (p1 : Int) : Nat → Int → Option Bool
  | 0, _ => none
  | n + 1, x7 => zby (zb0 p0 p1 n) p0 p1 x7
def zb (p0 : ByteArray) (p1 : Int) : Option Bool :=
  zb0 p0 p1 big 0
def zg (p0 : za) (c3 : ByteArray × Bool) : Option Bool :=
  (if ((p0.Kind.toNat : Int) == 2) = true then some true else (zb c3.1 110).bind fun c73 => (if c73 = true then some ((decide (p0.N ≥ (-65536))) && (decide (p0.N ≤ 65536))) else (zb c3.1 106).bind fun c78 => (if c78 = true then some ((decide (p0.N ≥ 0)) && (decide (p0.N < 16777216))) else (zb c3.1 107).bind fun c83 => (if c83 = true then some ((decide (p0.N ≥ 2)) && (decide (p0.N ≤ 4))) else some (p0.N == 0)))))
def ze (p0 : za) : Option Bool :=
  (zf (p0.Kind.toNat : Int)).bind fun c3 => ((if (!c3.2) = true then some true else (zb c3.1 114).bind fun c10 => (if c10 = true then (zx p0.R true).bind fun c15 => some (!c15) else (zb c3.1 97).bind fun c19 => (zx p0.R c19).bind fun c23 => some (!c23)))).bind fun c7 => ((if c7 = true then some true else (zb c3.1 97).bind fun c30 => (zx p0.S c30).bind fun c34 => some (!c34))).bind fun c27 => ((if c27 = true then some true else (zb c3.1 116).bind fun c41 => (zx p0.T c41).bind fun c45 => some (!c45))).bind fun c38 => (if c38 = true then some false else (zb c3.1 109).bind fun c50 => ((if c50 = true then (if (decide (p0.M < 1)) = true then some true else some (decide (p0.M > 65536))) else some false)).bind fun c54 => ((if c54 = true then some true else (zb c3.1 109).bind fun c61 => (if (!c61) = true then some (p0.M != 0) else some false))).bind fun c58 => (if c58 = true then some false else (if ((p0.Kind.toNat : Int) == 4) = true then (if ((decide ((p0.Op.toNat : Int) < 1)) || (decide ((p0.Op.toNat : Int) > 13))) = true then some false else zg p0 c3) else (if ((p0.Kind.toNat : Int) == 5) = true then (if (((p0.Op.toNat : Int) != 14) && ((p0.Op.toNat : Int) != 15)) = true then some false else zg p0 c3) else (if ((p0.Op.toNat : Int) != 0) = true then some false else zg p0 c3)))))
def zK (rec4 : (List UInt8) → Int → Option (List UInt8)) (p0 : (List UInt8)) (x17 : List UInt8) (x20 : Int) : Option (List UInt8) :=
  (if (decide (x20 < (p0.length : Int))) = true then (getI p0 x20).bind fun y33 => (room (x17.length + 1)).bind fun _ => rec4 (x17 ++ [y33]) (IntKind.i64.wrap (x20 + 1)) else some x17)
def zW (p0 : (List UInt8)) : Nat → (List UInt8) → Int → Option (List UInt8)
  | 0, _, _ => none
  | n + 1, x17, x20 => zK (zW p0 n) p0 x17 x20
def z1 (p0 : (List UInt8)) : Option (List UInt8) :=
  zW p0 big ([]) 0
def zbr (rec4 : Int → Option (Int × Bool)) (p0 : Int) (p1 : Int) (x5 : Int) : Option (Int × Bool) :=
  (if (decide (x5 < 256)) = true then (if (((IntKind.i64.wrap (Int.tdiv x5 16)) == p0) && ((Int.tmod x5 16) == p1)) = true then some ((IntKind.u8.wrap x5), true) else rec4 (IntKind.i64.wrap (x5 + 1))) else some (0, false))
def zca (p0 : Int) (p1 : Int) : Nat → Int → Option (Int × Bool)
  | 0, _ => none
  | n + 1, x5 => zbr (zca p0 p1 n) p0 p1 x5
def zbn (p0 : Int) (p1 : Int) : Option (Int × Bool) :=
  zca p0 p1 big 0
def zb5 (p0 : Int) (p1 : Int) : Option Bool :=
  (if (decide ((IntKind.i64.wrap ((IntKind.i64.wrap (7 * p1)) - 1)) ≥ 63)) = true then some true else (shlO .i64 1 (IntKind.u64.wrap (IntKind.i64.wrap ((IntKind.i64.wrap (7 * p1)) - 1)))).bind fun y4 => ((if (decide (p0 ≥ (IntKind.i64.wrap (0 - y4)))) = true then (shlO .i64 1 (IntKind.u64.wrap (IntKind.i64.wrap ((IntKind.i64.wrap (7 * p1)) - 1)))).bind fun y9 => some (decide (p0 < y9)) else some false)).bind fun c6 => some c6)
def zbA (rec9 : Int → (List UInt8) → Int → Option (List UInt8)) (p3 : Int) (x39 : Int) (x45 : Int) (x69 : Int) (x73 : List UInt8) : Option (List UInt8) :=
  (if (decide (x45 < (IntKind.i64.wrap (p3 - 1)))) = true then (u8o (IntKind.u8.wrap (IntKind.u64.wrap ((Int.tmod x39 128) + 128)))).bind fun z76 => (room (x73.length + 1)).bind fun _ => rec9 x69 (x73 ++ [z76]) (IntKind.i64.wrap (x45 + 1)) else (u8o (IntKind.u8.wrap (Int.tmod x39 128))).bind fun z81 => (room (x73.length + 1)).bind fun _ => rec9 x69 (x73 ++ [z81]) (IntKind.i64.wrap (x45 + 1)))
def zbb (rec9 : Int → (List UInt8) → Int → Option (List UInt8)) (p2 : Bool) (p3 : Int) (x39 : Int) (x43 : List UInt8) (x45 : Int) : Option (List UInt8) :=
  (if (decide (x45 < p3)) = true then (if p2 = true then zbA rec9 p3 x39 x45 (orI .u64 (IntKind.u64.wrap (Int.tdiv x39 128)) 18302628885633695744) x43 else zbA rec9 p3 x39 x45 (IntKind.u64.wrap (Int.tdiv x39 128)) x43) else some x43)
def zD (p2 : Bool) (p3 : Int) : Nat → Int → (List UInt8) → Int → Option (List UInt8)
  | 0, _, _, _ => none
  | n + 1, x39, x43, x45 => zbb (zD p2 p3 n) p2 p3 x39 x43 x45
def zY (p0 : (List UInt8)) (p1 : Int) (p2 : Bool) (p3 : Int) : Option (List UInt8) :=
  (z1 p0).bind fun c5 => zD p2 p3 big p1 c5 0
def zce (rec4 : Int → Option (List UInt8)) (p0 : (List UInt8)) (p1 : Int) (x19 : Int) : Option (List UInt8) :=
  (zb5 p1 x19).bind fun c35 => (if (!c35) = true then rec4 (IntKind.i64.wrap (x19 + 1)) else (zY p0 (IntKind.u64.wrap p1) (decide (p1 < 0)) x19).bind fun c40 => some c40)
def zbc (p0 : (List UInt8)) (p1 : Int) : Nat → Int → Option (List UInt8)
  | 0, _ => none
  | n + 1, x19 => zce (zbc p0 p1 n) p0 p1 x19
def zJ (p0 : (List UInt8)) (p1 : Int) : Option (List UInt8) :=
  zbc p0 p1 big 1
def zbI (p0 : Int) (p1 : Int) : Option Bool :=
  ((if (decide ((IntKind.i64.wrap (7 * p1)) ≥ 64)) = true then some true else (shlO .u64 1 (IntKind.u64.wrap (IntKind.i64.wrap (7 * p1)))).bind fun y6 => some (decide (p0 < y6)))).bind fun c3 => some c3
def zbC (rec4 : Int → Option (List UInt8)) (p0 : (List UInt8)) (p1 : Int) (x19 : Int) : Option (List UInt8) :=
  (zbI p1 x19).bind fun c35 => (if (!c35) = true then rec4 (IntKind.i64.wrap (x19 + 1)) else (zY p0 p1 false x19).bind fun c40 => some c40)
def zbZ (p0 : (List UInt8)) (p1 : Int) : Nat → Int → Option (List UInt8)
  | 0, _ => none
  | n + 1, x19 => zbC (zbZ p0 p1 n) p0 p1 x19
def zZ (p0 : (List UInt8)) (p1 : Int) : Option (List UInt8) :=
  zbZ p0 p1 big 1
def zbf (p0 : (List UInt8)) (p1 : Int) : Option ((List UInt8) × Int) :=
  (if ((decide (p1 < 0)) || (decide (p1 ≥ 16777216))) = true then some ([], 1) else (room (([] : List UInt8).length + p0.length)).bind fun _ => (u8o (IntKind.u8.wrap (IntKind.i64.wrap (Int.tdiv p1 65536)))).bind fun z12 => (u8o (IntKind.u8.wrap (Int.tmod (IntKind.i64.wrap (Int.tdiv p1 256)) 256))).bind fun z13 => (u8o (IntKind.u8.wrap (Int.tmod p1 256))).bind fun z14 => (room ((([] : List UInt8) ++ p0).length + ([z12, z13, z14] : List UInt8).length)).bind fun _ => some (((([] : List UInt8) ++ p0) ++ ([z12, z13, z14] : List UInt8)), 0))
def zcy (rec19 : (List UInt8) → Int → Option (List UInt8)) (x332 : Int) (x779 : List UInt8) : Option (List UInt8) :=
  rec19 x779 (IntKind.i64.wrap (x332 + 1))
def zp (rec19 : (List UInt8) → Int → Option (List UInt8)) (x332 : Int) (x855 : List UInt8) : Option (List UInt8) :=
  zcy rec19 x332 x855
def zb7 (rec19 : (List UInt8) → Int → Option (List UInt8)) (p1 : za) (c22 : ByteArray × Bool) (x330 : List UInt8) (x332 : Int) : Option (List UInt8) :=
  (if (decide (x332 < (c22.1.size : Int))) = true then (getS c22.1 x332).bind fun y781 => (if ((y781.toNat : Int) == 111) = true then (room (x330.length + 1)).bind fun _ => zp rec19 x332 (x330 ++ [p1.Op]) else (if ((y781.toNat : Int) == 114) = true then (u8o (IntKind.u8.wrap p1.R)).bind fun z863 => (room (x330.length + 1)).bind fun _ => zp rec19 x332 (x330 ++ [z863]) else (if ((y781.toNat : Int) == 97) = true then (zbn p1.R p1.S).bind fun c869 => (u8o c869.1).bind fun z873 => (room (x330.length + 1)).bind fun _ => zp rec19 x332 (x330 ++ [z873]) else (if ((y781.toNat : Int) == 116) = true then (u8o (IntKind.u8.wrap p1.T)).bind fun z879 => (room (x330.length + 1)).bind fun _ => zp rec19 x332 (x330 ++ [z879]) else (if ((y781.toNat : Int) == 110) = true then (zJ x330 p1.N).bind fun c887 => zp rec19 x332 c887 else (if ((y781.toNat : Int) == 109) = true then (zZ x330 (IntKind.u64.wrap p1.M)).bind fun c899 => zp rec19 x332 c899 else (if ((y781.toNat : Int) == 106) = true then (zbf x330 p1.N).bind fun c911 => zp rec19 x332 c911.1 else (if ((y781.toNat : Int) == 107) = true then (u8o (IntKind.u8.wrap p1.N)).bind fun z921 => (room (x330.length + 1)).bind fun _ => zp rec19 x332 (x330 ++ [z921]) else zp rec19 x332 x330)))))))) else some x330)
def zz (p1 : za) (c22 : ByteArray × Bool) : Nat → (List UInt8) → Int → Option (List UInt8)
  | 0, _, _ => none
  | n + 1, x330, x332 => zb7 (zz p1 c22 n) p1 c22 x330 x332
def z2 (p0 : (List UInt8)) (p1 : za) : Option (List UInt8) :=
  (z1 p0).bind fun c4 => (ze (⟨p1.Kind, p1.Op, p1.R, p1.S, p1.T, p1.N, p1.M⟩ : za)).bind fun c13 => (if (!c13) = true then some c4 else (room (c4.length + 1)).bind fun _ => (zf (p1.Kind.toNat : Int)).bind fun c22 => zz p1 c22 big (c4 ++ [p1.Kind]) 0)
def zbh (rec4 : Int → Option Bool) (p1 : (List UInt8)) (y4 : (List UInt8)) (x27 : Int) : Option Bool :=
  (if (decide (x27 < (y4.length : Int))) = true then (getI y4 x27).bind fun y44 => (if (decide (x27 < (p1.length : Int))) = true then (getI p1 x27).bind fun y50 => (if ((y44.toNat : Int) != (y50.toNat : Int)) = true then some false else rec4 (IntKind.i64.wrap (x27 + 1))) else (if ((y44.toNat : Int) != (IntKind.u8.wrap (IntKind.i64.wrap ((IntKind.i64.wrap (8 + (p1.length : Int))) - x27)))) = true then some false else rec4 (IntKind.i64.wrap (x27 + 1)))) else some true)
def zb6 (p1 : (List UInt8)) (y4 : (List UInt8)) : Nat → Int → Option Bool
  | 0, _ => none
  | n + 1, x27 => zbh (zb6 p1 y4 n) p1 y4 x27
def zbd (p0 : (List UInt8)) (q0 : (List UInt8)) (p1 : (List UInt8)) : Option Bool :=
  (if (((p0.length : Int) != (p1.length : Int)) || (decide ((q0.length : Int) < (IntKind.i64.wrap ((p0.length : Int) + 8))))) = true then some false else (cutI q0 0 (IntKind.i64.wrap ((p0.length : Int) + 8))).bind fun y4 => zb6 p1 y4 big 0)
def zI (p0 : (List UInt8)) (p1 : Int) (p2 : Int) : Option Int :=
  (if ((decide (p1 < 0)) || (decide (p1 > (p0.length : Int)))) = true then some 1 else (if (decide ((IntKind.i64.wrap ((p0.length : Int) - p1)) < p2)) = true then some 5 else some 0))
def zC (p0 : (List UInt8)) (p1 : Int) : Option (Int × Int × Int) :=
  (zI p0 p1 1).bind fun c3 => (if (c3 != 0) = true then some (0, 0, c3) else (getI p0 p1).bind fun y8 => some ((y8.toNat : Int), (IntKind.i64.wrap (p1 + 1)), 0))
def zbL (rec4 : Int → Option Int) (p0 : (List UInt8)) (p1 : Int) (x12 : Int) : Option Int :=
  (if ((decide (x12 < 10)) && (decide ((IntKind.i64.wrap (p1 + x12)) < (p0.length : Int)))) = true then (getI p0 (IntKind.i64.wrap (p1 + x12))).bind fun y22 => (if (decide ((y22.toNat : Int) < 128)) = true then some (IntKind.i64.wrap (x12 + 1)) else rec4 (IntKind.i64.wrap (x12 + 1))) else some 0)
def zbq (p0 : (List UInt8)) (p1 : Int) : Nat → Int → Option Int
  | 0, _ => none
  | n + 1, x12 => zbL (zbq p0 p1 n) p0 p1 x12
def zbQ (p0 : (List UInt8)) (p1 : Int) : Option Int :=
  zbq p0 p1 big 0
def zb2 (rec4 : Int → Int → Option Int) (p0 : (List UInt8)) (p1 : Int) (x12 : Int) (x13 : Int) : Option Int :=
  (if (decide (x13 ≥ 0)) = true then (getI p0 (IntKind.i64.wrap (p1 + x13))).bind fun y22 => rec4 (IntKind.u64.wrap ((IntKind.u64.wrap (128 * x12)) + (IntKind.u64.wrap (Int.tmod (y22.toNat : Int) 128)))) (IntKind.i64.wrap (x13 - 1)) else some x12)
def zbF (p0 : (List UInt8)) (p1 : Int) : Nat → Int → Int → Option Int
  | 0, _, _ => none
  | n + 1, x12, x13 => zb2 (zbF p0 p1 n) p0 p1 x12 x13
def zR (p0 : (List UInt8)) (p1 : Int) (p2 : Int) : Option Int :=
  zbF p0 p1 big 0 (IntKind.i64.wrap (p2 - 1))
def zcc (rec4 : Int → Option Bool) (p0 : (List UInt8)) (p1 : Int) (p2 : (List UInt8)) (x21 : Int) : Option Bool :=
  (if (decide (x21 < (p2.length : Int))) = true then (getI p0 (IntKind.i64.wrap (p1 + x21))).bind fun y36 => (getI p2 x21).bind fun y41 => (if ((y36.toNat : Int) != (y41.toNat : Int)) = true then some false else rec4 (IntKind.i64.wrap (x21 + 1))) else some true)
def zbm (p0 : (List UInt8)) (p1 : Int) (p2 : (List UInt8)) : Nat → Int → Option Bool
  | 0, _ => none
  | n + 1, x21 => zcc (zbm p0 p1 p2 n) p0 p1 p2 x21
def zV (p0 : (List UInt8)) (p1 : Int) (p2 : (List UInt8)) : Option Bool :=
  (if (decide ((p2.length : Int) > (IntKind.i64.wrap ((p0.length : Int) - p1)))) = true then some false else zbm p0 p1 p2 big 0)
def z8 (p0 : (List UInt8)) (p1 : Int) (c4 : Int) (x22 : Int) : Option (Int × Int × Int) :=
  (zJ [] (IntKind.i64.wrap x22)).bind fun c23 => (zV p0 p1 c23).bind fun c34 => (if (!c34) = true then some (0, 0, 5) else some ((IntKind.i64.wrap x22), (IntKind.i64.wrap (p1 + c4)), 0))
def zO (p0 : (List UInt8)) (p1 : Int) : Option (Int × Int × Int) :=
  (if ((decide (p1 < 0)) || (decide (p1 > (p0.length : Int)))) = true then some (0, 0, 1) else (zbQ p0 p1).bind fun c4 => (if (c4 == 0) = true then some (0, 0, 5) else (zR p0 p1 c4).bind fun c9 => (getI p0 (IntKind.i64.wrap ((IntKind.i64.wrap (p1 + c4)) - 1))).bind fun y13 => (if ((decide ((y13.toNat : Int) ≥ 64)) && (decide (c4 < 10))) = true then (shlO .u64 1 (IntKind.u64.wrap (IntKind.i64.wrap (7 * c4)))).bind fun y40 => z8 p0 p1 c4 (IntKind.u64.wrap (c9 - y40)) else z8 p0 p1 c4 c9)))
def zT (p0 : (List UInt8)) (p1 : Int) : Option (Int × Int × Int) :=
  (if ((decide (p1 < 0)) || (decide (p1 > (p0.length : Int)))) = true then some (0, 0, 1) else (zbQ p0 p1).bind fun c4 => (zR p0 p1 c4).bind fun c8 => ((if (c4 == 0) = true then some true else (zZ [] c8).bind fun c15 => (zV p0 p1 c15).bind fun c26 => some (!c26))).bind fun c12 => (if c12 = true then some (0, 0, 5) else some (c8, (IntKind.i64.wrap (p1 + c4)), 0)))
def zL (p0 : (List UInt8)) (p1 : Int) : Option (Int × Int × Int) :=
  (zI p0 p1 3).bind fun c3 => (if (c3 != 0) = true then some (0, 0, c3) else (getI p0 p1).bind fun y8 => (getI p0 (IntKind.i64.wrap (p1 + 1))).bind fun y13 => (getI p0 (IntKind.i64.wrap (p1 + 2))).bind fun y18 => some ((IntKind.i64.wrap ((IntKind.i64.wrap ((IntKind.i64.wrap (65536 * (IntKind.i64.wrap (y8.toNat : Int)))) + (IntKind.i64.wrap (256 * (IntKind.i64.wrap (y13.toNat : Int)))))) + (IntKind.i64.wrap (y18.toNat : Int)))), (IntKind.i64.wrap (p1 + 3)), 0))
def zo (rec14 : Int → Int → Int → Int → Int → Int → Int → Int → Option (za × Int × Int)) (x143 : Int) (x320 : Int) (x321 : Int) (x322 : Int) (x323 : Int) (x324 : Int) (x325 : Int) (x326 : Int) (x327 : Int) : Option (za × Int × Int) :=
  (if (x327 != 0) = true then some ((⟨(0 : UInt8), (0 : UInt8), 0, 0, 0, 0, 0⟩ : za), 0, 5) else rec14 x320 x321 x322 x323 x324 x325 x326 (IntKind.i64.wrap (x143 + 1)))
def zcf (rec14 : Int → Int → Int → Int → Int → Int → Int → Int → Option (za × Int × Int)) (p0 : (List UInt8)) (c13 : ByteArray × Bool) (x136 : Int) (x137 : Int) (x138 : Int) (x139 : Int) (x140 : Int) (x141 : Int) (x143 : Int) (x294 : Int) (x295 : Int) (x296 : Int) : Option (za × Int × Int) :=
  (getS c13.1 x143).bind fun y297 => (if ((y297.toNat : Int) == 111) = true then zo rec14 x143 x296 x137 x138 x139 x140 x141 x294 x295 else (if ((y297.toNat : Int) == 114) = true then zo rec14 x143 x136 (IntKind.i64.wrap x296) x138 x139 x140 x141 x294 x295 else (if ((y297.toNat : Int) == 97) = true then zo rec14 x143 x136 (IntKind.i64.wrap (IntKind.u8.wrap (Int.tdiv x296 16))) (IntKind.i64.wrap (Int.tmod x296 16)) x139 x140 x141 x294 x295 else (if ((y297.toNat : Int) == 116) = true then zo rec14 x143 x136 x137 x138 (IntKind.i64.wrap x296) x140 x141 x294 x295 else (if ((y297.toNat : Int) == 107) = true then zo rec14 x143 x136 x137 x138 x139 (IntKind.i64.wrap x296) x141 x294 x295 else (if ((y297.toNat : Int) == 110) = true then (zO p0 x294).bind fun c335 => zo rec14 x143 x136 x137 x138 x139 c335.1 x141 c335.2.1 c335.2.2 else (if ((y297.toNat : Int) == 109) = true then (zT p0 x294).bind fun c340 => zo rec14 x143 x136 x137 x138 x139 x140 (IntKind.i64.wrap c340.1) c340.2.1 c340.2.2 else (if ((y297.toNat : Int) == 106) = true then (zL p0 x294).bind fun c345 => zo rec14 x143 x136 x137 x138 x139 c345.1 x141 c345.2.1 c345.2.2 else zo rec14 x143 x136 x137 x138 x139 x140 x141 x294 x295))))))))
def zw (rec14 : Int → Int → Int → Int → Int → Int → Int → Int → Option (za × Int × Int)) (p0 : (List UInt8)) (p1 : Int) (y7 : UInt8) (c13 : ByteArray × Bool) (x136 : Int) (x137 : Int) (x138 : Int) (x139 : Int) (x140 : Int) (x141 : Int) (x142 : Int) (x143 : Int) : Option (za × Int × Int) :=
  (if (decide (x143 < (c13.1.size : Int))) = true then (getS c13.1 x143).bind fun y266 => ((if ((y266.toNat : Int) == 111) = true then some true else (getS c13.1 x143).bind fun y271 => some ((y271.toNat : Int) == 114))).bind fun c268 => ((if c268 = true then some true else (getS c13.1 x143).bind fun y276 => some ((y276.toNat : Int) == 97))).bind fun c273 => ((if c273 = true then some true else (getS c13.1 x143).bind fun y281 => some ((y281.toNat : Int) == 116))).bind fun c278 => ((if c278 = true then some true else (getS c13.1 x143).bind fun y286 => some ((y286.toNat : Int) == 107))).bind fun c283 => (if c283 = true then (zC p0 x142).bind fun c350 => zcf rec14 p0 c13 x136 x137 x138 x139 x140 x141 x143 c350.2.1 c350.2.2 c350.1 else zcf rec14 p0 c13 x136 x137 x138 x139 x140 x141 x143 x142 0 0) else (u8o x136).bind fun z354 => (ze (⟨y7, z354, x137, x138, x139, x140, x141⟩ : za)).bind fun c355 => ((if ((!c355) || (decide (x142 > (p0.length : Int)))) = true then some true else (cutI p0 p1 x142).bind fun y362 => (u8o x136).bind fun z367 => (z2 [] (⟨y7, z367, x137, x138, x139, x140, x141⟩ : za)).bind fun c368 => (zcp c368 y362).bind fun c379 => some (!c379))).bind fun c359 => (if c359 = true then some ((⟨(0 : UInt8), (0 : UInt8), 0, 0, 0, 0, 0⟩ : za), 0, 5) else (u8o x136).bind fun z384 => some ((⟨y7, z384, x137, x138, x139, x140, x141⟩ : za), x142, 0)))
def zl (p0 : (List UInt8)) (p1 : Int) (y7 : UInt8) (c13 : ByteArray × Bool) : Nat → Int → Int → Int → Int → Int → Int → Int → Int → Option (za × Int × Int)
  | 0, _, _, _, _, _, _, _, _ => none
  | n + 1, x136, x137, x138, x139, x140, x141, x142, x143 => zw (zl p0 p1 y7 c13 n) p0 p1 y7 c13 x136 x137 x138 x139 x140 x141 x142 x143
def zy (p0 : (List UInt8)) (p1 : Int) : Option (za × Int × Int) :=
  (if ((decide (p1 < 0)) || (decide (p1 > (p0.length : Int)))) = true then some ((⟨(0 : UInt8), (0 : UInt8), 0, 0, 0, 0, 0⟩ : za), 0, 1) else (if (p1 == (p0.length : Int)) = true then some ((⟨(0 : UInt8), (0 : UInt8), 0, 0, 0, 0, 0⟩ : za), 0, 5) else (getI p0 p1).bind fun y7 => (zf (y7.toNat : Int)).bind fun c13 => zl p0 p1 y7 c13 big 0 0 0 0 0 0 (IntKind.i64.wrap (p1 + 1)) 0))
def zcF (p0 : (List UInt8)) (p1 : Int) : Option Bool :=
  (if (decide ((p0.length : Int) > 65536)) = true then (zQ ).bind fun c4 => some c4 else (zcL p0).bind fun c8 => (zr c8.1 p1).bind fun c19 => (zy p0 p1).bind fun c24 => ((if (((( (c19.1.Kind.toNat : Int) == (c24.1.Kind.toNat : Int)) && (( (c19.1.Op.toNat : Int) == (c24.1.Op.toNat : Int)) && (( c19.1.R == c24.1.R) && (( c19.1.S == c24.1.S) && (( c19.1.T == c24.1.T) && (( c19.1.N == c24.1.N) && (( c19.1.M == c24.1.M) && true))))))) && (c19.2.1 == c24.2.1)) && (c19.2.2 == c24.2.2)) = true then (zbd c8.1 c8.2 p0).bind fun c32 => some c32 else some false)).bind fun c29 => ((if c29 = true then (zQ ).bind fun c39 => some c39 else some false)).bind fun c36 => some c36)
end Go.Proofs.Ytnaafaopdefigaa
