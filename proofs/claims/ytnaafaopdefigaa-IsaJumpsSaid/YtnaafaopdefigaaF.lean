import Derived.Test.YtnaafaopdefigaaAd
import Derived.Test.YtnaafaopdefigaaFM
namespace Go.Proofs.Ytnaafaopdefigaa
open Go.Ab Go.RowKit
set_option linter.unusedVariables false
set_option linter.unusedSimpArgs false
set_option maxRecDepth 10000
structure S_api_Instr where
  Kind : UInt8
  Op : UInt8
  R : Int
  S : Int
  T : Int
  N : Int
  M : Int
  deriving DecidableEq
inductive D_isa_part where
  | c_one_1
  | c_both_1
  | c_op_1 (x0 : Int) (x1 : Int)
  | c_third_1
  | c_bound_1
  | c_to_1
  | c_how_1
  | c_parts_1
  | c_within
def RD_isa_part (σ : Hp) (x : D_isa_part) (u0 u1 u2 : Value) : Prop := match x with
  | .c_one_1 => ∃ a1_0 a2_0, u0 = .func (.func 57) #[] #[] ∧ u1 = .func (.func 89) #[] #[.pointer (some a1_0)] ∧ u2 = .func (.func 90) #[] #[.pointer (some a2_0)] ∧ At σ a1_0 [.func (.func 59) #[] #[]] ∧ At σ a2_0 [.func (.func 60) #[] #[]]
  | .c_both_1 => ∃ a1_0 a2_0, u0 = .func (.func 65) #[] #[] ∧ u1 = .func (.func 89) #[] #[.pointer (some a1_0)] ∧ u2 = .func (.func 90) #[] #[.pointer (some a2_0)] ∧ At σ a1_0 [.func (.func 66) #[] #[]] ∧ At σ a2_0 [.func (.func 68) #[] #[]]
  | .c_op_1 x0 x1 => ∃ a0_0 a0_1 a1_0 a2_0, u0 = .func (.func 70) #[] #[.pointer (some a0_0), .pointer (some a0_1)] ∧ u1 = .func (.func 89) #[] #[.pointer (some a1_0)] ∧ u2 = .func (.func 90) #[] #[.pointer (some a2_0)] ∧ At σ a0_0 [.int .u8 x0] ∧ At σ a0_1 [.int .u8 x1] ∧ At σ a1_0 [.func (.func 71) #[] #[]] ∧ At σ a2_0 [.func (.func 72) #[] #[]]
  | .c_third_1 => ∃ a1_0 a2_0, u0 = .func (.func 73) #[] #[] ∧ u1 = .func (.func 89) #[] #[.pointer (some a1_0)] ∧ u2 = .func (.func 90) #[] #[.pointer (some a2_0)] ∧ At σ a1_0 [.func (.func 74) #[] #[]] ∧ At σ a2_0 [.func (.func 75) #[] #[]]
  | .c_bound_1 => u0 = .func (.func 76) #[] #[] ∧ u1 = .func (.func 77) #[] #[] ∧ u2 = .func (.func 79) #[] #[]
  | .c_to_1 => u0 = .func (.func 81) #[] #[] ∧ u1 = .func (.func 82) #[] #[] ∧ u2 = .func (.func 84) #[] #[]
  | .c_how_1 => ∃ a1_0 a2_0, u0 = .func (.func 86) #[] #[] ∧ u1 = .func (.func 89) #[] #[.pointer (some a1_0)] ∧ u2 = .func (.func 90) #[] #[.pointer (some a2_0)] ∧ At σ a1_0 [.func (.func 87) #[] #[]] ∧ At σ a2_0 [.func (.func 88) #[] #[]]
  | .c_parts_1 => u0 = .func (.func 46) #[] #[] ∧ u1 = .func (.func 61) #[] #[] ∧ u2 = .func (.func 63) #[] #[]
  | .c_within => u0 = .func (.func 52) #[] #[] ∧ u1 = .func (.func 61) #[] #[] ∧ u2 = .func (.func 63) #[] #[]
theorem RD_isa_part.le {σ σ' : Hp} {x : D_isa_part} {u0 u1 u2 : Value} (h : RD_isa_part σ x u0 u1 u2) (hle : Hp.le σ σ') : RD_isa_part σ' x u0 u1 u2 := by
  cases x with
  | c_one_1 => obtain ⟨a1_0, a2_0, rfl, rfl, rfl, m0, m1⟩ := h; exact ⟨a1_0, a2_0, rfl, rfl, rfl, m0.le hle, m1.le hle⟩
  | c_both_1 => obtain ⟨a1_0, a2_0, rfl, rfl, rfl, m0, m1⟩ := h; exact ⟨a1_0, a2_0, rfl, rfl, rfl, m0.le hle, m1.le hle⟩
  | c_op_1 _ _ => obtain ⟨a0_0, a0_1, a1_0, a2_0, rfl, rfl, rfl, m0, m1, m2, m3⟩ := h; exact ⟨a0_0, a0_1, a1_0, a2_0, rfl, rfl, rfl, m0.le hle, m1.le hle, m2.le hle, m3.le hle⟩
  | c_third_1 => obtain ⟨a1_0, a2_0, rfl, rfl, rfl, m0, m1⟩ := h; exact ⟨a1_0, a2_0, rfl, rfl, rfl, m0.le hle, m1.le hle⟩
  | c_bound_1 => obtain ⟨rfl, rfl, rfl⟩ := h; exact ⟨rfl, rfl, rfl⟩
  | c_to_1 => obtain ⟨rfl, rfl, rfl⟩ := h; exact ⟨rfl, rfl, rfl⟩
  | c_how_1 => obtain ⟨a1_0, a2_0, rfl, rfl, rfl, m0, m1⟩ := h; exact ⟨a1_0, a2_0, rfl, rfl, rfl, m0.le hle, m1.le hle⟩
  | c_parts_1 => obtain ⟨rfl, rfl, rfl⟩ := h; exact ⟨rfl, rfl, rfl⟩
  | c_within => obtain ⟨rfl, rfl, rfl⟩ := h; exact ⟨rfl, rfl, rfl⟩
def TyD_isa_part : Ty D_isa_part where
  sz := 3
  R := fun σ x cs => ∃ f0 a0 c0 f1 a1 c1 f2 a2 c2, cs = [.func f0 a0 c0, .func f1 a1 c1, .func f2 a2 c2] ∧ RD_isa_part σ x (.func f0 a0 c0) (.func f1 a1 c1) (.func f2 a2 c2)
  len := by rintro σ x cs ⟨_, _, _, _, _, _, _, _, _, rfl, _⟩; rfl
  one := by rintro σ x cs ⟨_, _, _, _, _, _, _, _, _, rfl, _⟩; rfl
  mono := by rintro σ σ' x cs hle ⟨_, _, _, _, _, _, _, _, _, rfl, h⟩; exact ⟨_, _, _, _, _, _, _, _, _, rfl, h.le hle⟩
def F_isa_parts_1 (q0 : S_api_Instr) : Option (Bool × S_api_Instr) :=
  some (true, (⟨q0.Kind, q0.Op, q0.R, q0.S, q0.T, q0.N, q0.M⟩ : S_api_Instr))
def F_octet_cut (p0 : (List UInt8)) (p1 : Int) (p2 : Int) : Option ((List UInt8) × Int × Int) :=
  (if ((decide (p1 < 0)) || (decide (p1 > (p0.length : Int)))) = true then some ([], 0, 1) else (cutI p0 p1 (p0.length : Int)).bind fun y5 => (if (decide ((y5.length : Int) ≥ p2)) = true then (cutI y5 0 p2).bind fun y11 => some (y11, (IntKind.i64.wrap (p1 + p2)), 0) else some ([], 0, 5)))
def F_octet_One (p0 : (List UInt8)) (p1 : Int) : Option (Int × Int × Int) :=
  (F_octet_cut p0 p1 1).bind fun c3 => (if (c3.2.2 != 0) = true then some (0, 0, c3.2.2) else (getI c3.1 0).bind fun y12 => some ((y12.toNat : Int), c3.2.1, 0))
def F_isa_reg (p0 : Int) : Option Bool :=
  some ((decide (p0 ≥ 0)) && (decide (p0 < 16)))
def F_isa_one_1 (q0 : S_api_Instr) : Option (Bool × S_api_Instr) :=
  (F_isa_reg q0.R).bind fun c2 => some (c2, (⟨q0.Kind, q0.Op, q0.R, q0.S, q0.T, q0.N, q0.M⟩ : S_api_Instr))
def F_isa_one_2 (q0 : S_api_Instr) : Option (Int × S_api_Instr) :=
  some ((IntKind.u8.wrap q0.R), (⟨q0.Kind, q0.Op, q0.R, q0.S, q0.T, q0.N, q0.M⟩ : S_api_Instr))
def F_isa_one_3 (q0 : S_api_Instr) (p1 : Int) : Option S_api_Instr :=
  some (⟨q0.Kind, q0.Op, (IntKind.i64.wrap p1), q0.S, q0.T, q0.N, q0.M⟩ : S_api_Instr)
def F_isa_single_sone_1_one_2_one_3  : Option D_isa_part :=
  some D_isa_part.c_one_1
def F_isa_one  : Option D_isa_part :=
  (F_isa_single_sone_1_one_2_one_3 ).bind fun c2 => some c2
def F_slices_Clone_Sbyte_byte (p0 : (List UInt8)) : Option (List UInt8) := (room p0.length).bind fun _ => some p0
def F_isa_number_2 (p0 : (List UInt8)) (p1 : Int) (q2 : S_api_Instr) : Option (Int × Bool × S_api_Instr) :=
  (F_leb_S p0 p1).bind fun c4 => some (c4.2.1, (c4.2.2 == 0), (⟨q2.Kind, q2.Op, q2.R, q2.S, q2.T, c4.1, q2.M⟩ : S_api_Instr))
def F_isa_both_1 (q0 : S_api_Instr) : Option (Bool × S_api_Instr) :=
  (F_isa_reg q0.R).bind fun c2 => ((if c2 = true then (F_isa_reg q0.S).bind fun c9 => some c9 else some false)).bind fun c6 => some (c6, (⟨q0.Kind, q0.Op, q0.R, q0.S, q0.T, q0.N, q0.M⟩ : S_api_Instr))
def F_octet_Pair (p0 : Int) (p1 : Int) : Option (Int × Bool) :=
  (if ((((decide (p0 < 0)) || (decide (p0 ≥ 16))) || (decide (p1 < 0))) || (decide (p1 ≥ 16))) = true then some (0, false) else some ((IntKind.u8.wrap (orI .i64 (shlI .i64 p0 4) p1)), true))
def F_isa_both_2 (q0 : S_api_Instr) : Option (Int × S_api_Instr) :=
  (F_octet_Pair q0.R q0.S).bind fun c2 => some (c2.1, (⟨q0.Kind, q0.Op, q0.R, q0.S, q0.T, q0.N, q0.M⟩ : S_api_Instr))
def F_octet_Halves (p0 : Int) : Option (Int × Int) :=
  some ((IntKind.i64.wrap (shrI .u8 p0 4)), (IntKind.i64.wrap (andI .u8 p0 15)))
def F_isa_both_3 (q0 : S_api_Instr) (p1 : Int) : Option S_api_Instr :=
  (F_octet_Halves p1).bind fun c3 => some (⟨q0.Kind, q0.Op, c3.1, c3.2, q0.T, q0.N, q0.M⟩ : S_api_Instr)
def F_isa_single_sboth_1_both_2_both_3  : Option D_isa_part :=
  some D_isa_part.c_both_1
def F_isa_both  : Option D_isa_part :=
  (F_isa_single_sboth_1_both_2_both_3 ).bind fun c2 => some c2
def F_isa_op_2 (q0 : S_api_Instr) : Option (Int × S_api_Instr) :=
  some ((q0.Op.toNat : Int), (⟨q0.Kind, q0.Op, q0.R, q0.S, q0.T, q0.N, q0.M⟩ : S_api_Instr))
def F_isa_op_3 (q0 : S_api_Instr) (p1 : Int) : Option S_api_Instr :=
  (u8o p1).bind fun z3 => some (⟨q0.Kind, z3, q0.R, q0.S, q0.T, q0.N, q0.M⟩ : S_api_Instr)
def F_isa_single_sop_1_u8_u8_op_2_op_3 (q0_0 : Int) (q0_1 : Int) : Option D_isa_part :=
  some (D_isa_part.c_op_1 q0_0 q0_1)
def F_isa_op (p0 : Int) (p1 : Int) : Option D_isa_part :=
  (F_isa_single_sop_1_u8_u8_op_2_op_3 p0 p1).bind fun c10 => some c10
def F_isa_third_1 (q0 : S_api_Instr) : Option (Bool × S_api_Instr) :=
  (F_isa_reg q0.T).bind fun c2 => some (c2, (⟨q0.Kind, q0.Op, q0.R, q0.S, q0.T, q0.N, q0.M⟩ : S_api_Instr))
def F_isa_third_2 (q0 : S_api_Instr) : Option (Int × S_api_Instr) :=
  some ((IntKind.u8.wrap q0.T), (⟨q0.Kind, q0.Op, q0.R, q0.S, q0.T, q0.N, q0.M⟩ : S_api_Instr))
def F_isa_third_3 (q0 : S_api_Instr) (p1 : Int) : Option S_api_Instr :=
  some (⟨q0.Kind, q0.Op, q0.R, q0.S, (IntKind.i64.wrap p1), q0.N, q0.M⟩ : S_api_Instr)
def F_isa_single_sthird_1_third_2_third_3  : Option D_isa_part :=
  some D_isa_part.c_third_1
def F_isa_third  : Option D_isa_part :=
  (F_isa_single_sthird_1_third_2_third_3 ).bind fun c2 => some c2
def F_isa_within (q0 : S_api_Instr) : Option (Bool × S_api_Instr) :=
  some (((decide (q0.N ≥ (-65536))) && (decide (q0.N ≤ 65536))), (⟨q0.Kind, q0.Op, q0.R, q0.S, q0.T, q0.N, q0.M⟩ : S_api_Instr))
def F_isa_bound_1 (q0 : S_api_Instr) : Option (Bool × S_api_Instr) :=
  some (((decide (q0.M ≥ 1)) && (decide (q0.M ≤ 65536))), (⟨q0.Kind, q0.Op, q0.R, q0.S, q0.T, q0.N, q0.M⟩ : S_api_Instr))
def F_isa_bound_3 (p0 : (List UInt8)) (p1 : Int) (q2 : S_api_Instr) : Option (Int × Bool × S_api_Instr) :=
  (F_leb_U p0 p1).bind fun c4 => some (c4.2.1, (c4.2.2 == 0), (⟨q2.Kind, q2.Op, q2.R, q2.S, q2.T, q2.N, (IntKind.i64.wrap (minI c4.1 16777216))⟩ : S_api_Instr))
def F_isa_bound  : Option D_isa_part :=
  some D_isa_part.c_bound_1
def F_isa_to_1 (q0 : S_api_Instr) : Option (Bool × S_api_Instr) :=
  some (((decide (q0.N ≥ 0)) && (decide (q0.N < 16777216))), (⟨q0.Kind, q0.Op, q0.R, q0.S, q0.T, q0.N, q0.M⟩ : S_api_Instr))
def F_slices_Grow_Sbyte_byte_k3 (p1 : Int) : Option (List UInt8) :=
  (if (decide ((IntKind.i64.wrap (p1 - (IntKind.i64.wrap (0 - 0)))) > 0)) = true then (nneg (IntKind.i64.wrap (p1 - (IntKind.i64.wrap (0 - 0))))).bind fun _ => (room (([] : List UInt8).length + Int.toNat (IntKind.i64.wrap (p1 - (IntKind.i64.wrap (0 - 0)))))).bind fun _ => (cutI (([] : List UInt8) ++ List.replicate (Int.toNat (IntKind.i64.wrap (p1 - (IntKind.i64.wrap (0 - 0))))) (0 : UInt8)) 0 0).bind fun y11 => some y11 else some ([]))
def F_slices_Grow_Sbyte_byte (_n0 : (List UInt8)) (p1 : Int) : Option (List UInt8) :=
  (if (decide (p1 < 0)) = true then none else F_slices_Grow_Sbyte_byte_k3 p1)
def F_slices_Concat_Sbyte_byte_l15B (rec16 : (List UInt8) → Int → Option (List UInt8)) (p0 : (List (List UInt8))) (x204 : List UInt8) (x207 : Int) : Option (List UInt8) :=
  (if (decide (x207 < (p0.length : Int))) = true then (getI p0 x207).bind fun y224 => (room (x204.length + y224.length)).bind fun _ => rec16 (x204 ++ y224) (IntKind.i64.wrap (x207 + 1)) else some x204)
def F_slices_Concat_Sbyte_byte_l15 (p0 : (List (List UInt8))) : Nat → (List UInt8) → Int → Option (List UInt8)
  | 0, _, _ => none
  | n + 1, x204, x207 => F_slices_Concat_Sbyte_byte_l15B (F_slices_Concat_Sbyte_byte_l15 p0 n) p0 x204 x207
def F_slices_Concat_Sbyte_byte_l13B (rec14 : Int → Int → Option (List UInt8)) (p0 : (List (List UInt8))) (x81 : Int) (x83 : Int) : Option (List UInt8) :=
  (if (decide (x83 < (p0.length : Int))) = true then (getI p0 x83).bind fun y162 => (if (decide ((IntKind.i64.wrap (x81 + (y162.length : Int))) < 0)) = true then none else rec14 (IntKind.i64.wrap (x81 + (y162.length : Int))) (IntKind.i64.wrap (x83 + 1))) else (F_slices_Grow_Sbyte_byte [] x81).bind fun c172 => F_slices_Concat_Sbyte_byte_l15 p0 big c172 0)
def F_slices_Concat_Sbyte_byte_l13 (p0 : (List (List UInt8))) : Nat → Int → Int → Option (List UInt8)
  | 0, _, _ => none
  | n + 1, x81, x83 => F_slices_Concat_Sbyte_byte_l13B (F_slices_Concat_Sbyte_byte_l13 p0 n) p0 x81 x83
def F_slices_Concat_Sbyte_byte (p0 : (List (List UInt8))) : Option (List UInt8) :=
  F_slices_Concat_Sbyte_byte_l13 p0 big 0 0
def F_octet_PutPlace_l3B (rec4 : (List UInt8) → Int → Option ((List UInt8) × Int)) (p0 : (List UInt8)) (p1 : Int) (x44 : List UInt8) (x46 : Int) : Option ((List UInt8) × Int) :=
  (if (decide (x46 < 3)) = true then (shrO .i64 p1 (IntKind.i64.wrap (8 * x46))).bind fun y80 => (getI x44 (IntKind.i64.wrap (2 - x46))).bind fun y82 => (u8o (IntKind.u8.wrap y80)).bind fun z89 => rec4 (x44.set (Int.toNat (IntKind.i64.wrap (2 - x46))) z89) (IntKind.i64.wrap (x46 + 1)) else (F_slices_Concat_Sbyte_byte ([p0, x44] : List (List UInt8))).bind fun c101 => some (c101, 0))
def F_octet_PutPlace_l3 (p0 : (List UInt8)) (p1 : Int) : Nat → (List UInt8) → Int → Option ((List UInt8) × Int)
  | 0, _, _ => none
  | n + 1, x44, x46 => F_octet_PutPlace_l3B (F_octet_PutPlace_l3 p0 p1 n) p0 p1 x44 x46
def F_octet_PutPlace (p0 : (List UInt8)) (p1 : Int) : Option ((List UInt8) × Int) :=
  (if ((decide (p1 < 0)) || (decide (p1 ≥ 16777216))) = true then some ([], 1) else F_octet_PutPlace_l3 p0 p1 big ([(0 : UInt8), (0 : UInt8), (0 : UInt8)] : List UInt8) 0)
def F_octet_Place_l3B (rec4 : Int → Int → Option (Int × Int × Int)) (c3 : (List UInt8) × Int × Int) (x18 : Int) (x20 : Int) : Option (Int × Int × Int) :=
  (if (decide (x20 < (c3.1.length : Int))) = true then (getI c3.1 x20).bind fun y29 => rec4 (orI .i64 (shlI .i64 x18 8) (IntKind.i64.wrap (y29.toNat : Int))) (IntKind.i64.wrap (x20 + 1)) else some (x18, c3.2.1, c3.2.2))
def F_octet_Place_l3 (c3 : (List UInt8) × Int × Int) : Nat → Int → Int → Option (Int × Int × Int)
  | 0, _, _ => none
  | n + 1, x18, x20 => F_octet_Place_l3B (F_octet_Place_l3 c3 n) c3 x18 x20
def F_octet_Place (p0 : (List UInt8)) (p1 : Int) : Option (Int × Int × Int) :=
  (F_octet_cut p0 p1 3).bind fun c3 => F_octet_Place_l3 c3 big 0 0
def F_isa_to_3 (p0 : (List UInt8)) (p1 : Int) (q2 : S_api_Instr) : Option (Int × Bool × S_api_Instr) :=
  (F_octet_Place p0 p1).bind fun c4 => some (c4.2.1, (c4.2.2 == 0), (⟨q2.Kind, q2.Op, q2.R, q2.S, q2.T, c4.1, q2.M⟩ : S_api_Instr))
def F_isa_to  : Option D_isa_part :=
  some D_isa_part.c_to_1
def F_isa_how_1 (q0 : S_api_Instr) : Option (Bool × S_api_Instr) :=
  some (((decide (q0.N ≥ 2)) && (decide (q0.N ≤ 4))), (⟨q0.Kind, q0.Op, q0.R, q0.S, q0.T, q0.N, q0.M⟩ : S_api_Instr))
def F_isa_how_2 (q0 : S_api_Instr) : Option (Int × S_api_Instr) :=
  some ((IntKind.u8.wrap q0.N), (⟨q0.Kind, q0.Op, q0.R, q0.S, q0.T, q0.N, q0.M⟩ : S_api_Instr))
def F_isa_how_3 (q0 : S_api_Instr) (p1 : Int) : Option S_api_Instr :=
  some (⟨q0.Kind, q0.Op, q0.R, q0.S, q0.T, (IntKind.i64.wrap p1), q0.M⟩ : S_api_Instr)
def F_isa_single_show_1_how_2_how_3  : Option D_isa_part :=
  some D_isa_part.c_how_1
def F_isa_how  : Option D_isa_part :=
  (F_isa_single_show_1_how_2_how_3 ).bind fun c2 => some c2
def F_isa_number_sparts_1  : Option D_isa_part :=
  some D_isa_part.c_parts_1
def F_isa_number_swithin  : Option D_isa_part :=
  some D_isa_part.c_within
def F_isa_parts_k11 (p0 : Int) (x310 : Bool) : Option ((List D_isa_part) × Bool) :=
  (if x310 = true then (F_isa_one ).bind fun c312 => some (([c312] : List D_isa_part), true) else (if (p0 == 18) = true then (F_isa_how ).bind fun c331 => some (([c331] : List D_isa_part), true) else some ([], false)))
def F_isa_parts_k10 (p0 : Int) (x236 : Bool) : Option ((List D_isa_part) × Bool) :=
  (if x236 = true then (F_isa_to ).bind fun c238 => some (([c238] : List D_isa_part), true) else (if (p0 == 11) = true then (F_isa_one ).bind fun c257 => (F_isa_to ).bind fun c271 => some (([c257, c271] : List D_isa_part), true) else (if (p0 == 14) = true then (F_isa_number_swithin ).bind fun c290 => some (([c290] : List D_isa_part), true) else (if (p0 == 15) = true then F_isa_parts_k11 p0 (p0 == 15) else (if (p0 == 16) = true then F_isa_parts_k11 p0 (p0 == 16) else F_isa_parts_k11 p0 (p0 == 17))))))
def F_isa_parts_k9 (p0 : Int) (x173 : Bool) : Option ((List D_isa_part) × Bool) :=
  (if x173 = true then (F_isa_both ).bind fun c175 => (F_isa_third ).bind fun c189 => (F_isa_number_swithin ).bind fun c203 => (F_isa_bound ).bind fun c217 => some (([c175, c189, c203, c217] : List D_isa_part), true) else (if (p0 == 10) = true then F_isa_parts_k10 p0 (p0 == 10) else F_isa_parts_k10 p0 (p0 == 12)))
def F_isa_parts_k8 (p0 : Int) (x138 : Bool) : Option ((List D_isa_part) × Bool) :=
  (if x138 = true then (F_isa_both ).bind fun c140 => (F_isa_number_swithin ).bind fun c154 => some (([c140, c154] : List D_isa_part), true) else (if (p0 == 8) = true then F_isa_parts_k9 p0 (p0 == 8) else F_isa_parts_k9 p0 (p0 == 9)))
def F_isa_parts_k7 (p0 : Int) (x3 : Bool) : Option ((List D_isa_part) × Bool) :=
  (if x3 = true then some ([], true) else (if (p0 == 2) = true then (F_isa_one ).bind fun c6 => (F_isa_number_sparts_1 ).bind fun c20 => some (([c6, c20] : List D_isa_part), true) else (if (p0 == 3) = true then (F_isa_both ).bind fun c39 => some (([c39] : List D_isa_part), true) else (if (p0 == 4) = true then (F_isa_op 1 13).bind fun c58 => (F_isa_both ).bind fun c72 => (F_isa_third ).bind fun c86 => some (([c58, c72, c86] : List D_isa_part), true) else (if (p0 == 5) = true then (F_isa_op 14 15).bind fun c105 => (F_isa_both ).bind fun c119 => some (([c105, c119] : List D_isa_part), true) else (if (p0 == 6) = true then F_isa_parts_k8 p0 (p0 == 6) else F_isa_parts_k8 p0 (p0 == 7)))))))
def F_isa_parts (p0 : Int) : Option ((List D_isa_part) × Bool) :=
  (if (p0 == 1) = true then F_isa_parts_k7 p0 (p0 == 1) else F_isa_parts_k7 p0 (p0 == 13))
def F_isa_op_1_sf_u8_u8 (q0 : S_api_Instr) (qf0 : Int) (qf1 : Int) : Option (Bool × S_api_Instr) :=
  ((if (decide ((q0.Op.toNat : Int) ≥ qf0)) = true then some (decide ((q0.Op.toNat : Int) ≤ qf1)) else some false)).bind fun c2 => some (c2, (⟨q0.Kind, q0.Op, q0.R, q0.S, q0.T, q0.N, q0.M⟩ : S_api_Instr))
def F_fd_isa_part_0 (x : D_isa_part) (q0 : S_api_Instr) : Option (Bool × S_api_Instr) :=
  match x with
  | .c_one_1 => F_isa_one_1 q0
  | .c_both_1 => F_isa_both_1 q0
  | .c_op_1 x0 x1 => F_isa_op_1_sf_u8_u8 q0 x0 x1
  | .c_third_1 => F_isa_third_1 q0
  | .c_bound_1 => F_isa_bound_1 q0
  | .c_to_1 => F_isa_to_1 q0
  | .c_how_1 => F_isa_how_1 q0
  | .c_parts_1 => F_isa_parts_1 q0
  | .c_within => F_isa_within q0
def F_isa_single_1_w0_sf_one_2 (p0 : (List UInt8)) (q1 : S_api_Instr) : Option ((List UInt8) × S_api_Instr) :=
  (F_isa_one_2 (⟨q1.Kind, q1.Op, q1.R, q1.S, q1.T, q1.N, q1.M⟩ : S_api_Instr)).bind fun c3 => (u8o c3.1).bind fun z7 => (room (p0.length + 1)).bind fun _ => some ((p0 ++ [z7]), (⟨c3.2.Kind, c3.2.Op, c3.2.R, c3.2.S, c3.2.T, c3.2.N, c3.2.M⟩ : S_api_Instr))
def F_isa_single_1_w0_sf_both_2 (p0 : (List UInt8)) (q1 : S_api_Instr) : Option ((List UInt8) × S_api_Instr) :=
  (F_isa_both_2 (⟨q1.Kind, q1.Op, q1.R, q1.S, q1.T, q1.N, q1.M⟩ : S_api_Instr)).bind fun c3 => (u8o c3.1).bind fun z7 => (room (p0.length + 1)).bind fun _ => some ((p0 ++ [z7]), (⟨c3.2.Kind, c3.2.Op, c3.2.R, c3.2.S, c3.2.T, c3.2.N, c3.2.M⟩ : S_api_Instr))
def F_isa_single_1_w0_sf_op_2 (p0 : (List UInt8)) (q1 : S_api_Instr) : Option ((List UInt8) × S_api_Instr) :=
  (F_isa_op_2 (⟨q1.Kind, q1.Op, q1.R, q1.S, q1.T, q1.N, q1.M⟩ : S_api_Instr)).bind fun c3 => (u8o c3.1).bind fun z7 => (room (p0.length + 1)).bind fun _ => some ((p0 ++ [z7]), (⟨c3.2.Kind, c3.2.Op, c3.2.R, c3.2.S, c3.2.T, c3.2.N, c3.2.M⟩ : S_api_Instr))
def F_isa_single_1_w0_sf_third_2 (p0 : (List UInt8)) (q1 : S_api_Instr) : Option ((List UInt8) × S_api_Instr) :=
  (F_isa_third_2 (⟨q1.Kind, q1.Op, q1.R, q1.S, q1.T, q1.N, q1.M⟩ : S_api_Instr)).bind fun c3 => (u8o c3.1).bind fun z7 => (room (p0.length + 1)).bind fun _ => some ((p0 ++ [z7]), (⟨c3.2.Kind, c3.2.Op, c3.2.R, c3.2.S, c3.2.T, c3.2.N, c3.2.M⟩ : S_api_Instr))
def F_isa_bound_2_w0 (p0 : (List UInt8)) (q1 : S_api_Instr) : Option ((List UInt8) × S_api_Instr) :=
  (F_leb_PutU p0 (IntKind.u64.wrap q1.M)).bind fun c5 => some (c5, (⟨q1.Kind, q1.Op, q1.R, q1.S, q1.T, q1.N, q1.M⟩ : S_api_Instr))
def F_isa_to_2_w0 (p0 : (List UInt8)) (q1 : S_api_Instr) : Option ((List UInt8) × S_api_Instr) :=
  (F_octet_PutPlace p0 q1.N).bind fun c5 => some (c5.1, (⟨q1.Kind, q1.Op, q1.R, q1.S, q1.T, q1.N, q1.M⟩ : S_api_Instr))
def F_isa_single_1_w0_sf_how_2 (p0 : (List UInt8)) (q1 : S_api_Instr) : Option ((List UInt8) × S_api_Instr) :=
  (F_isa_how_2 (⟨q1.Kind, q1.Op, q1.R, q1.S, q1.T, q1.N, q1.M⟩ : S_api_Instr)).bind fun c3 => (u8o c3.1).bind fun z7 => (room (p0.length + 1)).bind fun _ => some ((p0 ++ [z7]), (⟨c3.2.Kind, c3.2.Op, c3.2.R, c3.2.S, c3.2.T, c3.2.N, c3.2.M⟩ : S_api_Instr))
def F_isa_number_1_w0 (p0 : (List UInt8)) (q1 : S_api_Instr) : Option ((List UInt8) × S_api_Instr) :=
  (F_leb_PutS p0 q1.N).bind fun c5 => some (c5, (⟨q1.Kind, q1.Op, q1.R, q1.S, q1.T, q1.N, q1.M⟩ : S_api_Instr))
def F_fd_isa_part_1 (x : D_isa_part) (p0 : (List UInt8)) (q1 : S_api_Instr) : Option ((List UInt8) × S_api_Instr) :=
  match x with
  | .c_one_1 => F_isa_single_1_w0_sf_one_2 p0 q1
  | .c_both_1 => F_isa_single_1_w0_sf_both_2 p0 q1
  | .c_op_1 x0 x1 => F_isa_single_1_w0_sf_op_2 p0 q1
  | .c_third_1 => F_isa_single_1_w0_sf_third_2 p0 q1
  | .c_bound_1 => F_isa_bound_2_w0 p0 q1
  | .c_to_1 => F_isa_to_2_w0 p0 q1
  | .c_how_1 => F_isa_single_1_w0_sf_how_2 p0 q1
  | .c_parts_1 => F_isa_number_1_w0 p0 q1
  | .c_within => F_isa_number_1_w0 p0 q1
def F_isa_lay_l3B (rec4 : UInt8 → UInt8 → Int → Int → Int → Int → Int → (List UInt8) → (List D_isa_part) → Int → Option ((List UInt8) × Bool)) (c3 : (List D_isa_part) × Bool) (x60 : UInt8) (x61 : UInt8) (x62 : Int) (x63 : Int) (x64 : Int) (x65 : Int) (x66 : Int) (x70 : List UInt8) (x75 : List D_isa_part) (x77 : Int) : Option ((List UInt8) × Bool) :=
  (if (decide (x77 < (c3.1.length : Int))) = true then (getI x75 x77).bind fun y113 => (F_fd_isa_part_0 y113 (⟨x60, x61, x62, x63, x64, x65, x66⟩ : S_api_Instr)).bind fun c131 => (if (!c131.1) = true then some ([], false) else (F_fd_isa_part_1 y113 x70 (⟨c131.2.Kind, c131.2.Op, c131.2.R, c131.2.S, c131.2.T, c131.2.N, c131.2.M⟩ : S_api_Instr)).bind fun c136 => rec4 c136.2.Kind c136.2.Op c136.2.R c136.2.S c136.2.T c136.2.N c136.2.M c136.1 x75 (IntKind.i64.wrap (x77 + 1))) else some (x70, true))
def F_isa_lay_l3 (c3 : (List D_isa_part) × Bool) : Nat → UInt8 → UInt8 → Int → Int → Int → Int → Int → (List UInt8) → (List D_isa_part) → Int → Option ((List UInt8) × Bool)
  | 0, _, _, _, _, _, _, _, _, _, _ => none
  | n + 1, x60, x61, x62, x63, x64, x65, x66, x70, x75, x77 => F_isa_lay_l3B (F_isa_lay_l3 c3 n) c3 x60 x61 x62 x63 x64 x65 x66 x70 x75 x77
def F_isa_lay (p0 : S_api_Instr) : Option ((List UInt8) × Bool) :=
  (F_isa_parts (p0.Kind.toNat : Int)).bind fun c3 => (if (!c3.2) = true then some ([], false) else F_isa_lay_l3 c3 big p0.Kind p0.Op p0.R p0.S p0.T p0.N p0.M ([p0.Kind] : List UInt8) c3.1 0)
def F_isa_single_2_sf_one_3 (p0 : (List UInt8)) (p1 : Int) (q2 : S_api_Instr) : Option (Int × Bool × S_api_Instr) :=
  (F_octet_One p0 p1).bind fun c4 => (F_isa_one_3 (⟨q2.Kind, q2.Op, q2.R, q2.S, q2.T, q2.N, q2.M⟩ : S_api_Instr) c4.1).bind fun c8 => some (c4.2.1, (c4.2.2 == 0), (⟨c8.Kind, c8.Op, c8.R, c8.S, c8.T, c8.N, c8.M⟩ : S_api_Instr))
def F_isa_single_2_sf_both_3 (p0 : (List UInt8)) (p1 : Int) (q2 : S_api_Instr) : Option (Int × Bool × S_api_Instr) :=
  (F_octet_One p0 p1).bind fun c4 => (F_isa_both_3 (⟨q2.Kind, q2.Op, q2.R, q2.S, q2.T, q2.N, q2.M⟩ : S_api_Instr) c4.1).bind fun c8 => some (c4.2.1, (c4.2.2 == 0), (⟨c8.Kind, c8.Op, c8.R, c8.S, c8.T, c8.N, c8.M⟩ : S_api_Instr))
def F_isa_single_2_sf_op_3 (p0 : (List UInt8)) (p1 : Int) (q2 : S_api_Instr) : Option (Int × Bool × S_api_Instr) :=
  (F_octet_One p0 p1).bind fun c4 => (F_isa_op_3 (⟨q2.Kind, q2.Op, q2.R, q2.S, q2.T, q2.N, q2.M⟩ : S_api_Instr) c4.1).bind fun c8 => some (c4.2.1, (c4.2.2 == 0), (⟨c8.Kind, c8.Op, c8.R, c8.S, c8.T, c8.N, c8.M⟩ : S_api_Instr))
def F_isa_single_2_sf_third_3 (p0 : (List UInt8)) (p1 : Int) (q2 : S_api_Instr) : Option (Int × Bool × S_api_Instr) :=
  (F_octet_One p0 p1).bind fun c4 => (F_isa_third_3 (⟨q2.Kind, q2.Op, q2.R, q2.S, q2.T, q2.N, q2.M⟩ : S_api_Instr) c4.1).bind fun c8 => some (c4.2.1, (c4.2.2 == 0), (⟨c8.Kind, c8.Op, c8.R, c8.S, c8.T, c8.N, c8.M⟩ : S_api_Instr))
def F_isa_single_2_sf_how_3 (p0 : (List UInt8)) (p1 : Int) (q2 : S_api_Instr) : Option (Int × Bool × S_api_Instr) :=
  (F_octet_One p0 p1).bind fun c4 => (F_isa_how_3 (⟨q2.Kind, q2.Op, q2.R, q2.S, q2.T, q2.N, q2.M⟩ : S_api_Instr) c4.1).bind fun c8 => some (c4.2.1, (c4.2.2 == 0), (⟨c8.Kind, c8.Op, c8.R, c8.S, c8.T, c8.N, c8.M⟩ : S_api_Instr))
def F_fd_isa_part_2 (x : D_isa_part) (p0 : (List UInt8)) (p1 : Int) (q2 : S_api_Instr) : Option (Int × Bool × S_api_Instr) :=
  match x with
  | .c_one_1 => F_isa_single_2_sf_one_3 p0 p1 q2
  | .c_both_1 => F_isa_single_2_sf_both_3 p0 p1 q2
  | .c_op_1 x0 x1 => F_isa_single_2_sf_op_3 p0 p1 q2
  | .c_third_1 => F_isa_single_2_sf_third_3 p0 p1 q2
  | .c_bound_1 => F_isa_bound_3 p0 p1 q2
  | .c_to_1 => F_isa_to_3 p0 p1 q2
  | .c_how_1 => F_isa_single_2_sf_how_3 p0 p1 q2
  | .c_parts_1 => F_isa_number_2 p0 p1 q2
  | .c_within => F_isa_number_2 p0 p1 q2
def F_isa_take_l3B (rec4 : UInt8 → UInt8 → Int → Int → Int → Int → Int → Int → Bool → (List D_isa_part) → Int → Option (S_api_Instr × Int × Bool)) (p0 : (List UInt8)) (c10 : (List D_isa_part) × Bool) (x50 : UInt8) (x51 : UInt8) (x52 : Int) (x53 : Int) (x54 : Int) (x55 : Int) (x56 : Int) (x57 : Int) (x58 : Bool) (x62 : List D_isa_part) (x64 : Int) : Option (S_api_Instr × Int × Bool) :=
  (if (decide (x64 < (c10.1.length : Int))) = true then (getI x62 x64).bind fun y91 => (if x58 = true then (F_fd_isa_part_2 y91 p0 x57 (⟨x50, x51, x52, x53, x54, x55, x56⟩ : S_api_Instr)).bind fun c110 => rec4 c110.2.2.Kind c110.2.2.Op c110.2.2.R c110.2.2.S c110.2.2.T c110.2.2.N c110.2.2.M c110.1 c110.2.1 x62 (IntKind.i64.wrap (x64 + 1)) else rec4 x50 x51 x52 x53 x54 x55 x56 x57 x58 x62 (IntKind.i64.wrap (x64 + 1))) else some ((⟨x50, x51, x52, x53, x54, x55, x56⟩ : S_api_Instr), x57, x58))
def F_isa_take_l3 (p0 : (List UInt8)) (c10 : (List D_isa_part) × Bool) : Nat → UInt8 → UInt8 → Int → Int → Int → Int → Int → Int → Bool → (List D_isa_part) → Int → Option (S_api_Instr × Int × Bool)
  | 0, _, _, _, _, _, _, _, _, _, _, _ => none
  | n + 1, x50, x51, x52, x53, x54, x55, x56, x57, x58, x62, x64 => F_isa_take_l3B (F_isa_take_l3 p0 c10 n) p0 c10 x50 x51 x52 x53 x54 x55 x56 x57 x58 x62 x64
def F_isa_take (p0 : (List UInt8)) (p1 : Int) : Option (S_api_Instr × Int × Bool) :=
  (if (decide (p1 ≥ (p0.length : Int))) = true then some ((⟨(0 : UInt8), (0 : UInt8), 0, 0, 0, 0, 0⟩ : S_api_Instr), 0, false) else (getI p0 p1).bind fun y5 => (F_isa_parts (y5.toNat : Int)).bind fun c10 => F_isa_take_l3 p0 c10 big y5 (0 : UInt8) 0 0 0 0 0 (IntKind.i64.wrap (p1 + 1)) c10.2 c10.1 0)
def F_isa_Right (p0 : S_api_Instr) : Option Bool :=
  (F_isa_lay (⟨p0.Kind, p0.Op, p0.R, p0.S, p0.T, p0.N, p0.M⟩ : S_api_Instr)).bind fun c3 => (if (!c3.2) = true then some false else (F_isa_take c3.1 0).bind fun c15 => some (c15.2.2 && (( (c15.1.Kind.toNat : Int) == (p0.Kind.toNat : Int)) && (( (c15.1.Op.toNat : Int) == (p0.Op.toNat : Int)) && (( c15.1.R == p0.R) && (( c15.1.S == p0.S) && (( c15.1.T == p0.T) && (( c15.1.N == p0.N) && (( c15.1.M == p0.M) && true)))))))))
def F_isa_Put (p0 : (List UInt8)) (p1 : S_api_Instr) : Option (List UInt8) :=
  (F_slices_Clone_Sbyte_byte p0).bind fun c4 => (F_isa_Right (⟨p1.Kind, p1.Op, p1.R, p1.S, p1.T, p1.N, p1.M⟩ : S_api_Instr)).bind fun c13 => (if (!c13) = true then some c4 else (F_isa_lay (⟨p1.Kind, p1.Op, p1.R, p1.S, p1.T, p1.N, p1.M⟩ : S_api_Instr)).bind fun c18 => (room (c4.length + c18.1.length)).bind fun _ => some (c4 ++ c18.1))
def F_isa_Size (p0 : S_api_Instr) : Option Int :=
  (F_isa_Put [] (⟨p0.Kind, p0.Op, p0.R, p0.S, p0.T, p0.N, p0.M⟩ : S_api_Instr)).bind fun c3 => some (c3.length : Int)
def F_bytes_Equal (p0 : (List UInt8)) (p1 : (List UInt8)) : Option Bool :=
  some (strEq (⟨p0.toArray⟩ : ByteArray) (⟨p1.toArray⟩ : ByteArray))
def F_isa_Get (p0 : (List UInt8)) (p1 : Int) : Option (S_api_Instr × Int × Int) :=
  (if ((decide (p1 < 0)) || (decide (p1 > (p0.length : Int)))) = true then some ((⟨(0 : UInt8), (0 : UInt8), 0, 0, 0, 0, 0⟩ : S_api_Instr), 0, 1) else (F_isa_take p0 p1).bind fun c5 => ((if (!c5.2.2) = true then some true else (F_isa_Right (⟨c5.1.Kind, c5.1.Op, c5.1.R, c5.1.S, c5.1.T, c5.1.N, c5.1.M⟩ : S_api_Instr)).bind fun c13 => some (!c13))).bind fun c10 => ((if c10 = true then some true else (cutI p0 p1 c5.2.1).bind fun y20 => (F_isa_Put [] (⟨c5.1.Kind, c5.1.Op, c5.1.R, c5.1.S, c5.1.T, c5.1.N, c5.1.M⟩ : S_api_Instr)).bind fun c25 => (F_bytes_Equal c25 y20).bind fun c36 => some (!c36))).bind fun c17 => (if c17 = true then some ((⟨(0 : UInt8), (0 : UInt8), 0, 0, 0, 0, 0⟩ : S_api_Instr), 0, 5) else some ((⟨c5.1.Kind, c5.1.Op, c5.1.R, c5.1.S, c5.1.T, c5.1.N, c5.1.M⟩ : S_api_Instr), c5.2.1, 0)))
def F_law03_works  : Option Bool :=
  (F_isa_Put ([(255 : UInt8)] : List UInt8) (⟨(8 : UInt8), (0 : UInt8), 1, 2, 3, (-2), 4⟩ : S_api_Instr)).bind fun c8 => (F_isa_Get c8 1).bind fun c19 => (F_isa_Right (⟨(8 : UInt8), (0 : UInt8), 1, 2, 3, (-2), 4⟩ : S_api_Instr)).bind fun c24 => ((if (c24 && ((c8.length : Int) == 6)) = true then (getI c8 2).bind fun y31 => some ((y31.toNat : Int) == 18) else some false)).bind fun c28 => ((if (((c28 && (( (c19.1.Kind.toNat : Int) == 8) && (( (c19.1.Op.toNat : Int) == 0) && (( c19.1.R == 1) && (( c19.1.S == 2) && (( c19.1.T == 3) && (( c19.1.N == (-2)) && (( c19.1.M == 4) && true)))))))) && (c19.2.1 == 6)) && (c19.2.2 == 0)) = true then (F_isa_Size (⟨(8 : UInt8), (0 : UInt8), 1, 2, 3, (-2), 4⟩ : S_api_Instr)).bind fun c39 => some (c39 == 5) else some false)).bind fun c36 => ((if c36 = true then (F_isa_Right (⟨(0 : UInt8), (0 : UInt8), 0, 0, 0, 0, 0⟩ : S_api_Instr)).bind fun c46 => some (!c46) else some false)).bind fun c43 => some c43
def F_law03_IsaJumps_k11 (rec9 : (List UInt8) → Int → Option Bool) (p0 : Int) (p1 : Int) (p2 : Int) (x96 : Int) (y177 : UInt8) (y185 : UInt8) (x204 : List UInt8) (x206 : Int) (x207 : Int) : Option Bool :=
  ((if ((decide (p1 ≥ 0)) && (decide (p1 < 16777216))) = true then (getI x204 x96).bind fun y211 => (if ((y211.toNat : Int) != 11) = true then some true else (if (decide (p0 ≥ 0)) = true then some (decide (p0 < 16)) else some false)) else some false)).bind fun c208 => (F_isa_Right (⟨y177, (0 : UInt8), x206, 0, 0, p1, 0⟩ : S_api_Instr)).bind fun c220 => (if (!(c220 == c208)) = true then some false else ((if c208 = true then (F_isa_Right (⟨y185, (0 : UInt8), x207, 0, 0, p2, 0⟩ : S_api_Instr)).bind fun c228 => some c228 else some false)).bind fun c225 => ((if c225 = true then (F_isa_Size (⟨y177, (0 : UInt8), x206, 0, 0, p1, 0⟩ : S_api_Instr)).bind fun c235 => (F_isa_Size (⟨y185, (0 : UInt8), x207, 0, 0, p2, 0⟩ : S_api_Instr)).bind fun c239 => some (c235 != c239) else some false)).bind fun c232 => (if c232 = true then some false else (F_isa_Right (⟨y177, (0 : UInt8), x206, 0, 1, p1, 0⟩ : S_api_Instr)).bind fun c244 => (if c244 = true then some false else rec9 x204 (IntKind.i64.wrap (x96 + 1)))))
def F_law03_IsaJumps_l8B (rec9 : (List UInt8) → Int → Option Bool) (p0 : Int) (p1 : Int) (p2 : Int) (x94 : List UInt8) (x96 : Int) : Option Bool :=
  (if (decide (x96 < (x94.length : Int))) = true then (getI x94 x96).bind fun y177 => (getI x94 x96).bind fun y185 => (getI x94 x96).bind fun y193 => (if ((y193.toNat : Int) == 11) = true then F_law03_IsaJumps_k11 rec9 p0 p1 p2 x96 y177 y185 x94 p0 p0 else F_law03_IsaJumps_k11 rec9 p0 p1 p2 x96 y177 y185 x94 0 0) else (F_law03_works ).bind fun c250 => some c250)
def F_law03_IsaJumps_l8 (p0 : Int) (p1 : Int) (p2 : Int) : Nat → (List UInt8) → Int → Option Bool
  | 0, _, _ => none
  | n + 1, x94, x96 => F_law03_IsaJumps_l8B (F_law03_IsaJumps_l8 p0 p1 p2 n) p0 p1 p2 x94 x96
def F_law03_IsaJumps (p0 : Int) (p1 : Int) (p2 : Int) : Option Bool :=
  F_law03_IsaJumps_l8 p0 p1 p2 big ([(10 : UInt8), (11 : UInt8), (12 : UInt8)] : List UInt8) 0
end Go.Proofs.Ytnaafaopdefigaa
