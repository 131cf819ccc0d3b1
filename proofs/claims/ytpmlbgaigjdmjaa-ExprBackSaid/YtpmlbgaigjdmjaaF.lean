import Derived.Test.YtpmlbgaigjdmjaaAd
import Derived.Test.YtpmlbgaigjdmjaaFM
namespace Go.Proofs.Ytpmlbgaigjdmjaa
open Go.Ab Go.RowKit
set_option linter.unusedVariables false
set_option linter.unusedSimpArgs false
set_option maxRecDepth 10000
structure S_api_Loc where
  Kind : UInt8
  N : Int
  deriving DecidableEq
def TyS_api_Loc : Ty S_api_Loc where
  sz := 2
  R := fun σ x cs => cs = [.int .u8 x.Kind.toNat, .int .i64 x.N]
  len := by rintro σ x cs rfl; rfl
  one := by rintro σ x cs rfl; rfl
  mono := by rintro σ σ' x cs hle rfl; rfl
structure S_expr_word where
  deriving DecidableEq
structure S_expr_add where
  deriving DecidableEq
structure S_expr_neg where
  deriving DecidableEq
inductive I_expr_doer where
  | nil : I_expr_doer
  | c_number (a : Int) : I_expr_doer
  | c_reg (a : Int) : I_expr_doer
  | c_base (a : Int) : I_expr_doer
  | c_word (a : S_expr_word) : I_expr_doer
  | c_add (a : S_expr_add) : I_expr_doer
  | c_neg (a : S_expr_neg) : I_expr_doer
  deriving DecidableEq
def vI_expr_doer : I_expr_doer → Value
  | .nil => .nilIface
  | .c_number a => .iface 86 (.int .i64 a)
  | .c_reg a => .iface 87 (.int .i64 a)
  | .c_base a => .iface 88 (.int .i64 a)
  | .c_word a => .iface 90 (.agg #[])
  | .c_add a => .iface 91 (.agg #[])
  | .c_neg a => .iface 92 (.agg #[])
theorem one_I_expr_doer (x : I_expr_doer) : one (vI_expr_doer x) = true := by cases x <;> rfl
theorem cells_I_expr_doer (x : I_expr_doer) : (vI_expr_doer x).cells.toList = [vI_expr_doer x] := by cases x <;> rfl
def TyI_expr_doer : Ty I_expr_doer where
  sz := 1
  R := fun σ x cs => cs = [vI_expr_doer x]
  len := by rintro σ x cs rfl; rfl
  one := by rintro σ x cs rfl; simp [one_I_expr_doer]
  mono := by rintro σ σ' x cs hle rfl; rfl
structure S_api_View where
  Known : (List Bool)
  Regs : (List Int)
  Base : Int
  Words : (List Int)
  deriving DecidableEq
def TyS_api_View : Ty S_api_View where
  sz := 4
  R := fun σ x cs => ∃ v0 v1 v3, cs = [v0, v1, .int .i64 x.Base, v3] ∧ RdT Ty.bool σ v0 x.Known ∧ RdT (Ty.int .i64) σ v1 x.Regs ∧ RdT (Ty.int .i64) σ v3 x.Words
  len := by rintro σ x cs ⟨v0, v1, v3, rfl, h0, h1, h2⟩; rfl
  one := by rintro σ x cs ⟨v0, v1, v3, rfl, h0, h1, h2⟩; obtain ⟨_, ⟨_, _, rfl, _⟩, _⟩ := h0; obtain ⟨_, ⟨_, _, rfl, _⟩, _⟩ := h1; obtain ⟨_, ⟨_, _, rfl, _⟩, _⟩ := h2; rfl
  mono := by rintro σ σ' x cs hle ⟨v0, v1, v3, rfl, h0, h1, h2⟩; exact ⟨v0, v1, v3, rfl, h0.le hle, h1.le hle, h2.le hle⟩
structure S_expr_stack where
  view : S_api_View
  l : (List Int)
  deriving DecidableEq
def F_expr_made (p0 : S_api_Loc) : Option (I_expr_doer × Bool) :=
  (if ((p0.Kind.toNat : Int) == 1) = true then some ((I_expr_doer.c_number p0.N), true) else (if ((p0.Kind.toNat : Int) == 2) = true then some ((I_expr_doer.c_reg p0.N), ((decide (p0.N ≥ 0)) && (decide (p0.N < 16)))) else (if ((p0.Kind.toNat : Int) == 3) = true then some ((I_expr_doer.c_base p0.N), true) else (if ((p0.Kind.toNat : Int) == 4) = true then some ((I_expr_doer.c_word (⟨⟩ : S_expr_word)), (p0.N == 0)) else (if ((p0.Kind.toNat : Int) == 5) = true then some ((I_expr_doer.c_add (⟨⟩ : S_expr_add)), (p0.N == 0)) else (if ((p0.Kind.toNat : Int) == 6) = true then some ((I_expr_doer.c_neg (⟨⟩ : S_expr_neg)), (p0.N == 0)) else some (I_expr_doer.nil, false)))))))
def F_expr_number_takes (p0 : Int) : Option Int :=
  some 0
def F_expr_reg_takes (p0 : Int) : Option Int :=
  some 0
def F_expr_base_takes (p0 : Int) : Option Int :=
  some 0
def F_expr_word_takes (p0 : S_expr_word) : Option Int :=
  some 1
def F_expr_add_takes (p0 : S_expr_add) : Option Int :=
  some 2
def F_expr_neg_takes (p0 : S_expr_neg) : Option Int :=
  some 1
def F_inv_I_expr_doer_takes (x : I_expr_doer)  : Option Int :=
  match x with
  | .nil => none
  | .c_number a => F_expr_number_takes a
  | .c_reg a => F_expr_reg_takes a
  | .c_base a => F_expr_base_takes a
  | .c_word a => F_expr_word_takes a
  | .c_add a => F_expr_add_takes a
  | .c_neg a => F_expr_neg_takes a
def F_expr_doers_l3B (rec4 : (List I_expr_doer) → Int → Int → Option ((List I_expr_doer) × Bool)) (p0 : (List S_api_Loc)) (x41 : List I_expr_doer) (x43 : Int) (x45 : Int) : Option ((List I_expr_doer) × Bool) :=
  (if (decide (x45 < (p0.length : Int))) = true then (getI p0 x45).bind fun y80 => (F_expr_made (⟨y80.Kind, y80.N⟩ : S_api_Loc)).bind fun c86 => ((if (!c86.2) = true then some true else (F_inv_I_expr_doer_takes c86.1).bind fun c93 => some (decide (c93 > x43)))).bind fun c90 => (if c90 = true then some ([], false) else (F_inv_I_expr_doer_takes c86.1).bind fun c98 => (if (decide ((IntKind.i64.wrap (x43 + (IntKind.i64.wrap (1 - c98)))) > 8)) = true then some ([], false) else (room (x41.length + 1)).bind fun _ => rec4 (x41 ++ [c86.1]) (IntKind.i64.wrap (x43 + (IntKind.i64.wrap (1 - c98)))) (IntKind.i64.wrap (x45 + 1)))) else ((if (decide ((p0.length : Int) ≤ 16)) = true then (if ((p0.length : Int) == 0) = true then some true else some (x43 == 1)) else some false)).bind fun c107 => some (x41, c107))
def F_expr_doers_l3 (p0 : (List S_api_Loc)) : Nat → (List I_expr_doer) → Int → Int → Option ((List I_expr_doer) × Bool)
  | 0, _, _, _ => none
  | n + 1, x41, x43, x45 => F_expr_doers_l3B (F_expr_doers_l3 p0 n) p0 x41 x43 x45
def F_expr_doers (p0 : (List S_api_Loc)) : Option ((List I_expr_doer) × Bool) :=
  F_expr_doers_l3 p0 big ([]) 0 0
def F_expr_Right (p0 : (List S_api_Loc)) : Option Bool :=
  (F_expr_doers p0).bind fun c2 => some c2.2
def F_expr_told (p0 : Int) : Option Bool :=
  some ((decide (p0 ≥ 1)) && (decide (p0 ≤ 3)))
def F_expr_Put_l3B (rec4 : (List UInt8) → Int → Option ((List UInt8) × Int)) (p1 : (List S_api_Loc)) (x53 : List UInt8) (x56 : Int) : Option ((List UInt8) × Int) :=
  (if (decide (x56 < (p1.length : Int))) = true then (getI p1 x56).bind fun y86 => (room (x53.length + 1)).bind fun _ => (F_expr_told (y86.Kind.toNat : Int)).bind fun c96 => (if c96 = true then (F_leb_PutS (x53 ++ [y86.Kind]) y86.N).bind fun c103 => rec4 c103 (IntKind.i64.wrap (x56 + 1)) else rec4 (x53 ++ [y86.Kind]) (IntKind.i64.wrap (x56 + 1))) else some (x53, 0))
def F_expr_Put_l3 (p1 : (List S_api_Loc)) : Nat → (List UInt8) → Int → Option ((List UInt8) × Int)
  | 0, _, _ => none
  | n + 1, x53, x56 => F_expr_Put_l3B (F_expr_Put_l3 p1 n) p1 x53 x56
def F_expr_Put (p0 : (List UInt8)) (p1 : (List S_api_Loc)) : Option ((List UInt8) × Int) :=
  (F_expr_Right p1).bind fun c3 => (if (!c3) = true then some ([], 1) else (F_leb_PutU p0 (IntKind.u64.wrap (p1.length : Int))).bind fun c8 => F_expr_Put_l3 p1 big c8 0)
def F_ref06_Same_l3B (rec4 : Int → Option Bool) (p0 : (List S_api_Loc)) (p1 : (List S_api_Loc)) (x20 : Int) : Option Bool :=
  (if (decide (x20 < (p0.length : Int))) = true then (getI p0 x20).bind fun y35 => (getI p1 x20).bind fun y40 => (if (!(( (y35.Kind.toNat : Int) == (y40.Kind.toNat : Int)) && (( y35.N == y40.N) && true))) = true then some false else rec4 (IntKind.i64.wrap (x20 + 1))) else some true)
def F_ref06_Same_l3 (p0 : (List S_api_Loc)) (p1 : (List S_api_Loc)) : Nat → Int → Option Bool
  | 0, _ => none
  | n + 1, x20 => F_ref06_Same_l3B (F_ref06_Same_l3 p0 p1 n) p0 p1 x20
def F_ref06_Same (p0 : (List S_api_Loc)) (p1 : (List S_api_Loc)) : Option Bool :=
  (if ((p0.length : Int) != (p1.length : Int)) = true then some false else F_ref06_Same_l3 p0 p1 big 0)
def F_expr_Get_l3B (rec4 : (List S_api_Loc) → Int → Int → Option ((List S_api_Loc) × Int × Int)) (p0 : (List UInt8)) (c4 : Int × Int × Int) (x47 : List S_api_Loc) (x49 : Int) (x50 : Int) : Option ((List S_api_Loc) × Int × Int) :=
  (if (decide (x50 < c4.1)) = true then (if (decide (x49 ≥ (p0.length : Int))) = true then some ([], 0, 5) else (getI p0 x49).bind fun y87 => (F_expr_told (y87.toNat : Int)).bind fun c93 => (if c93 = true then (F_leb_S p0 (IntKind.i64.wrap (x49 + 1))).bind fun c98 => (if (c98.2.2 != 0) = true then some ([], 0, 5) else (room (x47.length + 1)).bind fun _ => rec4 (x47 ++ [(⟨y87, c98.1⟩ : S_api_Loc)]) c98.2.1 (IntKind.u64.wrap (x50 + 1))) else (room (x47.length + 1)).bind fun _ => rec4 (x47 ++ [(⟨y87, 0⟩ : S_api_Loc)]) (IntKind.i64.wrap (x49 + 1)) (IntKind.u64.wrap (x50 + 1)))) else (F_expr_Right x47).bind fun c113 => (if (!c113) = true then some ([], 0, 5) else some (x47, x49, 0)))
def F_expr_Get_l3 (p0 : (List UInt8)) (c4 : Int × Int × Int) : Nat → (List S_api_Loc) → Int → Int → Option ((List S_api_Loc) × Int × Int)
  | 0, _, _, _ => none
  | n + 1, x47, x49, x50 => F_expr_Get_l3B (F_expr_Get_l3 p0 c4 n) p0 c4 x47 x49 x50
def F_expr_Get (p0 : (List UInt8)) (p1 : Int) : Option ((List S_api_Loc) × Int × Int) :=
  (if ((decide (p1 < 0)) || (decide (p1 > (p0.length : Int)))) = true then some ([], 0, 1) else (F_leb_U p0 p1).bind fun c4 => (if ((c4.2.2 != 0) || (decide (c4.1 > 16))) = true then some ([], 0, 5) else F_expr_Get_l3 p0 c4 big ([]) c4.2.1 0))
def F_expr_number_lays_op1q4 (p0 : Int) (q1 : S_expr_stack) : Option (Int × Bool × S_expr_stack) :=
  some (p0, true, (⟨(⟨q1.view.Known, q1.view.Regs, q1.view.Base, q1.view.Words⟩ : S_api_View), q1.l⟩ : S_expr_stack))
def F_expr_reg_lays_op1q4 (p0 : Int) (q1 : S_expr_stack) : Option (Int × Bool × S_expr_stack) :=
  ((if (decide (p0 ≥ (q1.view.Known.length : Int))) = true then some true else (getI q1.view.Known p0).bind fun y6 => some (!y6))).bind fun c3 => (if c3 = true then some (0, false, (⟨(⟨q1.view.Known, q1.view.Regs, q1.view.Base, q1.view.Words⟩ : S_api_View), q1.l⟩ : S_expr_stack)) else (if (decide (p0 ≥ (q1.view.Regs.length : Int))) = true then some (0, true, (⟨(⟨q1.view.Known, q1.view.Regs, q1.view.Base, q1.view.Words⟩ : S_api_View), q1.l⟩ : S_expr_stack)) else (getI q1.view.Regs p0).bind fun y13 => some (y13, true, (⟨(⟨q1.view.Known, q1.view.Regs, q1.view.Base, q1.view.Words⟩ : S_api_View), q1.l⟩ : S_expr_stack))))
def F_expr_base_lays_op1q4 (p0 : Int) (q1 : S_expr_stack) : Option (Int × Bool × S_expr_stack) :=
  some ((IntKind.i64.wrap (q1.view.Base + p0)), true, (⟨(⟨q1.view.Known, q1.view.Regs, q1.view.Base, q1.view.Words⟩ : S_api_View), q1.l⟩ : S_expr_stack))
def F_expr_stack_pop_op0q4 (q0 : S_expr_stack) : Option (Int × S_expr_stack) :=
  (getI q0.l (IntKind.i64.wrap ((q0.l.length : Int) - 1))).bind fun y2 => (cutI q0.l 0 (IntKind.i64.wrap ((q0.l.length : Int) - 1))).bind fun y9 => some (y2, (⟨(⟨q0.view.Known, q0.view.Regs, q0.view.Base, q0.view.Words⟩ : S_api_View), y9⟩ : S_expr_stack))
def F_expr_word_lays_op1q4 (p0 : S_expr_word) (q1 : S_expr_stack) : Option (Int × Bool × S_expr_stack) :=
  (F_expr_stack_pop_op0q4 (⟨(⟨q1.view.Known, q1.view.Regs, q1.view.Base, q1.view.Words⟩ : S_api_View), q1.l⟩ : S_expr_stack)).bind fun c4 => (if ((decide (c4.1 < 0)) || (decide (c4.1 ≥ (c4.2.view.Words.length : Int)))) = true then some (0, false, (⟨(⟨c4.2.view.Known, c4.2.view.Regs, c4.2.view.Base, c4.2.view.Words⟩ : S_api_View), c4.2.l⟩ : S_expr_stack)) else (getI c4.2.view.Words c4.1).bind fun y26 => some (y26, true, (⟨(⟨c4.2.view.Known, c4.2.view.Regs, c4.2.view.Base, c4.2.view.Words⟩ : S_api_View), c4.2.l⟩ : S_expr_stack)))
def F_expr_add_lays_op1q4 (p0 : S_expr_add) (q1 : S_expr_stack) : Option (Int × Bool × S_expr_stack) :=
  (F_expr_stack_pop_op0q4 (⟨(⟨q1.view.Known, q1.view.Regs, q1.view.Base, q1.view.Words⟩ : S_api_View), q1.l⟩ : S_expr_stack)).bind fun c4 => (F_expr_stack_pop_op0q4 (⟨(⟨c4.2.view.Known, c4.2.view.Regs, c4.2.view.Base, c4.2.view.Words⟩ : S_api_View), c4.2.l⟩ : S_expr_stack)).bind fun c25 => some ((IntKind.i64.wrap (c4.1 + c25.1)), true, (⟨(⟨c25.2.view.Known, c25.2.view.Regs, c25.2.view.Base, c25.2.view.Words⟩ : S_api_View), c25.2.l⟩ : S_expr_stack))
def F_expr_neg_lays_op1q4 (p0 : S_expr_neg) (q1 : S_expr_stack) : Option (Int × Bool × S_expr_stack) :=
  (F_expr_stack_pop_op0q4 (⟨(⟨q1.view.Known, q1.view.Regs, q1.view.Base, q1.view.Words⟩ : S_api_View), q1.l⟩ : S_expr_stack)).bind fun c4 => some ((IntKind.i64.wrap (0 - c4.1)), true, (⟨(⟨c4.2.view.Known, c4.2.view.Regs, c4.2.view.Base, c4.2.view.Words⟩ : S_api_View), c4.2.l⟩ : S_expr_stack))
def F_inv_I_expr_doer_lays_op1q4 (x : I_expr_doer) (q1 : S_expr_stack) : Option (Int × Bool × S_expr_stack) :=
  match x with
  | .nil => none
  | .c_number a => F_expr_number_lays_op1q4 a q1
  | .c_reg a => F_expr_reg_lays_op1q4 a q1
  | .c_base a => F_expr_base_lays_op1q4 a q1
  | .c_word a => F_expr_word_lays_op1q4 a q1
  | .c_add a => F_expr_add_lays_op1q4 a q1
  | .c_neg a => F_expr_neg_lays_op1q4 a q1
def F_expr_Eval_l3B (rec4 : (List Bool) → (List Int) → Int → (List Int) → (List Int) → (List I_expr_doer) → Int → Option (Int × Int)) (c4 : (List I_expr_doer) × Bool) (x83 : List Bool) (x87 : List Int) (x89 : Int) (x92 : List Int) (x97 : List Int) (x102 : List I_expr_doer) (x104 : Int) : Option (Int × Int) :=
  (if (decide (x104 < (c4.1.length : Int))) = true then (getI x102 x104).bind fun y163 => (F_inv_I_expr_doer_lays_op1q4 y163 (⟨(⟨x83, x87, x89, x92⟩ : S_api_View), x97⟩ : S_expr_stack)).bind fun c170 => (if (!c170.2.1) = true then some (0, 4) else (room (c170.2.2.l.length + 1)).bind fun _ => rec4 c170.2.2.view.Known c170.2.2.view.Regs c170.2.2.view.Base c170.2.2.view.Words (c170.2.2.l ++ [c170.1]) x102 (IntKind.i64.wrap (x104 + 1))) else (if ((x97.length : Int) == 0) = true then some (0, 4) else (F_expr_stack_pop_op0q4 (⟨(⟨x83, x87, x89, x92⟩ : S_api_View), x97⟩ : S_expr_stack)).bind fun c197 => some (c197.1, 0)))
def F_expr_Eval_l3 (c4 : (List I_expr_doer) × Bool) : Nat → (List Bool) → (List Int) → Int → (List Int) → (List Int) → (List I_expr_doer) → Int → Option (Int × Int)
  | 0, _, _, _, _, _, _, _ => none
  | n + 1, x83, x87, x89, x92, x97, x102, x104 => F_expr_Eval_l3B (F_expr_Eval_l3 c4 n) c4 x83 x87 x89 x92 x97 x102 x104
def F_expr_Eval (p0 : (List S_api_Loc)) (p1 : S_api_View) : Option (Int × Int) :=
  (F_expr_doers p0).bind fun c4 => (if (!c4.2) = true then some (0, 1) else F_expr_Eval_l3 c4 big p1.Known p1.Regs p1.Base p1.Words ([]) c4.1 0)
def F_law06_works  : Option Bool :=
  (F_expr_Put [] ([(⟨(3 : UInt8), (-3)⟩ : S_api_Loc), (⟨(4 : UInt8), 0⟩ : S_api_Loc)] : List S_api_Loc)).bind fun c7 => (F_expr_Get c7.1 0).bind fun c18 => (F_expr_Eval c18.1 (⟨[], [], 4, ([10, 11] : List Int)⟩ : S_api_View)).bind fun c32 => ((if ((((c7.2 == 0) && ((c7.1.length : Int) == 4)) && (c18.2.2 == 0)) && (c18.2.1 == 4)) = true then (F_ref06_Same ([(⟨(3 : UInt8), (-3)⟩ : S_api_Loc), (⟨(4 : UInt8), 0⟩ : S_api_Loc)] : List S_api_Loc) c18.1).bind fun c39 => some c39 else some false)).bind fun c36 => ((if ((c36 && (c32.2 == 0)) && (c32.1 == 11)) = true then (F_expr_Right []).bind fun c46 => some c46 else some false)).bind fun c43 => ((if c43 = true then (F_expr_Right ([(⟨(4 : UInt8), 0⟩ : S_api_Loc)] : List S_api_Loc)).bind fun c59 => some (!c59) else some false)).bind fun c50 => some c50
def F_ref06_Twin (p0 : (List S_api_Loc)) : Option (List S_api_Loc) :=
  (room (([] : List S_api_Loc).length + p0.length)).bind fun _ => some (([] : List S_api_Loc) ++ p0)
def F_ref00_CopyBytes_l3B (rec4 : (List UInt8) → Int → Option (List UInt8)) (p0 : (List UInt8)) (x17 : List UInt8) (x20 : Int) : Option (List UInt8) :=
  (if (decide (x20 < (p0.length : Int))) = true then (getI p0 x20).bind fun y33 => (room (x17.length + 1)).bind fun _ => rec4 (x17 ++ [y33]) (IntKind.i64.wrap (x20 + 1)) else some x17)
def F_ref00_CopyBytes_l3 (p0 : (List UInt8)) : Nat → (List UInt8) → Int → Option (List UInt8)
  | 0, _, _ => none
  | n + 1, x17, x20 => F_ref00_CopyBytes_l3B (F_ref00_CopyBytes_l3 p0 n) p0 x17 x20
def F_ref00_CopyBytes (p0 : (List UInt8)) : Option (List UInt8) :=
  F_ref00_CopyBytes_l3 p0 big ([]) 0
def F_law06_vast (p0 : (List S_api_Loc)) (p1 : S_api_View) : Option Bool :=
  some ((((decide ((p0.length : Int) > 1000)) || (decide ((p1.Known.length : Int) > 1000))) || (decide ((p1.Regs.length : Int) > 1000))) || (decide ((p1.Words.length : Int) > 65536)))
def F_law06_ExprBack_k3 (p2 : (List UInt8)) : Option Bool :=
  (F_expr_Get p2 0).bind fun c87 => (if (c87.2.2 != 0) = true then ((if (((c87.1.length : Int) == 0) && (c87.2.1 == 0)) = true then (F_law06_works ).bind fun c99 => some c99 else some false)).bind fun c96 => some c96 else (F_expr_Put [] c87.1).bind fun c103 => (F_expr_Right c87.1).bind fun c112 => ((if (((c112 && (c103.2 == 0)) && (decide (c87.2.1 ≥ 1))) && (decide (c87.2.1 ≤ (p2.length : Int)))) = true then (cutI p2 0 c87.2.1).bind fun y121 => (F_ref00_EqBytes c103.1 y121).bind fun c126 => some c126 else some false)).bind fun c118 => ((if c118 = true then (F_law06_works ).bind fun c133 => some c133 else some false)).bind fun c130 => some c130)
def F_law06_ExprBack (p0 : (List UInt8)) (p1 : (List S_api_Loc)) (p2 : (List UInt8)) (p3 : S_api_View) : Option Bool :=
  ((if ((decide ((p0.length : Int) > 1024)) || (decide ((p2.length : Int) > 1024))) = true then some true else (F_law06_vast p1 (⟨p3.Known, p3.Regs, p3.Base, p3.Words⟩ : S_api_View)).bind fun c9 => some c9)).bind fun c6 => (if c6 = true then (F_law06_works ).bind fun c14 => some c14 else (F_ref06_Twin p1).bind fun c18 => (F_expr_Put p0 c18).bind fun c29 => (F_expr_Right p1).bind fun c38 => (if (!((c29.2 == 0) == c38)) = true then some false else (if (c29.2 == 0) = true then (F_ref00_CopyBytes c29.1).bind fun c140 => (room (c140.length + p2.length)).bind fun _ => (F_expr_Get (c140 ++ p2) (p0.length : Int)).bind fun c155 => (F_expr_Eval p1 (⟨p3.Known, p3.Regs, p3.Base, p3.Words⟩ : S_api_View)).bind fun c163 => (F_expr_Eval c155.1 (⟨p3.Known, p3.Regs, p3.Base, p3.Words⟩ : S_api_View)).bind fun c167 => ((if ((c155.2.2 != 0) || (c155.2.1 != (c29.1.length : Int))) = true then some true else (F_ref06_Same c155.1 p1).bind fun c174 => some (!c174))).bind fun c171 => (if ((c171 || (c163.1 != c167.1)) || (c163.2 != c167.2)) = true then some false else F_law06_ExprBack_k3 p2) else (if ((c29.1.length : Int) != 0) = true then some false else F_law06_ExprBack_k3 p2))))
end Go.Proofs.Ytpmlbgaigjdmjaa
