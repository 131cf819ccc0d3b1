import Derived.Test.YtpmlbgaigjdmjaaAd
import Derived.Test.YtpmlbgaigjdmjaaF
import Derived.Test.YtpmlbgaigjdmjaaPL
import Derived.Test.YtpmlbgaigjdmjaaP_02
import Derived.Test.YtpmlbgaigjdmjaaP_06
import Derived.Test.YtpmlbgaigjdmjaaP_06b
import Derived.KernelRfl
namespace Go.Proofs.Ytpmlbgaigjdmjaa
open Go.Ab Go.RowKit
set_option linter.unusedVariables false
set_option linter.unusedSimpArgs false
abbrev Vw := S_api_View
def regV (v : Vw) (k : Int) : Option Int := match getI v.Known k with
  | some true => some (match getI v.Regs k with | some y => y | none => 0)
  | _ => none
def lay (v : Vw) (x : Lc) (s : List Int) : Option (Int × List Int) :=
  if kd x = 1 then some (x.N, s) else if kd x = 2 then (regV v x.N).map fun y => (y, s) else if kd x = 3 then some (IntKind.i64.wrap (v.Base + x.N), s)
  else if kd x = 4 then (match s with | a :: t => (getI v.Words a).map fun y => (y, t) | [] => none)
  else if kd x = 5 then (match s with | a :: b :: t => some (IntKind.i64.wrap (a + b), t) | _ => none)
  else (match s with | a :: t => some (IntKind.i64.wrap (0 - a), t) | [] => none)
def evL (v : Vw) : List Lc → List Int → Option (List Int)
  | [], s => some s
  | x :: l, s => match lay v x s with
    | none => none
    | some p => evL v l (p.1 :: p.2)
theorem P_pop (v : Vw) (a : Int) (t : List Int) (ht : t.length ≤ 1000) : F_expr_stack_pop_op0q4 ⟨v, (a :: t).reverse⟩ = some (a, ⟨v, t.reverse⟩) := by
  unfold F_expr_stack_pop_op0q4
  have hl : (a :: t).reverse = t.reverse ++ [a] := by simp
  have h1 : IntKind.i64.wrap (((a :: t).reverse.length : Int) - 1) = ((t.reverse.length : Nat) : Int) := by rw [wi64 (by simp; omega)]; simp
  have h2 : getI (t.reverse ++ [a]) ((t.reverse.length : Nat) : Int) = some a := by rw [getI_cast]; simp
  have h3 : cutI (t.reverse ++ [a]) 0 ((t.reverse.length : Nat) : Int) = some t.reverse := by
    have := cutI_ok (l := t.reverse ++ [a]) (a := 0) (b := t.reverse.length) (by omega) (by simp)
    rw [show ((0 : Nat) : Int) = 0 from rfl] at this
    rw [this]
    simp
  simp only [h1]
  rw [hl, h2, Option.bind_some, h3, Option.bind_some]
theorem P_lays (v : Vw) {x : Lc} (ho : okd x = true) {s : List Int} (hs : tkn x ≤ s.length) (h8 : s.length ≤ 8) :
    ∃ y b q, F_inv_I_expr_doer_lays_op1q4 (dr x) ⟨v, s.reverse⟩ = some (y, b, q) ∧ (lay v x s = none ∧ b = false ∨ ∃ t, lay v x s = some (y, t) ∧ b = true ∧ q = ⟨v, t.reverse⟩ ∧ t.length + tkn x = s.length) := by
  unfold okd at ho
  simp only [decide_eq_true_eq] at ho
  unfold dr F_inv_I_expr_doer_lays_op1q4 lay
  unfold tkn at hs ⊢
  rcases kd_cases x with h | h | h | h | h | h | ⟨h1, h2, h3, h4, h5, h6⟩
  · simp only [h]
    exact ⟨_, _, _, rfl, Or.inr ⟨s, by simp, rfl, rfl, by simp⟩⟩
  · have hr : 0 ≤ x.N ∧ x.N < 16 := by omega
    obtain ⟨k, hk⟩ : ∃ k : Nat, x.N = k := ⟨x.N.toNat, by omega⟩
    simp only [h, hk]
    simp only [if_pos, if_neg, reduceCtorEq, show ¬ (2 : Int) = 1 by omega, if_false, if_true]
    unfold F_expr_reg_lays_op1q4 regV
    simp only
    rw [getI_cast, getI_cast]
    by_cases h1 : k < v.Known.length
    · rw [decF (by omega), if_neg (by simp), List.getElem?_eq_getElem h1, Option.bind_some, Option.bind_some]
      cases v.Known[k]
      · exact ⟨_, _, _, rfl, Or.inl ⟨rfl, rfl⟩⟩
      · rw [Bool.not_true, if_neg (by simp)]
        by_cases h2 : k < v.Regs.length
        · rw [decF (by omega), if_neg (by simp), List.getElem?_eq_getElem h2, Option.bind_some]
          exact ⟨_, _, _, rfl, Or.inr ⟨s, rfl, rfl, rfl, by simp⟩⟩
        · rw [decT (by omega), if_pos rfl, List.getElem?_eq_none (by omega)]
          exact ⟨_, _, _, rfl, Or.inr ⟨s, rfl, rfl, rfl, by simp⟩⟩
    · rw [decT (by omega), if_pos rfl, Option.bind_some, if_pos rfl, List.getElem?_eq_none (by omega)]
      exact ⟨_, _, _, rfl, Or.inl ⟨rfl, rfl⟩⟩
  · simp only [h]
    exact ⟨_, _, _, rfl, Or.inr ⟨s, by simp, rfl, rfl, by simp⟩⟩
  · simp only [h] at hs ⊢
    cases s with
    | nil => simp at hs
    | cons a t =>
      simp only [List.length_cons] at h8
      simp only [show ¬ (4 : Int) = 1 by omega, show ¬ (4 : Int) = 2 by omega, show ¬ (4 : Int) = 3 by omega, if_false, if_true, true_or]
      unfold F_expr_word_lays_op1q4
      have hp := P_pop v a t (by omega)
      have hp : F_expr_stack_pop_op0q4 ⟨⟨v.Known, v.Regs, v.Base, v.Words⟩, (a :: t).reverse⟩ = _ := hp
      simp only
      rw [hp, Option.bind_some]
      simp only
      by_cases hc : a < 0 ∨ a ≥ v.Words.length
      · rw [if_pos (by simpa using hc)]
        have : getI v.Words a = none := by
          unfold getI
          split
          · exact List.getElem?_eq_none (by omega)
          · rfl
        rw [this]
        exact ⟨_, _, _, rfl, Or.inl ⟨rfl, rfl⟩⟩
      · obtain ⟨k, rfl⟩ : ∃ k : Nat, a = k := ⟨a.toNat, by omega⟩
        rw [if_neg (by simpa using hc), getI_lt (show k < v.Words.length by omega), Option.bind_some]
        exact ⟨_, _, _, rfl, Or.inr ⟨t, rfl, rfl, rfl, by simp⟩⟩
  · simp only [h] at hs ⊢
    simp only [show ¬ ((5 : Int) = 4 ∨ (5 : Int) = 6) by omega, if_false, if_true] at hs
    match s, hs with
    | a :: b :: t, _ =>
      simp only [List.length_cons] at h8
      simp only [show ¬ (5 : Int) = 1 by omega, show ¬ (5 : Int) = 2 by omega, show ¬ (5 : Int) = 3 by omega, show ¬ (5 : Int) = 4 by omega, if_false, if_true, show ¬ ((5 : Int) = 6) by omega, false_or]
      unfold F_expr_add_lays_op1q4
      have hp := P_pop v a (b :: t) (by simp; omega)
      have hp2 := P_pop v b t (by omega)
      have hp : F_expr_stack_pop_op0q4 ⟨⟨v.Known, v.Regs, v.Base, v.Words⟩, (a :: b :: t).reverse⟩ = _ := hp
      have hp2 : F_expr_stack_pop_op0q4 ⟨⟨v.Known, v.Regs, v.Base, v.Words⟩, (b :: t).reverse⟩ = _ := hp2
      simp only
      rw [hp, Option.bind_some]
      simp only
      rw [hp2, Option.bind_some]
      exact ⟨_, _, _, rfl, Or.inr ⟨t, rfl, rfl, rfl, by simp⟩⟩
  · simp only [h] at hs ⊢
    cases s with
    | nil => simp at hs
    | cons a t =>
      simp only [List.length_cons] at h8
      simp only [show ¬ (6 : Int) = 1 by omega, show ¬ (6 : Int) = 2 by omega, show ¬ (6 : Int) = 3 by omega, show ¬ (6 : Int) = 4 by omega, show ¬ (6 : Int) = 5 by omega, if_false, if_true, or_true]
      unfold F_expr_neg_lays_op1q4
      have hp := P_pop v a t (by omega)
      have hp : F_expr_stack_pop_op0q4 ⟨⟨v.Known, v.Regs, v.Base, v.Words⟩, (a :: t).reverse⟩ = _ := hp
      simp only
      rw [hp, Option.bind_some]
      exact ⟨_, _, _, rfl, Or.inr ⟨t, rfl, rfl, rfl, by simp⟩⟩
  · simp_all
def res (r : Option (List Int)) : Int × Int := match r with
  | some (y :: _) => (y, 0)
  | _ => (0, 4)
theorem Eval_loop (v : Vw) (l : List Lc) (hl : l.length ≤ 1000000) (o : Bool) : ∀ (n i : Nat) (s : List Int), i ≤ l.length → l.length - i < n → s.length ≤ 8 → (rtL s.length (l.drop i)).isSome = true →
    F_expr_Eval_l3 (l.map dr, o) n v.Known v.Regs v.Base v.Words s.reverse (l.map dr) (i : Int) = some (res (evL v (l.drop i) s))
  | 0, i, _, _, h, _, _ => by omega
  | n + 1, i, s, hi, h, h8, hr => by
    show F_expr_Eval_l3B _ (l.map dr, o) v.Known v.Regs v.Base v.Words s.reverse (l.map dr) (i : Int) = _
    unfold F_expr_Eval_l3B
    simp only [List.length_map]
    by_cases hlt : i < l.length
    · rw [List.drop_eq_getElem_cons hlt, rtL] at hr
      split at hr
      · rename_i hc
        obtain ⟨y, b, q, h1, h2⟩ := P_lays v hc.1 hc.2.1 h8
        have h1 : F_inv_I_expr_doer_lays_op1q4 (dr l[i]) ⟨⟨v.Known, v.Regs, v.Base, v.Words⟩, s.reverse⟩ = _ := h1
        have hg : getI (l.map dr) (i : Int) = some (dr l[i]) := by rw [getI_cast]; simp [hlt]
        rw [decT (by omega), if_pos rfl, hg, Option.bind_some, h1, Option.bind_some, List.drop_eq_getElem_cons hlt, evL]
        rcases h2 with ⟨h2, rfl⟩ | ⟨t, h2, rfl, rfl, h3⟩
        · rw [h2]; rfl
        · rw [h2]
          simp only
          have ih := Eval_loop v l hl o n (i + 1) (y :: t) (by omega) (by omega) (by simp; omega) (by rw [List.length_cons, show t.length + 1 = s.length + 1 - tkn l[i] from by omega]; exact hr)
          rw [Bool.not_true, if_neg (by simp), room_ok (by simp; omega), Option.bind_some, i64_succ (by omega)]
          rw [List.reverse_cons] at ih
          exact ih
      · simp at hr
    · rw [decF (by omega), if_neg (by simp), List.drop_of_length_le (by omega), evL]
      cases s with
      | nil => rfl
      | cons a t =>
        have hp := P_pop v a t (by simp at h8; omega)
        have hp : F_expr_stack_pop_op0q4 ⟨⟨v.Known, v.Regs, v.Base, v.Words⟩, (a :: t).reverse⟩ = _ := hp
        rw [beqF (by simp; omega), if_neg (by simp), hp, Option.bind_some]
        rfl
theorem P_Eval {v : Vw} {l : List Lc} (hl : l.length ≤ 1000000) : F_expr_Eval l v = some (if Rt l = true then res (evL v l []) else (0, 1)) := by
  unfold F_expr_Eval
  rw [P_doers hl, Option.bind_some]
  cases hr : rtL 0 l with
  | none =>
    have hR : Rt l = false := by unfold Rt; rw [hr]
    rw [hR]
    rfl
  | some e =>
    have hR : Rt l = fin l e := by unfold Rt; rw [hr]
    rw [hR]
    simp only
    cases hf : fin l e
    · rfl
    · rw [Bool.not_true, if_neg (by simp), if_pos rfl]
      have := Eval_loop v l hl true big 0 [] (by omega) (big_gt (by omega)) (by simp) (by rw [List.drop_zero]; simp [hr])
      rw [List.drop_zero] at this
      exact this
theorem lc_eq (x y : Lc) : (((x.Kind.toNat : Int) == (y.Kind.toNat : Int)) && ((x.N == y.N) && true)) = decide (x = y) := by
  cases x; cases y
  rw [Bool.eq_iff_iff]
  simp [u8toNat_inj]
theorem Same6_loop (l m : List Lc) (hl : l.length ≤ 1000000) (hlm : l.length = m.length) : ∀ (n i : Nat), i ≤ l.length → l.length - i < n → F_ref06_Same_l3 l m n (i : Int) = some (decide (l.drop i = m.drop i))
  | 0, i, _, h => by omega
  | n + 1, i, hi, h => by
    show F_ref06_Same_l3B _ l m (i : Int) = _
    unfold F_ref06_Same_l3B
    by_cases hlt : i < l.length
    · have hlt2 : i < m.length := by omega
      rw [decT (by omega), if_pos rfl, getI_lt hlt, Option.bind_some, getI_lt hlt2, Option.bind_some, lc_eq, List.drop_eq_getElem_cons hlt, List.drop_eq_getElem_cons hlt2]
      by_cases he : l[i] = m[i]
      · rw [decT he, if_neg (by simp), i64_succ (by omega), Same6_loop l m hl hlm n (i + 1) (by omega) (by omega), he]
        congr 1
        rw [decide_eq_decide]
        exact ⟨fun h => by rw [h], fun h => by injection h⟩
      · rw [decF he, if_pos (by rfl), decF]
        intro h2
        injection h2 with h3 h4
        exact he h3
    · rw [decF (by omega), if_neg (by simp), List.drop_of_length_le (by omega), List.drop_of_length_le (by omega), decT rfl]
theorem P_Same6 {l m : List Lc} (hl : l.length ≤ 1000000) : F_ref06_Same l m = some (decide (l = m)) := by
  unfold F_ref06_Same
  by_cases h : l.length = m.length
  · rw [bneF (by omega), if_neg (by simp)]
    exact Same6_loop l m hl h big 0 (by omega) (big_gt (by omega))
  · rw [bneT (by omega), if_pos rfl, decF (fun e => h (by rw [e]))]
theorem P_works06 : F_law06_works = some true := by
  have hr : inr [⟨3, -3⟩, ⟨4, 0⟩] := by
    intro x hx
    simp only [List.mem_cons, List.not_mem_nil, or_false] at hx
    rcases hx with rfl | rfl <;> simp
  have hR : Rt [⟨3, -3⟩, ⟨4, 0⟩] = true := by decide
  have he : encL [⟨3, -3⟩, ⟨4, 0⟩] = [2, 3, 125, 4] := by
    have h1 : encS (-3) = [125] := by rw [encS_small (by omega)]; rfl
    have h2 : encU 2 = [2] := by rw [encU_small (by omega)]; rfl
    have t3 : toldK 3 = true := by decide
    have t4 : toldK 4 = false := by decide
    simp [encL, encX, encX1, h1, h2, t3, t4]
  have h1 := P_EPut (b := []) (by simp) hr (by simp)
  rw [if_pos hR, List.nil_append, he] at h1
  have h2 := getL_put (p := []) (r := []) hr hR
  rw [List.nil_append, List.append_nil, he] at h2
  have h2 : getL [2, 3, 125, 4] 0 = ([⟨3, -3⟩, ⟨4, 0⟩], 4, 0) := h2
  unfold F_law06_works
  rw [h1, Option.bind_some, P_EGet (by simp), h2, Option.bind_some, P_Eval (by simp)]
  have h3 : (if Rt [⟨3, -3⟩, ⟨4, 0⟩] = true then res (evL ⟨[], [], 4, [10, 11]⟩ [⟨3, -3⟩, ⟨4, 0⟩] []) else (0, 1)) = (11, 0) := by decide
  rw [h3, Option.bind_some, P_Same6 (by simp), P_ERight (by simp), P_ERight (by simp)]
  rfl
theorem P_ETwin {l : List Lc} (hl : l.length ≤ 1000000) : F_ref06_Twin l = some l := by
  unfold F_ref06_Twin
  rw [room_ok (by simp; omega), Option.bind_some, List.nil_append]
end Go.Proofs.Ytpmlbgaigjdmjaa
