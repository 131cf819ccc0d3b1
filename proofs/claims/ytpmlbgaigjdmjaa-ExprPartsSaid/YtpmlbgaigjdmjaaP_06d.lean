import Derived.Test.YtpmlbgaigjdmjaaAd
import Derived.Test.YtpmlbgaigjdmjaaF
import Derived.Test.YtpmlbgaigjdmjaaPL
import Derived.Test.YtpmlbgaigjdmjaaP_02
import Derived.Test.YtpmlbgaigjdmjaaP_06
import Derived.Test.YtpmlbgaigjdmjaaP_06b
import Derived.Test.YtpmlbgaigjdmjaaP_06c
namespace Go.Proofs.Ytpmlbgaigjdmjaa
open Go.Ab Go.RowKit
set_option linter.unusedVariables false
set_option linter.unusedSimpArgs false
theorem rtL_append : ∀ (l m : List Lc) (d : Nat), rtL d (l ++ m) = (rtL d l).bind fun e => rtL e m
  | [], m, d => rfl
  | x :: l, m, d => by
    rw [List.cons_append, rtL, rtL]
    split
    · exact rtL_append l m _
    · rfl
theorem rtL_pos : ∀ {l : List Lc} {d e : Nat}, rtL d l = some e → l ≠ [] → 1 ≤ e ∧ e ≤ 8
  | [], _, _, _, h => absurd rfl h
  | [x], d, e, h, _ => by
    rw [rtL] at h
    split at h
    · rw [rtL] at h; injection h with h; omega
    · cases h
  | x :: y :: l, d, e, h, _ => by
    rw [rtL] at h
    split at h
    · exact rtL_pos h (by simp)
    · cases h
theorem lay_app {v : Vw} {x : Lc} (ho : okd x = true) {s t : List Int} (hs : tkn x ≤ s.length) : lay v x (s ++ t) = (lay v x s).map fun p => (p.1, p.2 ++ t) := by
  unfold okd at ho
  simp only [decide_eq_true_eq] at ho
  unfold lay
  unfold tkn at hs
  rcases kd_cases x with h | h | h | h | h | h | ⟨h1, h2, h3, h4, h5, h6⟩
  · simp [h]
  · simp only [h, show ¬ (2 : Int) = 1 by omega, if_false, if_true]
    cases regV v x.N <;> rfl
  · simp [h]
  · simp only [h, show ¬ (4 : Int) = 1 by omega, show ¬ (4 : Int) = 2 by omega, show ¬ (4 : Int) = 3 by omega, if_false, if_true, true_or] at hs ⊢
    cases s with
    | nil => simp at hs
    | cons a s => simp only [List.cons_append]; cases getI v.Words a <;> rfl
  · simp only [h, show ¬ ((5 : Int) = 4 ∨ (5 : Int) = 6) by omega, if_false, if_true, show ¬ (5 : Int) = 1 by omega, show ¬ (5 : Int) = 2 by omega, show ¬ (5 : Int) = 3 by omega, show ¬ (5 : Int) = 4 by omega] at hs ⊢
    match s, hs with
    | a :: b :: s, _ => rfl
  · simp only [h, show ¬ (6 : Int) = 1 by omega, show ¬ (6 : Int) = 2 by omega, show ¬ (6 : Int) = 3 by omega, show ¬ (6 : Int) = 4 by omega, show ¬ (6 : Int) = 5 by omega, if_false, if_true, or_true] at hs ⊢
    cases s with
    | nil => simp at hs
    | cons a s => rfl
  · simp_all
theorem lay_len {v : Vw} {x : Lc} (ho : okd x = true) {s : List Int} (hs : tkn x ≤ s.length) {p : Int × List Int} (h : lay v x s = some p) : p.2.length + tkn x = s.length := by
  unfold okd at ho
  simp only [decide_eq_true_eq] at ho
  unfold lay at h
  unfold tkn at hs ⊢
  rcases kd_cases x with hk | hk | hk | hk | hk | hk | ⟨h1, h2, h3, h4, h5, h6⟩
  · simp only [hk, if_true] at h; injection h with h; subst h; simp [hk]
  · simp only [hk, show ¬ (2 : Int) = 1 by omega, if_false, if_true] at h
    obtain ⟨y, _, rfl⟩ := Option.map_eq_some_iff.1 h
    simp [hk]
  · simp only [hk, show ¬ (3 : Int) = 1 by omega, show ¬ (3 : Int) = 2 by omega, if_false, if_true] at h; injection h with h; subst h; simp [hk]
  · simp only [hk, show ¬ (4 : Int) = 1 by omega, show ¬ (4 : Int) = 2 by omega, show ¬ (4 : Int) = 3 by omega, if_false, if_true, true_or] at h hs ⊢
    cases s with
    | nil => simp at hs
    | cons a s =>
      obtain ⟨y, _, rfl⟩ := Option.map_eq_some_iff.1 h
      simp
  · simp only [hk, show ¬ ((5 : Int) = 4 ∨ (5 : Int) = 6) by omega, if_false, if_true, show ¬ (5 : Int) = 1 by omega, show ¬ (5 : Int) = 2 by omega, show ¬ (5 : Int) = 3 by omega, show ¬ (5 : Int) = 4 by omega] at h hs ⊢
    match s, hs, h with
    | a :: b :: s, _, h => injection h with h; subst h; simp
  · simp only [hk, show ¬ (6 : Int) = 1 by omega, show ¬ (6 : Int) = 2 by omega, show ¬ (6 : Int) = 3 by omega, show ¬ (6 : Int) = 4 by omega, show ¬ (6 : Int) = 5 by omega, if_false, if_true, or_true] at h hs ⊢
    cases s with
    | nil => simp at hs
    | cons a s => injection h with h; subst h; simp
  · simp_all
theorem evL_append (v : Vw) : ∀ (l m : List Lc) (s : List Int), evL v (l ++ m) s = (evL v l s).bind (evL v m)
  | [], m, s => rfl
  | x :: l, m, s => by
    rw [List.cons_append, evL, evL]
    cases lay v x s with
    | none => rfl
    | some p => exact evL_append v l m _
theorem evL_frame (v : Vw) : ∀ (l : List Lc) (s t : List Int) (e : Nat), rtL s.length l = some e → evL v l (s ++ t) = (evL v l s).map (· ++ t)
  | [], s, t, e, _ => rfl
  | x :: l, s, t, e, h => by
    rw [rtL] at h
    split at h
    · rename_i hc
      rw [evL, evL, lay_app hc.1 hc.2.1]
      cases hp : lay v x s with
      | none => rfl
      | some p =>
        have hl := lay_len hc.1 hc.2.1 hp
        have := evL_frame v l (p.1 :: p.2) t e (by rw [List.length_cons, show p.2.length + 1 = s.length + 1 - tkn x from by omega]; exact h)
        simpa using this
    · cases h
theorem evL_len (v : Vw) : ∀ (l : List Lc) (s r : List Int) (e : Nat), rtL s.length l = some e → evL v l s = some r → r.length = e
  | [], s, r, e, h, h2 => by
    rw [rtL] at h; rw [evL] at h2
    injection h with h; injection h2 with h2
    rw [← h, ← h2]
  | x :: l, s, r, e, h, h2 => by
    rw [rtL] at h
    rw [evL] at h2
    split at h
    · rename_i hc
      cases hp : lay v x s with
      | none => rw [hp] at h2; cases h2
      | some p =>
        rw [hp] at h2
        have hl := lay_len hc.1 hc.2.1 hp
        exact evL_len v l (p.1 :: p.2) r e (by rw [List.length_cons, show p.2.length + 1 = s.length + 1 - tkn x from by omega]; exact h) h2
    · cases h
def EE (v : Vw) (l : List Lc) : Int × Int := if Rt l = true then res (evL v l []) else (0, 1)
theorem E_cases (v : Vw) (l : List Lc) (hl : l ≠ []) : (∃ x, Rt l = true ∧ rtL 0 l = some 1 ∧ evL v l [] = some [x] ∧ EE v l = (x, 0)) ∨ ((EE v l).2 ≠ 0 ∧ (Rt l = false ∨ Rt l = true ∧ evL v l [] = none)) := by
  unfold EE
  cases hR : Rt l
  · exact Or.inr ⟨by simp, Or.inl rfl⟩
  · rw [if_pos rfl]
    have h1 := (Rt_ok hR).2.2
    rw [if_neg (by simpa using hl)] at h1
    cases he : evL v l [] with
    | none => exact Or.inr ⟨by simp [res], Or.inr ⟨rfl, rfl⟩⟩
    | some r =>
      have := evL_len v l [] r 1 h1 he
      match r, this with
      | [x], _ => exact Or.inl ⟨x, rfl, h1, rfl, rfl⟩
theorem fin_one {l : List Lc} (hl : l ≠ []) (h16 : l.length ≤ 15) (o : Lc) (d : Nat) : fin (l ++ [o]) d = fin l d := by
  unfold fin
  rw [decide_eq_decide]
  have : l.length ≠ 0 := by simpa using hl
  simp only [List.length_append, List.length_singleton]
  omega
theorem Rt_one {l : List Lc} (hl : l ≠ []) (h16 : l.length ≤ 15) {o : Lc} (ho : okd o = true) (ht : tkn o = 1) : Rt (l ++ [o]) = Rt l := by
  unfold Rt
  rw [rtL_append]
  cases hr : rtL 0 l with
  | none => rfl
  | some d =>
    have hp := rtL_pos hr hl
    simp only [Option.bind_some, rtL]
    rw [if_pos ⟨ho, by omega, by omega⟩]
    simp only [show d + 1 - tkn o = d by omega]
    exact fin_one hl h16 o d
theorem Rt_both {l m : List Lc} (h0 : rtL 0 l = some 1) (hm : Rt m = true) (hl : l.length ≤ 7) (h1 : m.length = 1) : Rt (l ++ m ++ [⟨5, 0⟩]) = true := by
  match m, h1 with
  | [x], _ =>
    have hx := (Rt_ok hm).2.2
    rw [if_neg (by simp), rtL] at hx
    split at hx
    · rename_i hc
      unfold Rt
      rw [rtL_append, rtL_append, h0]
      have ht : tkn x = 0 := by omega
      have e5 : okd ⟨5, 0⟩ = true := by decide
      have t5 : tkn ⟨5, 0⟩ = 2 := by decide
      simp only [Option.bind_some, rtL, ht]
      rw [if_pos ⟨hc.1, by omega, by omega⟩]
      simp only [Option.bind_some, e5, t5]
      rw [if_pos ⟨trivial, by omega, by omega⟩]
      simp [fin]
      omega
    · cases hx
theorem evL_both {v : Vw} {l m : List Lc} {x y : Int} (hx : evL v l [] = some [x]) (hm : rtL 0 m = some 1) (hy : evL v m [] = some [y]) : evL v (l ++ m ++ [⟨5, 0⟩]) [] = some [IntKind.i64.wrap (y + x)] := by
  rw [evL_append, evL_append, hx, Option.bind_some]
  have := evL_frame v m [] [x] 1 hm
  rw [List.nil_append, hy] at this
  rw [this]
  have k5 : kd ⟨5, 0⟩ = 5 := by decide
  simp [evL, lay, k5]
theorem P_ExprParts (p0 p1 : List Lc) (p2 : Vw) (hm0 : p0.length ≤ maxLen) (hm1 : p1.length ≤ maxLen) : F_law06_ExprParts p0 p1 p2 = some true := by
  unfold F_law06_ExprParts F_law06_vast
  have e0 : ∀ a b : Bool, (if a = true then some true else (some b).bind fun c12 => some c12) = some (a || b) := by intro a b; cases a <;> rfl
  rw [Option.bind_some, e0, Option.bind_some]
  split
  · rw [P_works06]; rfl
  rename_i hv
  simp only [Bool.or_eq_true, decide_eq_true_eq, beq_iff_eq] at hv
  have hw : IntKind.i64.wrap ((p0.length : Int) + (p1.length : Int)) = (p0.length : Int) + p1.length := wi64 (by omega)
  rw [hw] at hv
  have hl0 : p0 ≠ [] := by rintro rfl; simp at hv
  have hl1 : p1 ≠ [] := by rintro rfl; simp at hv
  have n0 : 0 < p0.length := List.length_pos_iff.2 hl0
  have n1 : 0 < p1.length := List.length_pos_iff.2 hl1
  have hsum : p0.length + p1.length ≤ 15 := by omega
  rw [P_Eval (by omega), Option.bind_some, P_Eval (by omega), Option.bind_some, P_ETwin (by omega), Option.bind_some, room_ok (by omega), Option.bind_some, room_ok (by simp; omega), Option.bind_some, P_Eval (by simp; omega), Option.bind_some, P_ERight (by simp; omega), Option.bind_some, Option.bind_some]
  have hk4 : F_law06_ExprParts_k4 p0 p2 (EE p2 p0) (EE p2 (p0 ++ [⟨6, 0⟩])).1 (EE p2 (p0 ++ [⟨6, 0⟩])).2 = some true := by
    unfold F_law06_ExprParts_k4
    have hR6 : Rt (p0 ++ [⟨6, 0⟩]) = Rt p0 := Rt_one hl0 (by omega) (by decide) (by decide)
    have hR4 : Rt (p0 ++ [⟨4, 0⟩]) = Rt p0 := Rt_one hl0 (by omega) (by decide) (by decide)
    have k6 : kd ⟨6, 0⟩ = 6 := by decide
    have k4 : kd ⟨4, 0⟩ = 4 := by decide
    rw [P_ETwin (by omega), Option.bind_some, room_ok (by simp; omega), Option.bind_some, P_Eval (by simp; omega), Option.bind_some]
    show _ = _
    have hE4 : (if Rt (p0 ++ [⟨4, 0⟩]) = true then res (evL p2 (p0 ++ [⟨4, 0⟩]) []) else (0, 1)) = EE p2 (p0 ++ [⟨4, 0⟩]) := rfl
    have hE4 : (if Rt (p0 ++ [(⟨(4 : UInt8), 0⟩ : S_api_Loc)]) = true then res (evL (⟨p2.Known, p2.Regs, p2.Base, p2.Words⟩ : S_api_View) (p0 ++ [(⟨(4 : UInt8), 0⟩ : S_api_Loc)]) []) else (0, 1)) = EE p2 (p0 ++ [⟨4, 0⟩]) := rfl
    rw [hE4]
    rcases E_cases p2 p0 hl0 with ⟨x, hR, hr, hx, hE⟩ | ⟨hE, hR⟩
    · have e6 : EE p2 (p0 ++ [⟨6, 0⟩]) = (IntKind.i64.wrap (0 - x), 0) := by
        unfold EE
        rw [hR6, hR, if_pos rfl, evL_append, hx]
        simp [evL, lay, k6, res]
      have e4 : EE p2 (p0 ++ [⟨4, 0⟩]) = (match getI p2.Words x with | some y => (y, 0) | none => (0, 4)) := by
        unfold EE
        rw [hR4, hR, if_pos rfl, evL_append, hx]
        simp only [Option.bind_some, evL, lay, k4, show ¬ (4 : Int) = 1 by omega, show ¬ (4 : Int) = 2 by omega, show ¬ (4 : Int) = 3 by omega, if_false, if_true]
        cases getI p2.Words x <;> rfl
      rw [e6, e4, hE]
      simp only [beq_self_eq_true, Bool.not_true, Bool.false_eq_true, if_false, if_true, bne_self_eq_false, Option.bind_some]
      unfold F_law06_ExprParts_k5
      simp only [beq_self_eq_true, Bool.true_and]
      by_cases hc : 0 ≤ x ∧ x < p2.Words.length
      · obtain ⟨k, rfl⟩ : ∃ k : Nat, x = k := ⟨x.toNat, by omega⟩
        rw [getI_lt (show k < p2.Words.length by omega), decT (by omega), decT (by omega)]
        simp [P_works06]
      · have hg : getI p2.Words x = none := by
          unfold getI
          split
          · exact List.getElem?_eq_none (by omega)
          · rfl
        have hd : (decide (x ≥ 0) && decide (x < p2.Words.length)) = false := by
          rw [Bool.and_eq_false_iff, decide_eq_false_iff_not, decide_eq_false_iff_not]; omega
        rw [hg, hd]
        simp [P_works06]
    · have he0 : ((EE p2 p0).2 == 0) = false := by simpa using hE
      have e6 : (EE p2 (p0 ++ [⟨6, 0⟩])).2 ≠ 0 := by
        unfold EE
        rw [hR6]
        rcases hR with hR | ⟨hR, hn⟩
        · rw [hR]; simp
        · rw [hR, if_pos rfl, evL_append, hn]; simp [res]
      have e4 : (EE p2 (p0 ++ [⟨4, 0⟩])).2 ≠ 0 := by
        unfold EE
        rw [hR4]
        rcases hR with hR | ⟨hR, hn⟩
        · rw [hR]; simp
        · rw [hR, if_pos rfl, evL_append, hn]; simp [res]
      have e6' : ((EE p2 (p0 ++ [⟨6, 0⟩])).2 == 0) = false := by simpa using e6
      have e4' : ((EE p2 (p0 ++ [⟨4, 0⟩])).2 == 0) = false := by simpa using e4
      rw [he0, e6']
      unfold F_law06_ExprParts_k5
      rw [he0, e4']
      simp [P_works06]
  have hA : ∀ e : Int × Int, EE p2 (p0 ++ p1 ++ [⟨5, 0⟩]) = e → (if ((EE p2 p0).2 == 0 && (EE p2 p1).2 == 0) = true then some (Rt (p0 ++ p1 ++ [⟨5, 0⟩])) else some false).bind (fun c52 => (if c52 = true then (if (e.2 != 0) = true then some true else some (e.1 != IntKind.i64.wrap ((EE p2 p0).1 + (EE p2 p1).1))) else some false)) = some false := by
    rintro e rfl
    rcases E_cases p2 p0 hl0 with ⟨x, hR, hr, hx, hE⟩ | ⟨hE, hR⟩
    · rcases E_cases p2 p1 hl1 with ⟨y, hR', hr', hy, hE'⟩ | ⟨hE', hR'⟩
      · rw [hE, hE']
        simp only [beq_self_eq_true, Bool.and_self, if_true, Option.bind_some]
        by_cases hB : Rt (p0 ++ p1 ++ [⟨5, 0⟩]) = true
        · rw [if_pos hB]
          have : EE p2 (p0 ++ p1 ++ [⟨5, 0⟩]) = (IntKind.i64.wrap (y + x), 0) := by
            unfold EE
            rw [if_pos hB, evL_both hx hr' hy]
            rfl
          rw [this, Int.add_comm x y]
          simp
        · rw [if_neg hB]
      · have : ((EE p2 p1).2 == 0) = false := by simpa using hE'
        rw [this, Bool.and_false]
        rfl
    · have : ((EE p2 p0).2 == 0) = false := by simpa using hE
      rw [this, Bool.false_and]
      rfl
  have hB : (if ((((EE p2 p0).2 == 0 && (EE p2 p1).2 == 0) && ((p1.length : Int) == 1)) && decide ((p0.length : Int) ≤ 7)) = true then some (!Rt (p0 ++ p1 ++ [⟨5, 0⟩])) else some false) = some false := by
    split
    · rename_i hc
      simp only [Bool.and_eq_true, beq_iff_eq, decide_eq_true_eq] at hc
      rcases E_cases p2 p0 hl0 with ⟨x, hR, hr, hx, hE⟩ | ⟨hE, hR⟩
      · rcases E_cases p2 p1 hl1 with ⟨y, hR', hr', hy, hE'⟩ | ⟨hE', hR'⟩
        · rw [Rt_both hr hR' (by omega) (by omega)]; rfl
        · exact absurd hc.1.1.2 hE'
      · exact absurd hc.1.1.1 hE
    · rfl
  have h1 := hA _ rfl
  show ((if ((EE p2 p0).2 == 0 && (EE p2 p1).2 == 0) = true then some (Rt (p0 ++ p1 ++ [⟨5, 0⟩])) else some false).bind fun c52 => ((if c52 = true then (if ((EE p2 (p0 ++ p1 ++ [⟨5, 0⟩])).2 != 0) = true then some true else some ((EE p2 (p0 ++ p1 ++ [⟨5, 0⟩])).1 != IntKind.i64.wrap ((EE p2 p0).1 + (EE p2 p1).1))) else some false)).bind fun c59 => (if c59 = true then some false else ((if ((((EE p2 p0).2 == 0 && (EE p2 p1).2 == 0) && ((p1.length : Int) == 1)) && decide ((p0.length : Int) ≤ 7)) = true then some (!Rt (p0 ++ p1 ++ [⟨5, 0⟩])) else some false)).bind fun c64 => (if c64 = true then some false else (some p0).bind fun c173 => (room (c173.length + ([(⟨(6 : UInt8), 0⟩ : S_api_Loc)] : List S_api_Loc).length)).bind fun _ => (F_expr_Eval (c173 ++ ([(⟨(6 : UInt8), 0⟩ : S_api_Loc)] : List S_api_Loc)) p2).bind fun c192 => F_law06_ExprParts_k4 p0 p2 (EE p2 p0) c192.1 c192.2))) = some true
  rw [← Option.bind_assoc, h1, Option.bind_some, if_neg (by simp), hB, Option.bind_some, if_neg (by simp), Option.bind_some, room_ok (by simp; omega), Option.bind_some, P_Eval (by simp; omega), Option.bind_some]
  exact hk4
end Go.Proofs.Ytpmlbgaigjdmjaa
