import Derived.Test.YtjcehfjmmbbblaaAd
import Derived.Test.YtjcehfjmmbbblaaF
import Derived.Test.YtjcehfjmmbbblaaPL
import Derived.Test.YtjcehfjmmbbblaaP_02
import Derived.Test.YtjcehfjmmbbblaaP_06
import Derived.Test.YtjcehfjmmbbblaaP_06b
import Derived.Test.YtjcehfjmmbbblaaP_06c
import Derived.KernelRfl
namespace Go.Proofs.Ytjcehfjmmbbblaa
open Go.Ab Go.RowKit
set_option linter.unusedVariables false
set_option linter.unusedSimpArgs false
theorem zcL : zG = some true := by kernel_rfl
abbrev Sp := za
def okS (last : Int) (x : Sp) : Prop := last ≤ x.From ∧ x.From < x.To ∧ x.To ≤ 16777216 ∧ x.At.length ≠ 0
instance (r : Int) (x : Sp) : Decidable (okS r x) := by unfold okS; exact inferInstance
def rtS : Int → List Sp → Bool
  | _, [] => true
  | last, x :: l => decide (okS last x) && Rt x.At && rtS x.To l
def smS (l : List Sp) : Prop := l.length ≤ 1000000 ∧ ∀ x ∈ l, x.At.length ≤ 1000000
def St (l : List Sp) : Bool := rtS 0 l && decide ((l.length : Int) ≤ 4000)
theorem SR_loop (l : List Sp) (hs : smS l) : ∀ (n i : Nat) (last : Int), i ≤ l.length → l.length - i < n → zbB l n last (i : Int) = some (rtS last (l.drop i) && decide ((l.length : Int) ≤ 4000))
  | 0, i, _, _, h => by omega
  | n + 1, i, last, hi, h => by
    have hl := hs.1
    show zbr _ l last (i : Int) = _
    unfold zbr
    by_cases hlt : i < l.length
    · have hr := hs.2 l[i] (List.getElem_mem hlt)
      rw [decT (by omega), if_pos rfl, getI_lt hlt, Option.bind_some, List.drop_eq_getElem_cons hlt]
      by_cases hc : okS last l[i]
      · have hc' := hc
        unfold okS at hc'
        rw [if_neg (by simp only [Bool.or_eq_true, decide_eq_true_eq, beq_iff_eq]; omega), zcs (by omega), Option.bind_some, Option.bind_some]
        simp only [rtS, decT hc, Bool.true_and]
        by_cases hR : Rt l[i].At = true
        · rw [hR, Bool.not_true, if_neg (by simp), i64_succ (by omega), SR_loop l hs n (i + 1) _ (by omega) (by omega), Bool.true_and]
        · have : Rt l[i].At = false := by simpa using hR
          rw [this, Bool.not_false, if_pos rfl]
          rfl
      · rw [if_pos (by unfold okS at hc; simp only [Bool.or_eq_true, decide_eq_true_eq, beq_iff_eq]; omega), Option.bind_some, if_pos rfl]
        simp only [rtS, decF hc, Bool.false_and]
    · rw [decF (by omega), if_neg (by simp), List.drop_of_length_le (by omega), rtS, Bool.true_and]
theorem zcS {l : List Sp} (hs : smS l) : zB l = some (St l) := SR_loop l hs big 0 0 (by omega) (big_gt (by have := hs.1; omega))
theorem rSR_loop (l : List Sp) (hs : smS l) : ∀ (n i : Nat) (last : Int), i ≤ l.length → l.length - i < n → zY l n last (i : Int) = some (rtS last (l.drop i) && decide ((l.length : Int) ≤ 4000))
  | 0, i, _, _, h => by omega
  | n + 1, i, last, hi, h => by
    have hl := hs.1
    show zbA _ l last (i : Int) = _
    unfold zbA
    by_cases hlt : i < l.length
    · have hr := hs.2 l[i] (List.getElem_mem hlt)
      rw [decT (by omega), if_pos rfl, getI_lt hlt, Option.bind_some, List.drop_eq_getElem_cons hlt]
      simp only [Option.bind_some, rtS]
      by_cases h1 : l[i].From < last
      · rw [decT h1, decF (show ¬ okS last l[i] by unfold okS; omega)]
        simp
      rw [decF h1]
      by_cases h2 : l[i].To ≤ l[i].From
      · rw [decT h2, decF (show ¬ okS last l[i] by unfold okS; omega)]
        simp
      rw [decF h2]
      by_cases h3 : l[i].To > 16777216
      · rw [decT h3, decF (show ¬ okS last l[i] by unfold okS; omega)]
        simp
      rw [decF h3]
      by_cases h4 : l[i].At.length = 0
      · rw [beqT (show (l[i].At.length : Int) = 0 by omega), decF (show ¬ okS last l[i] by unfold okS; omega)]
        simp
      rw [beqF (show (l[i].At.length : Int) ≠ 0 by omega), decT (show okS last l[i] by unfold okS; omega)]
      simp only [Bool.false_eq_true, if_false, Option.bind_some, zcE (show l[i].At.length ≤ 1000000 by omega), Bool.true_and]
      by_cases hR : Rt l[i].At = true
      · rw [hR, Bool.not_true, if_neg (by simp), i64_succ (by omega), rSR_loop l hs n (i + 1) _ (by omega) (by omega), Bool.true_and]
      · have : Rt l[i].At = false := by simpa using hR
        rw [this, Bool.not_false, if_pos rfl]
        rfl
    · rw [decF (by omega), if_neg (by simp), List.drop_of_length_le (by omega), rtS, Bool.true_and]
theorem zdm {l : List Sp} (hs : smS l) : zb6 l = some (St l) := rSR_loop l hs big 0 0 (by omega) (big_gt (by have := hs.1; omega))
theorem Same7_loop (l m : List Sp) (hs : smS l) (hlm : l.length = m.length) : ∀ (n i : Nat), i ≤ l.length → l.length - i < n → z4 l m n (i : Int) = some (decide (l.drop i = m.drop i))
  | 0, i, _, h => by omega
  | n + 1, i, hi, h => by
    have hl := hs.1
    show z2 _ l m (i : Int) = _
    unfold z2
    by_cases hlt : i < l.length
    · have hlt2 : i < m.length := by omega
      have hr := hs.2 l[i] (List.getElem_mem hlt)
      rw [decT (by omega), if_pos rfl, getI_lt hlt, Option.bind_some, getI_lt hlt2, Option.bind_some, List.drop_eq_getElem_cons hlt, List.drop_eq_getElem_cons hlt2]
      have hcons : ∀ a b : Sp, a ≠ b → decide (a :: l.drop (i + 1) = b :: m.drop (i + 1)) = false := fun a b hab => decF fun h2 => hab (by injection h2)
      by_cases h1 : l[i].From = m[i].From
      · rw [bneF h1, if_neg (by simp)]
        simp only [Option.bind_some]
        by_cases h2 : l[i].To = m[i].To
        · rw [bneF h2, if_neg (by simp), zdJ (by omega), Option.bind_some, Option.bind_some]
          by_cases h3 : l[i].At = m[i].At
          · have he : l[i] = m[i] := by
              cases hx : l[i]; cases hy : m[i]
              simp only [hx, hy] at h1 h2 h3
              rw [h1, h2, h3]
            rw [decT h3, Bool.not_true, if_neg (by simp), i64_succ (by omega), Same7_loop l m hs hlm n (i + 1) (by omega) (by omega), he]
            congr 1
            rw [decide_eq_decide]
            exact ⟨fun h => by rw [h], fun h => by injection h⟩
          · rw [decF h3, Bool.not_false, if_pos rfl, hcons _ _ fun e => h3 (by rw [e])]
        · rw [bneT h2, if_pos rfl, Option.bind_some, if_pos rfl, hcons _ _ fun e => h2 (by rw [e])]
      · rw [bneT h1, if_pos rfl, Option.bind_some, if_pos rfl, Option.bind_some, if_pos rfl, hcons _ _ fun e => h1 (by rw [e])]
    · rw [decF (by omega), if_neg (by simp), List.drop_of_length_le (by omega), List.drop_of_length_le (by omega), decT rfl]
theorem zc3 {l m : List Sp} (hs : smS l) : zE l m = some (decide (l = m)) := by
  have hl := hs.1
  unfold zE
  by_cases h : l.length = m.length
  · rw [bneF (by omega), if_neg (by simp)]
    exact Same7_loop l m hs h big 0 (by omega) (big_gt (by omega))
  · rw [bneT (by omega), if_pos rfl, decF (fun e => h (by rw [e]))]
end Go.Proofs.Ytjcehfjmmbbblaa
