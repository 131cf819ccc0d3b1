import Derived.Test.YtckcngkkofemjaaGreatP_06c
import Derived.KernelRfl
namespace Go.Proofs.YtckcngkkofemjaaGreat
open Go.Ab Go.RowKit
set_option linter.unusedVariables false
set_option linter.unusedSimpArgs false
abbrev Sp := zq
def okS (last : Int) (x : Sp) : Prop := last ≤ x.From ∧ x.From < x.To ∧ x.To ≤ 16777216 ∧ x.At.length ≠ 0
instance (r : Int) (x : Sp) : Decidable (okS r x) := by unfold okS; exact inferInstance
def rtS : Int → List Sp → Bool
 | _, [] => true
 | last, x :: l => decide (okS last x) && Rt x.At && rtS x.To l
def smS (l : List Sp) : Prop := l.length ≤ 1000000 ∧ ∀ x ∈ l, x.At.length ≤ 1000000
def St (l : List Sp) : Bool := rtS 0 l && decide ((l.length : Int) ≤ 4000)
theorem zkq (l : List Sp) (hs : smS l) : ∀ (n i : Nat) (last : Int), i ≤ l.length → l.length - i < n → zfs l n last (i : Int) = some (rtS last (l.drop i) && decide ((l.length : Int) ≤ 4000))
 | 0, i, _, _, h => by omega
 | n + 1, i, last, hi, h => by
  have hl := hs.1
  show zfT _ l last (i : Int) = _
  unfold zfT
  by_cases hlt : i < l.length
  ·have hr := hs.2 l[i] (List.getElem_mem hlt)
   rw [zv (by omega), if_pos rfl, zbd hlt, Option.bind_some, List.drop_eq_getElem_cons hlt]
   by_cases hc : okS last l[i]
   ·have hc' := hc
    unfold okS at hc'
    rw [if_neg (by simp only [Bool.or_eq_true, decide_eq_true_eq, beq_iff_eq]; omega), zjS (by omega), Option.bind_some, Option.bind_some]
    simp only [rtS, zv hc, Bool.true_and]
    by_cases hR : Rt l[i].At = true
    ·rw [hR, Bool.not_true, if_neg (by simp), zbh (by omega), zkq l hs n (i + 1) _ (by omega) (by omega), Bool.true_and]
    ·have : Rt l[i].At = false := by simpa using hR
     rw [this, Bool.not_false, if_pos rfl]
     rfl
   ·rw [if_pos (by unfold okS at hc; simp only [Bool.or_eq_true, decide_eq_true_eq, beq_iff_eq]; omega), Option.bind_some, if_pos rfl]
    simp only [rtS, zx hc, Bool.false_and]
  ·rw [zx (by omega), if_neg (by simp), List.drop_of_length_le (by omega), rtS, Bool.true_and]
theorem zlZ {l : List Sp} (hs : smS l) : zeA l = some (St l) := zkq l hs big 0 0 (by omega) (zbj (by have := hs.1; omega))
theorem zmc (l : List Sp) (hs : smS l) : ∀ (n i : Nat) (last : Int), i ≤ l.length → l.length - i < n → zf0 l n last (i : Int) = some (rtS last (l.drop i) && decide ((l.length : Int) ≤ 4000))
 | 0, i, _, _, h => by omega
 | n + 1, i, last, hi, h => by
  have hl := hs.1
  show zfD _ l last (i : Int) = _
  unfold zfD
  by_cases hlt : i < l.length
  ·have hr := hs.2 l[i] (List.getElem_mem hlt)
   rw [zv (by omega), if_pos rfl, zbd hlt, Option.bind_some, List.drop_eq_getElem_cons hlt]
   simp only [Option.bind_some, rtS]
   by_cases h1 : l[i].From < last
   ·rw [zv h1, zx (show ¬ okS last l[i] by unfold okS; omega)]
    simp
   rw [zx h1]
   by_cases h2 : l[i].To ≤ l[i].From
   ·rw [zv h2, zx (show ¬ okS last l[i] by unfold okS; omega)]
    simp
   rw [zx h2]
   by_cases h3 : l[i].To > 16777216
   ·rw [zv h3, zx (show ¬ okS last l[i] by unfold okS; omega)]
    simp
   rw [zx h3]
   by_cases h4 : l[i].At.length = 0
   ·rw [zbO (show (l[i].At.length : Int) = 0 by omega), zx (show ¬ okS last l[i] by unfold okS; omega)]
    simp
   rw [zbJ (show (l[i].At.length : Int) ≠ 0 by omega), zv (show okS last l[i] by unfold okS; omega)]
   simp only [Bool.false_eq_true, if_false, Option.bind_some, zkx (show l[i].At.length ≤ 1000000 by omega), Bool.true_and]
   by_cases hR : Rt l[i].At = true
   ·rw [hR, Bool.not_true, if_neg (by simp), zbh (by omega), zmc l hs n (i + 1) _ (by omega) (by omega), Bool.true_and]
   ·have : Rt l[i].At = false := by simpa using hR
    rw [this, Bool.not_false, if_pos rfl]
    rfl
  ·rw [zx (by omega), if_neg (by simp), List.drop_of_length_le (by omega), rtS, Bool.true_and]
theorem zlJ {l : List Sp} (hs : smS l) : zf1 l = some (St l) := zmc l hs big 0 0 (by omega) (zbj (by have := hs.1; omega))
theorem zlo (l m : List Sp) (hs : smS l) (hlm : l.length = m.length) : ∀ (n i : Nat), i ≤ l.length → l.length - i < n → zfc l m n (i : Int) = some (decide (l.drop i = m.drop i))
 | 0, i, _, h => by omega
 | n + 1, i, hi, h => by
  have hl := hs.1
  show zf9 _ l m (i : Int) = _
  unfold zf9
  by_cases hlt : i < l.length
  ·have hlt2 : i < m.length := by omega
   have hr := hs.2 l[i] (List.getElem_mem hlt)
   rw [zv (by omega), if_pos rfl, zbd hlt, Option.bind_some, zbd hlt2, Option.bind_some, List.drop_eq_getElem_cons hlt, List.drop_eq_getElem_cons hlt2]
   have hcons : ∀ a b : Sp, a ≠ b → decide (a :: l.drop (i + 1) = b :: m.drop (i + 1)) = false := fun a b hab => zx fun h2 => hab (by injection h2)
   by_cases h1 : l[i].From = m[i].From
   ·rw [zbI h1, if_neg (by simp)]
    simp only [Option.bind_some]
    by_cases h2 : l[i].To = m[i].To
    ·rw [zbI h2, if_neg (by simp), znw (by omega), Option.bind_some, Option.bind_some]
     by_cases h3 : l[i].At = m[i].At
     ·have he : l[i] = m[i] := by
       cases hx : l[i]; cases hy : m[i]
       simp only [hx, hy] at h1 h2 h3
       rw [h1, h2, h3]
      rw [zv h3, Bool.not_true, if_neg (by simp), zbh (by omega), zlo l m hs hlm n (i + 1) (by omega) (by omega), he]
      congr 1
      rw [decide_eq_decide]
      exact ⟨fun h => by rw [h], fun h => by injection h⟩
     ·rw [zx h3, Bool.not_false, if_pos rfl, hcons _ _ fun e => h3 (by rw [e])]
    ·rw [zbP h2, if_pos rfl, Option.bind_some, if_pos rfl, hcons _ _ fun e => h2 (by rw [e])]
   ·rw [zbP h1, if_pos rfl, Option.bind_some, if_pos rfl, Option.bind_some, if_pos rfl, hcons _ _ fun e => h1 (by rw [e])]
  ·rw [zx (by omega), if_neg (by simp), List.drop_of_length_le (by omega), List.drop_of_length_le (by omega), zv rfl]
theorem znd {l m : List Sp} (hs : smS l) : zgV l m = some (decide (l = m)) := by
 have hl := hs.1
 unfold zgV
 by_cases h : l.length = m.length
 ·rw [zbI (by omega), if_neg (by simp)]
  exact zlo l m hs h big 0 (by omega) (zbj (by omega))
 ·rw [zbP (by omega), if_pos rfl, zx (fun e => h (by rw [e]))]
end Go.Proofs.YtckcngkkofemjaaGreat
