import Derived.Test.YtjcehfjmmbbblaaP_06c
import Derived.KernelRfl
namespace Go.Proofs.Ytjcehfjmmbbblaa
open Go.Ab Go.RowKit
set_option linter.unusedVariables false
set_option linter.unusedSimpArgs false
theorem zgV : zdw = some true := by kernel_rfl
abbrev Sp := za
def okS (last : Int) (x : Sp) : Prop := last ≤ x.From ∧ x.From < x.To ∧ x.To ≤ 16777216 ∧ x.At.length ≠ 0
instance (r : Int) (x : Sp) : Decidable (okS r x) := by unfold okS; exact inferInstance
def smS (l : List Sp) : Prop := l.length ≤ 1000000 ∧ ∀ x ∈ l, x.At.length ≤ 1000000
theorem zh3 (l m : List Sp) (hs : smS l) (hlm : l.length = m.length) : ∀ (n i : Nat), i ≤ l.length → l.length - i < n → zdC l m n (i : Int) = some (decide (l.drop i = m.drop i))
 | 0, i, _, h => by omega
 | n + 1, i, hi, h => by
  have hl := hs.1
  show zdR _ l m (i : Int) = _
  unfold zdR
  by_cases hlt : i < l.length
  ·have hlt2 : i < m.length := by omega
   have hr := hs.2 l[i] (List.getElem_mem hlt)
   rw [zK (by omega), if_pos rfl, zbd hlt, Option.bind_some, zbd hlt2, Option.bind_some, List.drop_eq_getElem_cons hlt, List.drop_eq_getElem_cons hlt2]
   have hcons : ∀ a b : Sp, a ≠ b → decide (a :: l.drop (i + 1) = b :: m.drop (i + 1)) = false := fun a b hab => zX fun h2 => hab (by injection h2)
   by_cases h1 : l[i].From = m[i].From
   ·rw [zec h1, if_neg (by simp)]
    simp only [Option.bind_some]
    by_cases h2 : l[i].To = m[i].To
    ·rw [zec h2, if_neg (by simp), zgg (by omega), Option.bind_some, Option.bind_some]
     by_cases h3 : l[i].At = m[i].At
     ·have he : l[i] = m[i] := by
       cases hx : l[i]; cases hy : m[i]
       simp only [hx, hy] at h1 h2 h3
       rw [h1, h2, h3]
      rw [zK h3, Bool.not_true, if_neg (by simp), z5 (by omega), zh3 l m hs hlm n (i + 1) (by omega) (by omega), he]
      congr 1
      rw [decide_eq_decide]
      exact ⟨fun h => by rw [h], fun h => by injection h⟩
     ·rw [zX h3, Bool.not_false, if_pos rfl, hcons _ _ fun e => h3 (by rw [e])]
    ·rw [zdt h2, if_pos rfl, Option.bind_some, if_pos rfl, hcons _ _ fun e => h2 (by rw [e])]
   ·rw [zdt h1, if_pos rfl, Option.bind_some, if_pos rfl, Option.bind_some, if_pos rfl, hcons _ _ fun e => h1 (by rw [e])]
  ·rw [zX (by omega), if_neg (by simp), List.drop_of_length_le (by omega), List.drop_of_length_le (by omega), zK rfl]
theorem zgB {l m : List Sp} (hs : smS l) : zbI l m = some (decide (l = m)) := by
 have hl := hs.1
 unfold zbI
 by_cases h : l.length = m.length
 ·rw [zec (by omega), if_neg (by simp)]
  exact zh3 l m hs h big 0 (by omega) (zbk (by omega))
 ·rw [zdt (by omega), if_pos rfl, zX (fun e => h (by rw [e]))]
theorem zhU (l : List Sp) (hs : smS l) : ∀ (n i : Nat) (acc : List Sp), i ≤ l.length → l.length - i < n → acc.length ≤ i → zdu l n acc (i : Int) = some (acc ++ l.drop i)
 | 0, i, _, _, h, _ => by omega
 | n + 1, i, acc, hi, h, ha => by
  have hl := hs.1
  show zd0 _ l acc (i : Int) = _
  unfold zd0
  by_cases hlt : i < l.length
  ·have hr := hs.2 l[i] (List.getElem_mem hlt)
   rw [zK (by omega), if_pos rfl, zbd hlt]
   simp only [Option.bind_some]
   rw [zdc (by omega), Option.bind_some, zbv (by omega), Option.bind_some, z5 (by omega), zhU l hs n (i + 1) _ (by omega) (by omega) (by simp; omega), List.drop_eq_getElem_cons hlt, List.append_assoc]
   rfl
  ·rw [zX (by omega), if_neg (by simp), List.drop_of_length_le (by omega), List.append_nil]
theorem zhb {l : List Sp} (hs : smS l) : zdH l = some l := by
 have := zhU l hs big 0 [] (by omega) (zbk (by have := hs.1; omega)) (by simp)
 exact this
theorem zhN (l : List Sp) (hm : l.length ≤ maxLen) : ∀ (n i : Nat) (s : Int), i ≤ l.length → i ≤ 5001 → 5001 - i < n → 0 ≤ s ∧ s ≤ 1000 * i → ∃ r, zdi l n s (i : Int) = some r ∧ (r = false → l.length ≤ 5000 ∧ ∀ k, i ≤ k → ∀ h : k < l.length, (l[k]'h).At.length ≤ 1000)
 | 0, i, _, _, _, h, _ => by omega
 | n + 1, i, s, hi, h5, h, hs => by
  have hmx : maxLen ≤ 9223372036854775807 := by decide
  show ∃ r, zdK _ l s (i : Int) = some r ∧ _
  unfold zdK
  by_cases hlt : i < l.length ∧ i ≤ 5000
  ·rw [zK (show (i : Int) < l.length by omega), zK (show (i : Int) ≤ 5000 by omega), Bool.and_self, if_pos rfl, zbd hlt.1, Option.bind_some, Option.bind_some]
   by_cases hr : (l[i].At.length : Int) > 1000
   ·rw [zK hr, if_pos rfl]
    exact ⟨true, rfl, fun h => by cases h⟩
   ·have hmin : zW (l[i].At.length : Int) 1000 = (l[i].At.length : Int) ∨ zW (l[i].At.length : Int) 1000 = 1000 := by unfold zW; split <;> simp
    have hmin2 : 0 ≤ zW (l[i].At.length : Int) 1000 ∧ zW (l[i].At.length : Int) 1000 ≤ 1000 := by omega
    rw [zX hr, if_neg (by simp), zdb (x := s + zW (l[i].At.length : Int) 1000) (by omega), z5 (by omega)]
    obtain ⟨r, h1, h2⟩ := zhN l hm n (i + 1) _ (by omega) (by omega) (by omega) (show 0 ≤ s + zW (l[i].At.length : Int) 1000 ∧ s + zW (l[i].At.length : Int) 1000 ≤ 1000 * ((i + 1 : Nat) : Int) by omega)
    refine ⟨r, h1, fun hf => ?_⟩
    obtain ⟨h3, h4⟩ := h2 hf
    refine ⟨h3, fun k hk hkl => ?_⟩
    by_cases he : k = i
    ·subst he; omega
    ·exact h4 k (by omega) hkl
  ·rw [if_neg (by simp only [Bool.and_eq_true, decide_eq_true_eq]; omega)]
   refine ⟨_, rfl, fun hf => ?_⟩
   simp only [Bool.or_eq_false_iff, decide_eq_false_iff_not] at hf
   exact ⟨by omega, fun k hk hkl => by omega⟩
theorem zjn {l : List Sp} (hm : l.length ≤ maxLen) : ∃ r, zef l = some r ∧ (r = false → l.length ≤ 5000 ∧ ∀ x ∈ l, x.At.length ≤ 1000) := by
 obtain ⟨r, h1, h2⟩ := zhN l hm big 0 0 (by omega) (by omega) (zbk (by omega)) (by omega)
 refine ⟨r, h1, fun hf => ?_⟩
 obtain ⟨h3, h4⟩ := h2 hf
 refine ⟨h3, fun x hx => ?_⟩
 obtain ⟨k, hk, rfl⟩ := List.getElem_of_mem hx
 exact h4 k (by omega) hk
end Go.Proofs.Ytjcehfjmmbbblaa
