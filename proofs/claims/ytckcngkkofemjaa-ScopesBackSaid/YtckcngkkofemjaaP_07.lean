import Derived.Test.YtckcngkkofemjaaAd
import Derived.Test.YtckcngkkofemjaaF
import Derived.Test.YtckcngkkofemjaaPL
import Derived.Test.YtckcngkkofemjaaP_02
import Derived.Test.YtckcngkkofemjaaP_06
import Derived.Test.YtckcngkkofemjaaP_06b
import Derived.Test.YtckcngkkofemjaaP_06c
import Derived.KernelRfl
namespace Go.Proofs.Ytckcngkkofemjaa
open Go.Ab Go.RowKit
set_option linter.unusedVariables false
set_option linter.unusedSimpArgs false
abbrev Sp := ze
def okS (last : Int) (x : Sp) : Prop := last ≤ x.From ∧ x.From < x.To ∧ x.To ≤ 16777216 ∧ x.At.length ≠ 0
instance (r : Int) (x : Sp) : Decidable (okS r x) := by unfold okS; exact inferInstance
def rtS : Int → List Sp → Bool
  | _, [] => true
  | last, x :: l => decide (okS last x) && Rt x.At && rtS x.To l
def smS (l : List Sp) : Prop := l.length ≤ 1000000 ∧ ∀ x ∈ l, x.At.length ≤ 1000000
def St (l : List Sp) : Bool := rtS 0 l && decide ((l.length : Int) ≤ 4000)
theorem SR_loop (l : List Sp) (hs : smS l) : ∀ (n i : Nat) (last : Int), i ≤ l.length → l.length - i < n → zcR l n last (i : Int) = some (rtS last (l.drop i) && decide ((l.length : Int) ≤ 4000))
  | 0, i, _, _, h => by omega
  | n + 1, i, last, hi, h => by
    have hl := hs.1
    show zct _ l last (i : Int) = _
    unfold zct
    by_cases hlt : i < l.length
    · have hr := hs.2 l[i] (List.getElem_mem hlt)
      rw [decT (by omega), if_pos rfl, getI_lt hlt, Option.bind_some, List.drop_eq_getElem_cons hlt]
      by_cases hc : okS last l[i]
      · have hc' := hc
        unfold okS at hc'
        rw [if_neg (by simp only [Bool.or_eq_true, decide_eq_true_eq, beq_iff_eq]; omega), zdI (by omega), Option.bind_some, Option.bind_some]
        simp only [rtS, decT hc, Bool.true_and]
        by_cases hR : Rt l[i].At = true
        · rw [hR, Bool.not_true, if_neg (by simp), i64_succ (by omega), SR_loop l hs n (i + 1) _ (by omega) (by omega), Bool.true_and]
        · have : Rt l[i].At = false := by simpa using hR
          rw [this, Bool.not_false, if_pos rfl]
          rfl
      · rw [if_pos (by unfold okS at hc; simp only [Bool.or_eq_true, decide_eq_true_eq, beq_iff_eq]; omega), Option.bind_some, if_pos rfl]
        simp only [rtS, decF hc, Bool.false_and]
    · rw [decF (by omega), if_neg (by simp), List.drop_of_length_le (by omega), rtS, Bool.true_and]
theorem zdL {l : List Sp} (hs : smS l) : z7 l = some (St l) := SR_loop l hs big 0 0 (by omega) (big_gt (by have := hs.1; omega))
theorem Same7_loop (l m : List Sp) (hs : smS l) (hlm : l.length = m.length) : ∀ (n i : Nat), i ≤ l.length → l.length - i < n → zcr l m n (i : Int) = some (decide (l.drop i = m.drop i))
  | 0, i, _, h => by omega
  | n + 1, i, hi, h => by
    have hl := hs.1
    show zcw _ l m (i : Int) = _
    unfold zcw
    by_cases hlt : i < l.length
    · have hlt2 : i < m.length := by omega
      have hr := hs.2 l[i] (List.getElem_mem hlt)
      rw [decT (by omega), if_pos rfl, getI_lt hlt, Option.bind_some, getI_lt hlt2, Option.bind_some, List.drop_eq_getElem_cons hlt, List.drop_eq_getElem_cons hlt2]
      have hcons : ∀ a b : Sp, a ≠ b → decide (a :: l.drop (i + 1) = b :: m.drop (i + 1)) = false := fun a b hab => decF fun h2 => hab (by injection h2)
      by_cases h1 : l[i].From = m[i].From
      · rw [bneF h1, if_neg (by simp)]
        simp only [Option.bind_some]
        by_cases h2 : l[i].To = m[i].To
        · rw [bneF h2, if_neg (by simp), zez (by omega), Option.bind_some, Option.bind_some]
          by_cases h3 : l[i].At = m[i].At
          · have he : l[i] = m[i] := by
              cases hx : l[i]; cases hy : m[i]
              simp only [hx, hy] at h1 h2 h3
              rw [h1, h2, h3]
            rw [decT h3, Bool.not_true, if_neg (by simp), i64_succ (by omega), Same7_loop l m hs hlm n (i + 1) (by omega) (by omega), he]
            congr 1
            rw [decide_eq_decide]
            exact ⟨fun h => by rw [h], fun h => by injection h⟩
          · rw [decF h3, Bool.not_false, if_pos rfl, hcons _ _ fun e => h3 (by rw [e])]
        · rw [bneT h2, if_pos rfl, Option.bind_some, if_pos rfl, hcons _ _ fun e => h2 (by rw [e])]
      · rw [bneT h1, if_pos rfl, Option.bind_some, if_pos rfl, Option.bind_some, if_pos rfl, hcons _ _ fun e => h1 (by rw [e])]
    · rw [decF (by omega), if_neg (by simp), List.drop_of_length_le (by omega), List.drop_of_length_le (by omega), decT rfl]
theorem zfz {l m : List Sp} (hs : smS l) : zbQ l m = some (decide (l = m)) := by
  have hl := hs.1
  unfold zbQ
  by_cases h : l.length = m.length
  · rw [bneF (by omega), if_neg (by simp)]
    exact Same7_loop l m hs h big 0 (by omega) (big_gt (by omega))
  · rw [bneT (by omega), if_pos rfl, decF (fun e => h (by rw [e]))]
theorem Twin7_loop (l : List Sp) (hs : smS l) : ∀ (n i : Nat) (acc : List Sp), i ≤ l.length → l.length - i < n → acc.length ≤ i → zcY l n acc (i : Int) = some (acc ++ l.drop i)
  | 0, i, _, _, h, _ => by omega
  | n + 1, i, acc, hi, h, ha => by
    have hl := hs.1
    show zb6 _ l acc (i : Int) = _
    unfold zb6
    by_cases hlt : i < l.length
    · have hr := hs.2 l[i] (List.getElem_mem hlt)
      rw [decT (by omega), if_pos rfl, getI_lt hlt]
      simp only [Option.bind_some]
      rw [zfp (by omega), Option.bind_some, room_ok (by omega), Option.bind_some, i64_succ (by omega), Twin7_loop l hs n (i + 1) _ (by omega) (by omega) (by simp; omega), List.drop_eq_getElem_cons hlt, List.append_assoc]
      rfl
    · rw [decF (by omega), if_neg (by simp), List.drop_of_length_le (by omega), List.append_nil]
theorem zep {l : List Sp} (hs : smS l) : zdi l = some l := by
  have := Twin7_loop l hs big 0 [] (by omega) (big_gt (by have := hs.1; omega)) (by simp)
  exact this
theorem Vast_loop (l : List Sp) (hm : l.length ≤ maxLen) : ∀ (n i : Nat) (s : Int), i ≤ l.length → i ≤ 5001 → 5001 - i < n → 0 ≤ s ∧ s ≤ 1000 * i → ∃ r, zbV l n s (i : Int) = some r ∧ (r = false → l.length ≤ 5000 ∧ ∀ k, i ≤ k → ∀ h : k < l.length, (l[k]'h).At.length ≤ 1000)
  | 0, i, _, _, _, h, _ => by omega
  | n + 1, i, s, hi, h5, h, hs => by
    have hmx : maxLen ≤ 9223372036854775807 := by decide
    show ∃ r, zcK _ l s (i : Int) = some r ∧ _
    unfold zcK
    by_cases hlt : i < l.length ∧ i ≤ 5000
    · rw [decT (show (i : Int) < l.length by omega), decT (show (i : Int) ≤ 5000 by omega), Bool.and_self, if_pos rfl, getI_lt hlt.1, Option.bind_some, Option.bind_some]
      by_cases hr : (l[i].At.length : Int) > 1000
      · rw [decT hr, if_pos rfl]
        exact ⟨true, rfl, fun h => by cases h⟩
      · have hmin : minI (l[i].At.length : Int) 1000 = (l[i].At.length : Int) ∨ minI (l[i].At.length : Int) 1000 = 1000 := by unfold minI; split <;> simp
        have hmin2 : 0 ≤ minI (l[i].At.length : Int) 1000 ∧ minI (l[i].At.length : Int) 1000 ≤ 1000 := by omega
        rw [decF hr, if_neg (by simp), wi64 (x := s + minI (l[i].At.length : Int) 1000) (by omega), i64_succ (by omega)]
        obtain ⟨r, h1, h2⟩ := Vast_loop l hm n (i + 1) _ (by omega) (by omega) (by omega) (show 0 ≤ s + minI (l[i].At.length : Int) 1000 ∧ s + minI (l[i].At.length : Int) 1000 ≤ 1000 * ((i + 1 : Nat) : Int) by omega)
        refine ⟨r, h1, fun hf => ?_⟩
        obtain ⟨h3, h4⟩ := h2 hf
        refine ⟨h3, fun k hk hkl => ?_⟩
        by_cases he : k = i
        · subst he; omega
        · exact h4 k (by omega) hkl
    · rw [if_neg (by simp only [Bool.and_eq_true, decide_eq_true_eq]; omega)]
      refine ⟨_, rfl, fun hf => ?_⟩
      simp only [Bool.or_eq_false_iff, decide_eq_false_iff_not] at hf
      exact ⟨by omega, fun k hk hkl => by omega⟩
theorem zfc {l : List Sp} (hm : l.length ≤ maxLen) : ∃ r, zdr l = some r ∧ (r = false → l.length ≤ 5000 ∧ ∀ x ∈ l, x.At.length ≤ 1000) := by
  obtain ⟨r, h1, h2⟩ := Vast_loop l hm big 0 0 (by omega) (by omega) (big_gt (by omega)) (by omega)
  refine ⟨r, h1, fun hf => ?_⟩
  obtain ⟨h3, h4⟩ := h2 hf
  refine ⟨h3, fun x hx => ?_⟩
  obtain ⟨k, hk, rfl⟩ := List.getElem_of_mem hx
  exact h4 k (by omega) hk
end Go.Proofs.Ytckcngkkofemjaa
