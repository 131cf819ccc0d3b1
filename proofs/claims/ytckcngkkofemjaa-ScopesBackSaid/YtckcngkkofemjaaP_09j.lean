import Derived.Test.YtckcngkkofemjaaAd
import Derived.Test.YtckcngkkofemjaaF
import Derived.Test.YtckcngkkofemjaaPL
import Derived.Test.YtckcngkkofemjaaP_02
import Derived.Test.YtckcngkkofemjaaP_01
import Derived.Test.YtckcngkkofemjaaP_06
import Derived.Test.YtckcngkkofemjaaP_06b
import Derived.Test.YtckcngkkofemjaaP_06c
import Derived.Test.YtckcngkkofemjaaP_07
import Derived.Test.YtckcngkkofemjaaP_07b
import Derived.Test.YtckcngkkofemjaaP_09
namespace Go.Proofs.Ytckcngkkofemjaa
open Go.Ab Go.RowKit
set_option linter.unusedVariables false
set_option linter.unusedSimpArgs false
def chB (c : UInt8) : Bool := (decide ((c.toNat : Int) ≥ 97) && decide ((c.toNat : Int) ≤ 122)) || (decide ((c.toNat : Int) ≥ 65) && decide ((c.toNat : Int) ≤ 90)) || (decide ((c.toNat : Int) ≥ 48) && decide ((c.toNat : Int) ≤ 57)) || ((c.toNat : Int) == 95)
def nmB (s : ByteArray) : Bool := s.data.toList.all chB && (decide ((s.size : Int) ≥ 1) && decide ((s.size : Int) ≤ 24))
theorem named_loop (s : ByteArray) (hs : s.size ≤ 9223372036854775807) : ∀ (n i : Nat), i ≤ s.data.toList.length → s.data.toList.length - i < n → zbX s n (i : Int) = some ((s.data.toList.drop i).all chB && (decide ((s.size : Int) ≥ 1) && decide ((s.size : Int) ≤ 24)))
  | 0, i, _, h => by omega
  | n + 1, i, hi, hn => by
    have hsz : s.data.toList.length = s.size := rfl
    show zbt _ s (i : Int) = _
    unfold zbt
    by_cases hlt : i < s.data.toList.length
    · rw [decT (by omega), if_pos rfl, getI_lt hlt, Option.bind_some, i64_succ (by omega), named_loop s hs n (i + 1) (by omega) (by omega), List.drop_eq_getElem_cons hlt, List.all_cons]
      have e : ∀ c : UInt8, chB c = ((decide ((c.toNat : Int) ≥ 97) && decide ((c.toNat : Int) ≤ 122)) || (decide ((c.toNat : Int) ≥ 65) && decide ((c.toNat : Int) ≤ 90)) || (decide ((c.toNat : Int) ≥ 48) && decide ((c.toNat : Int) ≤ 57)) || ((c.toNat : Int) == 95)) := fun _ => rfl
      rw [e]
      generalize (decide ((s.data.toList[i].toNat : Int) ≥ 97) && decide ((s.data.toList[i].toNat : Int) ≤ 122)) = b1
      generalize (decide ((s.data.toList[i].toNat : Int) ≥ 65) && decide ((s.data.toList[i].toNat : Int) ≤ 90)) = b2
      generalize (decide ((s.data.toList[i].toNat : Int) ≥ 48) && decide ((s.data.toList[i].toNat : Int) ≤ 57)) = b3
      generalize ((s.data.toList[i].toNat : Int) == 95) = b4
      cases b1 <;> cases b2 <;> cases b3 <;> cases b4 <;> simp
    · rw [decF (by omega), if_neg (by simp), List.drop_of_length_le (by omega), List.all_nil, Bool.true_and]
theorem zdl {s : ByteArray} (hs : s.size ≤ 9223372036854775807) : z3 s = some (nmB s) := named_loop s hs big 0 (by omega) (big_gt (by have : s.data.toList.length = s.size := rfl; omega))
theorem nmB_len {s : ByteArray} (h : nmB s = true) : 1 ≤ s.size ∧ s.size ≤ 24 := by
  unfold nmB at h
  simp only [Bool.and_eq_true, decide_eq_true_eq] at h
  omega
def vk (v : Vr) : Int := (v.Type_.Kind.toNat : Int)
def rvB (v : Vr) : Bool := nmB v.Name && (if vk v = 1 ∨ vk v = 2 then ((((strEq v.Type_.Name (⟨#[]⟩ : ByteArray)) && ((v.Fields.length : Int) == 0)) && (v.Type_.N == 0)) && (v.Words == 1)) else if vk v = 3 then (((((strEq v.Type_.Name (⟨#[]⟩ : ByteArray)) && ((v.Fields.length : Int) == 0)) && (decide (v.Type_.N ≥ 1))) && (decide (v.Type_.N ≤ 16))) && (v.Words == v.Type_.N)) else if vk v = 4 then ((((nmB v.Type_.Name && (v.Type_.N == 0)) && (v.Words == (v.Fields.length : Int))) && (decide (v.Words ≥ 1))) && (decide (v.Words ≤ 8))) && v.Fields.all nmB else false)
def smV (v : Vr) : Prop := v.Name.size ≤ 9223372036854775807 ∧ v.Type_.Name.size ≤ 9223372036854775807 ∧ v.Fields.length ≤ 9223372036854775807 ∧ ∀ x ∈ v.Fields, x.size ≤ 9223372036854775807
theorem rightVar_loop (v : Vr) (hs : smV v) : ∀ (n i : Nat) (ok : Bool), i ≤ v.Fields.length → v.Fields.length - i < n → zc3 v n ok (i : Int) = some (ok && (v.Fields.drop i).all nmB)
  | 0, i, _, _, h => by omega
  | n + 1, i, ok, hi, hn => by
    show zco _ v ok (i : Int) = _
    unfold zco
    have hl := hs.2.2.1
    by_cases hlt : i < v.Fields.length
    · rw [decT (by omega), if_pos rfl, getI_lt hlt, Option.bind_some, i64_succ (by omega), List.drop_eq_getElem_cons hlt, List.all_cons]
      cases ok
      · rw [if_neg (by simp), Option.bind_some, rightVar_loop v hs n (i + 1) false (by omega) (by omega)]
        simp
      · rw [if_pos rfl, zdl (hs.2.2.2 _ (List.getElem_mem hlt)), Option.bind_some, Option.bind_some, rightVar_loop v hs n (i + 1) _ (by omega) (by omega)]
        simp
    · rw [decF (by omega), if_neg (by simp), List.drop_of_length_le (by omega), List.all_nil, Bool.and_true]
theorem zfI {v : Vr} (hs : smV v) : zbm v = some (rvB v) := by
  unfold zbm
  rw [zdl hs.1, Option.bind_some]
  unfold rvB
  have hk : ((v.Type_.Kind.toNat : Nat) : Int) = vk v := rfl
  cases h : nmB v.Name
  · rw [Bool.not_false, if_pos rfl, Bool.false_and]
  · rw [Bool.not_true, if_neg (by simp), Bool.true_and]
    unfold zbN
    rw [hk]
    by_cases h1 : vk v = 1
    · rw [beqT h1, if_pos rfl, if_pos rfl, if_pos (.inl h1)]
    · rw [beqF h1, if_neg (by simp)]
      by_cases h2 : vk v = 2
      · rw [beqT h2, if_pos rfl, if_pos (.inr h2)]
      · rw [beqF h2, if_neg (by simp), if_neg (show ¬ (vk v = 1 ∨ vk v = 2) by omega)]
        by_cases h3 : vk v = 3
        · rw [beqT h3, if_pos rfl, if_pos h3]
        · rw [beqF h3, if_neg (by simp), if_neg h3]
          by_cases h4 : vk v = 4
          · rw [beqT h4, if_pos rfl, if_pos h4, zdl hs.2.1, Option.bind_some]
            exact rightVar_loop v hs big 0 _ (by omega) (big_gt (by have := hs.2.2.1; omega))
          · rw [beqF h4, if_neg (by simp), if_neg h4]
def spB (p : Pl) (s : List Sp) : Bool := St s && !(match s with | [] => false | x :: _ => decide (x.From < p.From) || decide ((s.getLastD x).To > p.To))
def vsB (p : Pl) : List Vr → List (List Sp) → Bool
  | [], _ => true
  | _, [] => false
  | v :: l, s :: ss => rvB v && spB p s && vsB p l ss
def smW (x : Pl) : Prop := x.Name.size ≤ 9223372036854775807 ∧ ∀ v ∈ x.Vars, smV v
theorem rightPlace_loop (p : Pl) (hp : smP p) (hw : smW p) (hlen : p.Spans.length = p.Vars.length) : ∀ (n i : Nat), i ≤ p.Vars.length → p.Vars.length - i < n → zbW p n (i : Int) = some (vsB p (p.Vars.drop i) (p.Spans.drop i))
  | 0, i, _, h => by omega
  | n + 1, i, hi, hn => by
    show zcP _ p (i : Int) = _
    unfold zcP
    have hl := hp.1
    by_cases hlt : i < p.Vars.length
    · have hlt2 : i < p.Spans.length := by omega
      have hs := hp.2.2.2 _ (List.getElem_mem hlt2)
      have hv := hw.2 _ (List.getElem_mem hlt)
      rw [decT (by omega), if_pos rfl, getI_lt hlt, Option.bind_some, getI_lt hlt2, Option.bind_some, show zbm _ = _ from zfI hv, Option.bind_some, i64_succ (by omega), rightPlace_loop p hp hw hlen n (i + 1) (by omega) (by omega), List.drop_eq_getElem_cons hlt, List.drop_eq_getElem_cons hlt2, vsB]
      cases hB : rvB p.Vars[i]
      · rw [Bool.not_false, if_pos rfl, Option.bind_some, if_pos rfl, Bool.false_and, Bool.false_and]
      · rw [Bool.not_true, if_neg (by simp), zdL hs, Option.bind_some, Option.bind_some, Bool.true_and]
        unfold spB
        cases hS : St p.Spans[i]
        · rw [Bool.not_false, if_pos rfl, Bool.false_and, Bool.false_and]
        · rw [Bool.not_true, if_neg (by simp), Bool.true_and]
          cases hz : p.Spans[i] with
          | nil =>
            rw [decF (by simp), if_neg (by simp), Option.bind_some, if_neg (by simp)]
            simp
          | cons x l =>
            have hsl := hs.1
            rw [hz] at hsl
            have hsl' : (x :: l).length = l.length + 1 := rfl
            rw [decT (by simp), if_pos rfl, show getI (x :: l) 0 = some x from rfl, Option.bind_some, wi64 (by omega)]
            by_cases hf : x.From < p.From
            · rw [decT hf, if_pos rfl, Option.bind_some, if_pos rfl]
              simp [hf]
            · have hg := getI_lt (l := x :: l) (k := l.length) (by simp)
              rw [show ((l.length : Nat) : Int) = (((x :: l).length : Int) - 1) by omega] at hg
              have hlast : (x :: l)[l.length]'(by simp) = (x :: l).getLastD x := by
                rw [List.getLastD_cons]
                cases l with
                | nil => rfl
                | cons y t => simp [List.getLastD_eq_getLast?, List.getLast?_eq_getElem?]
              rw [hlast] at hg
              simp only
              rw [decF hf, if_neg (by simp), hg, Option.bind_some, Option.bind_some]
              generalize decide (((x :: l).getLastD x).To > p.To) = c
              cases c <;> simp
    · rw [decF (by omega), if_neg (by simp), List.drop_of_length_le (by omega), vsB]
def rpB (last : Int) (p : Pl) : Bool := nmB p.Name && decide (p.From ≥ last) && decide (p.To > p.From) && decide (p.To ≤ 16777216) && decide ((p.Vars.length : Int) ≤ 64) && decide (p.Spans.length = p.Vars.length) && vsB p p.Vars p.Spans
theorem zfr {last : Int} {p : Pl} (hp : smP p) (hw : smW p) : zba p last = some (rpB last p) := by
  unfold zba
  rw [zdl hw.1, Option.bind_some]
  unfold rpB
  by_cases hc : nmB p.Name = true ∧ p.From ≥ last ∧ p.To > p.From ∧ p.To ≤ 16777216 ∧ (p.Vars.length : Int) ≤ 64 ∧ p.Spans.length = p.Vars.length
  · obtain ⟨h1, h2, h3, h4, h5, h6⟩ := hc
    rw [if_neg (by simp [h1]; omega), h1, decT h2, decT h3, decT h4, decT h5, decT h6]
    simp only [Bool.true_and]
    exact rightPlace_loop p hp hw h6 big 0 (by omega) (big_gt (by omega))
  · rw [if_pos]
    · congr 1
      symm
      rw [Bool.and_eq_false_iff]
      left
      rw [← Bool.not_eq_true]
      intro h
      simp only [Bool.and_eq_true, decide_eq_true_eq] at h
      exact hc ⟨h.1.1.1.1.1, h.1.1.1.1.2, h.1.1.1.2, h.1.1.2, h.1.2, h.2⟩
    · cases h1 : nmB p.Name
      · simp
      · simp only [h1, true_and, not_and] at hc
        simp only [Bool.not_true, Bool.false_or, Bool.or_eq_true, decide_eq_true_eq, bne_iff_ne, ne_eq]
        omega
end Go.Proofs.Ytckcngkkofemjaa
