import Derived.Test.YtckcngkkofemjaaGreatP_01
import Derived.Test.YtckcngkkofemjaaGreatP_07b
import Derived.Test.YtckcngkkofemjaaGreatP_09
namespace Go.Proofs.YtckcngkkofemjaaGreat
open Go.Ab Go.RowKit
set_option linter.unusedVariables false
set_option linter.unusedSimpArgs false
def chB (c : UInt8) : Bool := (decide ((c.toNat : Int) ≥ 97) && decide ((c.toNat : Int) ≤ 122)) || (decide ((c.toNat : Int) ≥ 65) && decide ((c.toNat : Int) ≤ 90)) || (decide ((c.toNat : Int) ≥ 48) && decide ((c.toNat : Int) ≤ 57)) || ((c.toNat : Int) == 95)
def nmB (s : ByteArray) : Bool := s.data.toList.all chB && (decide ((s.size : Int) ≥ 1) && decide ((s.size : Int) ≤ 24))
theorem zlX (s : ByteArray) (hs : s.size ≤ 9223372036854775807) : ∀ (n i : Nat), i ≤ s.data.toList.length → s.data.toList.length - i < n → zfm s n (i : Int) = some ((s.data.toList.drop i).all chB && (decide ((s.size : Int) ≥ 1) && decide ((s.size : Int) ≤ 24)))
 | 0, i, _, h => by omega
 | n + 1, i, hi, hn => by
  have hsz : s.data.toList.length = s.size := rfl
  show zgR _ s (i : Int) = _
  unfold zgR
  by_cases hlt : i < s.data.toList.length
  ·rw [zv (by omega), if_pos rfl, zbd hlt, Option.bind_some, zbh (by omega), zlX s hs n (i + 1) (by omega) (by omega), List.drop_eq_getElem_cons hlt, List.all_cons]
   have e : ∀ c : UInt8, chB c = ((decide ((c.toNat : Int) ≥ 97) && decide ((c.toNat : Int) ≤ 122)) || (decide ((c.toNat : Int) ≥ 65) && decide ((c.toNat : Int) ≤ 90)) || (decide ((c.toNat : Int) ≥ 48) && decide ((c.toNat : Int) ≤ 57)) || ((c.toNat : Int) == 95)) := fun _ => rfl
   rw [e]
   generalize (decide ((s.data.toList[i].toNat : Int) ≥ 97) && decide ((s.data.toList[i].toNat : Int) ≤ 122)) = b1
   generalize (decide ((s.data.toList[i].toNat : Int) ≥ 65) && decide ((s.data.toList[i].toNat : Int) ≤ 90)) = b2
   generalize (decide ((s.data.toList[i].toNat : Int) ≥ 48) && decide ((s.data.toList[i].toNat : Int) ≤ 57)) = b3
   generalize ((s.data.toList[i].toNat : Int) == 95) = b4
   cases b1 <;> cases b2 <;> cases b3 <;> cases b4 <;> simp
  ·rw [zx (by omega), if_neg (by simp), List.drop_of_length_le (by omega), List.all_nil, Bool.true_and]
theorem zhe {s : ByteArray} (hs : s.size ≤ 9223372036854775807) : zdT s = some (nmB s) := zlX s hs big 0 (by omega) (zbj (by have : s.data.toList.length = s.size := rfl; omega))
def vk (v : Vr) : Int := (v.Type_.Kind.toNat : Int)
def rvB (v : Vr) : Bool := nmB v.Name && (if vk v = 1 ∨ vk v = 2 then ((((zbu v.Type_.Name (⟨#[]⟩ : ByteArray)) && ((v.Fields.length : Int) == 0)) && (v.Type_.N == 0)) && (v.Words == 1)) else if vk v = 3 then (((((zbu v.Type_.Name (⟨#[]⟩ : ByteArray)) && ((v.Fields.length : Int) == 0)) && (decide (v.Type_.N ≥ 1))) && (decide (v.Type_.N ≤ 16))) && (v.Words == v.Type_.N)) else if vk v = 4 then ((((nmB v.Type_.Name && (v.Type_.N == 0)) && (v.Words == (v.Fields.length : Int))) && (decide (v.Words ≥ 1))) && (decide (v.Words ≤ 8))) && v.Fields.all nmB else false)
def smV (v : Vr) : Prop := v.Name.size ≤ 9223372036854775807 ∧ v.Type_.Name.size ≤ 9223372036854775807 ∧ v.Fields.length ≤ 9223372036854775807 ∧ ∀ x ∈ v.Fields, x.size ≤ 9223372036854775807
theorem zio (v : Vr) (hs : smV v) : ∀ (n i : Nat) (ok : Bool), i ≤ v.Fields.length → v.Fields.length - i < n → zgL v n ok (i : Int) = some (ok && (v.Fields.drop i).all nmB)
 | 0, i, _, _, h => by omega
 | n + 1, i, ok, hi, hn => by
  show zfa _ v ok (i : Int) = _
  unfold zfa
  have hl := hs.2.2.1
  by_cases hlt : i < v.Fields.length
  ·rw [zv (by omega), if_pos rfl, zbd hlt, Option.bind_some, zbh (by omega), List.drop_eq_getElem_cons hlt, List.all_cons]
   cases ok
   ·rw [if_neg (by simp), Option.bind_some, zio v hs n (i + 1) false (by omega) (by omega)]
    simp
   ·rw [if_pos rfl, zhe (hs.2.2.2 _ (List.getElem_mem hlt)), Option.bind_some, Option.bind_some, zio v hs n (i + 1) _ (by omega) (by omega)]
    simp
  ·rw [zx (by omega), if_neg (by simp), List.drop_of_length_le (by omega), List.all_nil, Bool.and_true]
theorem zo4 {v : Vr} (hs : smV v) : zej v = some (rvB v) := by
 unfold zej
 rw [zhe hs.1, Option.bind_some]
 unfold rvB
 have hk : ((v.Type_.Kind.toNat : Nat) : Int) = vk v := rfl
 cases h : nmB v.Name
 ·rw [Bool.not_false, if_pos rfl, Bool.false_and]
 ·rw [Bool.not_true, if_neg (by simp), Bool.true_and]
  unfold ze1
  rw [hk]
  by_cases h1 : vk v = 1
  ·rw [zbO h1, if_pos rfl, if_pos rfl, if_pos (.inl h1)]
  ·rw [zbJ h1, if_neg (by simp)]
   by_cases h2 : vk v = 2
   ·rw [zbO h2, if_pos rfl, if_pos (.inr h2)]
   ·rw [zbJ h2, if_neg (by simp), if_neg (show ¬ (vk v = 1 ∨ vk v = 2) by omega)]
    by_cases h3 : vk v = 3
    ·rw [zbO h3, if_pos rfl, if_pos h3]
    ·rw [zbJ h3, if_neg (by simp), if_neg h3]
     by_cases h4 : vk v = 4
     ·rw [zbO h4, if_pos rfl, if_pos h4, zhe hs.2.1, Option.bind_some]
      exact zio v hs big 0 _ (by omega) (zbj (by have := hs.2.2.1; omega))
     ·rw [zbJ h4, if_neg (by simp), if_neg h4]
def spB (p : Pl) (s : List Sp) : Bool := St s && !(match s with | [] => false | x :: _ => decide (x.From < p.From) || decide ((s.getLastD x).To > p.To))
def vsB (p : Pl) : List Vr → List (List Sp) → Bool
 | [], _ => true
 | _, [] => false
 | v :: l, s :: ss => rvB v && spB p s && vsB p l ss
def smW (x : Pl) : Prop := x.Name.size ≤ 9223372036854775807 ∧ ∀ v ∈ x.Vars, smV v
theorem zk8 (p : Pl) (hp : smP p) (hw : smW p) (hlen : p.Spans.length = p.Vars.length) : ∀ (n i : Nat), i ≤ p.Vars.length → p.Vars.length - i < n → zfy p n (i : Int) = some (vsB p (p.Vars.drop i) (p.Spans.drop i))
 | 0, i, _, h => by omega
 | n + 1, i, hi, hn => by
  show zgq _ p (i : Int) = _
  unfold zgq
  have hl := hp.1
  by_cases hlt : i < p.Vars.length
  ·have hlt2 : i < p.Spans.length := by omega
   have hs := hp.2.2.2 _ (List.getElem_mem hlt2)
   have hv := hw.2 _ (List.getElem_mem hlt)
   rw [zv (by omega), if_pos rfl, zbd hlt, Option.bind_some, zbd hlt2, Option.bind_some, show zej _ = _ from zo4 hv, Option.bind_some, zbh (by omega), zk8 p hp hw hlen n (i + 1) (by omega) (by omega), List.drop_eq_getElem_cons hlt, List.drop_eq_getElem_cons hlt2, vsB]
   cases hB : rvB p.Vars[i]
   ·rw [Bool.not_false, if_pos rfl, Option.bind_some, if_pos rfl, Bool.false_and, Bool.false_and]
   ·rw [Bool.not_true, if_neg (by simp), zlZ hs, Option.bind_some, Option.bind_some, Bool.true_and]
    unfold spB
    cases hS : St p.Spans[i]
    ·rw [Bool.not_false, if_pos rfl, Bool.false_and, Bool.false_and]
    ·rw [Bool.not_true, if_neg (by simp), Bool.true_and]
     cases hz : p.Spans[i] with
     | nil =>
      rw [zx (by simp), if_neg (by simp), Option.bind_some, if_neg (by simp)]
      simp
     | cons x l =>
      have hsl := hs.1
      rw [hz] at hsl
      have hsl' : (x :: l).length = l.length + 1 := rfl
      rw [zv (by simp), if_pos rfl, show zz (x :: l) 0 = some x from rfl, Option.bind_some, zbc (by omega)]
      by_cases hf : x.From < p.From
      ·rw [zv hf, if_pos rfl, Option.bind_some, if_pos rfl]
       simp [hf]
      ·have hg := zbd (l := x :: l) (k := l.length) (by simp)
       rw [show ((l.length : Nat) : Int) = (((x :: l).length : Int) - 1) by omega] at hg
       have hlast : (x :: l)[l.length]'(by simp) = (x :: l).getLastD x := by
        rw [List.getLastD_cons]
        cases l with
        | nil => rfl
        | cons y t => simp [List.getLastD_eq_getLast?, List.getLast?_eq_getElem?]
       rw [hlast] at hg
       simp only
       rw [zx hf, if_neg (by simp), hg, Option.bind_some, Option.bind_some]
       generalize decide (((x :: l).getLastD x).To > p.To) = c
       cases c <;> simp
  ·rw [zx (by omega), if_neg (by simp), List.drop_of_length_le (by omega), vsB]
def rpB (last : Int) (p : Pl) : Bool := nmB p.Name && decide (p.From ≥ last) && decide (p.To > p.From) && decide (p.To ≤ 16777216) && decide ((p.Vars.length : Int) ≤ 64) && decide (p.Spans.length = p.Vars.length) && vsB p p.Vars p.Spans
theorem zpR {last : Int} {p : Pl} (hp : smP p) (hw : smW p) : zeD p last = some (rpB last p) := by
 unfold zeD
 rw [zhe hw.1, Option.bind_some]
 unfold rpB
 by_cases hc : nmB p.Name = true ∧ p.From ≥ last ∧ p.To > p.From ∧ p.To ≤ 16777216 ∧ (p.Vars.length : Int) ≤ 64 ∧ p.Spans.length = p.Vars.length
 ·obtain ⟨h1, h2, h3, h4, h5, h6⟩ := hc
  rw [if_neg (by simp [h1]; omega), h1, zv h2, zv h3, zv h4, zv h5, zv h6]
  simp only [Bool.true_and]
  exact zk8 p hp hw h6 big 0 (by omega) (zbj (by omega))
 ·rw [if_pos]
  ·congr 1
   symm
   rw [Bool.and_eq_false_iff]
   left
   rw [← Bool.not_eq_true]
   intro h
   simp only [Bool.and_eq_true, decide_eq_true_eq] at h
   exact hc ⟨h.1.1.1.1.1, h.1.1.1.1.2, h.1.1.1.2, h.1.1.2, h.1.2, h.2⟩
  ·cases h1 : nmB p.Name
   ·simp
   ·simp only [h1, true_and, not_and] at hc
    simp only [Bool.not_true, Bool.false_or, Bool.or_eq_true, decide_eq_true_eq, bne_iff_ne, ne_eq]
    omega
end Go.Proofs.YtckcngkkofemjaaGreat
