import Derived.Test.YtckcngkkofemjaaGreatP_09k
namespace Go.Proofs.YtckcngkkofemjaaGreat
open Go.Ab Go.RowKit
set_option linter.unusedVariables false
set_option linter.unusedSimpArgs false
theorem zpc {s : ByteArray} {k : Nat} (h : k < s.data.toList.length) : Go.Ab.zb6 s (k : Int) = some (s.data.toList[k]) := by
 unfold Go.Ab.zb6
 rw [if_pos (by omega), Int.toNat_natCast]
 have hs : k < s.size := h
 rw [getElem?_pos s k hs]
 rfl
theorem zlF (s : ByteArray) (hs : s.size ≤ 9223372036854775807) : ∀ (n i : Nat), i ≤ s.data.toList.length → s.data.toList.length - i < n → zfB s n (i : Int) = some ((s.data.toList.drop i).all chB && (decide ((s.size : Int) ≥ 1) && decide ((s.size : Int) ≤ 24)))
 | 0, i, _, h => by omega
 | n + 1, i, hi, hn => by
  have hsz : s.data.toList.length = s.size := rfl
  show zfJ _ s (i : Int) = _
  unfold zfJ
  by_cases hlt : i < s.data.toList.length
  ·rw [zv (by omega), if_pos rfl, zpc hlt, Option.bind_some, zbh (by omega), zlF s hs n (i + 1) (by omega) (by omega), List.drop_eq_getElem_cons hlt, List.all_cons]
   have e : ∀ c : UInt8, chB c = ((decide ((c.toNat : Int) ≥ 97) && decide ((c.toNat : Int) ≤ 122)) || (decide ((c.toNat : Int) ≥ 65) && decide ((c.toNat : Int) ≤ 90)) || (decide ((c.toNat : Int) ≥ 48) && decide ((c.toNat : Int) ≤ 57)) || ((c.toNat : Int) == 95)) := fun _ => rfl
   rw [e]
   generalize (decide ((s.data.toList[i].toNat : Int) ≥ 97) && decide ((s.data.toList[i].toNat : Int) ≤ 122)) = b1
   generalize decide ((s.data.toList[i].toNat : Int) ≥ 65) = b2
   generalize decide ((s.data.toList[i].toNat : Int) ≤ 90) = b3
   generalize decide ((s.data.toList[i].toNat : Int) ≥ 48) = b4
   generalize decide ((s.data.toList[i].toNat : Int) ≤ 57) = b5
   generalize ((s.data.toList[i].toNat : Int) == 95) = b6
   cases b1 <;> cases b2 <;> cases b3 <;> cases b4 <;> cases b5 <;> cases b6 <;> simp
  ·rw [zx (by omega), if_neg (by simp), List.drop_of_length_le (by omega), List.all_nil, Bool.true_and]
theorem zhX {s : ByteArray} (hs : s.size ≤ 9223372036854775807) : zdO s = some (nmB s) := zlF s hs big 0 (by omega) (zbj (by have : s.data.toList.length = s.size := rfl; omega))
theorem zkj (v : Vr) (hs : smV v) : ∀ (n i : Nat), i ≤ v.Fields.length → v.Fields.length - i < n → zgE v n (i : Int) = some ((v.Fields.drop i).all nmB && ((((v.Type_.N == 0 && nmB v.Type_.Name) && decide ((v.Fields.length : Int) ≥ 1)) && decide ((v.Fields.length : Int) ≤ 8)) && (v.Words == (v.Fields.length : Int))))
 | 0, i, _, h => by omega
 | n + 1, i, hi, hn => by
  show zgf _ v (i : Int) = _
  unfold zgf
  have hl := hs.2.2.1
  by_cases hlt : i < v.Fields.length
  ·rw [zv (by omega), if_pos rfl, zbd hlt, Option.bind_some, zbh (by omega), List.drop_eq_getElem_cons hlt, List.all_cons, zhX (hs.2.2.2 _ (List.getElem_mem hlt)), Option.bind_some, zkj v hs n (i + 1) (by omega) (by omega)]
   generalize nmB v.Fields[i] = c
   cases c <;> simp
  ·rw [zx (by omega), if_neg (by simp), List.drop_of_length_le (by omega), List.all_nil, Bool.true_and, zhX hs.2.1]
   generalize (v.Type_.N == 0) = c
   cases c <;> simp
theorem zoU {v : Vr} (hs : smV v) : zem v = some (rvB v) := by
 unfold zem
 rw [zhX hs.1, Option.bind_some]
 unfold rvB
 have hk : ((v.Type_.Kind.toNat : Nat) : Int) = vk v := rfl
 cases h : nmB v.Name
 ·rw [Bool.not_false, if_pos rfl, Bool.false_and]
 ·rw [Bool.not_true, if_neg (by simp), Bool.true_and, hk]
  unfold zeJ
  rw [hk]
  have perm : ∀ a b c d : Bool, (((a && b) && c) && d) = (((b && d) && a) && c) := by decide
  by_cases h1 : vk v = 1
  ·rw [zbO h1, if_pos rfl, if_pos rfl, if_pos (.inl h1)]; exact congrArg some (perm _ _ _ _)
  ·rw [zbJ h1, if_neg (by simp)]
   by_cases h2 : vk v = 2
   ·rw [zbO h2, if_pos rfl, if_pos (.inr h2)]; exact congrArg some (perm _ _ _ _)
   ·rw [zbJ h2, if_neg (by simp), if_neg (show ¬ (vk v = 1 ∨ vk v = 2) by omega)]
    by_cases h3 : vk v = 3
    ·rw [zbO h3, if_pos rfl, if_pos h3]
     congr 1
     generalize zbu _ _ = c1
     generalize ((v.Fields.length : Int) == 0) = c2
     generalize decide (v.Type_.N ≥ 1) = c3
     generalize decide (v.Type_.N ≤ 16) = c4
     generalize (v.Words == v.Type_.N) = c5
     cases c1 <;> cases c2 <;> cases c3 <;> cases c4 <;> cases c5 <;> rfl
    ·rw [zbJ h3, if_neg (by simp), if_neg h3]
     by_cases h4 : vk v = 4
     ·rw [zbO h4, if_pos rfl, if_pos h4]
      have h := zkj v hs big 0 (by omega) (zbj (by have := hs.2.2.1; omega))
      rw [List.drop_zero] at h
      refine Eq.trans h ?_
      congr 1
      by_cases hw : v.Words = (v.Fields.length : Int)
      ·rw [hw, zbO rfl]
       generalize v.Fields.all nmB = c1
       generalize (v.Type_.N == 0) = c2
       generalize decide ((v.Fields.length : Int) ≥ 1) = c3
       generalize decide ((v.Fields.length : Int) ≤ 8) = c4
       generalize nmB v.Type_.Name = c5
       cases c1 <;> cases c2 <;> cases c3 <;> cases c4 <;> cases c5 <;> rfl
      ·rw [zbJ hw]
       simp
     ·rw [zbJ h4, if_neg (by simp), if_neg h4]
theorem zkf (p : Pl) (hp : smP p) (hw : smW p) (hlen : p.Spans.length = p.Vars.length) : ∀ (n i : Nat), i ≤ p.Vars.length → p.Vars.length - i < n → zgS p n (i : Int) = some (vsB p (p.Vars.drop i) (p.Spans.drop i))
 | 0, i, _, h => by omega
 | n + 1, i, hi, hn => by
  show zgc _ p (i : Int) = _
  unfold zgc
  have hl := hp.1
  by_cases hlt : i < p.Vars.length
  ·have hlt2 : i < p.Spans.length := by omega
   have hs := hp.2.2.2 _ (List.getElem_mem hlt2)
   have hv := hw.2 _ (List.getElem_mem hlt)
   rw [zv (by omega), if_pos rfl, zbd hlt2, Option.bind_some, zbd hlt, Option.bind_some, show zem _ = _ from zoU hv, Option.bind_some, zbh (by omega), zkf p hp hw hlen n (i + 1) (by omega) (by omega), List.drop_eq_getElem_cons hlt, List.drop_eq_getElem_cons hlt2, vsB]
   cases hB : rvB p.Vars[i]
   ·rw [Bool.not_false, if_pos rfl, Option.bind_some, if_pos rfl, Bool.false_and, Bool.false_and]
   ·rw [Bool.not_true, if_neg (by simp), zlJ hs, Option.bind_some, Option.bind_some, Bool.true_and]
    unfold spB
    cases hS : St p.Spans[i]
    ·rw [Bool.not_false, if_pos rfl, Bool.false_and, Bool.false_and]
    ·rw [Bool.not_true, if_neg (by simp), Bool.true_and]
     cases hz : p.Spans[i] with
     | nil =>
      rw [zx (by simp), if_neg (by simp), Option.bind_some, if_neg (by simp)]
      simp
     | cons x l =>
      have hsl := hs.1
      rw [hz] at hsl
      have hsl' : (x :: l).length = l.length + 1 := rfl
      rw [zv (by simp), if_pos rfl, show zz (x :: l) 0 = some x from rfl, Option.bind_some, zbc (by omega)]
      by_cases hf : x.From < p.From
      ·rw [zv hf, if_pos rfl, Option.bind_some, if_pos rfl]
       simp [hf]
      ·have hg := zbd (l := x :: l) (k := l.length) (by simp)
       rw [show ((l.length : Nat) : Int) = (((x :: l).length : Int) - 1) by omega] at hg
       have hlast : (x :: l)[l.length]'(by simp) = (x :: l).getLastD x := by
        rw [List.getLastD_cons]
        cases l with
        | nil => rfl
        | cons y t => simp [List.getLastD_eq_getLast?, List.getLast?_eq_getElem?]
       rw [hlast] at hg
       simp only
       rw [zx hf, if_neg (by simp), hg, Option.bind_some, Option.bind_some]
       generalize decide (((x :: l).getLastD x).To > p.To) = c
       cases c <;> simp
  ·rw [zx (by omega), if_neg (by simp), List.drop_of_length_le (by omega), vsB]
theorem zmW {last : Int} {p : Pl} (hp : smP p) (hw : smW p) : zek p last = some (rpB last p) := by
 unfold zek
 rw [zhX hw.1, Option.bind_some]
 unfold rpB
 by_cases hc : nmB p.Name = true ∧ p.From ≥ last ∧ p.To > p.From ∧ p.To ≤ 16777216 ∧ (p.Vars.length : Int) ≤ 64 ∧ p.Spans.length = p.Vars.length
 ·obtain ⟨h1, h2, h3, h4, h5, h6⟩ := hc
  rw [if_neg (by simp [h1]; omega), h1, zv h2, zv h3, zv h4, zv h5, zv h6]
  simp only [Bool.true_and]
  exact zkf p hp hw h6 big 0 (by omega) (zbj (by omega))
 ·rw [if_pos]
  ·congr 1
   symm
   rw [Bool.and_eq_false_iff]
   left
   rw [← Bool.not_eq_true]
   intro h
   simp only [Bool.and_eq_true, decide_eq_true_eq] at h
   exact hc ⟨h.1.1.1.1.1, h.1.1.1.1.2, h.1.1.1.2, h.1.1.2, h.1.2, h.2⟩
  ·cases h1 : nmB p.Name
   ·simp
   ·simp only [h1, true_and, not_and] at hc
    simp only [Bool.not_true, Bool.false_or, Bool.or_eq_true, decide_eq_true_eq, bne_iff_ne, ne_eq]
    omega
theorem zj9 (rec50 : Int → Option Bool) (i0 : Int) (x : Pt) (l : List Pl) (k : Nat) (hk : x.Func = k) (hkl : k < l.length) (hs : x.Scope.length ≤ 1000000) (R : Bool) (hr : rec50 (IntKind.i64.wrap (i0 + 1)) = some R) : ∀ (n i : Nat) (last : Int), i ≤ x.Scope.length → x.Scope.length - i < n → zfR rec50 l i0 x n last (i : Int) = some (scB (vn l k) last (x.Scope.drop i) && R)
 | 0, i, _, _, h => by omega
 | n + 1, i, last, hi, hn => by
  show zgu _ rec50 l i0 x last (i : Int) = _
  unfold zgu
  have hv : vn l k = ((l[k]).Vars.length : Int) := by
   unfold vn
   rw [List.getElem?_eq_getElem hkl]
   rfl
  by_cases hlt : i < x.Scope.length
  ·rw [zv (by omega), if_pos rfl, zbd hlt, Option.bind_some]
   simp only [Option.bind_some]
   rw [zbh (by omega), zj9 rec50 i0 x l k hk hkl hs R hr n (i + 1) _ (by omega) (by omega), List.drop_eq_getElem_cons hlt, scB, hk, zbd hkl, hv]
   by_cases h1 : x.Scope[i] ≤ last
   ·rw [zv h1, if_pos rfl, Option.bind_some, if_pos rfl, zx (show ¬ last < x.Scope[i] by omega)]
    rfl
   ·rw [zx h1, if_neg (by simp), Option.bind_some, Option.bind_some, zv (show last < x.Scope[i] by omega), Bool.true_and]
    by_cases h2 : x.Scope[i] ≥ ((l[k]).Vars.length : Int)
    ·rw [zv h2, if_pos rfl, zx (show ¬ x.Scope[i] < ((l[k]).Vars.length : Int) by omega)]
     rfl
    ·rw [zx h2, if_neg (by simp), zv (show x.Scope[i] < ((l[k]).Vars.length : Int) by omega), Bool.true_and]
  ·rw [zx (by omega), if_neg (by simp), List.drop_of_length_le (by omega), scB, hr, Bool.true_and]
theorem zjW (l : List Pl) (q : List Pt) (hq : smQ q) : ∀ (n i : Nat), i ≤ q.length → q.length - i < n → zc6 l q n (i : Int) = some ((q.drop i).all (ptB l) && (decide ((l.length : Int) ≤ 64) && decide ((q.length : Int) ≤ 1000)))
 | 0, i, _, h => by omega
 | n + 1, i, hi, hn => by
  show zfG _ l q (i : Int) = _
  unfold zfG
  have hl := hq.1
  by_cases hlt : i < q.length
  ·have ih := zjW l q hq n (i + 1) (by omega) (by omega)
   rw [zv (by omega), if_pos rfl, zbd hlt, Option.bind_some, List.drop_eq_getElem_cons hlt, List.all_cons]
   unfold ptB
   by_cases hc : 0 ≤ q[i].Func ∧ q[i].Func < (l.length : Int) ∧ 1 ≤ q[i].Line ∧ q[i].Line ≤ 1048576
   ·rw [if_neg (by simp; omega), zv hc, Bool.true_and]
    have h := zj9 (zc6 l q n) (i : Int) q[i] l q[i].Func.toNat (by omega) (by omega) (hq.2 _ (List.getElem_mem hlt)) _ (by rw [zbh (by omega)]; exact ih) big 0 (-1) (by omega) (zbj (by have := hq.2 _ (List.getElem_mem hlt); omega))
    rw [List.drop_zero] at h
    refine Eq.trans h ?_
    rw [Bool.and_assoc]
    rfl
   ·rw [if_pos (by simp; omega), zx hc, Bool.false_and, Bool.false_and, Bool.false_and]
  ·rw [zx (by omega), if_neg (by simp), List.drop_of_length_le (by omega), List.all_nil, Bool.true_and]
theorem zlc (l : List Pl) (q : List Pt) (hl : smT l) (hw : ∀ x ∈ l, smW x) (hq : smQ q) : ∀ (n i : Nat) (last : Int), i ≤ l.length → l.length - i < n → zfj l q n last (i : Int) = some (plB last (l.drop i) && (q.all (ptB l) && (decide ((l.length : Int) ≤ 64) && decide ((q.length : Int) ≤ 1000))))
 | 0, i, _, _, h => by omega
 | n + 1, i, last, hi, hn => by
  show zgx _ l q last (i : Int) = _
  unfold zgx
  have hll := hl.1
  by_cases hlt : i < l.length
  ·rw [zv (by omega), if_pos rfl, zbd hlt, Option.bind_some, show zek _ last = _ from zmW (hl.2 _ (List.getElem_mem hlt)) (hw _ (List.getElem_mem hlt)), Option.bind_some, Option.bind_some, zbh (by omega), zlc l q hl hw hq n (i + 1) _ (by omega) (by omega), List.drop_eq_getElem_cons hlt, plB]
   generalize rpB last l[i] = c
   cases c <;> simp
  ·rw [zx (by omega), if_neg (by simp), List.drop_of_length_le (by omega), plB, Bool.true_and]
   exact zjW l q hq big 0 (by omega) (zbj (by have := hq.1; omega))
theorem znr {l : List Pl} {q : List Pt} (hl : smT l) (hw : ∀ x ∈ l, smW x) (hq : smQ q) : zeq l q = some (RB l q) := by
 unfold zeq RB
 rw [Bool.and_assoc]
 exact zlc l q hl hw hq big 0 0 (by omega) (zbj (by have := hl.1; omega))
end Go.Proofs.YtckcngkkofemjaaGreat
