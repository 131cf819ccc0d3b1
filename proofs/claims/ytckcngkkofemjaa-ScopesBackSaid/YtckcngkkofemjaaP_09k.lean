import Derived.Test.YtckcngkkofemjaaAd
import Derived.Test.YtckcngkkofemjaaF
import Derived.Test.YtckcngkkofemjaaPL
import Derived.Test.YtckcngkkofemjaaP_02
import Derived.Test.YtckcngkkofemjaaP_01
import Derived.Test.YtckcngkkofemjaaP_06
import Derived.Test.YtckcngkkofemjaaP_06b
import Derived.Test.YtckcngkkofemjaaP_06c
import Derived.Test.YtckcngkkofemjaaP_07
import Derived.Test.YtckcngkkofemjaaP_07b
import Derived.Test.YtckcngkkofemjaaP_09
import Derived.Test.YtckcngkkofemjaaP_09j
namespace Go.Proofs.Ytckcngkkofemjaa
open Go.Ab Go.RowKit
set_option linter.unusedVariables false
set_option linter.unusedSimpArgs false
def scB (m : Int) : Int → List Int → Bool
  | _, [] => true
  | last, y :: l => decide (last < y) && decide (y < m) && scB m y l
def vn (l : List Pl) (k : Nat) : Int := ((l[k]?.map fun x => x.Vars.length).getD 0 : Nat)
theorem rightPoint_loop (x : Pt) (l : List Pl) (k : Nat) (hk : x.Func = k) (hkl : k < l.length) (hs : x.Scope.length ≤ 1000000) : ∀ (n i : Nat) (last : Int), i ≤ x.Scope.length → x.Scope.length - i < n → zcp x l n last (i : Int) = some (scB (vn l k) last (x.Scope.drop i))
  | 0, i, _, _, h => by omega
  | n + 1, i, last, hi, hn => by
    show zbZ _ x l last (i : Int) = _
    unfold zbZ
    have hv : vn l k = ((l[k]).Vars.length : Int) := by
      unfold vn
      rw [List.getElem?_eq_getElem hkl]
      rfl
    by_cases hlt : i < x.Scope.length
    · rw [decT (by omega), if_pos rfl, getI_lt hlt, Option.bind_some, i64_succ (by omega), rightPoint_loop x l k hk hkl hs n (i + 1) _ (by omega) (by omega), List.drop_eq_getElem_cons hlt, scB, hk, getI_lt hkl, hv]
      by_cases h1 : x.Scope[i] ≤ last
      · rw [decT h1, if_pos rfl, Option.bind_some, if_pos rfl, decF (show ¬ last < x.Scope[i] by omega)]
        rfl
      · rw [decF h1, if_neg (by simp), Option.bind_some, Option.bind_some, decT (show last < x.Scope[i] by omega), Bool.true_and]
        by_cases h2 : x.Scope[i] ≥ ((l[k]).Vars.length : Int)
        · rw [decT h2, if_pos rfl, decF (show ¬ x.Scope[i] < ((l[k]).Vars.length : Int) by omega)]
          rfl
        · rw [decF h2, if_neg (by simp), decT (show x.Scope[i] < ((l[k]).Vars.length : Int) by omega), Bool.true_and]
    · rw [decF (by omega), if_neg (by simp), List.drop_of_length_le (by omega), scB]
def ptB (l : List Pl) (x : Pt) : Bool := decide (0 ≤ x.Func ∧ x.Func < (l.length : Int) ∧ 1 ≤ x.Line ∧ x.Line ≤ 1048576) && scB (vn l x.Func.toNat) (-1) x.Scope
theorem zeQ {x : Pt} {l : List Pl} (hs : x.Scope.length ≤ 1000000) : z8 x l = some (ptB l x) := by
  unfold z8 ptB
  by_cases hc : 0 ≤ x.Func ∧ x.Func < (l.length : Int) ∧ 1 ≤ x.Line ∧ x.Line ≤ 1048576
  · rw [if_neg (by simp; omega), decT hc, Bool.true_and]
    exact rightPoint_loop x l x.Func.toNat (by omega) (by omega) hs big 0 (-1) (by omega) (big_gt (by omega))
  · rw [if_pos (by simp; omega), decF hc, Bool.false_and]
def plB : Int → List Pl → Bool
  | _, [] => true
  | last, x :: l => rpB last x && plB x.To l
def RB (l : List Pl) (q : List Pt) : Bool := plB 0 l && q.all (ptB l) && (decide ((l.length : Int) ≤ 64) && decide ((q.length : Int) ≤ 1000))
theorem Right_l15 (l : List Pl) (q : List Pt) (hq : smQ q) : ∀ (n i : Nat), i ≤ q.length → q.length - i < n → zcS l q n (i : Int) = some ((q.drop i).all (ptB l) && (decide ((l.length : Int) ≤ 64) && decide ((q.length : Int) ≤ 1000)))
  | 0, i, _, h => by omega
  | n + 1, i, hi, hn => by
    show zbw _ l q (i : Int) = _
    unfold zbw
    have hl := hq.1
    by_cases hlt : i < q.length
    · rw [decT (by omega), if_pos rfl, getI_lt hlt, Option.bind_some, show z8 _ l = _ from zeQ (hq.2 _ (List.getElem_mem hlt)), Option.bind_some, i64_succ (by omega), Right_l15 l q hq n (i + 1) (by omega) (by omega), List.drop_eq_getElem_cons hlt, List.all_cons]
      generalize ptB l q[i] = c
      cases c <;> simp
    · rw [decF (by omega), if_neg (by simp), List.drop_of_length_le (by omega), List.all_nil, Bool.true_and]
theorem Right_l13 (l : List Pl) (q : List Pt) (hl : smT l) (hw : ∀ x ∈ l, smW x) (hq : smQ q) : ∀ (n i : Nat) (last : Int), i ≤ l.length → l.length - i < n → zbq l q n last (i : Int) = some (plB last (l.drop i) && (q.all (ptB l) && (decide ((l.length : Int) ≤ 64) && decide ((q.length : Int) ≤ 1000))))
  | 0, i, _, _, h => by omega
  | n + 1, i, last, hi, hn => by
    show zcI _ l q last (i : Int) = _
    unfold zcI
    have hll := hl.1
    by_cases hlt : i < l.length
    · rw [decT (by omega), if_pos rfl, getI_lt hlt, Option.bind_some, show zba _ last = _ from zfr (hl.2 _ (List.getElem_mem hlt)) (hw _ (List.getElem_mem hlt)), Option.bind_some, i64_succ (by omega), Right_l13 l q hl hw hq n (i + 1) _ (by omega) (by omega), List.drop_eq_getElem_cons hlt, plB]
      generalize rpB last l[i] = c
      cases c <;> simp
    · rw [decF (by omega), if_neg (by simp), List.drop_of_length_le (by omega), plB, Bool.true_and]
      exact Right_l15 l q hq big 0 (by omega) (big_gt (by have := hq.1; omega))
theorem zb4 {l : List Pl} {q : List Pt} (hl : smT l) (hw : ∀ x ∈ l, smW x) (hq : smQ q) : zR l q = some (RB l q) := by
  unfold zR RB
  rw [Bool.and_assoc]
  exact Right_l13 l q hl hw hq big 0 0 (by omega) (big_gt (by have := hl.1; omega))
end Go.Proofs.Ytckcngkkofemjaa
