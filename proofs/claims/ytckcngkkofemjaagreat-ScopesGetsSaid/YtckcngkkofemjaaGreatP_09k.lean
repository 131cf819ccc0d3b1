import Derived.Test.YtckcngkkofemjaaGreatP_09j
namespace Go.Proofs.YtckcngkkofemjaaGreat
open Go.Ab Go.RowKit
set_option linter.unusedVariables false
set_option linter.unusedSimpArgs false
def scB (m : Int) : Int → List Int → Bool
 | _, [] => true
 | last, y :: l => decide (last < y) && decide (y < m) && scB m y l
def vn (l : List Pl) (k : Nat) : Int := ((l[k]?.map fun x => x.Vars.length).getD 0 : Nat)
theorem zl7 (x : Pt) (l : List Pl) (k : Nat) (hk : x.Func = k) (hkl : k < l.length) (hs : x.Scope.length ≤ 1000000) : ∀ (n i : Nat) (last : Int), i ≤ x.Scope.length → x.Scope.length - i < n → zgi x l n last (i : Int) = some (scB (vn l k) last (x.Scope.drop i))
 | 0, i, _, _, h => by omega
 | n + 1, i, last, hi, hn => by
  show zgJ _ x l last (i : Int) = _
  unfold zgJ
  have hv : vn l k = ((l[k]).Vars.length : Int) := by
   unfold vn
   rw [List.getElem?_eq_getElem hkl]
   rfl
  by_cases hlt : i < x.Scope.length
  ·rw [zv (by omega), if_pos rfl, zbd hlt, Option.bind_some, zbh (by omega), zl7 x l k hk hkl hs n (i + 1) _ (by omega) (by omega), List.drop_eq_getElem_cons hlt, scB, hk, zbd hkl, hv]
   by_cases h1 : x.Scope[i] ≤ last
   ·rw [zv h1, if_pos rfl, Option.bind_some, if_pos rfl, zx (show ¬ last < x.Scope[i] by omega)]
    rfl
   ·rw [zx h1, if_neg (by simp), Option.bind_some, Option.bind_some, zv (show last < x.Scope[i] by omega), Bool.true_and]
    by_cases h2 : x.Scope[i] ≥ ((l[k]).Vars.length : Int)
    ·rw [zv h2, if_pos rfl, zx (show ¬ x.Scope[i] < ((l[k]).Vars.length : Int) by omega)]
     rfl
    ·rw [zx h2, if_neg (by simp), zv (show x.Scope[i] < ((l[k]).Vars.length : Int) by omega), Bool.true_and]
  ·rw [zx (by omega), if_neg (by simp), List.drop_of_length_le (by omega), scB]
def ptB (l : List Pl) (x : Pt) : Bool := decide (0 ≤ x.Func ∧ x.Func < (l.length : Int) ∧ 1 ≤ x.Line ∧ x.Line ≤ 1048576) && scB (vn l x.Func.toNat) (-1) x.Scope
theorem znh {x : Pt} {l : List Pl} (hs : x.Scope.length ≤ 1000000) : zex x l = some (ptB l x) := by
 unfold zex ptB
 by_cases hc : 0 ≤ x.Func ∧ x.Func < (l.length : Int) ∧ 1 ≤ x.Line ∧ x.Line ≤ 1048576
 ·rw [if_neg (by simp; omega), zv hc, Bool.true_and]
  exact zl7 x l x.Func.toNat (by omega) (by omega) hs big 0 (-1) (by omega) (zbj (by omega))
 ·rw [if_pos (by simp; omega), zx hc, Bool.false_and]
def plB : Int → List Pl → Bool
 | _, [] => true
 | last, x :: l => rpB last x && plB x.To l
def RB (l : List Pl) (q : List Pt) : Bool := plB 0 l && q.all (ptB l) && (decide ((l.length : Int) ≤ 64) && decide ((q.length : Int) ≤ 1000))
theorem zmm (l : List Pl) (q : List Pt) (hq : smQ q) : ∀ (n i : Nat), i ≤ q.length → q.length - i < n → zgl l q n (i : Int) = some ((q.drop i).all (ptB l) && (decide ((l.length : Int) ≤ 64) && decide ((q.length : Int) ≤ 1000)))
 | 0, i, _, h => by omega
 | n + 1, i, hi, hn => by
  show zgp _ l q (i : Int) = _
  unfold zgp
  have hl := hq.1
  by_cases hlt : i < q.length
  ·rw [zv (by omega), if_pos rfl, zbd hlt, Option.bind_some, show zex _ l = _ from znh (hq.2 _ (List.getElem_mem hlt)), Option.bind_some, zbh (by omega), zmm l q hq n (i + 1) (by omega) (by omega), List.drop_eq_getElem_cons hlt, List.all_cons]
   generalize ptB l q[i] = c
   cases c <;> simp
  ·rw [zx (by omega), if_neg (by simp), List.drop_of_length_le (by omega), List.all_nil, Bool.true_and]
theorem zkb (l : List Pl) (q : List Pt) (hl : smT l) (hw : ∀ x ∈ l, smW x) (hq : smQ q) : ∀ (n i : Nat) (last : Int), i ≤ l.length → l.length - i < n → zgD l q n last (i : Int) = some (plB last (l.drop i) && (q.all (ptB l) && (decide ((l.length : Int) ≤ 64) && decide ((q.length : Int) ≤ 1000))))
 | 0, i, _, _, h => by omega
 | n + 1, i, last, hi, hn => by
  show ze3 _ l q last (i : Int) = _
  unfold ze3
  have hll := hl.1
  by_cases hlt : i < l.length
  ·rw [zv (by omega), if_pos rfl, zbd hlt, Option.bind_some, show zeD _ last = _ from zpR (hl.2 _ (List.getElem_mem hlt)) (hw _ (List.getElem_mem hlt)), Option.bind_some, zbh (by omega), zkb l q hl hw hq n (i + 1) _ (by omega) (by omega), List.drop_eq_getElem_cons hlt, plB]
   generalize rpB last l[i] = c
   cases c <;> simp
  ·rw [zx (by omega), if_neg (by simp), List.drop_of_length_le (by omega), plB, Bool.true_and]
   exact zmm l q hq big 0 (by omega) (zbj (by have := hq.1; omega))
theorem zkl {l : List Pl} {q : List Pt} (hl : smT l) (hw : ∀ x ∈ l, smW x) (hq : smQ q) : zee l q = some (RB l q) := by
 unfold zee RB
 rw [Bool.and_assoc]
 exact zkb l q hl hw hq big 0 0 (by omega) (zbj (by have := hl.1; omega))
end Go.Proofs.YtckcngkkofemjaaGreat
