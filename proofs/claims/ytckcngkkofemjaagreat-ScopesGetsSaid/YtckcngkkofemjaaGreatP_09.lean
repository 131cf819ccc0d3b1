import Derived.Test.YtckcngkkofemjaaGreatP_07
import Derived.KernelRfl
namespace Go.Proofs.YtckcngkkofemjaaGreat
open Go.Ab Go.RowKit
set_option linter.unusedVariables false
set_option linter.unusedSimpArgs false
theorem zjY : zfq = some true := by kernel_rfl
abbrev Pl := zo
abbrev Pt := zB
abbrev Vr := zG
def smP (x : Pl) : Prop := x.Vars.length ≤ 1000 ∧ x.Spans.length ≤ 1000 ∧ (∀ v ∈ x.Vars, v.Fields.length ≤ 1000000) ∧ ∀ s ∈ x.Spans, smS s
def smT (l : List Pl) : Prop := l.length ≤ 1000 ∧ ∀ x ∈ l, smP x
def smQ (l : List Pt) : Prop := l.length ≤ 100000 ∧ ∀ x ∈ l, x.Scope.length ≤ 1000000
theorem zln (v : Vr) (h : v.Fields.length ≤ 1000000) : ∀ (n i : Nat), i ≤ v.Fields.length → v.Fields.length - i < n → zfK v v n (i : Int) = some true
 | 0, i, _, h => by omega
 | n + 1, i, hi, hn => by
  show zgC _ v v (i : Int) = _
  unfold zgC
  by_cases hlt : i < v.Fields.length
  ·rw [zv (by omega), if_pos rfl, zbd hlt, Option.bind_some, Option.bind_some, ziW, zv rfl, Bool.not_true, if_neg (by simp), zbh (by omega)]
   exact zln v h n (i + 1) (by omega) (by omega)
  ·rw [zx (by omega), if_neg (by simp)]
theorem zp1 {v : Vr} (h : v.Fields.length ≤ 1000000) : zew v v = some true := by
 unfold zew
 rw [if_neg (by simp [ziW])]
 exact zln v h big 0 (by omega) (zbj (by omega))
theorem zjM (rec44 : Int → Option Bool) (p : List Pl) (i : Nat) (hi : i < p.length) (hs : smP p[i]) (hr : rec44 (IntKind.i64.wrap ((i : Int) + 1)) = some true) : ∀ (n j : Nat), j ≤ p[i].Spans.length → p[i].Spans.length - j < n → zgF rec44 p p (i : Int) n (j : Int) = some true
 | 0, j, _, h => by omega
 | n + 1, j, hj, hn => by
  show zeQ _ _ _ _ _ _ = _
  unfold zeQ
  have hl := hs.2.1
  rw [zbd hi, Option.bind_some]
  by_cases hlt : j < p[i].Spans.length
  ·rw [zv (by omega), if_pos rfl]
   simp only [Option.bind_some, zbd hlt]
   rw [znd (hs.2.2.2 _ (List.getElem_mem hlt)), zv rfl, Option.bind_some, Bool.not_true, if_neg (by simp), zbh (by omega)]
   exact zjM rec44 p i hi hs hr n (j + 1) (by omega) (by omega)
  ·rw [zx (by omega), if_neg (by simp)]
   exact hr
theorem zj1 (rec44 : Int → Option Bool) (p : List Pl) (i : Nat) (hi : i < p.length) (hs : smP p[i]) (hr : rec44 (IntKind.i64.wrap ((i : Int) + 1)) = some true) : ∀ (n j : Nat), j ≤ p[i].Vars.length → p[i].Vars.length - j < n → zeM rec44 p p (i : Int) n (j : Int) = some true
 | 0, j, _, h => by omega
 | n + 1, j, hj, hn => by
  show zgT _ _ _ _ _ _ = _
  unfold zgT
  have hl := hs.1
  have hl2 := hs.2.1
  rw [zbd hi, Option.bind_some]
  by_cases hlt : j < p[i].Vars.length
  ·rw [zv (by omega), if_pos rfl]
   simp only [Option.bind_some, zbd hlt]
   rw [show zew _ _ = some true from zp1 (v := p[i].Vars[j]) (hs.2.2.1 _ (List.getElem_mem hlt)), Option.bind_some, Bool.not_true, if_neg (by simp), zbh (by omega)]
   exact zj1 rec44 p i hi hs hr n (j + 1) (by omega) (by omega)
  ·rw [zx (by omega), if_neg (by simp)]
   exact zjM rec44 p i hi hs hr big 0 (by omega) (zbj (by omega))
theorem zk0 (p : List Pl) (hp : smT p) : ∀ (n i : Nat), i ≤ p.length → p.length - i < n → zcn p p n (i : Int) = some true
 | 0, i, _, h => by omega
 | n + 1, i, hi, hn => by
  show zft _ _ _ _ = _
  unfold zft
  have hl := hp.1
  by_cases hlt : i < p.length
  ·have hs := hp.2 _ (List.getElem_mem hlt)
   have h1 := hs.1
   rw [zv (by omega), if_pos rfl, zbd hlt]
   simp only [Option.bind_some, ziW, decide_true, Bool.not_true, Bool.false_eq_true, if_false, bne_self_eq_false]
   exact zj1 (zcn p p n) p i hlt hs (by rw [zbh (by omega)]; exact zk0 p hp n (i + 1) (by omega) (by omega)) big 0 (by omega) (zbj (by omega))
  ·rw [zx (by omega), if_neg (by simp)]
theorem znt {p : List Pl} (hp : smT p) : zeC p p = some true := by
 unfold zeC
 rw [zbI rfl, if_neg (by simp)]
 exact zk0 p hp big 0 (by omega) (zbj (by have := hp.1; omega))
theorem zkI (rec14 : Int → Option Bool) (p : List Pt) (i : Nat) (hi : i < p.length) (hs : p[i].Scope.length ≤ 1000000) (hr : rec14 (IntKind.i64.wrap ((i : Int) + 1)) = some true) : ∀ (n j : Nat), j ≤ p[i].Scope.length → p[i].Scope.length - j < n → zeS rec14 p p (i : Int) n (j : Int) = some true
 | 0, j, _, h => by omega
 | n + 1, j, hj, hn => by
  show zf3 _ _ _ _ _ _ = _
  unfold zf3
  rw [zbd hi, Option.bind_some]
  by_cases hlt : j < p[i].Scope.length
  ·rw [zv (by omega), if_pos rfl]
   simp only [Option.bind_some, zbd hlt]
   rw [zbI rfl, if_neg (by simp), zbh (by omega)]
   exact zkI rec14 p i hi hs hr n (j + 1) (by omega) (by omega)
  ·rw [zx (by omega), if_neg (by simp)]
   exact hr
theorem zmk (p : List Pt) (hp : smQ p) : ∀ (n i : Nat), i ≤ p.length → p.length - i < n → zcS p p n (i : Int) = some true
 | 0, i, _, h => by omega
 | n + 1, i, hi, hn => by
  show zeZ _ _ _ _ = _
  unfold zeZ
  have hl := hp.1
  by_cases hlt : i < p.length
  ·have hs := hp.2 _ (List.getElem_mem hlt)
   rw [zv (by omega), if_pos rfl, zbd hlt]
   simp only [Option.bind_some, Bool.false_eq_true, if_false, bne_self_eq_false]
   exact zkI (zcS p p n) p i hlt hs (by rw [zbh (by omega)]; exact zmk p hp n (i + 1) (by omega) (by omega)) big 0 (by omega) (zbj (by omega))
  ·rw [zx (by omega), if_neg (by simp)]
theorem zms {p : List Pt} (hp : smQ p) : zez p p = some true := by
 unfold zez
 rw [zbI rfl, if_neg (by simp)]
 exact zmk p hp big 0 (by omega) (zbj (by have := hp.1; omega))
end Go.Proofs.YtckcngkkofemjaaGreat
