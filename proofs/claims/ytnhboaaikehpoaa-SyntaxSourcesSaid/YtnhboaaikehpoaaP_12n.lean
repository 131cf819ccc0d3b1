import Derived.Test.YtnhboaaikehpoaaP_12m
import Derived.KernelRfl
namespace Go.Proofs.Ytnhboaaikehpoaa
open Go.Ab Go.RowKit
set_option linter.unusedVariables false
set_option linter.unusedSimpArgs false
theorem zmL (nm : BA) : ∀ n l, Szo (l.length : Int) (fun s : zw => s.Fields.length) (fL nm n l)
 | 0, _ => zdj
 | n + 1, l => zco (zbR (by dsimp only; omega)) (zX sN fun f => zX (sT _ _) fun _ => zX (sG1 _ _) fun _ => (zmL nm n _).le (by simp [z0]; omega))
theorem zow : Szo 0 (fun s : zw => s.Fields.length) zdZ := zX sN fun _ => zX (sT _ _) fun _ => zX (sG1 _ _) fun _ => (zmL _ _ _).le (by simp [z0])
theorem zlZ : Szo (-1) z0 zdi := zif (zeY zer fun _ => zH (zcR _) fun _ => zbx _)
def szP (d : zo) : Nat := d.Params.length
theorem zlm (ln : Int) (nm : BA) (ps : List zbc) : Szo (ps.length : Int) szP (k9 ln nm ps) := zX (sK _) fun _ => zX (ziD zhJ) fun _ => zbR (by simp only [szP, z0]; omega)
theorem zm2 (ln : Int) (nm : BA) : ∀ n l, Szo (l.length : Int) szP (pL ln nm n l)
 | 0, _ => zdj
 | n + 1, l => zco (zX zlZ fun _ => (zm2 ln nm n _).le (by simp [z0]; omega)) (zX (sG1 _ _) fun _ => (zlm _ _ _).le (by simp only [szE, z5, szS, zL, z0]; omega))
theorem zqL : Szo 0 szP zdL := fun r x r' h => zX (sT _ _) (fun _ => zX sN fun _ => zX (sG1 _ _) fun _ => zco ((zlm _ _ _).le (by simp [z0])) (zX zlZ fun _ => (zm2 _ _ _ _).le (by simp [z0]))) r x r' h
def OkP (N : Nat) (S : List zw) (D : List zo) : Prop := S.length ≤ N ∧ D.length ≤ N ∧ (∀ s ∈ S, s.Fields.length ≤ N) ∧ ∀ d ∈ D, zL d.Body ≤ N ∧ d.Params.length ≤ N
theorem zku : ∀ (n : Nat) (S : List zw) (D : List zo) (r : List Tok) (N : Nat), S.length + D.length + r.length ≤ N → OkP N S D → ∀ {S' : List zw} {D' : List zo}, wL n S D r = some (.ok (S', D')) → OkP N S' D'
 | 0, S, D, r, N, _, _, S', D', h => by cases h
 | n + 1, S, D, [], N, hl, hD, S', D', h => by
  injection h with h
  injection h with h
  injection h with h1 h2
  subst h1; subst h2
  exact hD
 | n + 1, S, D, t :: r, N, hl, hD, S', D', hw => by
  simp only [List.length_cons] at hl
  obtain ⟨o1, o2, o3, o4⟩ := hD
  unfold wL at hw
  split at hw
  ·split at hw
   ·cases hw
   ·cases hw
   ·rename_i x r' he
    have := zgy r x r' he
    have h1 := zow r x r' he
    refine zku n _ _ r' N (by simp; omega) ⟨by simp; omega, o2, fun s hs => ?_, o4⟩ hw
    rw [List.mem_append, List.mem_singleton] at hs
    cases hs with
    | inl hs => exact o3 s hs
    | inr hs =>
     subst hs
     dsimp only at h1
     omega
  ·split at hw
   ·cases hw
   ·cases hw
   ·rename_i x r' he
    have h1 := zjt (t :: r) x r' he
    have h3 := zqL (t :: r) x r' he
    have h2 := zg7 (t :: r) x r' he
    simp only [List.length_cons] at h1 h2 h3
    refine zku n _ _ r' N (by simp; omega) ⟨o1, by simp; omega, o3, fun d hd => ?_⟩ hw
    rw [List.mem_append, List.mem_singleton] at hd
    cases hd with
    | inl hd => exact o4 d hd
    | inr hd =>
     subst hd
     unfold szD at h1
     unfold szP at h3
     omega
theorem zrp {T : List Tok} {S : List zw} {D : List zo} (h : zds T = some (.ok (S, D))) : OkP T.length S D :=
 zku big [] [] T T.length (by simp) ⟨by simp, by simp, fun s hs => (by cases hs), fun d hd => (by cases hd)⟩ h
theorem znC {R : List zb → List zb → Option Bool} {l : List zb} (hl : z5 l ≤ 1000000000) (hR : ∀ x ∈ l, R x.Kids x.Kids = some true) : ∀ (n k : Nat), k ≤ l.length → l.length - k < n → zgr R l l n (k : Int) = some true := by
 have hs := zdv l
 intro n
 induction n with
 | zero => intro k _ h; omega
 | succ n ih =>
  intro k hk hn
  show zgR (zgr R l l n) R l l (k : Int) = _
  unfold zgR
  by_cases h : k < l.length
  ·have ih' := ih (k + 1) (by omega) (by omega)
   rw [if_pos (zbe (by omega)), zbL h, zbN (by omega), ih']
   simp [zc5, hR _ (List.getElem_mem h)]
  ·rw [if_neg (by simp; omega)]
theorem zk4 : ∀ (n : Nat) (l : List zb), z5 l < n → z5 l ≤ 1000000000 → zeg n l l = some true
 | 0, l, h, _ => by omega
 | n + 1, l, h, hl => by
  have hs := zdv l
  show zgQ (zeg n) l l = _
  unfold zgQ
  rw [if_neg (by simp)]
  exact znC hl (fun x hx => by
   have h1 := zek hx
   have h2 := zgh x
   exact zk4 n x.Kids (by omega) (by omega)) big 0 (by omega) (zbC (by omega))
theorem zqg {l : List zb} (hl : z5 l ≤ 1000000000) : zke l l = some true := zk4 big l (zbC (by omega)) hl
theorem zoN {R : List Stm → List Stm → Option Bool} {l : List Stm} (hl : zL l ≤ 1000000000) (hR : ∀ x ∈ l, R x.Body x.Body = some true ∧ R x.Else x.Else = some true) : ∀ (n k : Nat), k ≤ l.length → l.length - k < n → zgn R l l n (k : Int) = some true := by
 have hs := zew l
 intro n
 induction n with
 | zero => intro k _ h; omega
 | succ n ih =>
  intro k hk hn
  show zhh (zgn R l l n) R l l (k : Int) = _
  unfold zhh
  by_cases h : k < l.length
  ·have ih' := ih (k + 1) (by omega) (by omega)
   have h1 := zfm (List.getElem_mem h)
   have h2 := zcI l[k]
   rw [if_pos (zbe (by omega)), zbL h, zbN (by omega), ih']
   simp [zc5, (hR _ (List.getElem_mem h)).1, (hR _ (List.getElem_mem h)).2, zqg (show z5 l[k].Kids ≤ 1000000000 by omega)]
  ·rw [if_neg (by simp; omega)]
theorem zkJ : ∀ (n : Nat) (l : List Stm), zL l < n → zL l ≤ 1000000000 → zd7 n l l = some true
 | 0, l, h, _ => by omega
 | n + 1, l, h, hl => by
  have hs := zew l
  show zhf (zd7 n) l l = _
  unfold zhf
  rw [if_neg (by simp)]
  exact zoN hl (fun x hx => by
   have h1 := zfm hx
   have h2 := zcI x
   exact ⟨zkJ n x.Body (by omega) (by omega), zkJ n x.Else (by omega) (by omega)⟩) big 0 (by omega) (zbC (by omega))
theorem zpb {l : List Stm} (hl : zL l ≤ 1000000000) : zje l l = some true := zkJ big l (zbC (by omega)) hl
section
variable {S : List zw} {D : List zo} {N : Nat}
theorem zrf {rec54 : Int → Option Bool} {j : Nat} (hj : j < S.length) (hN : N ≤ 1000000) (o : OkP N S D) : ∀ (n k : Nat), k ≤ S[j].Fields.length → S[j].Fields.length - k < n → ze8 rec54 ⟨S, D⟩ ⟨S, D⟩ (j : Int) n (k : Int) = rec54 ((j + 1 : Nat) : Int) := by
 have hf := o.2.2.1 _ (List.getElem_mem hj)
 have hs := o.1
 intro n
 induction n with
 | zero => intro k _ h; omega
 | succ n ih =>
  intro k hk hn
  show zhK (ze8 rec54 ⟨S, D⟩ ⟨S, D⟩ (j : Int) n) rec54 ⟨S, D⟩ ⟨S, D⟩ (j : Int) (k : Int) = _
  unfold zhK
  dsimp only
  rw [zbL hj, Option.bind_some]
  by_cases h : k < S[j].Fields.length
  ·have ih' := ih (k + 1) (by omega) (by omega)
   rw [if_pos (zbe (by omega)), Option.bind_some, zbL h, zbN (by omega), ih']
   simp [zc5, zbL h]
  ·rw [if_neg (by simp; omega), zbN (by omega)]
theorem zpK {rec62 : Int → Option Bool} {j : Nat} {d : zo} (hj : j ≤ 1000000) (hd : d.Params.length ≤ 1000000) : ∀ (n k : Nat), k ≤ d.Params.length → d.Params.length - k < n → zft rec62 (j : Int) d d n (k : Int) = rec62 ((j + 1 : Nat) : Int) := by
 intro n
 induction n with
 | zero => intro k _ h; omega
 | succ n ih =>
  intro k hk hn
  show zhC (zft rec62 (j : Int) d d n) rec62 (j : Int) d d (k : Int) = _
  unfold zhC
  by_cases h : k < d.Params.length
  ·have ih' := ih (k + 1) (by omega) (by omega)
   rw [if_pos (zbe (by omega)), zbL h, zbN (by omega), ih']
   simp [zc5]
  ·rw [if_neg (by simp; omega), zbN (by omega)]
theorem zoQ (hN : N ≤ 1000000) (o : OkP N S D) : ∀ (n k : Nat), k ≤ D.length → D.length - k < n → zdI ⟨S, D⟩ ⟨S, D⟩ n (k : Int) = some true := by
 have hs := o.2.1
 intro n
 induction n with
 | zero => intro k _ h; omega
 | succ n ih =>
  intro k hk hn
  show zhD (zdI ⟨S, D⟩ ⟨S, D⟩ n) ⟨S, D⟩ ⟨S, D⟩ (k : Int) = _
  unfold zhD
  dsimp only
  by_cases h : k < D.length
  ·have ih' := ih (k + 1) (by omega) (by omega)
   have hd := o.2.2.2 _ (List.getElem_mem h)
   have e := zpK (rec62 := zdI ⟨S, D⟩ ⟨S, D⟩ n) (j := k) (d := D[k]) (by omega) (by omega) big 0 (by omega) (zbC (by omega))
   have e : zft (zdI ⟨S, D⟩ ⟨S, D⟩ n) (k : Int) D[k] D[k] big 0 = _ := e
   rw [if_pos (zbe (by omega)), zbL h, Option.bind_some, Option.bind_some, e, ih']
   simp [zc5, zpb (show zL D[k].Body ≤ 1000000000 by omega)]
  ·rw [if_neg (by simp; omega)]
theorem zon (hN : N ≤ 1000000) (o : OkP N S D) : ∀ (n k : Nat), k ≤ S.length → S.length - k < n → zdz ⟨S, D⟩ ⟨S, D⟩ n (k : Int) = some true := by
 have hs := o.1
 have hs2 := o.2.1
 intro n
 induction n with
 | zero => intro k _ h; omega
 | succ n ih =>
  intro k hk hn
  show zg6 (zdz ⟨S, D⟩ ⟨S, D⟩ n) ⟨S, D⟩ ⟨S, D⟩ (k : Int) = _
  unfold zg6
  dsimp only
  by_cases h : k < S.length
  ·have ih' := ih (k + 1) (by omega) (by omega)
   have hd := o.2.2.1 _ (List.getElem_mem h)
   have e := zrf (D := D) (rec54 := zdz ⟨S, D⟩ ⟨S, D⟩ n) h hN o big 0 (by omega) (zbC (by omega))
   have e : ze8 (zdz ⟨S, D⟩ ⟨S, D⟩ n) ⟨S, D⟩ ⟨S, D⟩ (k : Int) big 0 = _ := e
   rw [if_pos (zbe (by omega)), zbL h, e, ih']
   simp [zc5]
  ·rw [if_neg (by simp; omega)]
   exact zoQ hN o big 0 (by omega) (zbC (by omega))
theorem zl7 (hN : N ≤ 1000000) (o : OkP N S D) : zfr ⟨S, D⟩ ⟨S, D⟩ = some true := by
 have hs := o.1
 unfold zfr
 rw [if_neg (by simp)]
 exact zon hN o big 0 (by omega) (zbC (by omega))
end
theorem zp1 {T : List Tok} (hT : T.length ≤ 1000000) {v : Except (List Tok) (List zw × List zo)} (hv : zds T = some v) : zfr (zdU T v).1 (zdU T v).1 = some true := by
 have nil : zfr ⟨[], []⟩ ⟨[], []⟩ = some true := zl7 (N := 0) (by omega) ⟨by simp, by simp, fun s hs => (by cases hs), fun d hd => (by cases hd)⟩
 cases v with
 | error e => exact nil
 | ok c =>
  obtain ⟨S, D⟩ := c
  have o := zrp hv
  unfold zdU
  dsimp only
  split
  ·exact nil
  ·exact zl7 hT o
end Go.Proofs.Ytnhboaaikehpoaa
