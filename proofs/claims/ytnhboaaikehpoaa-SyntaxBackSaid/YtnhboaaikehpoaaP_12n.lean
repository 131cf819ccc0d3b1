import Derived.Test.YtnhboaaikehpoaaP_12m
import Derived.KernelRfl
namespace Go.Proofs.Ytnhboaaikehpoaa
open Go.Ab Go.RowKit
set_option linter.unusedVariables false
set_option linter.unusedSimpArgs false
theorem zme (nm : BA) : ∀ n l, Szo (l.length : Int) (fun s : zq => s.Fields.length) (fL nm n l)
 | 0, _ => zdn
 | n + 1, l => zca (zbR (by dsimp only; omega)) (zZ sN fun f => zZ (sT _ _) fun _ => zZ (sG1 _ _) fun _ => (zme nm n _).le (by simp [z0]; omega))
theorem zn3 : Szo 0 (fun s : zq => s.Fields.length) zdO := zZ sN fun _ => zZ (sT _ _) fun _ => zZ (sG1 _ _) fun _ => (zme _ _ _).le (by simp [z0])
theorem zlA : Szo (-1) z0 zdD := ziX (zfC zfJ fun _ => zP (zdu _) fun _ => zbx _)
def szP (d : zo) : Nat := d.Params.length
theorem znL (ln : Int) (nm : BA) (ps : List zbu) : Szo (ps.length : Int) szP (k9 ln nm ps) := zZ (sK _) fun _ => zZ (ziT ziM) fun _ => zbR (by simp only [szP, z0]; omega)
theorem zm0 (ln : Int) (nm : BA) : ∀ n l, Szo (l.length : Int) szP (pL ln nm n l)
 | 0, _ => zdn
 | n + 1, l => zca (zZ zlA fun _ => (zm0 ln nm n _).le (by simp [z0]; omega)) (zZ (sG1 _ _) fun _ => (znL _ _ _).le (by simp only [szE, zK, szS, zw, z0]; omega))
theorem zr8 : Szo 0 szP zdB := fun r x r' h => zZ (sT _ _) (fun _ => zZ sN fun _ => zZ (sG1 _ _) fun _ => zca ((znL _ _ _).le (by simp [z0])) (zZ zlA fun _ => (zm0 _ _ _ _).le (by simp [z0]))) r x r' h
def OkP (N : Nat) (S : List zq) (D : List zo) : Prop := S.length ≤ N ∧ D.length ≤ N ∧ (∀ s ∈ S, s.Fields.length ≤ N) ∧ ∀ d ∈ D, zw d.Body ≤ N ∧ d.Params.length ≤ N
theorem zkc : ∀ (n : Nat) (S : List zq) (D : List zo) (r : List Tok) (N : Nat), S.length + D.length + r.length ≤ N → OkP N S D → ∀ {S' : List zq} {D' : List zo}, wL n S D r = some (.ok (S', D')) → OkP N S' D'
 | 0, S, D, r, N, _, _, S', D', h => by cases h
 | n + 1, S, D, [], N, hl, hD, S', D', h => by
  injection h with h
  injection h with h
  injection h with h1 h2
  subst h1; subst h2
  exact hD
 | n + 1, S, D, t :: r, N, hl, hD, S', D', hw => by
  simp only [List.length_cons] at hl
  obtain ⟨o1, o2, o3, o4⟩ := hD
  unfold wL at hw
  split at hw
  ·split at hw
   ·cases hw
   ·cases hw
   ·rename_i x r' he
    have := ziB r x r' he
    have h1 := zn3 r x r' he
    refine zkc n _ _ r' N (by simp; omega) ⟨by simp; omega, o2, fun s hs => ?_, o4⟩ hw
    rw [List.mem_append, List.mem_singleton] at hs
    cases hs with
    | inl hs => exact o3 s hs
    | inr hs =>
     subst hs
     dsimp only at h1
     omega
  ·split at hw
   ·cases hw
   ·cases hw
   ·rename_i x r' he
    have h1 := zmT (t :: r) x r' he
    have h3 := zr8 (t :: r) x r' he
    have h2 := zjl (t :: r) x r' he
    simp only [List.length_cons] at h1 h2 h3
    refine zkc n _ _ r' N (by simp; omega) ⟨o1, by simp; omega, o3, fun d hd => ?_⟩ hw
    rw [List.mem_append, List.mem_singleton] at hd
    cases hd with
    | inl hd => exact o4 d hd
    | inr hd =>
     subst hd
     unfold szD at h1
     unfold szP at h3
     omega
theorem zqB {T : List Tok} {S : List zq} {D : List zo} (h : zdm T = some (.ok (S, D))) : OkP T.length S D :=
 zkc big [] [] T T.length (by simp) ⟨by simp, by simp, fun s hs => (by cases hs), fun d hd => (by cases hd)⟩ h
theorem zpE {R : List zb → List zb → Option Bool} {l : List zb} (hl : zK l ≤ 1000000000) (hR : ∀ x ∈ l, R x.Kids x.Kids = some true) : ∀ (n k : Nat), k ≤ l.length → l.length - k < n → zgl R l l n (k : Int) = some true := by
 have hs := zc6 l
 intro n
 induction n with
 | zero => intro k _ h; omega
 | succ n ih =>
  intro k hk hn
  show zgJ (zgl R l l n) R l l (k : Int) = _
  unfold zgJ
  by_cases h : k < l.length
  ·have ih' := ih (k + 1) (by omega) (by omega)
   rw [if_pos (zJ (by omega)), zbv h, zbq (by omega), ih']
   simp [zcR, hR _ (List.getElem_mem h)]
  ·rw [if_neg (by simp; omega)]
theorem zlB : ∀ (n : Nat) (l : List zb), zK l < n → zK l ≤ 1000000000 → zes n l l = some true
 | 0, l, h, _ => by omega
 | n + 1, l, h, hl => by
  have hs := zc6 l
  show zhF (zes n) l l = _
  unfold zhF
  rw [if_neg (by simp)]
  exact zpE hl (fun x hx => by
   have h1 := zds hx
   have h2 := zef x
   exact zlB n x.Kids (by omega) (by omega)) big 0 (by omega) (z7 (by omega))
theorem zqP {l : List zb} (hl : zK l ≤ 1000000000) : zjZ l l = some true := zlB big l (z7 (by omega)) hl
theorem zsP {R : List Stm → List Stm → Option Bool} {l : List Stm} (hl : zw l ≤ 1000000000) (hR : ∀ x ∈ l, R x.Body x.Body = some true ∧ R x.Else x.Else = some true) : ∀ (n k : Nat), k ≤ l.length → l.length - k < n → zfW R l l n (k : Int) = some true := by
 have hs := zdW l
 intro n
 induction n with
 | zero => intro k _ h; omega
 | succ n ih =>
  intro k hk hn
  show zib (zfW R l l n) R l l (k : Int) = _
  unfold zib
  by_cases h : k < l.length
  ·have ih' := ih (k + 1) (by omega) (by omega)
   have h1 := zeB (List.getElem_mem h)
   have h2 := zcd l[k]
   rw [if_pos (zJ (by omega)), zbv h, zbq (by omega), ih']
   simp [zcR, (hR _ (List.getElem_mem h)).1, (hR _ (List.getElem_mem h)).2, zqP (show zK l[k].Kids ≤ 1000000000 by omega)]
  ·rw [if_neg (by simp; omega)]
theorem zkF : ∀ (n : Nat) (l : List Stm), zw l < n → zw l ≤ 1000000000 → zen n l l = some true
 | 0, l, h, _ => by omega
 | n + 1, l, h, hl => by
  have hs := zdW l
  show zg3 (zen n) l l = _
  unfold zg3
  rw [if_neg (by simp)]
  exact zsP hl (fun x hx => by
   have h1 := zeB hx
   have h2 := zcd x
   exact ⟨zkF n x.Body (by omega) (by omega), zkF n x.Else (by omega) (by omega)⟩) big 0 (by omega) (z7 (by omega))
theorem zqM {l : List Stm} (hl : zw l ≤ 1000000000) : zlh l l = some true := zkF big l (z7 (by omega)) hl
section
variable {S : List zq} {D : List zo} {N : Nat}
theorem zo2 {rec54 : Int → Option Bool} {j : Nat} (hj : j < S.length) (hN : N ≤ 1000000) (o : OkP N S D) : ∀ (n k : Nat), k ≤ S[j].Fields.length → S[j].Fields.length - k < n → zfz rec54 ⟨S, D⟩ ⟨S, D⟩ (j : Int) n (k : Int) = rec54 ((j + 1 : Nat) : Int) := by
 have hf := o.2.2.1 _ (List.getElem_mem hj)
 have hs := o.1
 intro n
 induction n with
 | zero => intro k _ h; omega
 | succ n ih =>
  intro k hk hn
  show zgZ (zfz rec54 ⟨S, D⟩ ⟨S, D⟩ (j : Int) n) rec54 ⟨S, D⟩ ⟨S, D⟩ (j : Int) (k : Int) = _
  unfold zgZ
  dsimp only
  rw [zbv hj, Option.bind_some]
  by_cases h : k < S[j].Fields.length
  ·have ih' := ih (k + 1) (by omega) (by omega)
   rw [if_pos (zJ (by omega)), Option.bind_some, zbv h, zbq (by omega), ih']
   simp [zcR, zbv h]
  ·rw [if_neg (by simp; omega), zbq (by omega)]
theorem zrw {rec62 : Int → Option Bool} {j : Nat} {d : zo} (hj : j ≤ 1000000) (hd : d.Params.length ≤ 1000000) : ∀ (n k : Nat), k ≤ d.Params.length → d.Params.length - k < n → zfn rec62 (j : Int) d d n (k : Int) = rec62 ((j + 1 : Nat) : Int) := by
 intro n
 induction n with
 | zero => intro k _ h; omega
 | succ n ih =>
  intro k hk hn
  show zht (zfn rec62 (j : Int) d d n) rec62 (j : Int) d d (k : Int) = _
  unfold zht
  by_cases h : k < d.Params.length
  ·have ih' := ih (k + 1) (by omega) (by omega)
   rw [if_pos (zJ (by omega)), zbv h, zbq (by omega), ih']
   simp [zcR]
  ·rw [if_neg (by simp; omega), zbq (by omega)]
theorem zrH (hN : N ≤ 1000000) (o : OkP N S D) : ∀ (n k : Nat), k ≤ D.length → D.length - k < n → zdG ⟨S, D⟩ ⟨S, D⟩ n (k : Int) = some true := by
 have hs := o.2.1
 intro n
 induction n with
 | zero => intro k _ h; omega
 | succ n ih =>
  intro k hk hn
  show zhO (zdG ⟨S, D⟩ ⟨S, D⟩ n) ⟨S, D⟩ ⟨S, D⟩ (k : Int) = _
  unfold zhO
  dsimp only
  by_cases h : k < D.length
  ·have ih' := ih (k + 1) (by omega) (by omega)
   have hd := o.2.2.2 _ (List.getElem_mem h)
   have e := zrw (rec62 := zdG ⟨S, D⟩ ⟨S, D⟩ n) (j := k) (d := D[k]) (by omega) (by omega) big 0 (by omega) (z7 (by omega))
   have e : zfn (zdG ⟨S, D⟩ ⟨S, D⟩ n) (k : Int) D[k] D[k] big 0 = _ := e
   rw [if_pos (zJ (by omega)), zbv h, Option.bind_some, Option.bind_some, e, ih']
   simp [zcR, zqM (show zw D[k].Body ≤ 1000000000 by omega)]
  ·rw [if_neg (by simp; omega)]
theorem zsx (hN : N ≤ 1000000) (o : OkP N S D) : ∀ (n k : Nat), k ≤ S.length → S.length - k < n → zdC ⟨S, D⟩ ⟨S, D⟩ n (k : Int) = some true := by
 have hs := o.1
 have hs2 := o.2.1
 intro n
 induction n with
 | zero => intro k _ h; omega
 | succ n ih =>
  intro k hk hn
  show zhk (zdC ⟨S, D⟩ ⟨S, D⟩ n) ⟨S, D⟩ ⟨S, D⟩ (k : Int) = _
  unfold zhk
  dsimp only
  by_cases h : k < S.length
  ·have ih' := ih (k + 1) (by omega) (by omega)
   have hd := o.2.2.1 _ (List.getElem_mem h)
   have e := zo2 (D := D) (rec54 := zdC ⟨S, D⟩ ⟨S, D⟩ n) h hN o big 0 (by omega) (z7 (by omega))
   have e : zfz (zdC ⟨S, D⟩ ⟨S, D⟩ n) ⟨S, D⟩ ⟨S, D⟩ (k : Int) big 0 = _ := e
   rw [if_pos (zJ (by omega)), zbv h, e, ih']
   simp [zcR]
  ·rw [if_neg (by simp; omega)]
   exact zrH hN o big 0 (by omega) (z7 (by omega))
theorem znh (hN : N ≤ 1000000) (o : OkP N S D) : zeN ⟨S, D⟩ ⟨S, D⟩ = some true := by
 have hs := o.1
 unfold zeN
 rw [if_neg (by simp)]
 exact zsx hN o big 0 (by omega) (z7 (by omega))
end
theorem zp8 {T : List Tok} (hT : T.length ≤ 1000000) {v : Except (List Tok) (List zq × List zo)} (hv : zdm T = some v) : zeN (ze4 T v).1 (ze4 T v).1 = some true := by
 have nil : zeN ⟨[], []⟩ ⟨[], []⟩ = some true := znh (N := 0) (by omega) ⟨by simp, by simp, fun s hs => (by cases hs), fun d hd => (by cases hd)⟩
 cases v with
 | error e => exact nil
 | ok c =>
  obtain ⟨S, D⟩ := c
  have o := zqB hv
  unfold ze4
  dsimp only
  split
  ·exact nil
  ·exact znh hT o
end Go.Proofs.Ytnhboaaikehpoaa
