import Derived.Test.YtnhboaaikehpoaaP_12m
import Derived.KernelRfl
namespace Go.Proofs.Ytnhboaaikehpoaa
open Go.Ab Go.RowKit
set_option linter.unusedVariables false
set_option linter.unusedSimpArgs false
theorem zmA (nm : BA) : ∀ n l, Szo (l.length : Int) (fun s : zl => s.Fields.length) (fL nm n l)
 | 0, _ => zdq
 | n + 1, l => zcq (zbV (by dsimp only; omega)) (zR sN fun f => zR (sT _ _) fun _ => zR (sG1 _ _) fun _ => (zmA nm n _).le (by simp [z0]; omega))
theorem zpo : Szo 0 (fun s : zl => s.Fields.length) zdU := zR sN fun _ => zR (sT _ _) fun _ => zR (sG1 _ _) fun _ => (zmA _ _ _).le (by simp [z0])
theorem znM : Szo (-1) z0 zdn := ziD (zc6 zd2 fun _ => zy (zcQ _) fun _ => zbi _)
def szP (d : zi) : Nat := d.Params.length
theorem zma (ln : Int) (nm : BA) (ps : List zbh) : Szo (ps.length : Int) szP (k9 ln nm ps) := zR (sK _) fun _ => zR (zi6 zhy) fun _ => zbV (by simp only [szP, z0]; omega)
theorem zm3 (ln : Int) (nm : BA) : ∀ n l, Szo (l.length : Int) szP (pL ln nm n l)
 | 0, _ => zdq
 | n + 1, l => zcq (zR znM fun _ => (zm3 ln nm n _).le (by simp [z0]; omega)) (zR (sG1 _ _) fun _ => (zma _ _ _).le (by simp only [szE, z5, szS, zK, z0]; omega))
theorem zrF : Szo 0 szP zdk := fun r x r' h => zR (sT _ _) (fun _ => zR sN fun _ => zR (sG1 _ _) fun _ => zcq ((zma _ _ _).le (by simp [z0])) (zR znM fun _ => (zm3 _ _ _ _).le (by simp [z0]))) r x r' h
def OkP (N : Nat) (S : List zl) (D : List zi) : Prop := S.length ≤ N ∧ D.length ≤ N ∧ (∀ s ∈ S, s.Fields.length ≤ N) ∧ ∀ d ∈ D, zK d.Body ≤ N ∧ d.Params.length ≤ N
theorem zkw : ∀ (n : Nat) (S : List zl) (D : List zi) (r : List Tok) (N : Nat), S.length + D.length + r.length ≤ N → OkP N S D → ∀ {S' : List zl} {D' : List zi}, wL n S D r = some (.ok (S', D')) → OkP N S' D'
 | 0, S, D, r, N, _, _, S', D', h => by cases h
 | n + 1, S, D, [], N, hl, hD, S', D', h => by
  injection h with h
  injection h with h
  injection h with h1 h2
  subst h1; subst h2
  exact hD
 | n + 1, S, D, t :: r, N, hl, hD, S', D', hw => by
  simp only [List.length_cons] at hl
  obtain ⟨o1, o2, o3, o4⟩ := hD
  unfold wL at hw
  split at hw
  ·split at hw
   ·cases hw
   ·cases hw
   ·rename_i x r' he
    have := zhb r x r' he
    have h1 := zpo r x r' he
    refine zkw n _ _ r' N (by simp; omega) ⟨by simp; omega, o2, fun s hs => ?_, o4⟩ hw
    rw [List.mem_append, List.mem_singleton] at hs
    cases hs with
    | inl hs => exact o3 s hs
    | inr hs =>
     subst hs
     dsimp only at h1
     omega
  ·split at hw
   ·cases hw
   ·cases hw
   ·rename_i x r' he
    have h1 := zje (t :: r) x r' he
    have h3 := zrF (t :: r) x r' he
    have h2 := zgP (t :: r) x r' he
    simp only [List.length_cons] at h1 h2 h3
    refine zkw n _ _ r' N (by simp; omega) ⟨o1, by simp; omega, o3, fun d hd => ?_⟩ hw
    rw [List.mem_append, List.mem_singleton] at hd
    cases hd with
    | inl hd => exact o4 d hd
    | inr hd =>
     subst hd
     unfold szD at h1
     unfold szP at h3
     omega
theorem zjQ {T : List Tok} {S : List zl} {D : List zi} (h : zc1 T = some (.ok (S, D))) : OkP T.length S D :=
 zkw big [] [] T T.length (by simp) ⟨by simp, by simp, fun s hs => (by cases hs), fun d hd => (by cases hd)⟩ h
theorem zpC {R : List zb → List zb → Option Bool} {l : List zb} (hl : z5 l ≤ 1000000000) (hR : ∀ x ∈ l, R x.Kids x.Kids = some true) : ∀ (n k : Nat), k ≤ l.length → l.length - k < n → zf9 R l l n (k : Int) = some true := by
 have hs := zdO l
 intro n
 induction n with
 | zero => intro k _ h; omega
 | succ n ih =>
  intro k hk hn
  show zgM (zf9 R l l n) R l l (k : Int) = _
  unfold zgM
  by_cases h : k < l.length
  ·have ih' := ih (k + 1) (by omega) (by omega)
   rw [if_pos (zbx (by omega)), zch h, zcc (by omega), ih']
   simp [zdf, hR _ (List.getElem_mem h)]
  ·rw [if_neg (by simp; omega)]
theorem zmI : ∀ (n : Nat) (l : List zb), z5 l < n → z5 l ≤ 1000000000 → zef n l l = some true
 | 0, l, h, _ => by omega
 | n + 1, l, h, hl => by
  have hs := zdO l
  show zg7 (zef n) l l = _
  unfold zg7
  rw [if_neg (by simp)]
  exact zpC hl (fun x hx => by
   have h1 := zej hx
   have h2 := zf1 x
   exact zmI n x.Kids (by omega) (by omega)) big 0 (by omega) (zbU (by omega))
theorem zqc {l : List zb} (hl : z5 l ≤ 1000000000) : zkp l l = some true := zmI big l (zbU (by omega)) hl
theorem zrp {R : List Stm → List Stm → Option Bool} {l : List Stm} (hl : zK l ≤ 1000000000) (hR : ∀ x ∈ l, R x.Body x.Body = some true ∧ R x.Else x.Else = some true) : ∀ (n k : Nat), k ≤ l.length → l.length - k < n → zfG R l l n (k : Int) = some true := by
 have hs := zeR l
 intro n
 induction n with
 | zero => intro k _ h; omega
 | succ n ih =>
  intro k hk hn
  show zgG (zfG R l l n) R l l (k : Int) = _
  unfold zgG
  by_cases h : k < l.length
  ·have ih' := ih (k + 1) (by omega) (by omega)
   have h1 := zeW (List.getElem_mem h)
   have h2 := zcJ l[k]
   rw [if_pos (zbx (by omega)), zch h, zcc (by omega), ih']
   simp [zdf, (hR _ (List.getElem_mem h)).1, (hR _ (List.getElem_mem h)).2, zqc (show z5 l[k].Kids ≤ 1000000000 by omega)]
  ·rw [if_neg (by simp; omega)]
theorem zkZ : ∀ (n : Nat) (l : List Stm), zK l < n → zK l ≤ 1000000000 → zeh n l l = some true
 | 0, l, h, _ => by omega
 | n + 1, l, h, hl => by
  have hs := zeR l
  show zgX (zeh n) l l = _
  unfold zgX
  rw [if_neg (by simp)]
  exact zrp hl (fun x hx => by
   have h1 := zeW hx
   have h2 := zcJ x
   exact ⟨zkZ n x.Body (by omega) (by omega), zkZ n x.Else (by omega) (by omega)⟩) big 0 (by omega) (zbU (by omega))
theorem zoh {l : List Stm} (hl : zK l ≤ 1000000000) : zjy l l = some true := zkZ big l (zbU (by omega)) hl
section
variable {S : List zl} {D : List zi} {N : Nat}
theorem zph {rec54 : Int → Option Bool} {j : Nat} (hj : j < S.length) (hN : N ≤ 1000000) (o : OkP N S D) : ∀ (n k : Nat), k ≤ S[j].Fields.length → S[j].Fields.length - k < n → zeV rec54 ⟨S, D⟩ ⟨S, D⟩ (j : Int) n (k : Int) = rec54 ((j + 1 : Nat) : Int) := by
 have hf := o.2.2.1 _ (List.getElem_mem hj)
 have hs := o.1
 intro n
 induction n with
 | zero => intro k _ h; omega
 | succ n ih =>
  intro k hk hn
  show zgk (zeV rec54 ⟨S, D⟩ ⟨S, D⟩ (j : Int) n) rec54 ⟨S, D⟩ ⟨S, D⟩ (j : Int) (k : Int) = _
  unfold zgk
  dsimp only
  rw [zch hj, Option.bind_some]
  by_cases h : k < S[j].Fields.length
  ·have ih' := ih (k + 1) (by omega) (by omega)
   rw [if_pos (zbx (by omega)), Option.bind_some, zch h, zcc (by omega), ih']
   simp [zdf, zch h]
  ·rw [if_neg (by simp; omega), zcc (by omega)]
theorem zpf {rec62 : Int → Option Bool} {j : Nat} {d : zi} (hj : j ≤ 1000000) (hd : d.Params.length ≤ 1000000) : ∀ (n k : Nat), k ≤ d.Params.length → d.Params.length - k < n → zfn rec62 (j : Int) d d n (k : Int) = rec62 ((j + 1 : Nat) : Int) := by
 intro n
 induction n with
 | zero => intro k _ h; omega
 | succ n ih =>
  intro k hk hn
  show zhH (zfn rec62 (j : Int) d d n) rec62 (j : Int) d d (k : Int) = _
  unfold zhH
  by_cases h : k < d.Params.length
  ·have ih' := ih (k + 1) (by omega) (by omega)
   rw [if_pos (zbx (by omega)), zch h, zcc (by omega), ih']
   simp [zdf]
  ·rw [if_neg (by simp; omega), zcc (by omega)]
theorem zo2 (hN : N ≤ 1000000) (o : OkP N S D) : ∀ (n k : Nat), k ≤ D.length → D.length - k < n → zdB ⟨S, D⟩ ⟨S, D⟩ n (k : Int) = some true := by
 have hs := o.2.1
 intro n
 induction n with
 | zero => intro k _ h; omega
 | succ n ih =>
  intro k hk hn
  show zhB (zdB ⟨S, D⟩ ⟨S, D⟩ n) ⟨S, D⟩ ⟨S, D⟩ (k : Int) = _
  unfold zhB
  dsimp only
  by_cases h : k < D.length
  ·have ih' := ih (k + 1) (by omega) (by omega)
   have hd := o.2.2.2 _ (List.getElem_mem h)
   have e := zpf (rec62 := zdB ⟨S, D⟩ ⟨S, D⟩ n) (j := k) (d := D[k]) (by omega) (by omega) big 0 (by omega) (zbU (by omega))
   have e : zfn (zdB ⟨S, D⟩ ⟨S, D⟩ n) (k : Int) D[k] D[k] big 0 = _ := e
   rw [if_pos (zbx (by omega)), zch h, Option.bind_some, Option.bind_some, e, ih']
   simp [zdf, zoh (show zK D[k].Body ≤ 1000000000 by omega)]
  ·rw [if_neg (by simp; omega)]
theorem zrv (hN : N ≤ 1000000) (o : OkP N S D) : ∀ (n k : Nat), k ≤ S.length → S.length - k < n → zdT ⟨S, D⟩ ⟨S, D⟩ n (k : Int) = some true := by
 have hs := o.1
 have hs2 := o.2.1
 intro n
 induction n with
 | zero => intro k _ h; omega
 | succ n ih =>
  intro k hk hn
  show zgz (zdT ⟨S, D⟩ ⟨S, D⟩ n) ⟨S, D⟩ ⟨S, D⟩ (k : Int) = _
  unfold zgz
  dsimp only
  by_cases h : k < S.length
  ·have ih' := ih (k + 1) (by omega) (by omega)
   have hd := o.2.2.1 _ (List.getElem_mem h)
   have e := zph (D := D) (rec54 := zdT ⟨S, D⟩ ⟨S, D⟩ n) h hN o big 0 (by omega) (zbU (by omega))
   have e : zeV (zdT ⟨S, D⟩ ⟨S, D⟩ n) ⟨S, D⟩ ⟨S, D⟩ (k : Int) big 0 = _ := e
   rw [if_pos (zbx (by omega)), zch h, e, ih']
   simp [zdf]
  ·rw [if_neg (by simp; omega)]
   exact zo2 hN o big 0 (by omega) (zbU (by omega))
theorem zmD (hN : N ≤ 1000000) (o : OkP N S D) : zeY ⟨S, D⟩ ⟨S, D⟩ = some true := by
 have hs := o.1
 unfold zeY
 rw [if_neg (by simp)]
 exact zrv hN o big 0 (by omega) (zbU (by omega))
end
theorem zof {T : List Tok} (hT : T.length ≤ 1000000) {v : Except (List Tok) (List zl × List zi)} (hv : zc1 T = some v) : zeY (zb6 T v).1 (zb6 T v).1 = some true := by
 have nil : zeY ⟨[], []⟩ ⟨[], []⟩ = some true := zmD (N := 0) (by omega) ⟨by simp, by simp, fun s hs => (by cases hs), fun d hd => (by cases hd)⟩
 cases v with
 | error e => exact nil
 | ok c =>
  obtain ⟨S, D⟩ := c
  have o := zjQ hv
  unfold zb6
  dsimp only
  split
  ·exact nil
  ·exact zmD hT o
end Go.Proofs.Ytnhboaaikehpoaa
