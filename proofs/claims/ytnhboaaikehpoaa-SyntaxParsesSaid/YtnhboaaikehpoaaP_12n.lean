import Derived.Test.YtnhboaaikehpoaaP_12m
import Derived.KernelRfl
namespace Go.Proofs.Ytnhboaaikehpoaa
open Go.Ab Go.RowKit
set_option linter.unusedVariables false
set_option linter.unusedSimpArgs false
theorem zmJ (nm : BA) : ∀ n l, Szo (l.length : Int) (fun s : zw => s.Fields.length) (fL nm n l)
 | 0, _ => zdd
 | n + 1, l => zcd (zbO (by dsimp only; omega)) (zY sN fun f => zY (sT _ _) fun _ => zY (sG1 _ _) fun _ => (zmJ nm n _).le (by simp [z0]; omega))
theorem zpz : Szo 0 (fun s : zw => s.Fields.length) zdO := zY sN fun _ => zY (sT _ _) fun _ => zY (sG1 _ _) fun _ => (zmJ _ _ _).le (by simp [z0])
theorem zm4 : Szo (-1) z0 zdi := ziJ (zfy zd9 fun _ => zH (zcJ _) fun _ => zbw _)
def szP (d : zp) : Nat := d.Params.length
theorem zlP (ln : Int) (nm : BA) (ps : List zbb) : Szo (ps.length : Int) szP (k9 ln nm ps) := zY (sK _) fun _ => zY (ziV zgO) fun _ => zbO (by simp only [szP, z0]; omega)
theorem zmn (ln : Int) (nm : BA) : ∀ n l, Szo (l.length : Int) szP (pL ln nm n l)
 | 0, _ => zdd
 | n + 1, l => zcd (zY zm4 fun _ => (zmn ln nm n _).le (by simp [z0]; omega)) (zY (sG1 _ _) fun _ => (zlP _ _ _).le (by simp only [szE, z4, szS, zK, z0]; omega))
theorem zq4 : Szo 0 szP zdJ := fun r x r' h => zY (sT _ _) (fun _ => zY sN fun _ => zY (sG1 _ _) fun _ => zcd ((zlP _ _ _).le (by simp [z0])) (zY zm4 fun _ => (zmn _ _ _ _).le (by simp [z0]))) r x r' h
def OkP (N : Nat) (S : List zw) (D : List zp) : Prop := S.length ≤ N ∧ D.length ≤ N ∧ (∀ s ∈ S, s.Fields.length ≤ N) ∧ ∀ d ∈ D, zK d.Body ≤ N ∧ d.Params.length ≤ N
theorem zjc : ∀ (n : Nat) (S : List zw) (D : List zp) (r : List Tok) (N : Nat), S.length + D.length + r.length ≤ N → OkP N S D → ∀ {S' : List zw} {D' : List zp}, wL n S D r = some (.ok (S', D')) → OkP N S' D'
 | 0, S, D, r, N, _, _, S', D', h => by cases h
 | n + 1, S, D, [], N, hl, hD, S', D', h => by
  injection h with h
  injection h with h
  injection h with h1 h2
  subst h1; subst h2
  exact hD
 | n + 1, S, D, t :: r, N, hl, hD, S', D', hw => by
  simp only [List.length_cons] at hl
  obtain ⟨o1, o2, o3, o4⟩ := hD
  unfold wL at hw
  split at hw
  ·split at hw
   ·cases hw
   ·cases hw
   ·rename_i x r' he
    have := zhl r x r' he
    have h1 := zpz r x r' he
    refine zjc n _ _ r' N (by simp; omega) ⟨by simp; omega, o2, fun s hs => ?_, o4⟩ hw
    rw [List.mem_append, List.mem_singleton] at hs
    cases hs with
    | inl hs => exact o3 s hs
    | inr hs =>
     subst hs
     dsimp only at h1
     omega
  ·split at hw
   ·cases hw
   ·cases hw
   ·rename_i x r' he
    have h1 := zki (t :: r) x r' he
    have h3 := zq4 (t :: r) x r' he
    have h2 := zgy (t :: r) x r' he
    simp only [List.length_cons] at h1 h2 h3
    refine zjc n _ _ r' N (by simp; omega) ⟨o1, by simp; omega, o3, fun d hd => ?_⟩ hw
    rw [List.mem_append, List.mem_singleton] at hd
    cases hd with
    | inl hd => exact o4 d hd
    | inr hd =>
     subst hd
     unfold szD at h1
     unfold szP at h3
     omega
theorem zns {T : List Tok} {S : List zw} {D : List zp} (h : zdb T = some (.ok (S, D))) : OkP T.length S D :=
 zjc big [] [] T T.length (by simp) ⟨by simp, by simp, fun s hs => (by cases hs), fun d hd => (by cases hd)⟩ h
theorem zqP {R : List zb → List zb → Option Bool} {l : List zb} (hl : z4 l ≤ 1000000000) (hR : ∀ x ∈ l, R x.Kids x.Kids = some true) : ∀ (n k : Nat), k ≤ l.length → l.length - k < n → zf4 R l l n (k : Int) = some true := by
 have hs := zdv l
 intro n
 induction n with
 | zero => intro k _ h; omega
 | succ n ih =>
  intro k hk hn
  show zgP (zf4 R l l n) R l l (k : Int) = _
  unfold zgP
  by_cases h : k < l.length
  ·have ih' := ih (k + 1) (by omega) (by omega)
   rw [if_pos (zbq (by omega)), zb8 h, zb0 (by omega), ih']
   simp [zcX, hR _ (List.getElem_mem h)]
  ·rw [if_neg (by simp; omega)]
theorem zl7 : ∀ (n : Nat) (l : List zb), z4 l < n → z4 l ≤ 1000000000 → zel n l l = some true
 | 0, l, h, _ => by omega
 | n + 1, l, h, hl => by
  have hs := zdv l
  show zhd (zel n) l l = _
  unfold zhd
  rw [if_neg (by simp)]
  exact zqP hl (fun x hx => by
   have h1 := zd4 hx
   have h2 := zfR x
   exact zl7 n x.Kids (by omega) (by omega)) big 0 (by omega) (zbM (by omega))
theorem znB {l : List zb} (hl : z4 l ≤ 1000000000) : zkz l l = some true := zl7 big l (zbM (by omega)) hl
theorem zpo {R : List Stm → List Stm → Option Bool} {l : List Stm} (hl : zK l ≤ 1000000000) (hR : ∀ x ∈ l, R x.Body x.Body = some true ∧ R x.Else x.Else = some true) : ∀ (n k : Nat), k ≤ l.length → l.length - k < n → zfJ R l l n (k : Int) = some true := by
 have hs := zeu l
 intro n
 induction n with
 | zero => intro k _ h; omega
 | succ n ih =>
  intro k hk hn
  show zgI (zfJ R l l n) R l l (k : Int) = _
  unfold zgI
  by_cases h : k < l.length
  ·have ih' := ih (k + 1) (by omega) (by omega)
   have h1 := zfo (List.getElem_mem h)
   have h2 := zcG l[k]
   rw [if_pos (zbq (by omega)), zb8 h, zb0 (by omega), ih']
   simp [zcX, (hR _ (List.getElem_mem h)).1, (hR _ (List.getElem_mem h)).2, znB (show z4 l[k].Kids ≤ 1000000000 by omega)]
  ·rw [if_neg (by simp; omega)]
theorem zkO : ∀ (n : Nat) (l : List Stm), zK l < n → zK l ≤ 1000000000 → zem n l l = some true
 | 0, l, h, _ => by omega
 | n + 1, l, h, hl => by
  have hs := zeu l
  show zhy (zem n) l l = _
  unfold zhy
  rw [if_neg (by simp)]
  exact zpo hl (fun x hx => by
   have h1 := zfo hx
   have h2 := zcG x
   exact ⟨zkO n x.Body (by omega) (by omega), zkO n x.Else (by omega) (by omega)⟩) big 0 (by omega) (zbM (by omega))
theorem zpT {l : List Stm} (hl : zK l ≤ 1000000000) : zkk l l = some true := zkO big l (zbM (by omega)) hl
section
variable {S : List zw} {D : List zp} {N : Nat}
theorem zoB {rec54 : Int → Option Bool} {j : Nat} (hj : j < S.length) (hN : N ≤ 1000000) (o : OkP N S D) : ∀ (n k : Nat), k ≤ S[j].Fields.length → S[j].Fields.length - k < n → zfj rec54 ⟨S, D⟩ ⟨S, D⟩ (j : Int) n (k : Int) = rec54 ((j + 1 : Nat) : Int) := by
 have hf := o.2.2.1 _ (List.getElem_mem hj)
 have hs := o.1
 intro n
 induction n with
 | zero => intro k _ h; omega
 | succ n ih =>
  intro k hk hn
  show zgB (zfj rec54 ⟨S, D⟩ ⟨S, D⟩ (j : Int) n) rec54 ⟨S, D⟩ ⟨S, D⟩ (j : Int) (k : Int) = _
  unfold zgB
  dsimp only
  rw [zb8 hj, Option.bind_some]
  by_cases h : k < S[j].Fields.length
  ·have ih' := ih (k + 1) (by omega) (by omega)
   rw [if_pos (zbq (by omega)), Option.bind_some, zb8 h, zb0 (by omega), ih']
   simp [zcX, zb8 h]
  ·rw [if_neg (by simp; omega), zb0 (by omega)]
theorem zpf {rec62 : Int → Option Bool} {j : Nat} {d : zp} (hj : j ≤ 1000000) (hd : d.Params.length ≤ 1000000) : ∀ (n k : Nat), k ≤ d.Params.length → d.Params.length - k < n → zfr rec62 (j : Int) d d n (k : Int) = rec62 ((j + 1 : Nat) : Int) := by
 intro n
 induction n with
 | zero => intro k _ h; omega
 | succ n ih =>
  intro k hk hn
  show zgS (zfr rec62 (j : Int) d d n) rec62 (j : Int) d d (k : Int) = _
  unfold zgS
  by_cases h : k < d.Params.length
  ·have ih' := ih (k + 1) (by omega) (by omega)
   rw [if_pos (zbq (by omega)), zb8 h, zb0 (by omega), ih']
   simp [zcX]
  ·rw [if_neg (by simp; omega), zb0 (by omega)]
theorem zok (hN : N ≤ 1000000) (o : OkP N S D) : ∀ (n k : Nat), k ≤ D.length → D.length - k < n → zds ⟨S, D⟩ ⟨S, D⟩ n (k : Int) = some true := by
 have hs := o.2.1
 intro n
 induction n with
 | zero => intro k _ h; omega
 | succ n ih =>
  intro k hk hn
  show zhc (zds ⟨S, D⟩ ⟨S, D⟩ n) ⟨S, D⟩ ⟨S, D⟩ (k : Int) = _
  unfold zhc
  dsimp only
  by_cases h : k < D.length
  ·have ih' := ih (k + 1) (by omega) (by omega)
   have hd := o.2.2.2 _ (List.getElem_mem h)
   have e := zpf (rec62 := zds ⟨S, D⟩ ⟨S, D⟩ n) (j := k) (d := D[k]) (by omega) (by omega) big 0 (by omega) (zbM (by omega))
   have e : zfr (zds ⟨S, D⟩ ⟨S, D⟩ n) (k : Int) D[k] D[k] big 0 = _ := e
   rw [if_pos (zbq (by omega)), zb8 h, Option.bind_some, Option.bind_some, e, ih']
   simp [zcX, zpT (show zK D[k].Body ≤ 1000000000 by omega)]
  ·rw [if_neg (by simp; omega)]
theorem zp7 (hN : N ≤ 1000000) (o : OkP N S D) : ∀ (n k : Nat), k ≤ S.length → S.length - k < n → zdE ⟨S, D⟩ ⟨S, D⟩ n (k : Int) = some true := by
 have hs := o.1
 have hs2 := o.2.1
 intro n
 induction n with
 | zero => intro k _ h; omega
 | succ n ih =>
  intro k hk hn
  show zhg (zdE ⟨S, D⟩ ⟨S, D⟩ n) ⟨S, D⟩ ⟨S, D⟩ (k : Int) = _
  unfold zhg
  dsimp only
  by_cases h : k < S.length
  ·have ih' := ih (k + 1) (by omega) (by omega)
   have hd := o.2.2.1 _ (List.getElem_mem h)
   have e := zoB (D := D) (rec54 := zdE ⟨S, D⟩ ⟨S, D⟩ n) h hN o big 0 (by omega) (zbM (by omega))
   have e : zfj (zdE ⟨S, D⟩ ⟨S, D⟩ n) ⟨S, D⟩ ⟨S, D⟩ (k : Int) big 0 = _ := e
   rw [if_pos (zbq (by omega)), zb8 h, e, ih']
   simp [zcX]
  ·rw [if_neg (by simp; omega)]
   exact zok hN o big 0 (by omega) (zbM (by omega))
theorem zmz (hN : N ≤ 1000000) (o : OkP N S D) : zfC ⟨S, D⟩ ⟨S, D⟩ = some true := by
 have hs := o.1
 unfold zfC
 rw [if_neg (by simp)]
 exact zp7 hN o big 0 (by omega) (zbM (by omega))
end
theorem znz {T : List Tok} (hT : T.length ≤ 1000000) {v : Except (List Tok) (List zw × List zp)} (hv : zdb T = some v) : zfC (zdW T v).1 (zdW T v).1 = some true := by
 have nil : zfC ⟨[], []⟩ ⟨[], []⟩ = some true := zmz (N := 0) (by omega) ⟨by simp, by simp, fun s hs => (by cases hs), fun d hd => (by cases hd)⟩
 cases v with
 | error e => exact nil
 | ok c =>
  obtain ⟨S, D⟩ := c
  have o := zns hv
  unfold zdW
  dsimp only
  split
  ·exact nil
  ·exact zmz hT o
theorem zoC {T : List Tok} (hT : T.length ≤ 1000000) : ∀ (n k : Nat), k ≤ T.length → T.length - k < n → zfO T T n (k : Int) = some true := by
 intro n
 induction n with
 | zero => intro k _ h; omega
 | succ n ih =>
  intro k hk hn
  show zgk (zfO T T n) T T (k : Int) = _
  unfold zgk
  by_cases h : k < T.length
  ·have ih' := ih (k + 1) (by omega) (by omega)
   rw [if_pos (zbq (by omega)), zb8 h, zb0 (by omega), ih']
   simp [zcX]
  ·rw [if_neg (by simp; omega)]
theorem zqz {T : List Tok} (hT : T.length ≤ 1000000) : zhk T T = some true := by
 unfold zhk
 rw [if_neg (by simp)]
 exact zoC hT big 0 (by omega) (zbM (by omega))
end Go.Proofs.Ytnhboaaikehpoaa
