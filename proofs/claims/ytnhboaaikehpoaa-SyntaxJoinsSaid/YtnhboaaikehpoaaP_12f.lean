import Derived.Test.YtnhboaaikehpoaaP_12e
import Derived.KernelRfl
namespace Go.Proofs.Ytnhboaaikehpoaa
open Go.Ab Go.RowKit
set_option linter.unusedVariables false
set_option linter.unusedSimpArgs false
def Szo {α : Type} (c : Int) (μ : α → Nat) (p : Ps α) : Prop := ∀ r x r', p r = some (.ok (x, r')) → (μ x : Int) + (r'.length : Int) ≤ (r.length : Int) + c
abbrev z0 {α : Type} (_ : α) : Nat := 0
theorem zi6 {α : Type} {p : Ps α} (h : Sf p) : Szo 0 z0 p := fun r x r' hv => by
 have := h.le hv
 have : r'.length ≤ r.length := this
 show ((0 : Nat) : Int) + _ ≤ _
 omega
theorem ziD {α : Type} {p : Ps α} (h : Co p) : Szo (-1) z0 p := fun r x r' hv => by
 have := h r x r' hv
 show ((0 : Nat) : Int) + _ ≤ _
 omega
theorem zdq {α : Type} {c : Int} {μ : α → Nat} : Szo c μ (fun _ => none) := fun r x r' h => by cases h
theorem zbV {α : Type} {c : Int} {μ : α → Nat} {x : α} (h : (μ x : Int) ≤ c) : Szo c μ (pu x) := fun r y r' hv => by
 injection hv with hv
 injection hv with hv
 injection hv with h1 h2
 subst h1; subst h2
 omega
theorem Szo.le {α : Type} {c c' : Int} {μ : α → Nat} {p : Ps α} (h : Szo c μ p) (hc : c ≤ c') : Szo c' μ p := fun r x r' hv => by
 have := h r x r' hv
 omega
theorem zR {α β : Type} {c c1 : Int} {ν : α → Nat} {μ : β → Nat} {p : Ps α} {f : α → Ps β} (hp : Szo c1 ν p) (hf : ∀ x, Szo (c - c1 + ν x) μ (f x)) : Szo c μ (bd p f) := fun r y r' h => by
 unfold bd at h
 split at h
 ·cases h
 ·cases h
 ·rename_i x r2 he
  have h1 := hp r x r2 he
  have h2 := hf x r2 y r' h
  omega
theorem zfA {α : Type} {k : Int} {tx : List BA} {c : Int} {μ : α → Nat} {p q : Ps α} (hp : Szo c μ p) (hq : Szo c μ q) : Szo c μ (ifS k tx p q) := fun r x r' h => by
 unfold ifS at h
 split at h
 ·exact hp r x r' h
 ·exact hq r x r' h
theorem zm1 {α : Type} {c : Int} {μ : α → Nat} {p q : Ps α} (hp : Szo c μ p) (hq : Szo c μ q) : Szo c μ (ifC p q) := fun r x r' h => by
 unfold ifC at h
 split at h
 ·exact hp r x r' h
 ·exact hq r x r' h
theorem zcq {α : Type} {k : Int} {tx : List BA} {c : Int} {μ : α → Nat} {p q : Ps α} (hp : Szo (c + 1) μ p) (hq : Szo c μ q) : Szo c μ (ifH k tx p q) := fun r x r' h => by
 unfold ifH at h
 split at h
 ·rename_i hs
  cases r with
  | nil => cases hs
  | cons t r =>
   have := hp r x r' h
   simp only [List.length_cons] at *
   omega
 ·exact hq r x r' h
abbrev sT (k : Int) (tx : List BA) : Szo (-1) z0 (tk k tx) := ziD (zft k tx)
abbrev sN : Szo (-1) z0 zbQ := ziD zd2
abbrev sG1 (s : BA) (l : List BA) : Szo (-1) z0 (zbu (s :: l)) := ziD (zge s l)
theorem znv {Bf : List (List BA) → Ps zb} (h : ∀ l, Szo 0 szE (Bf l)) (lv : List BA) (ls : List (List BA)) : ∀ n x, Szo (szE x) szE (bL Bf lv ls n x)
 | 0, _ => zdq
 | n + 1, x => zfA (zR (sT _ _) fun t => zR (h ls) fun y => (znv h lv ls n _).le (by simp only [szE, z5, szS, zK, z0]; omega)) (zbV (Int.le_refl _))
theorem zk3 : ∀ n, Szo 0 szE (sG n).1 ∧ (∀ l, Szo 0 szE ((sG n).2.1 l)) ∧ Szo 0 szE (sG n).2.2.1 ∧ Szo (-1) szE (sG n).2.2.2
 | 0 => ⟨zdq, fun _ => zdq, zdq, zdq⟩
 | n + 1 => by
  obtain ⟨h1, h2, h3, h4⟩ := zk3 n
  refine ⟨h2 _, fun l => ?_, ?_, ?_⟩
  ·cases l with
   | nil => exact h3
   | cons lv ls => exact zR (h2 ls) fun x => (znv h2 lv ls big x).le (by omega)
  ·exact zfA (zR (sT _ _) fun _ => zR h3 fun _ => zbV (by simp only [szE, z5, szS, zK, z0]; omega)) (zcq (zR h1 fun _ => zR (sG1 _ _) fun _ => zbV (by simp only [szE, z5, szS, zK, z0]; omega)) (zfA (zR (sT _ _) fun _ => zbV (by simp only [szE, z5, szS, zK, z0]; omega)) (zcq (zbV (by simp only [szE, z5, szS, zK, z0]; omega)) (zcq (zbV (by simp only [szE, z5, szS, zK, z0]; omega)) (zR sN fun _ => zfA (zR h4 fun _ => zbV (by simp only [szE, z5, szS, zK, z0]; omega)) (zcq (zR sN fun _ => zbV (by simp only [szE, z5, szS, zK, z0]; omega)) (zbV (by simp only [szE, z5, szS, zK, z0]; omega))))))))
  ·exact zR (sG1 _ _) fun _ => zR h1 fun _ => zR (sG1 _ _) fun _ => zbV (by simp only [szE, z5, szS, zK, z0]; omega)
theorem zd3 : Szo 0 szE zbZ := (zk3 big).1
theorem zqV : Szo (-1) szE zd9 := (zk3 big).2.2.2
theorem zl6 : ∀ n l, Szo (z5 l) z5 (aL n l)
 | 0, l => zdq
 | n + 1, l => zcq (zR zd3 fun x => (zl6 n _).le (by rw [zp1]; omega)) (zR (sG1 _ _) fun _ => zbV (by simp only [szE, z5, szS, zK, z0]; omega))
theorem zld : Szo 0 z5 zdL := zR (sG1 _ _) fun _ => zcq (zbV (by simp only [szE, z5, szS, zK, z0]; omega)) (zR zd3 fun x => (zl6 _ _).le (by simp only [szE, z5, szS, zK, z0]; omega))
theorem zgY (s : zg) : Szo ((szS s : Int) - 1) szS (k3 s) := zR (sG1 _ _) fun _ => zbV (by simp only [z0]; omega)
abbrev sK (m : Bool) : Szo 0 z0 (zdR m) := zi6 (zcQ m)
theorem zn1 (q : zg) : Szo (szS q) szS (zeq q) := zR sN fun _ => zR (sK _) fun _ => zcq (zR zd3 fun _ => zbV (by simp only [szE, z5, szS, zK, zcJ, z0]; omega)) (zbV (by simp only [szE, z5, szS, zK, zcJ, z0]; omega))
theorem zn8 (q : zg) : Szo (szS q) szS (zdZ q) := zcq (zR (sG1 _ _) fun _ => zbV (by simp only [szE, z5, szS, zK, zcJ, z0]; omega)) (zm1 (zR sN fun _ => zR zld fun _ => zbV (by simp only [szE, z5, szS, zK, zcJ, z0]; omega)) (zR zd3 fun _ => zbV (by simp only [szE, z5, szS, zK, zcJ, z0]; omega)))
theorem zqe (q : zg) : Szo (szS q) szS (zdK q) := zm1 (zR sN fun _ => zR zld fun _ => zbV (by simp only [szE, z5, szS, zK, zcJ, z0]; omega)) (zR sN fun _ => zfA (zR zqV fun _ => zR (sG1 _ _) fun _ => zR zd3 fun _ => zbV (by simp only [szE, z5, szS, zK, zcJ, z0]; omega)) (zcq (zR sN fun _ => zR (sG1 _ _) fun _ => zR zd3 fun _ => zbV (by simp only [szE, z5, szS, zK, zcJ, z0]; omega)) (zR (sG1 _ _) fun _ => (zn8 _).le (by simp only [szE, z5, szS, zK, zcJ, z0]; omega))))
theorem zqx (q : zg) : Szo ((szS q : Int) - 1) szS (zdF q) := zcq (zR (zn1 _) fun s => (zgY s).le (by omega)) (zcq (zR (sG1 _ _) fun _ => zR zd3 fun _ => zR (sG1 _ _) fun _ => (zgY _).le (by simp only [szE, z5, szS, zK, zcJ, z0]; omega)) (zcq (zfA ((zgY _).le (by simp only [szE, z5, szS, zK, zcJ, z0]; omega)) (zR zd3 fun _ => (zgY _).le (by simp only [szE, z5, szS, zK, zcJ, z0]; omega))) (zR (zqe _) fun s => (zgY s).le (by omega))))
theorem zme {rS : Ps Stm} (h : Szo 0 szS rS) : ∀ n l, Szo (zK l) zK (zde rS n l)
 | 0, _ => zdq
 | n + 1, l => zcq (zbV (by omega)) (zR h fun _ => (zme h n _).le (by rw [zmx]; omega))
theorem zrl {rB : Ps (List Stm)} (h : Szo 0 zK rB) : Szo 0 szS (zc7 rB) := fun r x r' hv =>
 zcq (zR zd3 fun _ => zR h fun _ => zcq (zR h fun _ => zbV (by simp only [szE, z5, szS, zK, z0]; omega)) (zbV (by simp only [szE, z5, szS, zK, z0]; omega))) (zcq (zR zd3 fun _ => zR h fun _ => zbV (by simp only [szE, z5, szS, zK, z0]; omega)) ((zqx _).le (by simp only [szE, z5, szS, zK, z0]; omega))) r x r' hv
theorem zmp : ∀ n, Szo 0 zK (sB n).1 ∧ Szo 0 szS (sB n).2
 | 0 => ⟨zdq, zdq⟩
 | n + 1 => by
  obtain ⟨h1, h2⟩ := zmp n
  exact ⟨zR (sG1 _ _) fun _ => (zme h2 _ _).le (by simp only [szE, z5, szS, zK, z0]; omega), zrl h1⟩
theorem zrO : Szo 0 zK zev := (zmp big).1
def szD (d : zi) : Nat := zK d.Body
theorem zmX (ln : Int) (nm : BA) (ps : List zbh) : Szo 0 szD (k9 ln nm ps) := zR (sK _) fun _ => zR zrO fun _ => zbV (by simp only [szD, z0]; omega)
theorem zmf (ln : Int) (nm : BA) : ∀ n l, Szo 0 szD (pL ln nm n l)
 | 0, _ => zdq
 | n + 1, l => zcq (zR (zi6 zdl) fun _ => (zmf ln nm n _).le (by simp only [szE, z5, szS, zK, z0]; omega)) (zR (sG1 _ _) fun _ => (zmX _ _ _).le (by simp only [szE, z5, szS, zK, z0]; omega))
theorem zje : Szo (-1) szD zdk := fun r x r' h => zR (sT _ _) (fun _ => zR sN fun _ => zR (sG1 _ _) fun _ => zcq ((zmX _ _ _).le (by simp only [szE, z5, szS, zK, z0]; omega)) (zR (zi6 zdl) fun _ => (zmf _ _ _ _).le (by simp only [szE, z5, szS, zK, z0]; omega))) r x r' h
theorem zj2 : ∀ (n : Nat) (S : List zl) (D : List zi) (r : List Tok) (N : Nat), S.length + D.length + r.length ≤ N → (∀ d ∈ D, zK d.Body ≤ N) → ∀ {S' : List zl} {D' : List zi}, wL n S D r = some (.ok (S', D')) → S'.length + D'.length ≤ N ∧ ∀ d ∈ D', zK d.Body ≤ N
 | 0, S, D, r, N, _, _, S', D', h => by cases h
 | n + 1, S, D, [], N, hl, hD, S', D', h => by
  injection h with h
  injection h with h
  injection h with h1 h2
  subst h1; subst h2
  exact ⟨by omega, hD⟩
 | n + 1, S, D, t :: r, N, hl, hD, S', D', hw => by
  simp only [List.length_cons] at hl
  unfold wL at hw
  split at hw
  ·split at hw
   ·cases hw
   ·cases hw
   ·rename_i x r' he
    have := zhb r x r' he
    exact zj2 n _ _ r' N (by simp; omega) hD hw
  ·split at hw
   ·cases hw
   ·cases hw
   ·rename_i x r' he
    have h1 := zje (t :: r) x r' he
    have h2 := zgP (t :: r) x r' he
    simp only [List.length_cons] at h1 h2
    refine zj2 n _ _ r' N (by simp; omega) (fun d hd => ?_) hw
    rw [List.mem_append, List.mem_singleton] at hd
    cases hd with
    | inl hd => exact hD d hd
    | inr hd =>
     subst hd
     unfold szD at h1
     omega
theorem zpd {T : List Tok} {S : List zl} {D : List zi} (h : zc1 T = some (.ok (S, D))) : S.length + D.length ≤ T.length ∧ ∀ d ∈ D, zK d.Body ≤ T.length :=
 zj2 big [] [] T T.length (by simp) (fun d hd => by cases hd) h
def zb6 (T : List Tok) : Except (List Tok) (List zl × List zi) → zL × Int × Int
 | .error e => (⟨[], []⟩, ((T.length - e.length : Nat) : Int), 7)
 | .ok (S, D) => if zcY D = true then (⟨[], []⟩, 0, 11) else (⟨S, D⟩, 0, 0)
theorem zrB {T : List Tok} (hT : T.length ≤ 1000000) : ∃ v, zc1 T = some v ∧ zdM T = some (zb6 T v) := by
 obtain ⟨v, hv⟩ := zqS hT
 refine ⟨v, hv, ?_⟩
 rw [zn7 hT, hv, Option.bind_some]
 cases v with
 | error e => rfl
 | ok c =>
  obtain ⟨S, D⟩ := c
  have hz := zpd hv
  dsimp only
  rw [zqh (by omega) fun d hd => by have := hz.2 d hd; omega, Option.bind_some]
  unfold zb6
  dsimp only
  split <;> rfl
end Go.Proofs.Ytnhboaaikehpoaa
