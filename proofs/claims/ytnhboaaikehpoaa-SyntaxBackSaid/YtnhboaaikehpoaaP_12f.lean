import Derived.Test.YtnhboaaikehpoaaP_12e
import Derived.KernelRfl
namespace Go.Proofs.Ytnhboaaikehpoaa
open Go.Ab Go.RowKit
set_option linter.unusedVariables false
set_option linter.unusedSimpArgs false
def Szo {α : Type} (c : Int) (μ : α → Nat) (p : Ps α) : Prop := ∀ r x r', p r = some (.ok (x, r')) → (μ x : Int) + (r'.length : Int) ≤ (r.length : Int) + c
abbrev z0 {α : Type} (_ : α) : Nat := 0
theorem ziT {α : Type} {p : Ps α} (h : Sf p) : Szo 0 z0 p := fun r x r' hv => by
 have := h.le hv
 have : r'.length ≤ r.length := this
 show ((0 : Nat) : Int) + _ ≤ _
 omega
theorem ziX {α : Type} {p : Ps α} (h : Co p) : Szo (-1) z0 p := fun r x r' hv => by
 have := h r x r' hv
 show ((0 : Nat) : Int) + _ ≤ _
 omega
theorem zdn {α : Type} {c : Int} {μ : α → Nat} : Szo c μ (fun _ => none) := fun r x r' h => by cases h
theorem zbR {α : Type} {c : Int} {μ : α → Nat} {x : α} (h : (μ x : Int) ≤ c) : Szo c μ (pu x) := fun r y r' hv => by
 injection hv with hv
 injection hv with hv
 injection hv with h1 h2
 subst h1; subst h2
 omega
theorem Szo.le {α : Type} {c c' : Int} {μ : α → Nat} {p : Ps α} (h : Szo c μ p) (hc : c ≤ c') : Szo c' μ p := fun r x r' hv => by
 have := h r x r' hv
 omega
theorem zZ {α β : Type} {c c1 : Int} {ν : α → Nat} {μ : β → Nat} {p : Ps α} {f : α → Ps β} (hp : Szo c1 ν p) (hf : ∀ x, Szo (c - c1 + ν x) μ (f x)) : Szo c μ (bd p f) := fun r y r' h => by
 unfold bd at h
 split at h
 ·cases h
 ·cases h
 ·rename_i x r2 he
  have h1 := hp r x r2 he
  have h2 := hf x r2 y r' h
  omega
theorem zgy {α : Type} {k : Int} {tx : List BA} {c : Int} {μ : α → Nat} {p q : Ps α} (hp : Szo c μ p) (hq : Szo c μ q) : Szo c μ (ifS k tx p q) := fun r x r' h => by
 unfold ifS at h
 split at h
 ·exact hp r x r' h
 ·exact hq r x r' h
theorem zmD {α : Type} {c : Int} {μ : α → Nat} {p q : Ps α} (hp : Szo c μ p) (hq : Szo c μ q) : Szo c μ (ifC p q) := fun r x r' h => by
 unfold ifC at h
 split at h
 ·exact hp r x r' h
 ·exact hq r x r' h
theorem zca {α : Type} {k : Int} {tx : List BA} {c : Int} {μ : α → Nat} {p q : Ps α} (hp : Szo (c + 1) μ p) (hq : Szo c μ q) : Szo c μ (ifH k tx p q) := fun r x r' h => by
 unfold ifH at h
 split at h
 ·rename_i hs
  cases r with
  | nil => cases hs
  | cons t r =>
   have := hp r x r' h
   simp only [List.length_cons] at *
   omega
 ·exact hq r x r' h
abbrev sT (k : Int) (tx : List BA) : Szo (-1) z0 (tk k tx) := ziX (zfr k tx)
abbrev sN : Szo (-1) z0 zcC := ziX zfJ
abbrev sG1 (s : BA) (l : List BA) : Szo (-1) z0 (zbO (s :: l)) := ziX (zkO s l)
theorem zmR {Bf : List (List BA) → Ps zb} (h : ∀ l, Szo 0 szE (Bf l)) (lv : List BA) (ls : List (List BA)) : ∀ n x, Szo (szE x) szE (bL Bf lv ls n x)
 | 0, _ => zdn
 | n + 1, x => zgy (zZ (sT _ _) fun t => zZ (h ls) fun y => (zmR h lv ls n _).le (by simp only [szE, zK, szS, zw, z0]; omega)) (zbR (Int.le_refl _))
theorem zkU : ∀ n, Szo 0 szE (sG n).1 ∧ (∀ l, Szo 0 szE ((sG n).2.1 l)) ∧ Szo 0 szE (sG n).2.2.1 ∧ Szo (-1) szE (sG n).2.2.2
 | 0 => ⟨zdn, fun _ => zdn, zdn, zdn⟩
 | n + 1 => by
  obtain ⟨h1, h2, h3, h4⟩ := zkU n
  refine ⟨h2 _, fun l => ?_, ?_, ?_⟩
  ·cases l with
   | nil => exact h3
   | cons lv ls => exact zZ (h2 ls) fun x => (zmR h2 lv ls big x).le (by omega)
  ·exact zgy (zZ (sT _ _) fun _ => zZ h3 fun _ => zbR (by simp only [szE, zK, szS, zw, z0]; omega)) (zca (zZ h1 fun _ => zZ (sG1 _ _) fun _ => zbR (by simp only [szE, zK, szS, zw, z0]; omega)) (zgy (zZ (sT _ _) fun _ => zbR (by simp only [szE, zK, szS, zw, z0]; omega)) (zca (zbR (by simp only [szE, zK, szS, zw, z0]; omega)) (zca (zbR (by simp only [szE, zK, szS, zw, z0]; omega)) (zZ sN fun _ => zgy (zZ h4 fun _ => zbR (by simp only [szE, zK, szS, zw, z0]; omega)) (zca (zZ sN fun _ => zbR (by simp only [szE, zK, szS, zw, z0]; omega)) (zbR (by simp only [szE, zK, szS, zw, z0]; omega))))))))
  ·exact zZ (sG1 _ _) fun _ => zZ h1 fun _ => zZ (sG1 _ _) fun _ => zbR (by simp only [szE, zK, szS, zw, z0]; omega)
theorem zea : Szo 0 szE zbN := (zkU big).1
theorem zsc : Szo (-1) szE ze3 := (zkU big).2.2.2
theorem zne : ∀ n l, Szo (zK l) zK (aL n l)
 | 0, l => zdn
 | n + 1, l => zca (zZ zea fun x => (zne n _).le (by rw [zqT]; omega)) (zZ (sG1 _ _) fun _ => zbR (by simp only [szE, zK, szS, zw, z0]; omega))
theorem zni : Szo 0 zK zd0 := zZ (sG1 _ _) fun _ => zca (zbR (by simp only [szE, zK, szS, zw, z0]; omega)) (zZ zea fun x => (zne _ _).le (by simp only [szE, zK, szS, zw, z0]; omega))
theorem zip (s : zh) : Szo ((szS s : Int) - 1) szS (k3 s) := zZ (sG1 _ _) fun _ => zbR (by simp only [z0]; omega)
abbrev sK (m : Bool) : Szo 0 z0 (zcN m) := ziT (zdu m)
theorem zo4 (q : zh) : Szo (szS q) szS (zgw q) := zZ sN fun _ => zZ (sK _) fun _ => zca (zZ zea fun _ => zbR (by simp only [szE, zK, szS, zw, zcd, z0]; omega)) (zbR (by simp only [szE, zK, szS, zw, zcd, z0]; omega))
theorem zru (q : zh) : Szo (szS q) szS (zf8 q) := zca (zZ (sG1 _ _) fun _ => zbR (by simp only [szE, zK, szS, zw, zcd, z0]; omega)) (zmD (zZ sN fun _ => zZ zni fun _ => zbR (by simp only [szE, zK, szS, zw, zcd, z0]; omega)) (zZ zea fun _ => zbR (by simp only [szE, zK, szS, zw, zcd, z0]; omega)))
theorem zse (q : zh) : Szo (szS q) szS (zgj q) := zmD (zZ sN fun _ => zZ zni fun _ => zbR (by simp only [szE, zK, szS, zw, zcd, z0]; omega)) (zZ sN fun _ => zgy (zZ zsc fun _ => zZ (sG1 _ _) fun _ => zZ zea fun _ => zbR (by simp only [szE, zK, szS, zw, zcd, z0]; omega)) (zca (zZ sN fun _ => zZ (sG1 _ _) fun _ => zZ zea fun _ => zbR (by simp only [szE, zK, szS, zw, zcd, z0]; omega)) (zZ (sG1 _ _) fun _ => (zru _).le (by simp only [szE, zK, szS, zw, zcd, z0]; omega))))
theorem zsG (q : zh) : Szo ((szS q : Int) - 1) szS (zeE q) := zca (zZ (zo4 _) fun s => (zip s).le (by omega)) (zca (zZ (sG1 _ _) fun _ => zZ zea fun _ => zZ (sG1 _ _) fun _ => (zip _).le (by simp only [szE, zK, szS, zw, zcd, z0]; omega)) (zca (zgy ((zip _).le (by simp only [szE, zK, szS, zw, zcd, z0]; omega)) (zZ zea fun _ => (zip _).le (by simp only [szE, zK, szS, zw, zcd, z0]; omega))) (zZ (zse _) fun s => (zip s).le (by omega))))
theorem zlr {rS : Ps Stm} (h : Szo 0 szS rS) : ∀ n l, Szo (zw l) zw (zdo rS n l)
 | 0, _ => zdn
 | n + 1, l => zca (zbR (by omega)) (zZ h fun _ => (zlr h n _).le (by rw [znO]; omega))
theorem zn9 {rB : Ps (List Stm)} (h : Szo 0 zw rB) : Szo 0 szS (zd4 rB) := fun r x r' hv =>
 zca (zZ zea fun _ => zZ h fun _ => zca (zZ h fun _ => zbR (by simp only [szE, zK, szS, zw, z0]; omega)) (zbR (by simp only [szE, zK, szS, zw, z0]; omega))) (zca (zZ zea fun _ => zZ h fun _ => zbR (by simp only [szE, zK, szS, zw, z0]; omega)) ((zsG _).le (by simp only [szE, zK, szS, zw, z0]; omega))) r x r' hv
theorem znv : ∀ n, Szo 0 zw (sB n).1 ∧ Szo 0 szS (sB n).2
 | 0 => ⟨zdn, zdn⟩
 | n + 1 => by
  obtain ⟨h1, h2⟩ := znv n
  exact ⟨zZ (sG1 _ _) fun _ => (zlr h2 _ _).le (by simp only [szE, zK, szS, zw, z0]; omega), zn9 h1⟩
theorem zpv : Szo 0 zw zf7 := (znv big).1
def szD (d : zo) : Nat := zw d.Body
theorem zmx (ln : Int) (nm : BA) (ps : List zbu) : Szo 0 szD (k9 ln nm ps) := zZ (sK _) fun _ => zZ zpv fun _ => zbR (by simp only [szD, z0]; omega)
theorem znK (ln : Int) (nm : BA) : ∀ n l, Szo 0 szD (pL ln nm n l)
 | 0, _ => zdn
 | n + 1, l => zca (zZ (ziT zdR) fun _ => (znK ln nm n _).le (by simp only [szE, zK, szS, zw, z0]; omega)) (zZ (sG1 _ _) fun _ => (zmx _ _ _).le (by simp only [szE, zK, szS, zw, z0]; omega))
theorem zmT : Szo (-1) szD zdB := fun r x r' h => zZ (sT _ _) (fun _ => zZ sN fun _ => zZ (sG1 _ _) fun _ => zca ((zmx _ _ _).le (by simp only [szE, zK, szS, zw, z0]; omega)) (zZ (ziT zdR) fun _ => (znK _ _ _ _).le (by simp only [szE, zK, szS, zw, z0]; omega))) r x r' h
theorem zlk : ∀ (n : Nat) (S : List zq) (D : List zo) (r : List Tok) (N : Nat), S.length + D.length + r.length ≤ N → (∀ d ∈ D, zw d.Body ≤ N) → ∀ {S' : List zq} {D' : List zo}, wL n S D r = some (.ok (S', D')) → S'.length + D'.length ≤ N ∧ ∀ d ∈ D', zw d.Body ≤ N
 | 0, S, D, r, N, _, _, S', D', h => by cases h
 | n + 1, S, D, [], N, hl, hD, S', D', h => by
  injection h with h
  injection h with h
  injection h with h1 h2
  subst h1; subst h2
  exact ⟨by omega, hD⟩
 | n + 1, S, D, t :: r, N, hl, hD, S', D', hw => by
  simp only [List.length_cons] at hl
  unfold wL at hw
  split at hw
  ·split at hw
   ·cases hw
   ·cases hw
   ·rename_i x r' he
    have := ziB r x r' he
    exact zlk n _ _ r' N (by simp; omega) hD hw
  ·split at hw
   ·cases hw
   ·cases hw
   ·rename_i x r' he
    have h1 := zmT (t :: r) x r' he
    have h2 := zjl (t :: r) x r' he
    simp only [List.length_cons] at h1 h2
    refine zlk n _ _ r' N (by simp; omega) (fun d hd => ?_) hw
    rw [List.mem_append, List.mem_singleton] at hd
    cases hd with
    | inl hd => exact hD d hd
    | inr hd =>
     subst hd
     unfold szD at h1
     omega
theorem zl6 {T : List Tok} {S : List zq} {D : List zo} (h : zdm T = some (.ok (S, D))) : S.length + D.length ≤ T.length ∧ ∀ d ∈ D, zw d.Body ≤ T.length :=
 zlk big [] [] T T.length (by simp) (fun d hd => by cases hd) h
def ze4 (T : List Tok) : Except (List Tok) (List zq × List zo) → zB × Int × Int
 | .error e => (⟨[], []⟩, ((T.length - e.length : Nat) : Int), 7)
 | .ok (S, D) => if zeK D = true then (⟨[], []⟩, 0, 11) else (⟨S, D⟩, 0, 0)
theorem zov {T : List Tok} (hT : T.length ≤ 1000000) : ∃ v, zdm T = some v ∧ zeJ T = some (ze4 T v) := by
 obtain ⟨v, hv⟩ := zsq hT
 refine ⟨v, hv, ?_⟩
 rw [zpR hT, hv, Option.bind_some]
 cases v with
 | error e => rfl
 | ok c =>
  obtain ⟨S, D⟩ := c
  have hz := zl6 hv
  dsimp only
  rw [zrm (by omega) fun d hd => by have := hz.2 d hd; omega, Option.bind_some]
  unfold ze4
  dsimp only
  split <;> rfl
end Go.Proofs.Ytnhboaaikehpoaa
