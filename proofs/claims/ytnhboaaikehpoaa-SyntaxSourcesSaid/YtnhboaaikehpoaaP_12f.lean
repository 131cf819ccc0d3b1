import Derived.Test.YtnhboaaikehpoaaP_12e
import Derived.KernelRfl
namespace Go.Proofs.Ytnhboaaikehpoaa
open Go.Ab Go.RowKit
set_option linter.unusedVariables false
set_option linter.unusedSimpArgs false
def Szo {α : Type} (c : Int) (μ : α → Nat) (p : Ps α) : Prop := ∀ r x r', p r = some (.ok (x, r')) → (μ x : Int) + (r'.length : Int) ≤ (r.length : Int) + c
abbrev z0 {α : Type} (_ : α) : Nat := 0
theorem ziD {α : Type} {p : Ps α} (h : Sf p) : Szo 0 z0 p := fun r x r' hv => by
 have := h.le hv
 have : r'.length ≤ r.length := this
 show ((0 : Nat) : Int) + _ ≤ _
 omega
theorem zif {α : Type} {p : Ps α} (h : Co p) : Szo (-1) z0 p := fun r x r' hv => by
 have := h r x r' hv
 show ((0 : Nat) : Int) + _ ≤ _
 omega
theorem zdj {α : Type} {c : Int} {μ : α → Nat} : Szo c μ (fun _ => none) := fun r x r' h => by cases h
theorem zbR {α : Type} {c : Int} {μ : α → Nat} {x : α} (h : (μ x : Int) ≤ c) : Szo c μ (pu x) := fun r y r' hv => by
 injection hv with hv
 injection hv with hv
 injection hv with h1 h2
 subst h1; subst h2
 omega
theorem Szo.le {α : Type} {c c' : Int} {μ : α → Nat} {p : Ps α} (h : Szo c μ p) (hc : c ≤ c') : Szo c' μ p := fun r x r' hv => by
 have := h r x r' hv
 omega
theorem zX {α β : Type} {c c1 : Int} {ν : α → Nat} {μ : β → Nat} {p : Ps α} {f : α → Ps β} (hp : Szo c1 ν p) (hf : ∀ x, Szo (c - c1 + ν x) μ (f x)) : Szo c μ (bd p f) := fun r y r' h => by
 unfold bd at h
 split at h
 ·cases h
 ·cases h
 ·rename_i x r2 he
  have h1 := hp r x r2 he
  have h2 := hf x r2 y r' h
  omega
theorem zf1 {α : Type} {k : Int} {tx : List BA} {c : Int} {μ : α → Nat} {p q : Ps α} (hp : Szo c μ p) (hq : Szo c μ q) : Szo c μ (ifS k tx p q) := fun r x r' h => by
 unfold ifS at h
 split at h
 ·exact hp r x r' h
 ·exact hq r x r' h
theorem zlB {α : Type} {c : Int} {μ : α → Nat} {p q : Ps α} (hp : Szo c μ p) (hq : Szo c μ q) : Szo c μ (ifC p q) := fun r x r' h => by
 unfold ifC at h
 split at h
 ·exact hp r x r' h
 ·exact hq r x r' h
theorem zco {α : Type} {k : Int} {tx : List BA} {c : Int} {μ : α → Nat} {p q : Ps α} (hp : Szo (c + 1) μ p) (hq : Szo c μ q) : Szo c μ (ifH k tx p q) := fun r x r' h => by
 unfold ifH at h
 split at h
 ·rename_i hs
  cases r with
  | nil => cases hs
  | cons t r =>
   have := hp r x r' h
   simp only [List.length_cons] at *
   omega
 ·exact hq r x r' h
abbrev sT (k : Int) (tx : List BA) : Szo (-1) z0 (tk k tx) := zif (ze9 k tx)
abbrev sN : Szo (-1) z0 zbU := zif zer
abbrev sG1 (s : BA) (l : List BA) : Szo (-1) z0 (zbs (s :: l)) := zif (zjy s l)
theorem zmz {Bf : List (List BA) → Ps zb} (h : ∀ l, Szo 0 szE (Bf l)) (lv : List BA) (ls : List (List BA)) : ∀ n x, Szo (szE x) szE (bL Bf lv ls n x)
 | 0, _ => zdj
 | n + 1, x => zf1 (zX (sT _ _) fun t => zX (h ls) fun y => (zmz h lv ls n _).le (by simp only [szE, z5, szS, zL, z0]; omega)) (zbR (Int.le_refl _))
theorem zkL : ∀ n, Szo 0 szE (sG n).1 ∧ (∀ l, Szo 0 szE ((sG n).2.1 l)) ∧ Szo 0 szE (sG n).2.2.1 ∧ Szo (-1) szE (sG n).2.2.2
 | 0 => ⟨zdj, fun _ => zdj, zdj, zdj⟩
 | n + 1 => by
  obtain ⟨h1, h2, h3, h4⟩ := zkL n
  refine ⟨h2 _, fun l => ?_, ?_, ?_⟩
  ·cases l with
   | nil => exact h3
   | cons lv ls => exact zX (h2 ls) fun x => (zmz h2 lv ls big x).le (by omega)
  ·exact zf1 (zX (sT _ _) fun _ => zX h3 fun _ => zbR (by simp only [szE, z5, szS, zL, z0]; omega)) (zco (zX h1 fun _ => zX (sG1 _ _) fun _ => zbR (by simp only [szE, z5, szS, zL, z0]; omega)) (zf1 (zX (sT _ _) fun _ => zbR (by simp only [szE, z5, szS, zL, z0]; omega)) (zco (zbR (by simp only [szE, z5, szS, zL, z0]; omega)) (zco (zbR (by simp only [szE, z5, szS, zL, z0]; omega)) (zX sN fun _ => zf1 (zX h4 fun _ => zbR (by simp only [szE, z5, szS, zL, z0]; omega)) (zco (zX sN fun _ => zbR (by simp only [szE, z5, szS, zL, z0]; omega)) (zbR (by simp only [szE, z5, szS, zL, z0]; omega))))))))
  ·exact zX (sG1 _ _) fun _ => zX h1 fun _ => zX (sG1 _ _) fun _ => zbR (by simp only [szE, z5, szS, zL, z0]; omega)
theorem zdO : Szo 0 szE zb5 := (zkL big).1
theorem zq9 : Szo (-1) szE zeb := (zkL big).2.2.2
theorem zmE : ∀ n l, Szo (z5 l) z5 (aL n l)
 | 0, l => zdj
 | n + 1, l => zco (zX zdO fun x => (zmE n _).le (by rw [zn1]; omega)) (zX (sG1 _ _) fun _ => zbR (by simp only [szE, z5, szS, zL, z0]; omega))
theorem zm5 : Szo 0 z5 zd1 := zX (sG1 _ _) fun _ => zco (zbR (by simp only [szE, z5, szS, zL, z0]; omega)) (zX zdO fun x => (zmE _ _).le (by simp only [szE, z5, szS, zL, z0]; omega))
theorem zgF (s : zh) : Szo ((szS s : Int) - 1) szS (k3 s) := zX (sG1 _ _) fun _ => zbR (by simp only [z0]; omega)
abbrev sK (m : Bool) : Szo 0 z0 (zdR m) := ziD (zcR m)
theorem zri (q : zh) : Szo (szS q) szS (zeG q) := zX sN fun _ => zX (sK _) fun _ => zco (zX zdO fun _ => zbR (by simp only [szE, z5, szS, zL, zcI, z0]; omega)) (zbR (by simp only [szE, z5, szS, zL, zcI, z0]; omega))
theorem zqX (q : zh) : Szo (szS q) szS (zel q) := zco (zX (sG1 _ _) fun _ => zbR (by simp only [szE, z5, szS, zL, zcI, z0]; omega)) (zlB (zX sN fun _ => zX zm5 fun _ => zbR (by simp only [szE, z5, szS, zL, zcI, z0]; omega)) (zX zdO fun _ => zbR (by simp only [szE, z5, szS, zL, zcI, z0]; omega)))
theorem zoj (q : zh) : Szo (szS q) szS (zdX q) := zlB (zX sN fun _ => zX zm5 fun _ => zbR (by simp only [szE, z5, szS, zL, zcI, z0]; omega)) (zX sN fun _ => zf1 (zX zq9 fun _ => zX (sG1 _ _) fun _ => zX zdO fun _ => zbR (by simp only [szE, z5, szS, zL, zcI, z0]; omega)) (zco (zX sN fun _ => zX (sG1 _ _) fun _ => zX zdO fun _ => zbR (by simp only [szE, z5, szS, zL, zcI, z0]; omega)) (zX (sG1 _ _) fun _ => (zqX _).le (by simp only [szE, z5, szS, zL, zcI, z0]; omega))))
theorem zq7 (q : zh) : Szo ((szS q : Int) - 1) szS (zeh q) := zco (zX (zri _) fun s => (zgF s).le (by omega)) (zco (zX (sG1 _ _) fun _ => zX zdO fun _ => zX (sG1 _ _) fun _ => (zgF _).le (by simp only [szE, z5, szS, zL, zcI, z0]; omega)) (zco (zf1 ((zgF _).le (by simp only [szE, z5, szS, zL, zcI, z0]; omega)) (zX zdO fun _ => (zgF _).le (by simp only [szE, z5, szS, zL, zcI, z0]; omega))) (zX (zoj _) fun s => (zgF s).le (by omega))))
theorem zmk {rS : Ps Stm} (h : Szo 0 szS rS) : ∀ n l, Szo (zL l) zL (zdJ rS n l)
 | 0, _ => zdj
 | n + 1, l => zco (zbR (by omega)) (zX h fun _ => (zmk h n _).le (by rw [zlw]; omega))
theorem zou {rB : Ps (List Stm)} (h : Szo 0 zL rB) : Szo 0 szS (zdk rB) := fun r x r' hv =>
 zco (zX zdO fun _ => zX h fun _ => zco (zX h fun _ => zbR (by simp only [szE, z5, szS, zL, z0]; omega)) (zbR (by simp only [szE, z5, szS, zL, z0]; omega))) (zco (zX zdO fun _ => zX h fun _ => zbR (by simp only [szE, z5, szS, zL, z0]; omega)) ((zq7 _).le (by simp only [szE, z5, szS, zL, z0]; omega))) r x r' hv
theorem zle : ∀ n, Szo 0 zL (sB n).1 ∧ Szo 0 szS (sB n).2
 | 0 => ⟨zdj, zdj⟩
 | n + 1 => by
  obtain ⟨h1, h2⟩ := zle n
  exact ⟨zX (sG1 _ _) fun _ => (zmk h2 _ _).le (by simp only [szE, z5, szS, zL, z0]; omega), zou h1⟩
theorem zpO : Szo 0 zL ze7 := (zle big).1
def szD (d : zo) : Nat := zL d.Body
theorem zni (ln : Int) (nm : BA) (ps : List zbc) : Szo 0 szD (k9 ln nm ps) := zX (sK _) fun _ => zX zpO fun _ => zbR (by simp only [szD, z0]; omega)
theorem zl8 (ln : Int) (nm : BA) : ∀ n l, Szo 0 szD (pL ln nm n l)
 | 0, _ => zdj
 | n + 1, l => zco (zX (ziD zdK) fun _ => (zl8 ln nm n _).le (by simp only [szE, z5, szS, zL, z0]; omega)) (zX (sG1 _ _) fun _ => (zni _ _ _).le (by simp only [szE, z5, szS, zL, z0]; omega))
theorem zjt : Szo (-1) szD zdL := fun r x r' h => zX (sT _ _) (fun _ => zX sN fun _ => zX (sG1 _ _) fun _ => zco ((zni _ _ _).le (by simp only [szE, z5, szS, zL, z0]; omega)) (zX (ziD zdK) fun _ => (zl8 _ _ _ _).le (by simp only [szE, z5, szS, zL, z0]; omega))) r x r' h
theorem zj8 : ∀ (n : Nat) (S : List zw) (D : List zo) (r : List Tok) (N : Nat), S.length + D.length + r.length ≤ N → (∀ d ∈ D, zL d.Body ≤ N) → ∀ {S' : List zw} {D' : List zo}, wL n S D r = some (.ok (S', D')) → S'.length + D'.length ≤ N ∧ ∀ d ∈ D', zL d.Body ≤ N
 | 0, S, D, r, N, _, _, S', D', h => by cases h
 | n + 1, S, D, [], N, hl, hD, S', D', h => by
  injection h with h
  injection h with h
  injection h with h1 h2
  subst h1; subst h2
  exact ⟨by omega, hD⟩
 | n + 1, S, D, t :: r, N, hl, hD, S', D', hw => by
  simp only [List.length_cons] at hl
  unfold wL at hw
  split at hw
  ·split at hw
   ·cases hw
   ·cases hw
   ·rename_i x r' he
    have := zgy r x r' he
    exact zj8 n _ _ r' N (by simp; omega) hD hw
  ·split at hw
   ·cases hw
   ·cases hw
   ·rename_i x r' he
    have h1 := zjt (t :: r) x r' he
    have h2 := zg7 (t :: r) x r' he
    simp only [List.length_cons] at h1 h2
    refine zj8 n _ _ r' N (by simp; omega) (fun d hd => ?_) hw
    rw [List.mem_append, List.mem_singleton] at hd
    cases hd with
    | inl hd => exact hD d hd
    | inr hd =>
     subst hd
     unfold szD at h1
     omega
theorem znx {T : List Tok} {S : List zw} {D : List zo} (h : zds T = some (.ok (S, D))) : S.length + D.length ≤ T.length ∧ ∀ d ∈ D, zL d.Body ≤ T.length :=
 zj8 big [] [] T T.length (by simp) (fun d hd => by cases hd) h
def zdU (T : List Tok) : Except (List Tok) (List zw × List zo) → zO × Int × Int
 | .error e => (⟨[], []⟩, ((T.length - e.length : Nat) : Int), 7)
 | .ok (S, D) => if zfn D = true then (⟨[], []⟩, 0, 11) else (⟨S, D⟩, 0, 0)
theorem zoP {T : List Tok} (hT : T.length ≤ 1000000) : ∃ v, zds T = some v ∧ zd9 T = some (zdU T v) := by
 obtain ⟨v, hv⟩ := zqE hT
 refine ⟨v, hv, ?_⟩
 rw [zqU hT, hv, Option.bind_some]
 cases v with
 | error e => rfl
 | ok c =>
  obtain ⟨S, D⟩ := c
  have hz := znx hv
  dsimp only
  rw [zpy (by omega) fun d hd => by have := hz.2 d hd; omega, Option.bind_some]
  unfold zdU
  dsimp only
  split <;> rfl
end Go.Proofs.Ytnhboaaikehpoaa
