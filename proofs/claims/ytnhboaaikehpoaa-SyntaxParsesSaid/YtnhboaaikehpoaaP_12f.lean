import Derived.Test.YtnhboaaikehpoaaP_12e
import Derived.KernelRfl
namespace Go.Proofs.Ytnhboaaikehpoaa
open Go.Ab Go.RowKit
set_option linter.unusedVariables false
set_option linter.unusedSimpArgs false
def Szo {α : Type} (c : Int) (μ : α → Nat) (p : Ps α) : Prop := ∀ r x r', p r = some (.ok (x, r')) → (μ x : Int) + (r'.length : Int) ≤ (r.length : Int) + c
abbrev z0 {α : Type} (_ : α) : Nat := 0
theorem ziV {α : Type} {p : Ps α} (h : Sf p) : Szo 0 z0 p := fun r x r' hv => by
 have := h.le hv
 have : r'.length ≤ r.length := this
 show ((0 : Nat) : Int) + _ ≤ _
 omega
theorem ziJ {α : Type} {p : Ps α} (h : Co p) : Szo (-1) z0 p := fun r x r' hv => by
 have := h r x r' hv
 show ((0 : Nat) : Int) + _ ≤ _
 omega
theorem zdd {α : Type} {c : Int} {μ : α → Nat} : Szo c μ (fun _ => none) := fun r x r' h => by cases h
theorem zbO {α : Type} {c : Int} {μ : α → Nat} {x : α} (h : (μ x : Int) ≤ c) : Szo c μ (pu x) := fun r y r' hv => by
 injection hv with hv
 injection hv with hv
 injection hv with h1 h2
 subst h1; subst h2
 omega
theorem Szo.le {α : Type} {c c' : Int} {μ : α → Nat} {p : Ps α} (h : Szo c μ p) (hc : c ≤ c') : Szo c' μ p := fun r x r' hv => by
 have := h r x r' hv
 omega
theorem zY {α β : Type} {c c1 : Int} {ν : α → Nat} {μ : β → Nat} {p : Ps α} {f : α → Ps β} (hp : Szo c1 ν p) (hf : ∀ x, Szo (c - c1 + ν x) μ (f x)) : Szo c μ (bd p f) := fun r y r' h => by
 unfold bd at h
 split at h
 ·cases h
 ·cases h
 ·rename_i x r2 he
  have h1 := hp r x r2 he
  have h2 := hf x r2 y r' h
  omega
theorem zga {α : Type} {k : Int} {tx : List BA} {c : Int} {μ : α → Nat} {p q : Ps α} (hp : Szo c μ p) (hq : Szo c μ q) : Szo c μ (ifS k tx p q) := fun r x r' h => by
 unfold ifS at h
 split at h
 ·exact hp r x r' h
 ·exact hq r x r' h
theorem zlW {α : Type} {c : Int} {μ : α → Nat} {p q : Ps α} (hp : Szo c μ p) (hq : Szo c μ q) : Szo c μ (ifC p q) := fun r x r' h => by
 unfold ifC at h
 split at h
 ·exact hp r x r' h
 ·exact hq r x r' h
theorem zcd {α : Type} {k : Int} {tx : List BA} {c : Int} {μ : α → Nat} {p q : Ps α} (hp : Szo (c + 1) μ p) (hq : Szo c μ q) : Szo c μ (ifH k tx p q) := fun r x r' h => by
 unfold ifH at h
 split at h
 ·rename_i hs
  cases r with
  | nil => cases hs
  | cons t r =>
   have := hp r x r' h
   simp only [List.length_cons] at *
   omega
 ·exact hq r x r' h
abbrev sT (k : Int) (tx : List BA) : Szo (-1) z0 (tk k tx) := ziJ (zfA k tx)
abbrev sN : Szo (-1) z0 zbR := ziJ zd9
abbrev sG1 (s : BA) (l : List BA) : Szo (-1) z0 (zbs (s :: l)) := ziJ (zjo s l)
theorem znh {Bf : List (List BA) → Ps zb} (h : ∀ l, Szo 0 szE (Bf l)) (lv : List BA) (ls : List (List BA)) : ∀ n x, Szo (szE x) szE (bL Bf lv ls n x)
 | 0, _ => zdd
 | n + 1, x => zga (zY (sT _ _) fun t => zY (h ls) fun y => (znh h lv ls n _).le (by simp only [szE, z4, szS, zK, z0]; omega)) (zbO (Int.le_refl _))
theorem zjg : ∀ n, Szo 0 szE (sG n).1 ∧ (∀ l, Szo 0 szE ((sG n).2.1 l)) ∧ Szo 0 szE (sG n).2.2.1 ∧ Szo (-1) szE (sG n).2.2.2
 | 0 => ⟨zdd, fun _ => zdd, zdd, zdd⟩
 | n + 1 => by
  obtain ⟨h1, h2, h3, h4⟩ := zjg n
  refine ⟨h2 _, fun l => ?_, ?_, ?_⟩
  ·cases l with
   | nil => exact h3
   | cons lv ls => exact zY (h2 ls) fun x => (znh h2 lv ls big x).le (by omega)
  ·exact zga (zY (sT _ _) fun _ => zY h3 fun _ => zbO (by simp only [szE, z4, szS, zK, z0]; omega)) (zcd (zY h1 fun _ => zY (sG1 _ _) fun _ => zbO (by simp only [szE, z4, szS, zK, z0]; omega)) (zga (zY (sT _ _) fun _ => zbO (by simp only [szE, z4, szS, zK, z0]; omega)) (zcd (zbO (by simp only [szE, z4, szS, zK, z0]; omega)) (zcd (zbO (by simp only [szE, z4, szS, zK, z0]; omega)) (zY sN fun _ => zga (zY h4 fun _ => zbO (by simp only [szE, z4, szS, zK, z0]; omega)) (zcd (zY sN fun _ => zbO (by simp only [szE, z4, szS, zK, z0]; omega)) (zbO (by simp only [szE, z4, szS, zK, z0]; omega))))))))
  ·exact zY (sG1 _ _) fun _ => zY h1 fun _ => zY (sG1 _ _) fun _ => zbO (by simp only [szE, z4, szS, zK, z0]; omega)
theorem zdL : Szo 0 szE zb1 := (zjg big).1
theorem zn2 : Szo (-1) szE zeb := (zjg big).2.2.2
theorem zmX : ∀ n l, Szo (z4 l) z4 (aL n l)
 | 0, l => zdd
 | n + 1, l => zcd (zY zdL fun x => (zmX n _).le (by rw [zn5]; omega)) (zY (sG1 _ _) fun _ => zbO (by simp only [szE, z4, szS, zK, z0]; omega))
theorem zlz : Szo 0 z4 zdU := zY (sG1 _ _) fun _ => zcd (zbO (by simp only [szE, z4, szS, zK, z0]; omega)) (zY zdL fun x => (zmX _ _).le (by simp only [szE, z4, szS, zK, z0]; omega))
theorem zg4 (s : zh) : Szo ((szS s : Int) - 1) szS (k3 s) := zY (sG1 _ _) fun _ => zbO (by simp only [z0]; omega)
abbrev sK (m : Bool) : Szo 0 z0 (zdM m) := ziV (zcJ m)
theorem znr (q : zh) : Szo (szS q) szS (zeM q) := zY sN fun _ => zY (sK _) fun _ => zcd (zY zdL fun _ => zbO (by simp only [szE, z4, szS, zK, zcG, z0]; omega)) (zbO (by simp only [szE, z4, szS, zK, zcG, z0]; omega))
theorem zob (q : zh) : Szo (szS q) szS (zek q) := zcd (zY (sG1 _ _) fun _ => zbO (by simp only [szE, z4, szS, zK, zcG, z0]; omega)) (zlW (zY sN fun _ => zY zlz fun _ => zbO (by simp only [szE, z4, szS, zK, zcG, z0]; omega)) (zY zdL fun _ => zbO (by simp only [szE, z4, szS, zK, zcG, z0]; omega)))
theorem zo8 (q : zh) : Szo (szS q) szS (zdY q) := zlW (zY sN fun _ => zY zlz fun _ => zbO (by simp only [szE, z4, szS, zK, zcG, z0]; omega)) (zY sN fun _ => zga (zY zn2 fun _ => zY (sG1 _ _) fun _ => zY zdL fun _ => zbO (by simp only [szE, z4, szS, zK, zcG, z0]; omega)) (zcd (zY sN fun _ => zY (sG1 _ _) fun _ => zY zdL fun _ => zbO (by simp only [szE, z4, szS, zK, zcG, z0]; omega)) (zY (sG1 _ _) fun _ => (zob _).le (by simp only [szE, z4, szS, zK, zcG, z0]; omega))))
theorem zre (q : zh) : Szo ((szS q : Int) - 1) szS (zep q) := zcd (zY (znr _) fun s => (zg4 s).le (by omega)) (zcd (zY (sG1 _ _) fun _ => zY zdL fun _ => zY (sG1 _ _) fun _ => (zg4 _).le (by simp only [szE, z4, szS, zK, zcG, z0]; omega)) (zcd (zga ((zg4 _).le (by simp only [szE, z4, szS, zK, zcG, z0]; omega)) (zY zdL fun _ => (zg4 _).le (by simp only [szE, z4, szS, zK, zcG, z0]; omega))) (zY (zo8 _) fun s => (zg4 s).le (by omega))))
theorem zlo {rS : Ps Stm} (h : Szo 0 szS rS) : ∀ n l, Szo (zK l) zK (zdF rS n l)
 | 0, _ => zdd
 | n + 1, l => zcd (zbO (by omega)) (zY h fun _ => (zlo h n _).le (by rw [zlB]; omega))
theorem zop {rB : Ps (List Stm)} (h : Szo 0 zK rB) : Szo 0 szS (zdc rB) := fun r x r' hv =>
 zcd (zY zdL fun _ => zY h fun _ => zcd (zY h fun _ => zbO (by simp only [szE, z4, szS, zK, z0]; omega)) (zbO (by simp only [szE, z4, szS, zK, z0]; omega))) (zcd (zY zdL fun _ => zY h fun _ => zbO (by simp only [szE, z4, szS, zK, z0]; omega)) ((zre _).le (by simp only [szE, z4, szS, zK, z0]; omega))) r x r' hv
theorem zlq : ∀ n, Szo 0 zK (sB n).1 ∧ Szo 0 szS (sB n).2
 | 0 => ⟨zdd, zdd⟩
 | n + 1 => by
  obtain ⟨h1, h2⟩ := zlq n
  exact ⟨zY (sG1 _ _) fun _ => (zlo h2 _ _).le (by simp only [szE, z4, szS, zK, z0]; omega), zop h1⟩
theorem zo9 : Szo 0 zK zfk := (zlq big).1
def szD (d : zp) : Nat := zK d.Body
theorem zls (ln : Int) (nm : BA) (ps : List zbb) : Szo 0 szD (k9 ln nm ps) := zY (sK _) fun _ => zY zo9 fun _ => zbO (by simp only [szD, z0]; omega)
theorem zli (ln : Int) (nm : BA) : ∀ n l, Szo 0 szD (pL ln nm n l)
 | 0, _ => zdd
 | n + 1, l => zcd (zY (ziV zdI) fun _ => (zli ln nm n _).le (by simp only [szE, z4, szS, zK, z0]; omega)) (zY (sG1 _ _) fun _ => (zls _ _ _).le (by simp only [szE, z4, szS, zK, z0]; omega))
theorem zki : Szo (-1) szD zdJ := fun r x r' h => zY (sT _ _) (fun _ => zY sN fun _ => zY (sG1 _ _) fun _ => zcd ((zls _ _ _).le (by simp only [szE, z4, szS, zK, z0]; omega)) (zY (ziV zdI) fun _ => (zli _ _ _ _).le (by simp only [szE, z4, szS, zK, z0]; omega))) r x r' h
theorem zjE : ∀ (n : Nat) (S : List zw) (D : List zp) (r : List Tok) (N : Nat), S.length + D.length + r.length ≤ N → (∀ d ∈ D, zK d.Body ≤ N) → ∀ {S' : List zw} {D' : List zp}, wL n S D r = some (.ok (S', D')) → S'.length + D'.length ≤ N ∧ ∀ d ∈ D', zK d.Body ≤ N
 | 0, S, D, r, N, _, _, S', D', h => by cases h
 | n + 1, S, D, [], N, hl, hD, S', D', h => by
  injection h with h
  injection h with h
  injection h with h1 h2
  subst h1; subst h2
  exact ⟨by omega, hD⟩
 | n + 1, S, D, t :: r, N, hl, hD, S', D', hw => by
  simp only [List.length_cons] at hl
  unfold wL at hw
  split at hw
  ·split at hw
   ·cases hw
   ·cases hw
   ·rename_i x r' he
    have := zhl r x r' he
    exact zjE n _ _ r' N (by simp; omega) hD hw
  ·split at hw
   ·cases hw
   ·cases hw
   ·rename_i x r' he
    have h1 := zki (t :: r) x r' he
    have h2 := zgy (t :: r) x r' he
    simp only [List.length_cons] at h1 h2
    refine zjE n _ _ r' N (by simp; omega) (fun d hd => ?_) hw
    rw [List.mem_append, List.mem_singleton] at hd
    cases hd with
    | inl hd => exact hD d hd
    | inr hd =>
     subst hd
     unfold szD at h1
     omega
theorem zo3 {T : List Tok} {S : List zw} {D : List zp} (h : zdb T = some (.ok (S, D))) : S.length + D.length ≤ T.length ∧ ∀ d ∈ D, zK d.Body ≤ T.length :=
 zjE big [] [] T T.length (by simp) (fun d hd => by cases hd) h
def zdW (T : List Tok) : Except (List Tok) (List zw × List zp) → zP × Int × Int
 | .error e => (⟨[], []⟩, ((T.length - e.length : Nat) : Int), 7)
 | .ok (S, D) => if zfB D = true then (⟨[], []⟩, 0, 11) else (⟨S, D⟩, 0, 0)
theorem zps {T : List Tok} (hT : T.length ≤ 1000000) : ∃ v, zdb T = some v ∧ zea T = some (zdW T v) := by
 obtain ⟨v, hv⟩ := zpn hT
 refine ⟨v, hv, ?_⟩
 rw [zoh hT, hv, Option.bind_some]
 cases v with
 | error e => rfl
 | ok c =>
  obtain ⟨S, D⟩ := c
  have hz := zo3 hv
  dsimp only
  rw [zoi (by omega) fun d hd => by have := hz.2 d hd; omega, Option.bind_some]
  unfold zdW
  dsimp only
  split <;> rfl
end Go.Proofs.Ytnhboaaikehpoaa
