import Derived.Test.YtnhboaaikehpoaaP_12e
import Derived.KernelRfl
namespace Go.Proofs.Ytnhboaaikehpoaa
open Go.Ab Go.RowKit
set_option linter.unusedVariables false
set_option linter.unusedSimpArgs false
def Szo {α : Type} (c : Int) (μ : α → Nat) (p : Ps α) : Prop := ∀ r x r', p r = some (.ok (x, r')) → (μ x : Int) + (r'.length : Int) ≤ (r.length : Int) + c
abbrev z0 {α : Type} (_ : α) : Nat := 0
theorem zka {α : Type} {p : Ps α} (h : Sf p) : Szo 0 z0 p := fun r x r' hv => by
 have := h.le hv
 have : r'.length ≤ r.length := this
 show ((0 : Nat) : Int) + _ ≤ _
 omega
theorem ziZ {α : Type} {p : Ps α} (h : Co p) : Szo (-1) z0 p := fun r x r' hv => by
 have := h r x r' hv
 show ((0 : Nat) : Int) + _ ≤ _
 omega
theorem zd2 {α : Type} {c : Int} {μ : α → Nat} : Szo c μ (fun _ => none) := fun r x r' h => by cases h
theorem zbL {α : Type} {c : Int} {μ : α → Nat} {x : α} (h : (μ x : Int) ≤ c) : Szo c μ (pu x) := fun r y r' hv => by
 injection hv with hv
 injection hv with hv
 injection hv with h1 h2
 subst h1; subst h2
 omega
theorem Szo.le {α : Type} {c c' : Int} {μ : α → Nat} {p : Ps α} (h : Szo c μ p) (hc : c ≤ c') : Szo c' μ p := fun r x r' hv => by
 have := h r x r' hv
 omega
theorem zU {α β : Type} {c c1 : Int} {ν : α → Nat} {μ : β → Nat} {p : Ps α} {f : α → Ps β} (hp : Szo c1 ν p) (hf : ∀ x, Szo (c - c1 + ν x) μ (f x)) : Szo c μ (bd p f) := fun r y r' h => by
 unfold bd at h
 split at h
 ·cases h
 ·cases h
 ·rename_i x r2 he
  have h1 := hp r x r2 he
  have h2 := hf x r2 y r' h
  omega
theorem zfm {α : Type} {k : Int} {tx : List BA} {c : Int} {μ : α → Nat} {p q : Ps α} (hp : Szo c μ p) (hq : Szo c μ q) : Szo c μ (ifS k tx p q) := fun r x r' h => by
 unfold ifS at h
 split at h
 ·exact hp r x r' h
 ·exact hq r x r' h
theorem zni {α : Type} {c : Int} {μ : α → Nat} {p q : Ps α} (hp : Szo c μ p) (hq : Szo c μ q) : Szo c μ (ifC p q) := fun r x r' h => by
 unfold ifC at h
 split at h
 ·exact hp r x r' h
 ·exact hq r x r' h
theorem zcu {α : Type} {k : Int} {tx : List BA} {c : Int} {μ : α → Nat} {p q : Ps α} (hp : Szo (c + 1) μ p) (hq : Szo c μ q) : Szo c μ (ifH k tx p q) := fun r x r' h => by
 unfold ifH at h
 split at h
 ·rename_i hs
  cases r with
  | nil => cases hs
  | cons t r =>
   have := hp r x r' h
   simp only [List.length_cons] at *
   omega
 ·exact hq r x r' h
abbrev sT (k : Int) (tx : List BA) : Szo (-1) z0 (tk k tx) := ziZ (ze5 k tx)
abbrev sN : Szo (-1) z0 zbB := ziZ zeg
abbrev sG1 (s : BA) (l : List BA) : Szo (-1) z0 (zbd (s :: l)) := ziZ (zfA s l)
theorem zle {Bf : List (List BA) → Ps za} (h : ∀ l, Szo 0 szE (Bf l)) (lv : List BA) (ls : List (List BA)) : ∀ n x, Szo (szE x) szE (bL Bf lv ls n x)
 | 0, _ => zd2
 | n + 1, x => zfm (zU (sT _ _) fun t => zU (h ls) fun y => (zle h lv ls n _).le (by simp only [szE, zV, szS, zF, z0]; omega)) (zbL (Int.le_refl _))
theorem zj6 : ∀ n, Szo 0 szE (sG n).1 ∧ (∀ l, Szo 0 szE ((sG n).2.1 l)) ∧ Szo 0 szE (sG n).2.2.1 ∧ Szo (-1) szE (sG n).2.2.2
 | 0 => ⟨zd2, fun _ => zd2, zd2, zd2⟩
 | n + 1 => by
  obtain ⟨h1, h2, h3, h4⟩ := zj6 n
  refine ⟨h2 _, fun l => ?_, ?_, ?_⟩
  ·cases l with
   | nil => exact h3
   | cons lv ls => exact zU (h2 ls) fun x => (zle h2 lv ls big x).le (by omega)
  ·exact zfm (zU (sT _ _) fun _ => zU h3 fun _ => zbL (by simp only [szE, zV, szS, zF, z0]; omega)) (zcu (zU h1 fun _ => zU (sG1 _ _) fun _ => zbL (by simp only [szE, zV, szS, zF, z0]; omega)) (zfm (zU (sT _ _) fun _ => zbL (by simp only [szE, zV, szS, zF, z0]; omega)) (zcu (zbL (by simp only [szE, zV, szS, zF, z0]; omega)) (zcu (zbL (by simp only [szE, zV, szS, zF, z0]; omega)) (zU sN fun _ => zfm (zU h4 fun _ => zbL (by simp only [szE, zV, szS, zF, z0]; omega)) (zcu (zU sN fun _ => zbL (by simp only [szE, zV, szS, zF, z0]; omega)) (zbL (by simp only [szE, zV, szS, zF, z0]; omega))))))))
  ·exact zU (sG1 _ _) fun _ => zU h1 fun _ => zU (sG1 _ _) fun _ => zbL (by simp only [szE, zV, szS, zF, z0]; omega)
theorem zdQ : Szo 0 szE zbI := (zj6 big).1
theorem zp2 : Szo (-1) szE zd8 := (zj6 big).2.2.2
theorem zlk : ∀ n l, Szo (zV l) zV (aL n l)
 | 0, l => zd2
 | n + 1, l => zcu (zU zdQ fun x => (zlk n _).le (by rw [znJ]; omega)) (zU (sG1 _ _) fun _ => zbL (by simp only [szE, zV, szS, zF, z0]; omega))
theorem zlL : Szo 0 zV zdA := zU (sG1 _ _) fun _ => zcu (zbL (by simp only [szE, zV, szS, zF, z0]; omega)) (zU zdQ fun x => (zlk _ _).le (by simp only [szE, zV, szS, zF, z0]; omega))
theorem zgB (s : ze) : Szo ((szS s : Int) - 1) szS (k3 s) := zU (sG1 _ _) fun _ => zbL (by simp only [z0]; omega)
abbrev sK (m : Bool) : Szo 0 z0 (zdv m) := zka (zcO m)
theorem zqY (q : ze) : Szo (szS q) szS (zel q) := zU sN fun _ => zU (sK _) fun _ => zcu (zU zdQ fun _ => zbL (by simp only [szE, zV, szS, zF, zcN, z0]; omega)) (zbL (by simp only [szE, zV, szS, zF, zcN, z0]; omega))
theorem zpq (q : ze) : Szo (szS q) szS (zd5 q) := zcu (zU (sG1 _ _) fun _ => zbL (by simp only [szE, zV, szS, zF, zcN, z0]; omega)) (zni (zU sN fun _ => zU zlL fun _ => zbL (by simp only [szE, zV, szS, zF, zcN, z0]; omega)) (zU zdQ fun _ => zbL (by simp only [szE, zV, szS, zF, zcN, z0]; omega)))
theorem zop (q : ze) : Szo (szS q) szS (zdJ q) := zni (zU sN fun _ => zU zlL fun _ => zbL (by simp only [szE, zV, szS, zF, zcN, z0]; omega)) (zU sN fun _ => zfm (zU zp2 fun _ => zU (sG1 _ _) fun _ => zU zdQ fun _ => zbL (by simp only [szE, zV, szS, zF, zcN, z0]; omega)) (zcu (zU sN fun _ => zU (sG1 _ _) fun _ => zU zdQ fun _ => zbL (by simp only [szE, zV, szS, zF, zcN, z0]; omega)) (zU (sG1 _ _) fun _ => (zpq _).le (by simp only [szE, zV, szS, zF, zcN, z0]; omega))))
theorem zqU (q : ze) : Szo ((szS q : Int) - 1) szS (zdB q) := zcu (zU (zqY _) fun s => (zgB s).le (by omega)) (zcu (zU (sG1 _ _) fun _ => zU zdQ fun _ => zU (sG1 _ _) fun _ => (zgB _).le (by simp only [szE, zV, szS, zF, zcN, z0]; omega)) (zcu (zfm ((zgB _).le (by simp only [szE, zV, szS, zF, zcN, z0]; omega)) (zU zdQ fun _ => (zgB _).le (by simp only [szE, zV, szS, zF, zcN, z0]; omega))) (zU (zop _) fun s => (zgB s).le (by omega))))
theorem zls {rS : Ps Stm} (h : Szo 0 szS rS) : ∀ n l, Szo (zF l) zF (zcW rS n l)
 | 0, _ => zd2
 | n + 1, l => zcu (zbL (by omega)) (zU h fun _ => (zls h n _).le (by rw [zk6]; omega))
theorem zoX {rB : Ps (List Stm)} (h : Szo 0 zF rB) : Szo 0 szS (zcZ rB) := fun r x r' hv =>
 zcu (zU zdQ fun _ => zU h fun _ => zcu (zU h fun _ => zbL (by simp only [szE, zV, szS, zF, z0]; omega)) (zbL (by simp only [szE, zV, szS, zF, z0]; omega))) (zcu (zU zdQ fun _ => zU h fun _ => zbL (by simp only [szE, zV, szS, zF, z0]; omega)) ((zqU _).le (by simp only [szE, zV, szS, zF, z0]; omega))) r x r' hv
theorem zmX : ∀ n, Szo 0 zF (sB n).1 ∧ Szo 0 szS (sB n).2
 | 0 => ⟨zd2, zd2⟩
 | n + 1 => by
  obtain ⟨h1, h2⟩ := zmX n
  exact ⟨zU (sG1 _ _) fun _ => (zls h2 _ _).le (by simp only [szE, zV, szS, zF, z0]; omega), zoX h1⟩
theorem zoW : Szo 0 zF zd0 := (zmX big).1
def szD (d : zi) : Nat := zF d.Body
theorem zlj (ln : Int) (nm : BA) (ps : List z4) : Szo 0 szD (k9 ln nm ps) := zU (sK _) fun _ => zU zoW fun _ => zbL (by simp only [szD, z0]; omega)
theorem zma (ln : Int) (nm : BA) : ∀ n l, Szo 0 szD (pL ln nm n l)
 | 0, _ => zd2
 | n + 1, l => zcu (zU (zka zc6) fun _ => (zma ln nm n _).le (by simp only [szE, zV, szS, zF, z0]; omega)) (zU (sG1 _ _) fun _ => (zlj _ _ _).le (by simp only [szE, zV, szS, zF, z0]; omega))
theorem znh : Szo (-1) szD zcF := fun r x r' h => zU (sT _ _) (fun _ => zU sN fun _ => zU (sG1 _ _) fun _ => zcu ((zlj _ _ _).le (by simp only [szE, zV, szS, zF, z0]; omega)) (zU (zka zc6) fun _ => (zma _ _ _ _).le (by simp only [szE, zV, szS, zF, z0]; omega))) r x r' h
theorem zjr : ∀ (n : Nat) (S : List zo) (D : List zi) (r : List Tok) (N : Nat), S.length + D.length + r.length ≤ N → (∀ d ∈ D, zF d.Body ≤ N) → ∀ {S' : List zo} {D' : List zi}, wL n S D r = some (.ok (S', D')) → S'.length + D'.length ≤ N ∧ ∀ d ∈ D', zF d.Body ≤ N
 | 0, S, D, r, N, _, _, S', D', h => by cases h
 | n + 1, S, D, [], N, hl, hD, S', D', h => by
  injection h with h
  injection h with h
  injection h with h1 h2
  subst h1; subst h2
  exact ⟨by omega, hD⟩
 | n + 1, S, D, t :: r, N, hl, hD, S', D', hw => by
  simp only [List.length_cons] at hl
  unfold wL at hw
  split at hw
  ·split at hw
   ·cases hw
   ·cases hw
   ·rename_i x r' he
    have := ziJ r x r' he
    exact zjr n _ _ r' N (by simp; omega) hD hw
  ·split at hw
   ·cases hw
   ·cases hw
   ·rename_i x r' he
    have h1 := znh (t :: r) x r' he
    have h2 := zh7 (t :: r) x r' he
    simp only [List.length_cons] at h1 h2
    refine zjr n _ _ r' N (by simp; omega) (fun d hd => ?_) hw
    rw [List.mem_append, List.mem_singleton] at hd
    cases hd with
    | inl hd => exact hD d hd
    | inr hd =>
     subst hd
     unfold szD at h1
     omega
theorem zoz {T : List Tok} {S : List zo} {D : List zi} (h : zce T = some (.ok (S, D))) : S.length + D.length ≤ T.length ∧ ∀ d ∈ D, zF d.Body ≤ T.length :=
 zjr big [] [] T T.length (by simp) (fun d hd => by cases hd) h
def zbW (T : List Tok) : Except (List Tok) (List zo × List zi) → zN × Int × Int
 | .error e => (⟨[], []⟩, ((T.length - e.length : Nat) : Int), 7)
 | .ok (S, D) => if zeP D = true then (⟨[], []⟩, 0, 11) else (⟨S, D⟩, 0, 0)
theorem zpF {T : List Tok} (hT : T.length ≤ 1000000) : ∃ v, zce T = some v ∧ zdk T = some (zbW T v) := by
 obtain ⟨v, hv⟩ := zkd hT
 refine ⟨v, hv, ?_⟩
 rw [zoD hT, hv, Option.bind_some]
 cases v with
 | error e => rfl
 | ok c =>
  obtain ⟨S, D⟩ := c
  have hz := zoz hv
  dsimp only
  rw [zrc (by omega) fun d hd => by have := hz.2 d hd; omega, Option.bind_some]
  unfold zbW
  dsimp only
  split <;> rfl
end Go.Proofs.Ytnhboaaikehpoaa
