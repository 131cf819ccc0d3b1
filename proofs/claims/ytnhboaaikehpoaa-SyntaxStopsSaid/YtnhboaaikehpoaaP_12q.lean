import Derived.Test.YtnhboaaikehpoaaP_12o
import Derived.KernelRfl
namespace Go.Proofs.Ytnhboaaikehpoaa
open Go.Ab Go.RowKit
set_option linter.unusedVariables false
set_option linter.unusedSimpArgs false
def zo3 {α : Type} (d : List Tok) : Rs α → Rs α
 | .error e => .error (e ++ d)
 | .ok (x, r) => .ok (x, r ++ d)
def Ex {α : Type} (p : Ps α) (c : List Tok) : Prop := ∀ v, p c = some v → (zd4 v ≠ [] → ∀ d, p (c ++ d) = some (zo3 d v)) ∧ (zd4 v = [] → ∀ d v', p (c ++ d) = some v' → (zd4 v').length ≤ d.length)
def Gd {α : Type} (p : Ps α) : Prop := Sf p ∧ ∀ c, Ex p c
theorem zgF {α : Type} {p : Ps α} (h : Sf p) : Ex p [] := fun v hv => by
 refine ⟨fun hn => ?_, fun _ d v' hv' => h.le hv'⟩
 have := h.le hv
 exact absurd (List.eq_nil_of_length_eq_zero (Nat.le_zero.1 this)) hn
theorem zbs {α : Type} (x : α) : Gd (pu x) := ⟨z5 x, fun c v hv => by
 injection hv with hv
 subst hv
 refine ⟨fun _ d => rfl, fun hn d v' hv' => ?_⟩
 injection hv' with hv'
 subst hv'
 have hn : c = [] := hn
 subst hn
 exact Nat.le_refl _⟩
theorem zdt {α : Type} : Gd (fun _ => none : Ps α) := ⟨zdi, fun c v hv => by cases hv⟩
theorem zdN (k : Int) (tx : List BA) : Gd (tk k tx) := ⟨zbm k tx, fun c => by
 cases c with
 | nil => exact zgF (zbm k tx)
 | cons t r =>
  intro v hv
  unfold tk at hv
  dsimp only at hv
  by_cases h : zs k tx (t :: r) = true
  ·rw [if_pos h] at hv
   injection hv with hv
   subst hv
   have e : ∀ d, tk k tx (t :: r ++ d) = some (.ok (t, r ++ d)) := fun d => if_pos h
   refine ⟨fun _ d => e d, fun hn d v' hv' => ?_⟩
   rw [e d] at hv'
   injection hv' with hv'
   subst hv'
   have hn : r = [] := hn
   subst hn
   exact Nat.le_refl _
  ·rw [if_neg h] at hv
   injection hv with hv
   subst hv
   refine ⟨fun _ d => if_neg h, fun hn => ?_⟩
   cases hn⟩
theorem zJ {α β : Type} {p : Ps α} {f : α → Ps β} (hp : Gd p) (hf : ∀ x, Gd (f x)) : Gd (bd p f) := ⟨zt hp.1 fun x => (hf x).1, fun c v hv => by
 have sf := zt hp.1 fun x => (hf x).1
 have mono : ∀ {d : List Tok} {v' : Rs β}, bd p f (c ++ d) = some v' → (∀ u, p (c ++ d) = some u → (zd4 u).length ≤ d.length) → (zd4 v').length ≤ d.length := fun {d v'} h hu => by
  unfold bd at h
  split at h
  ·cases h
  ·rename_i e he
   injection h with h
   subst h
   exact hu _ he
  ·rename_i x r' he
   have h1 := hu _ he
   have h2 := (hf x).1.le h
   have h1 : r'.length ≤ d.length := h1
   omega
 unfold bd at hv
 split at hv
 ·cases hv
 ·rename_i e he
  injection hv with hv
  subst hv
  obtain ⟨h1, h2⟩ := hp.2 c _ he
  refine ⟨fun hn d => ?_, fun hn d v' hv' => mono hv' fun u hu => h2 hn d u hu⟩
  have := h1 hn d
  unfold bd
  rw [this]
  rfl
 ·rename_i x r' he
  obtain ⟨h1, h2⟩ := hp.2 c _ he
  by_cases hr : r' = []
  ·subst hr
   refine ⟨fun hn => ?_, fun _ d v' hv' => mono hv' fun u hu => h2 rfl d u hu⟩
   have := (hf x).1.le hv
   exact absurd (List.eq_nil_of_length_eq_zero (Nat.le_zero.1 this)) hn
  ·have e : ∀ d, bd p f (c ++ d) = f x (r' ++ d) := fun d => by
    have := h1 hr d
    exact zdz this
   obtain ⟨g1, g2⟩ := (hf x).2 r' v hv
   exact ⟨fun hn d => (e d).trans (g1 hn d), fun hn d v' hv' => g2 hn d v' ((e d).symm.trans hv')⟩⟩
theorem ze8 {α : Type} {k : Int} {tx : List BA} {p q : Ps α} (hp : Gd p) (hq : Gd q) : Gd (ifS k tx p q) := ⟨zdo hp.1 hq.1, fun c => by
 cases c with
 | nil => exact zgF (zdo hp.1 hq.1)
 | cons t r =>
  by_cases h : zs k tx (t :: r) = true
  ·have e : ∀ d, ifS k tx p q (t :: r ++ d) = p (t :: r ++ d) := fun d => if_pos h
   have e0 : ifS k tx p q (t :: r) = p (t :: r) := if_pos h
   intro v hv
   obtain ⟨g1, g2⟩ := hp.2 (t :: r) v (e0.symm.trans hv)
   exact ⟨fun hn d => (e d).trans (g1 hn d), fun hn d v' hv' => g2 hn d v' ((e d).symm.trans hv')⟩
  ·have e : ∀ d, ifS k tx p q (t :: r ++ d) = q (t :: r ++ d) := fun d => if_neg h
   have e0 : ifS k tx p q (t :: r) = q (t :: r) := if_neg h
   intro v hv
   obtain ⟨g1, g2⟩ := hq.2 (t :: r) v (e0.symm.trans hv)
   exact ⟨fun hn d => (e d).trans (g1 hn d), fun hn d v' hv' => g2 hn d v' ((e d).symm.trans hv')⟩⟩
theorem zbX {α : Type} {k : Int} {tx : List BA} {p q : Ps α} (hp : Gd p) (hq : Gd q) : Gd (ifH k tx p q) := ⟨zbG hp.1 hq.1, fun c => by
 cases c with
 | nil => exact zgF (zbG hp.1 hq.1)
 | cons t r =>
  by_cases h : zs k tx (t :: r) = true
  ·have e : ∀ d, ifH k tx p q (t :: r ++ d) = p (r ++ d) := fun d => if_pos h
   have e0 : ifH k tx p q (t :: r) = p r := if_pos h
   intro v hv
   obtain ⟨g1, g2⟩ := hp.2 r v (e0.symm.trans hv)
   exact ⟨fun hn d => (e d).trans (g1 hn d), fun hn d v' hv' => g2 hn d v' ((e d).symm.trans hv')⟩
  ·have e : ∀ d, ifH k tx p q (t :: r ++ d) = q (t :: r ++ d) := fun d => if_neg h
   have e0 : ifH k tx p q (t :: r) = q (t :: r) := if_neg h
   intro v hv
   obtain ⟨g1, g2⟩ := hq.2 (t :: r) v (e0.symm.trans hv)
   exact ⟨fun hn d => (e d).trans (g1 hn d), fun hn d v' hv' => g2 hn d v' ((e d).symm.trans hv')⟩⟩
theorem zok {α : Type} {m : Bool} {k : Int} {tx : List BA} {p q : Ps α} (hp : Gd p) (hq : Gd q) : Gd (ifM m k tx p q) := by
 cases m with
 | true => exact hp
 | false => exact ze8 (k := k) (tx := tx) hp hq
theorem zdh : Gd zbB := zJ (zdN _ _) fun _ => zbs _
theorem zcr : ∀ l, Gd (zbd l)
 | [] => zbs _
 | s :: l => zJ (zdN _ _) fun _ => zcr l
theorem zhu (m : Bool) : Gd (zdv m) :=
 zbX (zbs _) (zbX (zbs _) (zbX (zJ (zdN _ _) fun _ => zJ (zcr _) fun _ => zJ (zdN _ _) fun _ => zbs _) (zok (zJ zdh fun _ => zbs _) (zbs _))))
theorem zlm {Bf : List (List BA) → Ps za} (h : ∀ l, Gd (Bf l)) (lv : List BA) (ls : List (List BA)) : ∀ n x, Gd (bL Bf lv ls n x)
 | 0, _ => zdt
 | n + 1, x => ze8 (zJ (zdN _ _) fun _ => zJ (h _) fun _ => zlm h lv ls n _) (zbs _)
theorem zkC : ∀ n, Gd (sG n).1 ∧ (∀ l, Gd ((sG n).2.1 l)) ∧ Gd (sG n).2.2.1 ∧ Gd (sG n).2.2.2
 | 0 => ⟨zdt, fun _ => zdt, zdt, zdt⟩
 | n + 1 => by
  obtain ⟨h1, h2, h3, h4⟩ := zkC n
  refine ⟨h2 _, fun l => ?_, ?_, ?_⟩
  ·cases l with
   | nil => exact h3
   | cons lv ls => exact zJ (h2 ls) fun x => zlm h2 lv ls big x
  ·exact ze8 (zJ (zdN _ _) fun _ => zJ h3 fun _ => zbs _) (zbX (zJ h1 fun _ => zJ (zcr _) fun _ => zbs _) (ze8 (zJ (zdN _ _) fun _ => zbs _) (zbX (zbs _) (zbX (zbs _) (zJ zdh fun _ => ze8 (zJ h4 fun _ => zbs _) (zbX (zJ zdh fun _ => zbs _) (zbs _)))))))
  ·exact zJ (zcr _) fun _ => zJ h1 fun _ => zJ (zcr _) fun _ => zbs _
theorem zdW : Gd zbI := (zkC big).1
theorem zqF : Gd zd8 := (zkC big).2.2.2
def Nm {α : Type} (p : Ps α) : Prop := ∀ t r v, zs 1 [] (t :: r) = true → p (t :: r) = some v → (zd4 v).length ≤ r.length
theorem zfh {α β : Type} {p : Ps α} {f : α → Ps β} (hp : Nm p) (hf : ∀ x, Sf (f x)) : Nm (bd p f) := fun t r v h hv => by
 unfold bd at hv
 split at hv
 ·cases hv
 ·rename_i e he
  injection hv with hv
  subst hv
  exact hp t r _ h he
 ·rename_i x r' he
  have h1 := hp t r _ h he
  have h2 := (hf x).le hv
  have h1 : r'.length ≤ r.length := h1
  omega
theorem zhE : Nm zbB := zfh (fun t r v h hv => by
 have e : tk 1 [] (t :: r) = some (.ok (t, r)) := if_pos h
 rw [e] at hv
 injection hv with hv
 subst hv
 exact Nat.le_refl _) fun _ => z5 _
theorem zkh {α : Type} : Nm (fun _ => none : Ps α) := fun t r v _ h => by cases h
theorem zme {k : Int} {tx : List BA} {t : Tok} {r : List Tok} (h : zs 1 [] (t :: r) = true) (hk : k ≠ 1) : ¬ zs k tx (t :: r) = true := fun h2 => by
 unfold zs at h h2
 dsimp only at h h2
 rw [Bool.and_eq_true, decide_eq_true_eq] at h h2
 exact hk (h2.1.symm.trans h.1)
theorem zmY {α : Type} {k : Int} {tx : List BA} {p q : Ps α} (hk : k ≠ 1) (hq : Nm q) : Nm (ifS k tx p q) := fun t r v h hv => hq t r v h ((if_neg (zme h hk)).symm.trans hv)
theorem zji {α : Type} {k : Int} {tx : List BA} {p q : Ps α} (hk : k ≠ 1) (hq : Nm q) : Nm (ifH k tx p q) := fun t r v h hv => hq t r v h ((if_neg (zme h hk)).symm.trans hv)
theorem zlU : ∀ n, Nm (sG n).1 ∧ (∀ l, Nm ((sG n).2.1 l)) ∧ Nm (sG n).2.2.1
 | 0 => ⟨zkh, fun _ => zkh, zkh⟩
 | n + 1 => by
  obtain ⟨h1, h2, h3⟩ := zlU n
  obtain ⟨f1, f2, f3, f4⟩ := zeY n
  refine ⟨h2 _, fun l => ?_, ?_⟩
  ·cases l with
   | nil => exact h3
   | cons lv ls => exact zfh (h2 ls) fun x => zj1 f2 lv ls big x
  ·exact zmY (by omega) (zji (by omega) (zmY (by omega) (zji (by omega) (zji (by omega) (zfh zhE fun _ => zdo (zt f4 fun _ => z5 _) (zbG (zt z9 fun _ => z5 _) (z5 _)))))))
theorem znH : Nm zbI := (zlU big).1
theorem zm5 {α : Type} {p q : Ps α} (hp : Gd p) (hq : Gd q) (np : Nm p) (nq : Nm q) : Gd (ifC p q) := ⟨ziK hp.1 hq.1, fun c => by
 match c with
 | [] => exact zgF (ziK hp.1 hq.1)
 | [t] =>
  have h0 : zc7 [t] = false := by
   unfold zc7
   cases zs 1 [] [t] <;> rfl
  intro v hv
  have hv : q [t] = some v := (if_neg (by rw [h0]; simp)).symm.trans hv
  by_cases h1 : zs 1 [] [t] = true
  ·have h2 := nq t [] v h1 hv
   have h2 : zd4 v = [] := List.eq_nil_of_length_eq_zero (Nat.le_zero.1 h2)
   refine ⟨fun hn => absurd h2 hn, fun _ d v' hv' => ?_⟩
   unfold ifC at hv'
   split at hv'
   ·exact np t d v' h1 hv'
   ·exact nq t d v' h1 hv'
  ·have e : ∀ d, ifC p q ([t] ++ d) = q ([t] ++ d) := fun d => if_neg (by
    have h1 : zs 1 [] ([t] ++ d) = false := Bool.eq_false_iff.2 h1
    unfold zc7
    rw [h1]
    simp)
   obtain ⟨g1, g2⟩ := hq.2 [t] v hv
   exact ⟨fun hn d => (e d).trans (g1 hn d), fun hn d v' hv' => g2 hn d v' ((e d).symm.trans hv')⟩
 | t :: t2 :: r =>
  by_cases h : zc7 (t :: t2 :: r) = true
  ·have e : ∀ d, ifC p q (t :: t2 :: r ++ d) = p (t :: t2 :: r ++ d) := fun d => if_pos h
   have e0 : ifC p q (t :: t2 :: r) = p (t :: t2 :: r) := if_pos h
   intro v hv
   obtain ⟨g1, g2⟩ := hp.2 _ v (e0.symm.trans hv)
   exact ⟨fun hn d => (e d).trans (g1 hn d), fun hn d v' hv' => g2 hn d v' ((e d).symm.trans hv')⟩
  ·have e : ∀ d, ifC p q (t :: t2 :: r ++ d) = q (t :: t2 :: r ++ d) := fun d => if_neg h
   have e0 : ifC p q (t :: t2 :: r) = q (t :: t2 :: r) := if_neg h
   intro v hv
   obtain ⟨g1, g2⟩ := hq.2 _ v (e0.symm.trans hv)
   exact ⟨fun hn d => (e d).trans (g1 hn d), fun hn d v' hv' => g2 hn d v' ((e d).symm.trans hv')⟩⟩
theorem zmv : ∀ n l, Gd (aL n l)
 | 0, l => zdt
 | n + 1, l => zbX (zJ zdW fun _ => zmv n _) (zJ (zcr _) fun _ => zbs _)
theorem zml : Gd zdA := zJ (zcr _) fun _ => zbX (zbs _) (zJ zdW fun _ => zmv _ _)
theorem zg4 (s : ze) : Gd (k3 s) := zJ (zcr _) fun _ => zbs _
theorem zoe (q : ze) : Gd (zel q) := zJ zdh fun _ => zJ (zhu _) fun _ => zbX (zJ zdW fun _ => zbs _) (zbs _)
theorem zp1 (q : ze) : Gd (zd5 q) := zbX (zJ (zcr _) fun _ => zbs _) (zm5 (zJ zdh fun _ => zJ zml fun _ => zbs _) (zJ zdW fun _ => zbs _) (zfh zhE fun _ => zt zd6 fun _ => z5 _) (zfh znH fun _ => z5 _))
theorem zoZ (q : ze) : Gd (zdJ q) := zm5 (zJ zdh fun _ => zJ zml fun _ => zbs _) (zJ zdh fun _ => ze8 (zJ zqF fun _ => zJ (zcr _) fun _ => zJ zdW fun _ => zbs _) (zbX (zJ zdh fun _ => zJ (zcr _) fun _ => zJ zdW fun _ => zbs _) (zJ (zcr _) fun _ => zp1 _))) (zfh zhE fun _ => zt zd6 fun _ => z5 _) (zfh zhE fun _ => zdo (zt zia fun _ => zt (zy _) fun _ => zt zbb fun _ => z5 _) (zbG (zt z9 fun _ => zt (zy _) fun _ => zt zbb fun _ => z5 _) (zt (zy _) fun _ => ziX _)))
theorem zpu (q : ze) : Gd (zdB q) := zbX (zJ (zoe _) zg4) (zbX (zJ (zcr _) fun _ => zJ zdW fun _ => zJ (zcr _) fun _ => zg4 _) (zbX (ze8 (zg4 _) (zJ zdW fun _ => zg4 _)) (zJ (zoZ _) zg4)))
theorem zlJ {α : Type} {P : Int → Ps α} (h : ∀ ln, Gd (P ln)) : Gd (fun r => P (zbO r) r) := by
 have sf : Sf (fun r => P (zbO r) r) := fun r v hv => (h _).1 r v hv
 refine ⟨sf, fun c => ?_⟩
 cases c with
 | nil => exact zgF sf
 | cons t r => exact (h t.Line).2 (t :: r)
theorem zmz {rS : Ps Stm} (h : Gd rS) : ∀ n l, Gd (zcW rS n l)
 | 0, _ => zdt
 | n + 1, l => zbX (zbs _) (zJ h fun _ => zmz h n _)
theorem zpK {rB : Ps (List Stm)} (h : Gd rB) : Gd (zcZ rB) := by
 unfold zcZ
 exact zlJ (P := fun ln => ifH 3 [⟨#[105, 102]⟩] (bd zbI fun x => bd rB fun b => ifH 3 [⟨#[101, 108, 115, 101]⟩] (bd rB fun e => pu ⟨6, ln, ⟨#[]⟩, ⟨#[]⟩, ⟨#[]⟩, ⟨0, 0, ⟨#[]⟩⟩, [x], b, e⟩) (pu ⟨6, ln, ⟨#[]⟩, ⟨#[]⟩, ⟨#[]⟩, ⟨0, 0, ⟨#[]⟩⟩, [x], b, []⟩))
 (ifH 3 [⟨#[102, 111, 114]⟩] (bd zbI fun x => bd rB fun b => pu ⟨7, ln, ⟨#[]⟩, ⟨#[]⟩, ⟨#[]⟩, ⟨0, 0, ⟨#[]⟩⟩, [x], b, []⟩)
 (zdB ⟨0, ln, ⟨#[]⟩, ⟨#[]⟩, ⟨#[]⟩, ⟨0, 0, ⟨#[]⟩⟩, [], [], []⟩))) fun ln => zbX (zJ zdW fun _ => zJ h fun _ => zbX (zJ h fun _ => zbs _) (zbs _)) (zbX (zJ zdW fun _ => zJ h fun _ => zbs _) (zpu _))
theorem zjz : ∀ n, Gd (sB n).1 ∧ Gd (sB n).2
 | 0 => ⟨zdt, zdt⟩
 | n + 1 => by
  obtain ⟨h1, h2⟩ := zjz n
  exact ⟨zJ (zcr _) fun _ => zmz h2 _ _, zpK h1⟩
theorem zoM : Gd zd0 := (zjz big).1
theorem zhz : Gd zc9 := zJ zdh fun _ => zJ (zhu _) fun _ => zbs _
theorem zmI (nm : BA) : ∀ n l, Gd (fL nm n l)
 | 0, _ => zdt
 | n + 1, l => zbX (zbs _) (zJ zdh fun _ => zJ (zdN _ _) fun _ => zJ (zcr _) fun _ => zmI nm n _)
theorem zmA : Gd zdC := zJ zdh fun _ => zJ (zdN _ _) fun _ => zJ (zcr _) fun _ => zmI _ _ _
theorem zlf (ln : Int) (nm : BA) (ps : List z4) : Gd (k9 ln nm ps) := zJ (zhu _) fun _ => zJ zoM fun _ => zbs _
theorem zla (ln : Int) (nm : BA) : ∀ n l, Gd (pL ln nm n l)
 | 0, _ => zdt
 | n + 1, l => zbX (zJ zhz fun _ => zla ln nm n _) (zJ (zcr _) fun _ => zlf _ _ _)
theorem znv : Gd zcF := zlJ (P := fun ln => bd (tk 3 [⟨#[102, 117, 110, 99]⟩]) fun _ => bd zbB fun nm => bd (zbd [⟨#[40]⟩]) fun _ => ifH 4 [⟨#[41]⟩] (k9 ln nm []) (bd zc9 fun p => pL ln nm big [p])) fun ln => zJ (zdN _ _) fun _ => zJ zdh fun _ => zJ (zcr _) fun _ => zbX (zlf _ _ _) (zJ zhz fun _ => zla _ _ _ _)
def Cl {α : Type} (p : Ps α) : Prop := ∀ c x r', p c = some (.ok (x, r')) → ∀ d, p (c ++ d) = some (.ok (x, r' ++ d))
theorem zgX {α : Type} (x : α) : Cl (pu x) := fun c y r' h d => by
 injection h with h
 injection h with h
 injection h with h1 h2
 subst h1; subst h2
 rfl
theorem zie {α : Type} : Cl (fun _ => none : Ps α) := fun c x r' h => by cases h
theorem zg9 (k : Int) (tx : List BA) : Cl (tk k tx) := fun c x r' h d => by
 cases c with
 | nil => cases h
 | cons t r =>
  unfold tk at h
  dsimp only at h
  split at h
  ·rename_i hs
   injection h with h
   injection h with h
   injection h with h1 h2
   subst h1; subst h2
   exact if_pos hs
  ·cases h
theorem zii {α β : Type} {p : Ps α} {f : α → Ps β} (hp : Gd p) (hf : ∀ x, Cl (f x)) (ho : ∀ x, Co (f x)) : Cl (bd p f) := fun c y r2 h d => by
 unfold bd at h
 split at h
 ·cases h
 ·cases h
 ·rename_i x r' he
  have := ho x r' y r2 h
  have hn : r' ≠ [] := fun e => by subst e; simp at this
  have e := (hp.2 c _ he).1 hn d
  exact (zdz e).trans (hf x r' y r2 h d)
theorem zc5 {α β : Type} {p : Ps α} {f : α → Ps β} (hp : Cl p) (hf : ∀ x, Cl (f x)) : Cl (bd p f) := fun c y r2 h d => by
 unfold bd at h
 split at h
 ·cases h
 ·cases h
 ·rename_i x r' he
  exact (zdz (hp c x r' he d)).trans (hf x r' y r2 h d)
theorem zis {α : Type} {k : Int} {tx : List BA} {p q : Ps α} (hp : Cl p) (hq : Cl q) (ho : Co q) : Cl (ifH k tx p q) := fun c x r' h d => by
 cases c with
 | nil =>
  have h : q [] = some (.ok (x, r')) := h
  have := ho [] x r' h
  simp at this
 | cons t r =>
  by_cases hs : zs k tx (t :: r) = true
  ·have e0 : ifH k tx p q (t :: r) = p r := if_pos hs
   have e : ifH k tx p q (t :: r ++ d) = p (r ++ d) := if_pos hs
   exact e.trans (hp r x r' (e0.symm.trans h) d)
  ·have e0 : ifH k tx p q (t :: r) = q (t :: r) := if_neg hs
   have e : ifH k tx p q (t :: r ++ d) = q (t :: r ++ d) := if_neg hs
   exact e.trans (hq _ x r' (e0.symm.trans h) d)
theorem zfO : ∀ l, Cl (zbd l)
 | [] => zgX _
 | s :: l => zc5 (zg9 _ _) fun _ => zfO l
theorem ziT : Cl zbB := zc5 (zg9 _ _) fun _ => zgX _
theorem zqq {rS : Ps Stm} (h : Sf rS) (ho : Co rS) : ∀ n l, Co (zcW rS n l)
 | 0, _ => zhM
 | n + 1, l => zeV (z5 _) (zdc ho fun _ => zgT h n _)
theorem zlq {rS : Ps Stm} (h : Gd rS) (ho : Co rS) : ∀ n l, Cl (zcW rS n l)
 | 0, _ => zie
 | n + 1, l => zis (zgX _) (zii h (fun _ => zlq h ho n _) fun _ => zqq h.1 ho n _) (zdc ho fun _ => zgT h.1 n _)
theorem zq4 : ∀ n, Cl (sB n).1
 | 0 => zie
 | n + 1 => zc5 (zfO _) fun _ => zlq (zjz n).2 (zeO n).2.2 _ _
theorem zqi : ∀ n, Co (sB n).1
 | 0 => zhM
 | n + 1 => zdc (zfA _ _) fun _ => zgT (zeO n).2.1 _ _
theorem zon : Cl zd0 := zq4 big
theorem zqz : Co zd0 := zqi big
theorem zlY (nm : BA) : ∀ n l, Cl (fL nm n l)
 | 0, _ => zie
 | n + 1, l => zis (zgX _) (zc5 ziT fun _ => zc5 (zg9 _ _) fun _ => zc5 (zfO _) fun _ => zlY nm n _) (zdc zeg fun _ => zt (zbm _ _) fun _ => zt (zy _) fun _ => zhW nm n _)
theorem zkL : Cl zdC := zc5 ziT fun _ => zc5 (zg9 _ _) fun _ => zc5 (zfO _) fun _ => zlY _ _ _
theorem zm0 (ln : Int) (nm : BA) (ps : List z4) : Cl (k9 ln nm ps) := zii (zhu _) (fun _ => zc5 zon fun _ => zgX _) fun _ => zdc zqz fun _ => z5 _
theorem zkB (ln : Int) (nm : BA) : ∀ n l, Co (pL ln nm n l)
 | 0, _ => zhM
 | n + 1, l => zeV (zt zc6 fun _ => zgJ ln nm n _) (zdc (zfA _ _) fun _ => zfK _ _ _)
theorem znk (ln : Int) (nm : BA) : ∀ n l, Cl (pL ln nm n l)
 | 0, _ => zie
 | n + 1, l => zis (zii zhz (fun _ => znk ln nm n _) fun _ => zkB ln nm n _) (zc5 (zfO _) fun _ => zm0 _ _ _) (zdc (zfA _ _) fun _ => zfK _ _ _)
theorem zj9 : Cl zcF := fun c x r' h d => by
 cases c with
 | nil => cases h
 | cons t r =>
  exact zc5 (zg9 _ _) (fun _ => zc5 ziT fun nm => zc5 (zfO _) fun _ => zis (zm0 t.Line nm []) (zii zhz (fun p => znk t.Line nm big [p]) fun p => zkB t.Line nm big [p]) (zk9 zc6 fun p => zkB t.Line nm big [p])) (t :: r) x r' h d
end Go.Proofs.Ytnhboaaikehpoaa
