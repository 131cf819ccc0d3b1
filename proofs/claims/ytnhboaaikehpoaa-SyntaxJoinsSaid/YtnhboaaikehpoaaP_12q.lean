import Derived.Test.YtnhboaaikehpoaaP_12o
import Derived.KernelRfl
namespace Go.Proofs.Ytnhboaaikehpoaa
open Go.Ab Go.RowKit
set_option linter.unusedVariables false
set_option linter.unusedSimpArgs false
def zrr {α : Type} (d : List Tok) : Rs α → Rs α
 | .error e => .error (e ++ d)
 | .ok (x, r) => .ok (x, r ++ d)
def Ex {α : Type} (p : Ps α) (c : List Tok) : Prop := ∀ v, p c = some v → (zel v ≠ [] → ∀ d, p (c ++ d) = some (zrr d v)) ∧ (zel v = [] → ∀ d v', p (c ++ d) = some v' → (zel v').length ≤ d.length)
def Gd {α : Type} (p : Ps α) : Prop := Sf p ∧ ∀ c, Ex p c
theorem zgw {α : Type} {p : Ps α} (h : Sf p) : Ex p [] := fun v hv => by
 refine ⟨fun hn => ?_, fun _ d v' hv' => h.le hv'⟩
 have := h.le hv
 exact absurd (List.eq_nil_of_length_eq_zero (Nat.le_zero.1 this)) hn
theorem zbJ {α : Type} (x : α) : Gd (pu x) := ⟨zbi x, fun c v hv => by
 injection hv with hv
 subst hv
 refine ⟨fun _ d => rfl, fun hn d v' hv' => ?_⟩
 injection hv' with hv'
 subst hv'
 have hn : c = [] := hn
 subst hn
 exact Nat.le_refl _⟩
theorem zek {α : Type} : Gd (fun _ => none : Ps α) := ⟨zdw, fun c v hv => by cases hv⟩
theorem ze7 (k : Int) (tx : List BA) : Gd (tk k tx) := ⟨zbC k tx, fun c => by
 cases c with
 | nil => exact zgw (zbC k tx)
 | cons t r =>
  intro v hv
  unfold tk at hv
  dsimp only at hv
  by_cases h : zz k tx (t :: r) = true
  ·rw [if_pos h] at hv
   injection hv with hv
   subst hv
   have e : ∀ d, tk k tx (t :: r ++ d) = some (.ok (t, r ++ d)) := fun d => if_pos h
   refine ⟨fun _ d => e d, fun hn d v' hv' => ?_⟩
   rw [e d] at hv'
   injection hv' with hv'
   subst hv'
   have hn : r = [] := hn
   subst hn
   exact Nat.le_refl _
  ·rw [if_neg h] at hv
   injection hv with hv
   subst hv
   refine ⟨fun _ d => if_neg h, fun hn => ?_⟩
   cases hn⟩
theorem zba {α β : Type} {p : Ps α} {f : α → Ps β} (hp : Gd p) (hf : ∀ x, Gd (f x)) : Gd (bd p f) := ⟨zy hp.1 fun x => (hf x).1, fun c v hv => by
 have sf := zy hp.1 fun x => (hf x).1
 have mono : ∀ {d : List Tok} {v' : Rs β}, bd p f (c ++ d) = some v' → (∀ u, p (c ++ d) = some u → (zel u).length ≤ d.length) → (zel v').length ≤ d.length := fun {d v'} h hu => by
  unfold bd at h
  split at h
  ·cases h
  ·rename_i e he
   injection h with h
   subst h
   exact hu _ he
  ·rename_i x r' he
   have h1 := hu _ he
   have h2 := (hf x).1.le h
   have h1 : r'.length ≤ d.length := h1
   omega
 unfold bd at hv
 split at hv
 ·cases hv
 ·rename_i e he
  injection hv with hv
  subst hv
  obtain ⟨h1, h2⟩ := hp.2 c _ he
  refine ⟨fun hn d => ?_, fun hn d v' hv' => mono hv' fun u hu => h2 hn d u hu⟩
  have := h1 hn d
  unfold bd
  rw [this]
  rfl
 ·rename_i x r' he
  obtain ⟨h1, h2⟩ := hp.2 c _ he
  by_cases hr : r' = []
  ·subst hr
   refine ⟨fun hn => ?_, fun _ d v' hv' => mono hv' fun u hu => h2 rfl d u hu⟩
   have := (hf x).1.le hv
   exact absurd (List.eq_nil_of_length_eq_zero (Nat.le_zero.1 this)) hn
  ·have e : ∀ d, bd p f (c ++ d) = f x (r' ++ d) := fun d => by
    have := h1 hr d
    exact zdI this
   obtain ⟨g1, g2⟩ := (hf x).2 r' v hv
   exact ⟨fun hn d => (e d).trans (g1 hn d), fun hn d v' hv' => g2 hn d v' ((e d).symm.trans hv')⟩⟩
theorem zeZ {α : Type} {k : Int} {tx : List BA} {p q : Ps α} (hp : Gd p) (hq : Gd q) : Gd (ifS k tx p q) := ⟨zdt hp.1 hq.1, fun c => by
 cases c with
 | nil => exact zgw (zdt hp.1 hq.1)
 | cons t r =>
  by_cases h : zz k tx (t :: r) = true
  ·have e : ∀ d, ifS k tx p q (t :: r ++ d) = p (t :: r ++ d) := fun d => if_pos h
   have e0 : ifS k tx p q (t :: r) = p (t :: r) := if_pos h
   intro v hv
   obtain ⟨g1, g2⟩ := hp.2 (t :: r) v (e0.symm.trans hv)
   exact ⟨fun hn d => (e d).trans (g1 hn d), fun hn d v' hv' => g2 hn d v' ((e d).symm.trans hv')⟩
  ·have e : ∀ d, ifS k tx p q (t :: r ++ d) = q (t :: r ++ d) := fun d => if_neg h
   have e0 : ifS k tx p q (t :: r) = q (t :: r) := if_neg h
   intro v hv
   obtain ⟨g1, g2⟩ := hq.2 (t :: r) v (e0.symm.trans hv)
   exact ⟨fun hn d => (e d).trans (g1 hn d), fun hn d v' hv' => g2 hn d v' ((e d).symm.trans hv')⟩⟩
theorem zcC {α : Type} {k : Int} {tx : List BA} {p q : Ps α} (hp : Gd p) (hq : Gd q) : Gd (ifH k tx p q) := ⟨zbS hp.1 hq.1, fun c => by
 cases c with
 | nil => exact zgw (zbS hp.1 hq.1)
 | cons t r =>
  by_cases h : zz k tx (t :: r) = true
  ·have e : ∀ d, ifH k tx p q (t :: r ++ d) = p (r ++ d) := fun d => if_pos h
   have e0 : ifH k tx p q (t :: r) = p r := if_pos h
   intro v hv
   obtain ⟨g1, g2⟩ := hp.2 r v (e0.symm.trans hv)
   exact ⟨fun hn d => (e d).trans (g1 hn d), fun hn d v' hv' => g2 hn d v' ((e d).symm.trans hv')⟩
  ·have e : ∀ d, ifH k tx p q (t :: r ++ d) = q (t :: r ++ d) := fun d => if_neg h
   have e0 : ifH k tx p q (t :: r) = q (t :: r) := if_neg h
   intro v hv
   obtain ⟨g1, g2⟩ := hq.2 (t :: r) v (e0.symm.trans hv)
   exact ⟨fun hn d => (e d).trans (g1 hn d), fun hn d v' hv' => g2 hn d v' ((e d).symm.trans hv')⟩⟩
theorem zqp {α : Type} {m : Bool} {k : Int} {tx : List BA} {p q : Ps α} (hp : Gd p) (hq : Gd q) : Gd (ifM m k tx p q) := by
 cases m with
 | true => exact hp
 | false => exact zeZ (k := k) (tx := tx) hp hq
theorem zem : Gd zbQ := zba (ze7 _ _) fun _ => zbJ _
theorem zc0 : ∀ l, Gd (zbu l)
 | [] => zbJ _
 | s :: l => zba (ze7 _ _) fun _ => zc0 l
theorem zjP (m : Bool) : Gd (zdR m) :=
 zcC (zbJ _) (zcC (zbJ _) (zcC (zba (ze7 _ _) fun _ => zba (zc0 _) fun _ => zba (ze7 _ _) fun _ => zbJ _) (zqp (zba zem fun _ => zbJ _) (zbJ _))))
theorem zm6 {Bf : List (List BA) → Ps zb} (h : ∀ l, Gd (Bf l)) (lv : List BA) (ls : List (List BA)) : ∀ n x, Gd (bL Bf lv ls n x)
 | 0, _ => zek
 | n + 1, x => zeZ (zba (ze7 _ _) fun _ => zba (h _) fun _ => zm6 h lv ls n _) (zbJ _)
theorem zko : ∀ n, Gd (sG n).1 ∧ (∀ l, Gd ((sG n).2.1 l)) ∧ Gd (sG n).2.2.1 ∧ Gd (sG n).2.2.2
 | 0 => ⟨zek, fun _ => zek, zek, zek⟩
 | n + 1 => by
  obtain ⟨h1, h2, h3, h4⟩ := zko n
  refine ⟨h2 _, fun l => ?_, ?_, ?_⟩
  ·cases l with
   | nil => exact h3
   | cons lv ls => exact zba (h2 ls) fun x => zm6 h2 lv ls big x
  ·exact zeZ (zba (ze7 _ _) fun _ => zba h3 fun _ => zbJ _) (zcC (zba h1 fun _ => zba (zc0 _) fun _ => zbJ _) (zeZ (zba (ze7 _ _) fun _ => zbJ _) (zcC (zbJ _) (zcC (zbJ _) (zba zem fun _ => zeZ (zba h4 fun _ => zbJ _) (zcC (zba zem fun _ => zbJ _) (zbJ _)))))))
  ·exact zba (zc0 _) fun _ => zba h1 fun _ => zba (zc0 _) fun _ => zbJ _
theorem zd5 : Gd zbZ := (zko big).1
theorem zn6 : Gd zd9 := (zko big).2.2.2
def Nm {α : Type} (p : Ps α) : Prop := ∀ t r v, zz 1 [] (t :: r) = true → p (t :: r) = some v → (zel v).length ≤ r.length
theorem ze8 {α β : Type} {p : Ps α} {f : α → Ps β} (hp : Nm p) (hf : ∀ x, Sf (f x)) : Nm (bd p f) := fun t r v h hv => by
 unfold bd at hv
 split at hv
 ·cases hv
 ·rename_i e he
  injection hv with hv
  subst hv
  exact hp t r _ h he
 ·rename_i x r' he
  have h1 := hp t r _ h he
  have h2 := (hf x).le hv
  have h1 : r'.length ≤ r.length := h1
  omega
theorem ziM : Nm zbQ := ze8 (fun t r v h hv => by
 have e : tk 1 [] (t :: r) = some (.ok (t, r)) := if_pos h
 rw [e] at hv
 injection hv with hv
 subst hv
 exact Nat.le_refl _) fun _ => zbi _
theorem zk6 {α : Type} : Nm (fun _ => none : Ps α) := fun t r v _ h => by cases h
theorem zlI {k : Int} {tx : List BA} {t : Tok} {r : List Tok} (h : zz 1 [] (t :: r) = true) (hk : k ≠ 1) : ¬ zz k tx (t :: r) = true := fun h2 => by
 unfold zz at h h2
 dsimp only at h h2
 rw [Bool.and_eq_true, decide_eq_true_eq] at h h2
 exact hk (h2.1.symm.trans h.1)
theorem zm9 {α : Type} {k : Int} {tx : List BA} {p q : Ps α} (hk : k ≠ 1) (hq : Nm q) : Nm (ifS k tx p q) := fun t r v h hv => hq t r v h ((if_neg (zlI h hk)).symm.trans hv)
theorem zke {α : Type} {k : Int} {tx : List BA} {p q : Ps α} (hk : k ≠ 1) (hq : Nm q) : Nm (ifH k tx p q) := fun t r v h hv => hq t r v h ((if_neg (zlI h hk)).symm.trans hv)
theorem zlL : ∀ n, Nm (sG n).1 ∧ (∀ l, Nm ((sG n).2.1 l)) ∧ Nm (sG n).2.2.1
 | 0 => ⟨zk6, fun _ => zk6, zk6⟩
 | n + 1 => by
  obtain ⟨h1, h2, h3⟩ := zlL n
  obtain ⟨f1, f2, f3, f4⟩ := zfj n
  refine ⟨h2 _, fun l => ?_, ?_⟩
  ·cases l with
   | nil => exact h3
   | cons lv ls => exact ze8 (h2 ls) fun x => zj8 f2 lv ls big x
  ·exact zm9 (by omega) (zke (by omega) (zm9 (by omega) (zke (by omega) (zke (by omega) (ze8 ziM fun _ => zdt (zy f4 fun _ => zbi _) (zbS (zy zbl fun _ => zbi _) (zbi _)))))))
theorem znR : Nm zbZ := (zlL big).1
theorem znt {α : Type} {p q : Ps α} (hp : Gd p) (hq : Gd q) (np : Nm p) (nq : Nm q) : Gd (ifC p q) := ⟨ziU hp.1 hq.1, fun c => by
 match c with
 | [] => exact zgw (ziU hp.1 hq.1)
 | [t] =>
  have h0 : zdh [t] = false := by
   unfold zdh
   cases zz 1 [] [t] <;> rfl
  intro v hv
  have hv : q [t] = some v := (if_neg (by rw [h0]; simp)).symm.trans hv
  by_cases h1 : zz 1 [] [t] = true
  ·have h2 := nq t [] v h1 hv
   have h2 : zel v = [] := List.eq_nil_of_length_eq_zero (Nat.le_zero.1 h2)
   refine ⟨fun hn => absurd h2 hn, fun _ d v' hv' => ?_⟩
   unfold ifC at hv'
   split at hv'
   ·exact np t d v' h1 hv'
   ·exact nq t d v' h1 hv'
  ·have e : ∀ d, ifC p q ([t] ++ d) = q ([t] ++ d) := fun d => if_neg (by
    have h1 : zz 1 [] ([t] ++ d) = false := Bool.eq_false_iff.2 h1
    unfold zdh
    rw [h1]
    simp)
   obtain ⟨g1, g2⟩ := hq.2 [t] v hv
   exact ⟨fun hn d => (e d).trans (g1 hn d), fun hn d v' hv' => g2 hn d v' ((e d).symm.trans hv')⟩
 | t :: t2 :: r =>
  by_cases h : zdh (t :: t2 :: r) = true
  ·have e : ∀ d, ifC p q (t :: t2 :: r ++ d) = p (t :: t2 :: r ++ d) := fun d => if_pos h
   have e0 : ifC p q (t :: t2 :: r) = p (t :: t2 :: r) := if_pos h
   intro v hv
   obtain ⟨g1, g2⟩ := hp.2 _ v (e0.symm.trans hv)
   exact ⟨fun hn d => (e d).trans (g1 hn d), fun hn d v' hv' => g2 hn d v' ((e d).symm.trans hv')⟩
  ·have e : ∀ d, ifC p q (t :: t2 :: r ++ d) = q (t :: t2 :: r ++ d) := fun d => if_neg h
   have e0 : ifC p q (t :: t2 :: r) = q (t :: t2 :: r) := if_neg h
   intro v hv
   obtain ⟨g1, g2⟩ := hq.2 _ v (e0.symm.trans hv)
   exact ⟨fun hn d => (e d).trans (g1 hn d), fun hn d v' hv' => g2 hn d v' ((e d).symm.trans hv')⟩⟩
theorem znB : ∀ n l, Gd (aL n l)
 | 0, l => zek
 | n + 1, l => zcC (zba zd5 fun _ => znB n _) (zba (zc0 _) fun _ => zbJ _)
theorem znK : Gd zdL := zba (zc0 _) fun _ => zcC (zbJ _) (zba zd5 fun _ => znB _ _)
theorem zhs (s : zg) : Gd (k3 s) := zba (zc0 _) fun _ => zbJ _
theorem zo5 (q : zg) : Gd (zeq q) := zba zem fun _ => zba (zjP _) fun _ => zcC (zba zd5 fun _ => zbJ _) (zbJ _)
theorem zpt (q : zg) : Gd (zdZ q) := zcC (zba (zc0 _) fun _ => zbJ _) (znt (zba zem fun _ => zba znK fun _ => zbJ _) (zba zd5 fun _ => zbJ _) (ze8 ziM fun _ => zy zeb fun _ => zbi _) (ze8 znR fun _ => zbi _))
theorem zow (q : zg) : Gd (zdK q) := znt (zba zem fun _ => zba znK fun _ => zbJ _) (zba zem fun _ => zeZ (zba zn6 fun _ => zba (zc0 _) fun _ => zba zd5 fun _ => zbJ _) (zcC (zba zem fun _ => zba (zc0 _) fun _ => zba zd5 fun _ => zbJ _) (zba (zc0 _) fun _ => zpt _))) (ze8 ziM fun _ => zy zeb fun _ => zbi _) (ze8 ziM fun _ => zdt (zy zhX fun _ => zy (zG _) fun _ => zy zbo fun _ => zbi _) (zbS (zy zbl fun _ => zy (zG _) fun _ => zy zbo fun _ => zbi _) (zy (zG _) fun _ => zjH _)))
theorem zql (q : zg) : Gd (zdF q) := zcC (zba (zo5 _) zhs) (zcC (zba (zc0 _) fun _ => zba zd5 fun _ => zba (zc0 _) fun _ => zhs _) (zcC (zeZ (zhs _) (zba zd5 fun _ => zhs _)) (zba (zow _) zhs)))
theorem zpn {α : Type} {P : Int → Ps α} (h : ∀ ln, Gd (P ln)) : Gd (fun r => P (zb9 r) r) := by
 have sf : Sf (fun r => P (zb9 r) r) := fun r v hv => (h _).1 r v hv
 refine ⟨sf, fun c => ?_⟩
 cases c with
 | nil => exact zgw sf
 | cons t r => exact (h t.Line).2 (t :: r)
theorem zlT {rS : Ps Stm} (h : Gd rS) : ∀ n l, Gd (zde rS n l)
 | 0, _ => zek
 | n + 1, l => zcC (zbJ _) (zba h fun _ => zlT h n _)
theorem zoD {rB : Ps (List Stm)} (h : Gd rB) : Gd (zc7 rB) := by
 unfold zc7
 exact zpn (P := fun ln => ifH 3 [⟨#[105, 102]⟩] (bd zbZ fun x => bd rB fun b => ifH 3 [⟨#[101, 108, 115, 101]⟩] (bd rB fun e => pu ⟨6, ln, ⟨#[]⟩, ⟨#[]⟩, ⟨#[]⟩, ⟨0, 0, ⟨#[]⟩⟩, [x], b, e⟩) (pu ⟨6, ln, ⟨#[]⟩, ⟨#[]⟩, ⟨#[]⟩, ⟨0, 0, ⟨#[]⟩⟩, [x], b, []⟩))
 (ifH 3 [⟨#[102, 111, 114]⟩] (bd zbZ fun x => bd rB fun b => pu ⟨7, ln, ⟨#[]⟩, ⟨#[]⟩, ⟨#[]⟩, ⟨0, 0, ⟨#[]⟩⟩, [x], b, []⟩)
 (zdF ⟨0, ln, ⟨#[]⟩, ⟨#[]⟩, ⟨#[]⟩, ⟨0, 0, ⟨#[]⟩⟩, [], [], []⟩))) fun ln => zcC (zba zd5 fun _ => zba h fun _ => zcC (zba h fun _ => zbJ _) (zbJ _)) (zcC (zba zd5 fun _ => zba h fun _ => zbJ _) (zql _))
theorem zmU : ∀ n, Gd (sB n).1 ∧ Gd (sB n).2
 | 0 => ⟨zek, zek⟩
 | n + 1 => by
  obtain ⟨h1, h2⟩ := zmU n
  exact ⟨zba (zc0 _) fun _ => zlT h2 _ _, zoD h1⟩
theorem zl5 : Gd zdn := zba zem fun _ => zba (zjP _) fun _ => zbJ _
def Cl {α : Type} (p : Ps α) : Prop := ∀ c x r', p c = some (.ok (x, r')) → ∀ d, p (c ++ d) = some (.ok (x, r' ++ d))
theorem zgA {α : Type} (x : α) : Cl (pu x) := fun c y r' h d => by
 injection h with h
 injection h with h
 injection h with h1 h2
 subst h1; subst h2
 rfl
theorem zh2 {α : Type} : Cl (fun _ => none : Ps α) := fun c x r' h => by cases h
theorem zgu (k : Int) (tx : List BA) : Cl (tk k tx) := fun c x r' h d => by
 cases c with
 | nil => cases h
 | cons t r =>
  unfold tk at h
  dsimp only at h
  split at h
  ·rename_i hs
   injection h with h
   injection h with h
   injection h with h1 h2
   subst h1; subst h2
   exact if_pos hs
  ·cases h
theorem zic {α β : Type} {p : Ps α} {f : α → Ps β} (hp : Gd p) (hf : ∀ x, Cl (f x)) (ho : ∀ x, Co (f x)) : Cl (bd p f) := fun c y r2 h d => by
 unfold bd at h
 split at h
 ·cases h
 ·cases h
 ·rename_i x r' he
  have := ho x r' y r2 h
  have hn : r' ≠ [] := fun e => by subst e; simp at this
  have e := (hp.2 c _ he).1 hn d
  exact (zdI e).trans (hf x r' y r2 h d)
theorem zc8 {α β : Type} {p : Ps α} {f : α → Ps β} (hp : Cl p) (hf : ∀ x, Cl (f x)) : Cl (bd p f) := fun c y r2 h d => by
 unfold bd at h
 split at h
 ·cases h
 ·cases h
 ·rename_i x r' he
  exact (zdI (hp c x r' he d)).trans (hf x r' y r2 h d)
theorem zh6 {α : Type} {k : Int} {tx : List BA} {p q : Ps α} (hp : Cl p) (hq : Cl q) (ho : Co q) : Cl (ifH k tx p q) := fun c x r' h d => by
 cases c with
 | nil =>
  have h : q [] = some (.ok (x, r')) := h
  have := ho [] x r' h
  simp at this
 | cons t r =>
  by_cases hs : zz k tx (t :: r) = true
  ·have e0 : ifH k tx p q (t :: r) = p r := if_pos hs
   have e : ifH k tx p q (t :: r ++ d) = p (r ++ d) := if_pos hs
   exact e.trans (hp r x r' (e0.symm.trans h) d)
  ·have e0 : ifH k tx p q (t :: r) = q (t :: r) := if_neg hs
   have e : ifH k tx p q (t :: r ++ d) = q (t :: r ++ d) := if_neg hs
   exact e.trans (hq _ x r' (e0.symm.trans h) d)
theorem zfW : ∀ l, Cl (zbu l)
 | [] => zgA _
 | s :: l => zc8 (zgu _ _) fun _ => zfW l
theorem zkM : Cl zbQ := zc8 (zgu _ _) fun _ => zgA _
theorem zqd {rS : Ps Stm} (h : Sf rS) (ho : Co rS) : ∀ n l, Co (zde rS n l)
 | 0, _ => zh0
 | n + 1, l => ze6 (zbi _) (zc6 ho fun _ => zgZ h n _)
theorem zmW {rS : Ps Stm} (h : Gd rS) (ho : Co rS) : ∀ n l, Cl (zde rS n l)
 | 0, _ => zh2
 | n + 1, l => zh6 (zgA _) (zic h (fun _ => zmW h ho n _) fun _ => zqd h.1 ho n _) (zc6 ho fun _ => zgZ h.1 n _)
theorem zrz : ∀ n, Cl (sB n).1
 | 0 => zh2
 | n + 1 => zc8 (zfW _) fun _ => zmW (zmU n).2 (zfh n).2.2 _ _
theorem zqu : ∀ n, Co (sB n).1
 | 0 => zh0
 | n + 1 => zc6 (zge _ _) fun _ => zgZ (zfh n).2.1 _ _
theorem zpq : Cl zev := zrz big
theorem zpG : Co zev := zqu big
theorem zlp (nm : BA) : ∀ n l, Cl (fL nm n l)
 | 0, _ => zh2
 | n + 1, l => zh6 (zgA _) (zc8 zkM fun _ => zc8 (zgu _ _) fun _ => zc8 (zfW _) fun _ => zlp nm n _) (zc6 zd2 fun _ => zy (zbC _ _) fun _ => zy (zG _) fun _ => ziP nm n _)
theorem zrx : Cl zdU := zc8 zkM fun _ => zc8 (zgu _ _) fun _ => zc8 (zfW _) fun _ => zlp _ _ _
theorem zlN (ln : Int) (nm : BA) (ps : List zbh) : Cl (k9 ln nm ps) := zic (zjP _) (fun _ => zc8 zpq fun _ => zgA _) fun _ => zc6 zpG fun _ => zbi _
theorem zlb (ln : Int) (nm : BA) : ∀ n l, Co (pL ln nm n l)
 | 0, _ => zh0
 | n + 1, l => ze6 (zy zdl fun _ => zhM ln nm n _) (zc6 (zge _ _) fun _ => zf3 _ _ _)
theorem znb (ln : Int) (nm : BA) : ∀ n l, Cl (pL ln nm n l)
 | 0, _ => zh2
 | n + 1, l => zh6 (zic zl5 (fun _ => znb ln nm n _) fun _ => zlb ln nm n _) (zc8 (zfW _) fun _ => zlN _ _ _) (zc6 (zge _ _) fun _ => zf3 _ _ _)
theorem zpH : Cl zdk := fun c x r' h d => by
 cases c with
 | nil => cases h
 | cons t r =>
  exact zc8 (zgu _ _) (fun _ => zc8 zkM fun nm => zc8 (zfW _) fun _ => zh6 (zlN t.Line nm []) (zic zl5 (fun p => znb t.Line nm big [p]) fun p => zlb t.Line nm big [p]) (zln zdl fun p => zlb t.Line nm big [p])) (t :: r) x r' h d
end Go.Proofs.Ytnhboaaikehpoaa
