import Derived.Test.YtnhboaaikehpoaaP_12
import Derived.KernelRfl
namespace Go.Proofs.Ytnhboaaikehpoaa
open Go.Ab Go.RowKit
set_option linter.unusedVariables false
set_option linter.unusedSimpArgs false
def ifM {α : Type} (must : Bool) (k : Int) (tx : List BA) (p q : Ps α) : Ps α := fun r => if must = true then p r else ifS k tx p q r
theorem zpE {α : Type} {m : Bool} {k : Int} {tx : List BA} {p q : Ps α} (hp : Sf p) (hq : Sf q) : Sf (ifM m k tx p q) := fun r v h => by
 unfold ifM at h
 split at h
 ·exact hp r v h
 ·exact zeS hp hq r v h
def zdR (must : Bool) : Ps zD :=
 ifH 3 [⟨#[105, 110, 116]⟩] (pu ⟨1, 0, ⟨#[]⟩⟩) (ifH 3 [⟨#[98, 111, 111, 108]⟩] (pu ⟨2, 0, ⟨#[]⟩⟩) (ifH 4 [⟨#[91]⟩] (bd (tk 2 []) fun t => bd (zbs [⟨#[93]⟩]) fun _ => bd (tk 3 [⟨#[105, 110, 116]⟩]) fun _ => pu ⟨3, t.Num, ⟨#[]⟩⟩)
  (ifM must 1 [] (bd zbU fun n => pu ⟨4, 0, n⟩) (pu ⟨0, 0, ⟨#[]⟩⟩))))
theorem zcR (m : Bool) : Sf (zdR m) :=
 zbZ (zbx _) (zbZ (zbx _) (zbZ (zH (zbD _ _) fun _ => zH (zK _) fun _ => zH (zbD _ _) fun _ => zbx _) (zpE (zH zbo fun _ => zbx _) (zbx _))))
section
variable {T : List Tok} {S : List zw} {D : List zo} {r : List Tok}
theorem zkc (hs : Suf T r) (m : Bool) : zfk (mkP T S D r) m = cv T S D (zdR m r) := by
 unfold zfk zdR
 refine L_H hs (by simp) (fun r' _ => rfl) ?_
 refine L_H hs (by simp) (fun r' _ => rfl) ?_
 refine L_H hs (by simp) (fun r' hs' => ?_) ?_
 ·refine zb2 hs' (zbD _ _) (zdQ hs' (by simp)) fun t r2 hs2 => ?_
  refine zfw hs2 (zK _) (zcJ hs2 (by simp)) fun r3 hs3 => ?_
  exact zb2 hs3 (zbD _ _) (zdQ hs3 (by simp)) fun _ r4 hs4 => rfl
 ·have hn : zG (zcT (mkP T S D r)) (fun x => some (.error (x.1, x.2))) (fun c207 => some (.ok ((⟨(4 : UInt8), 0, c207.1⟩ : zD), c207.2))) = cv T S D (bd zbU (fun n => pu ⟨4, 0, n⟩) r) := zb2 hs zbo (zdh hs) fun _ _ _ => rfl
  dsimp only
  rw [hn, zeK hs (by simp)]
  unfold ifM ifS
  cases m with
  | true => rfl
  | false =>
   rw [if_neg (by simp), if_neg (by simp), Option.bind_some, Option.bind_some]
   cases zI 1 [] r <;> rfl
theorem zmR (hs : Suf T r) : zey (mkP T S D r) = some (match r with | [] => 0 | t :: _ => t.Line) := by
 unfold zey mkP
 dsimp only
 cases r with
 | nil => rw [if_neg (by simp)]
 | cons t r =>
  have := zbW hs
  rw [if_pos (zbe (by simp only [List.length_cons] at *; omega)), zeE hs]
  rfl
end
def uB (rE rU rI : Ps zb) : Ps zb :=
 ifS 4 [⟨#[45]⟩, ⟨#[33]⟩] (bd (tk 4 []) fun t => bd rU fun x => pu ⟨6, 0, ⟨#[]⟩, ⟨#[]⟩, t.Text, [x]⟩)
 (ifH 4 [⟨#[40]⟩] (bd rE fun x => bd (zbs [⟨#[41]⟩]) fun _ => pu x)
 (ifS 2 [] (bd (tk 2 []) fun t => pu ⟨1, t.Num, ⟨#[]⟩, ⟨#[]⟩, ⟨#[]⟩, []⟩)
 (ifH 3 [⟨#[116, 114, 117, 101]⟩] (pu ⟨2, 1, ⟨#[]⟩, ⟨#[]⟩, ⟨#[]⟩, []⟩)
 (ifH 3 [⟨#[102, 97, 108, 115, 101]⟩] (pu ⟨2, 0, ⟨#[]⟩, ⟨#[]⟩, ⟨#[]⟩, []⟩)
 (bd zbU fun n => ifS 4 [⟨#[91]⟩] (bd rI fun x => pu ⟨4, 0, n, ⟨#[]⟩, ⟨#[]⟩, [x]⟩)
  (ifH 4 [⟨#[46]⟩] (bd zbU fun f => pu ⟨5, 0, n, f, ⟨#[]⟩, []⟩) (pu ⟨3, 0, n, ⟨#[]⟩, ⟨#[]⟩, []⟩)))))))
def iB (rE : Ps zb) : Ps zb := bd (zbs [⟨#[91]⟩]) fun _ => bd rE fun x => bd (zbs [⟨#[93]⟩]) fun _ => pu x
def bL (Bf : List (List BA) → Ps zb) (lv : List BA) (ls : List (List BA)) : Nat → zb → Ps zb
 | 0, _ => fun _ => none
 | n + 1, x => ifS 4 lv (bd (tk 4 []) fun t => bd (Bf ls) fun y => bL Bf lv ls n ⟨7, 0, ⟨#[]⟩, ⟨#[]⟩, t.Text, [x, y]⟩) (pu x)
def bB (rU : Ps zb) (Bf : List (List BA) → Ps zb) : List (List BA) → Ps zb
 | [] => rU
 | lv :: ls => bd (Bf ls) fun x => bL Bf lv ls big x
def lvls : List (List BA) := [[⟨#[124, 124]⟩], [⟨#[38, 38]⟩], [⟨#[61, 61]⟩, ⟨#[33, 61]⟩, ⟨#[60]⟩, ⟨#[60, 61]⟩, ⟨#[62]⟩, ⟨#[62, 61]⟩], [⟨#[43]⟩, ⟨#[45]⟩], [⟨#[42]⟩, ⟨#[47]⟩, ⟨#[37]⟩]]
def sG : Nat → Ps zb × (List (List BA) → Ps zb) × Ps zb × Ps zb
 | 0 => (fun _ => none, fun _ _ => none, fun _ => none, fun _ => none)
 | n + 1 => ((sG n).2.1 lvls, bB (sG n).2.2.1 (sG n).2.1, uB (sG n).1 (sG n).2.2.1 (sG n).2.2.2, iB (sG n).1)
theorem zmi {Bf : List (List BA) → Ps zb} (h : ∀ l, Sf (Bf l)) (lv : List BA) (ls : List (List BA)) : ∀ n x, Sf (bL Bf lv ls n x)
 | 0, _ => zdy
 | n + 1, x => zeS (zH (zbD _ _) fun _ => zH (h _) fun _ => zmi h lv ls n _) (zbx _)
theorem zfO : ∀ n, Sf (sG n).1 ∧ (∀ l, Sf ((sG n).2.1 l)) ∧ Sf (sG n).2.2.1 ∧ Sf (sG n).2.2.2
 | 0 => ⟨zdy, fun _ => zdy, zdy, zdy⟩
 | n + 1 => by
  obtain ⟨h1, h2, h3, h4⟩ := zfO n
  refine ⟨h2 _, fun l => ?_, ?_, ?_⟩
  ·cases l with
   | nil => exact h3
   | cons lv ls => exact zH (h2 ls) fun x => zmi h2 lv ls big x
  ·exact zeS (zH (zbD _ _) fun _ => zH h3 fun _ => zbx _) (zbZ (zH h1 fun _ => zH (zK _) fun _ => zbx _) (zeS (zH (zbD _ _) fun _ => zbx _) (zbZ (zbx _) (zbZ (zbx _) (zH zbo fun _ => zeS (zH h4 fun _ => zbx _) (zbZ (zH zbo fun _ => zbx _) (zbx _)))))))
  ·exact zH (zK _) fun _ => zH h1 fun _ => zH (zK _) fun _ => zbx _
section
variable {T : List Tok} {S : List zw} {D : List zo}
theorem zmT {R : PS → List (List BA) → Option (Except (Value × PS) (zb × PS))} {Bf : List (List BA) → Ps zb} (hf : ∀ l, Sf (Bf l)) {lv : List BA} {ls : List (List BA)} (hv : lv.length ≤ 1000) (hl : ls.length ≤ 1000) (hR : ∀ l r, l.length ≤ 1000 → (∀ x ∈ l, x.length ≤ 1000) → Suf T r → R (mkP T S D r) l = cv T S D (Bf l r)) (hx : ∀ x ∈ ls, x.length ≤ 1000) :
  ∀ (n : Nat) (x : zb) (r : List Tok), Suf T r → zhG R (lv :: ls) n T ((T.length - r.length : Nat) : Int) S D x.Kind x.Num x.Name x.Field x.Op x.Kids = cv T S D (bL Bf lv ls n x r)
 | 0, x, r, hs => rfl
 | n + 1, x, r, hs => by
  show zgG _ R (lv :: ls) T _ S D x.Kind x.Num x.Name x.Field x.Op x.Kids = _
  unfold zgG bL
  rw [show zA (lv :: ls) 0 = some lv from rfl, Option.bind_some]
  refine L_S (C := cv T S D) (k := 4) (tx := lv) hs hv (fun _ => ?_) (by cases x; rfl)
  refine zb2 hs (zbD _ _) (zdQ hs (by simp)) fun t r2 hs2 => ?_
  have hc : zc0 (lv :: ls) 1 ((lv :: ls).length : Int) = some ls := by
   rw [show (1 : Int) = ((1 : Nat) : Int) from rfl, zgY (by simp) (Nat.le_refl _), List.take_length]
   rfl
  rw [hc, Option.bind_some]
  refine zb2 hs2 (hf ls) (hR ls r2 hl hx hs2) fun y r3 hs3 => ?_
  have := zmT hf hv hl hR hx n ⟨7, 0, ⟨#[]⟩, ⟨#[]⟩, t.Text, [x, y]⟩ r3 hs3
  cases x
  cases y
  exact this
theorem P_G : ∀ (n : Nat) (r : List Tok), Suf T r → (z6 n).1 (mkP T S D r) = cv T S D ((sG n).1 r) ∧ (∀ l : List (List BA), l.length ≤ 1000 → (∀ x ∈ l, x.length ≤ 1000) → (z6 n).2.1 (mkP T S D r) l = cv T S D ((sG n).2.1 l r)) ∧ (z6 n).2.2.1 (mkP T S D r) = cv T S D ((sG n).2.2.1 r) ∧ (z6 n).2.2.2 (mkP T S D r) = cv T S D ((sG n).2.2.2 r)
 | 0, r, hs => ⟨rfl, fun _ _ _ => rfl, rfl, rfl⟩
 | n + 1, r, hs => by
  have h1 := fun r hs => (P_G n r hs).1
  have h2 := fun r hs => (P_G n r hs).2.1
  have h3 := fun r hs => (P_G n r hs).2.2.1
  have h4 := fun r hs => (P_G n r hs).2.2.2
  obtain ⟨f1, f2, f3, f4⟩ := zfO n
  have eta : ∀ {p : Ps zb}, bd p (fun x => pu x) = p := fun {p} => by
   funext r
   unfold bd pu
   cases p r with
   | none => rfl
   | some v => cases v <;> rfl
  refine ⟨?_, fun l hl hx => ?_, ?_, ?_⟩
  ·show zgE (z6 n).1 (z6 n).2.1 (z6 n).2.2.1 (z6 n).2.2.2 (mkP T S D r) = _
   unfold zgE zi2
   rw [Option.bind_some]
   refine (zb2 (f := fun x => pu x) hs (f2 lvls) (h2 r hs lvls (by decide) (by decide)) fun x r' _ => rfl).trans ?_
   rw [eta]
   rfl
  ·show zg9 (z6 n).1 (z6 n).2.1 (z6 n).2.2.1 (z6 n).2.2.2 (mkP T S D r) l = _
   unfold zg9
   cases l with
   | nil =>
    rw [if_pos (show ((([] : List (List BA)).length : Int) == 0) = true from rfl)]
    refine (zb2 (f := fun x => pu x) hs f3 (h3 r hs) fun x r' _ => rfl).trans ?_
    rw [eta]
    rfl
   | cons lv ls =>
    have hc : zc0 (lv :: ls) 1 ((lv :: ls).length : Int) = some ls := by
     rw [show (1 : Int) = ((1 : Nat) : Int) from rfl, zgY (by simp) (Nat.le_refl _), List.take_length]
     rfl
    rw [if_neg (by simp; omega), hc, Option.bind_some]
    refine zb2 (f := fun x => bL (sG n).2.1 lv ls big x) hs (f2 ls) (h2 r hs ls (by simp at hl; omega) fun x hm => hx x (List.mem_cons_of_mem _ hm)) fun x r' hs' => ?_
    exact zmT f2 (hx lv (List.mem_cons_self ..)) (by simp at hl; omega) (fun l r hl hx hs => h2 r hs l hl hx) (fun x hm => hx x (List.mem_cons_of_mem _ hm)) big x r' hs'
  ·show zg2 (z6 n).1 (z6 n).2.1 (z6 n).2.2.1 (z6 n).2.2.2 (mkP T S D r) = cv T S D (uB (sG n).1 (sG n).2.2.1 (sG n).2.2.2 r)
   unfold zg2 uB
   refine L_S (C := cv T S D) hs (by simp) (fun _ => ?_) ?_
   ·refine zb2 hs (zbD _ _) (zdQ hs (by simp)) fun t r2 hs2 => ?_
    exact zb2 hs2 f3 (h3 r2 hs2) fun x r3 hs3 => by cases x; rfl
   refine L_H (C := cv T S D) hs (by simp) (fun r2 hs2 => ?_) ?_
   ·refine zb2 hs2 f1 (h1 r2 hs2) fun x r3 hs3 => ?_
    exact zfw hs3 (zK _) (zcJ hs3 (by simp)) fun r4 hs4 => rfl
   refine L_S (C := cv T S D) hs (by simp) (fun _ => ?_) ?_
   ·exact zb2 hs (zbD _ _) (zdQ hs (by simp)) fun t r2 hs2 => rfl
   refine L_H (C := cv T S D) hs (by simp) (fun r2 hs2 => rfl) ?_
   refine L_H (C := cv T S D) hs (by simp) (fun r2 hs2 => rfl) ?_
   refine zb2 hs zbo (zdh hs) fun nm r2 hs2 => ?_
   refine L_S (C := cv T S D) hs2 (by simp) (fun _ => ?_) ?_
   ·exact zb2 hs2 f4 (h4 r2 hs2) fun x r3 hs3 => by cases x; rfl
   refine L_H (C := cv T S D) hs2 (by simp) (fun r3 hs3 => ?_) rfl
   exact zb2 hs3 zbo (zdh hs3) fun x r4 hs4 => rfl
  ·show zh6 (z6 n).1 (z6 n).2.1 (z6 n).2.2.1 (z6 n).2.2.2 (mkP T S D r) = cv T S D (iB (sG n).1 r)
   unfold zh6 iB
   refine zfw hs (zK _) (zcJ hs (by simp)) fun r2 hs2 => ?_
   refine zb2 hs2 f1 (h1 r2 hs2) fun x r3 hs3 => ?_
   exact zfw hs3 (zK _) (zcJ hs3 (by simp)) fun r4 hs4 => rfl
end
abbrev zb5 : Ps zb := (sG big).1
abbrev zeb : Ps zb := (sG big).2.2.2
theorem zdM {T : List Tok} {S : List zw} {D : List zo} {r : List Tok} (hs : Suf T r) : zdg (mkP T S D r) = cv T S D (zb5 r) := (P_G big r hs).1
theorem zra {T : List Tok} {S : List zw} {D : List zo} {r : List Tok} (hs : Suf T r) : zkC (mkP T S D r) = cv T S D (zeb r) := (P_G big r hs).2.2.2
end Go.Proofs.Ytnhboaaikehpoaa
