import Derived.Test.YtnhboaaikehpoaaP_12
import Derived.KernelRfl
namespace Go.Proofs.Ytnhboaaikehpoaa
open Go.Ab Go.RowKit
set_option linter.unusedVariables false
set_option linter.unusedSimpArgs false
def ifM {α : Type} (must : Bool) (k : Int) (tx : List BA) (p q : Ps α) : Ps α := fun r => if must = true then p r else ifS k tx p q r
theorem zot {α : Type} {m : Bool} {k : Int} {tx : List BA} {p q : Ps α} (hp : Sf p) (hq : Sf q) : Sf (ifM m k tx p q) := fun r v h => by
 unfold ifM at h
 split at h
 ·exact hp r v h
 ·exact zeK hp hq r v h
def zdM (must : Bool) : Ps zD :=
 ifH 3 [⟨#[105, 110, 116]⟩] (pu ⟨1, 0, ⟨#[]⟩⟩) (ifH 3 [⟨#[98, 111, 111, 108]⟩] (pu ⟨2, 0, ⟨#[]⟩⟩) (ifH 4 [⟨#[91]⟩] (bd (tk 2 []) fun t => bd (zbs [⟨#[93]⟩]) fun _ => bd (tk 3 [⟨#[105, 110, 116]⟩]) fun _ => pu ⟨3, t.Num, ⟨#[]⟩⟩)
  (ifM must 1 [] (bd zbR fun n => pu ⟨4, 0, n⟩) (pu ⟨0, 0, ⟨#[]⟩⟩))))
theorem zcJ (m : Bool) : Sf (zdM m) :=
 zbX (zbw _) (zbX (zbw _) (zbX (zH (zbD _ _) fun _ => zH (zJ _) fun _ => zH (zbD _ _) fun _ => zbw _) (zot (zH zbm fun _ => zbw _) (zbw _))))
section
variable {T : List Tok} {S : List zw} {D : List zp} {r : List Tok}
theorem zkI (hs : Suf T r) (m : Bool) : zfb (mkP T S D r) m = cv T S D (zdM m r) := by
 unfold zfb zdM
 refine L_H hs (by simp) (fun r' _ => rfl) ?_
 refine L_H hs (by simp) (fun r' _ => rfl) ?_
 refine L_H hs (by simp) (fun r' hs' => ?_) ?_
 ·refine zbZ hs' (zbD _ _) (zdT hs' (by simp)) fun t r2 hs2 => ?_
  refine zfv hs2 (zJ _) (zcI hs2 (by simp)) fun r3 hs3 => ?_
  exact zbZ hs3 (zbD _ _) (zdT hs3 (by simp)) fun _ r4 hs4 => rfl
 ·have hn : zF (zcT (mkP T S D r)) (fun x => some (.error (x.1, x.2))) (fun c207 => some (.ok ((⟨(4 : UInt8), 0, c207.1⟩ : zD), c207.2))) = cv T S D (bd zbR (fun n => pu ⟨4, 0, n⟩) r) := zbZ hs zbm (zdj hs) fun _ _ _ => rfl
  dsimp only
  rw [hn, zeP hs (by simp)]
  unfold ifM ifS
  cases m with
  | true => rfl
  | false =>
   rw [if_neg (by simp), if_neg (by simp), Option.bind_some, Option.bind_some]
   cases zI 1 [] r <;> rfl
theorem zng (hs : Suf T r) : zeO (mkP T S D r) = some (match r with | [] => 0 | t :: _ => t.Line) := by
 unfold zeO mkP
 dsimp only
 cases r with
 | nil => rw [if_neg (by simp)]
 | cons t r =>
  have := zbT hs
  rw [if_pos (zbq (by simp only [List.length_cons] at *; omega)), zeB hs]
  rfl
end
def uB (rE rU rI : Ps zb) : Ps zb :=
 ifS 4 [⟨#[45]⟩, ⟨#[33]⟩] (bd (tk 4 []) fun t => bd rU fun x => pu ⟨6, 0, ⟨#[]⟩, ⟨#[]⟩, t.Text, [x]⟩)
 (ifH 4 [⟨#[40]⟩] (bd rE fun x => bd (zbs [⟨#[41]⟩]) fun _ => pu x)
 (ifS 2 [] (bd (tk 2 []) fun t => pu ⟨1, t.Num, ⟨#[]⟩, ⟨#[]⟩, ⟨#[]⟩, []⟩)
 (ifH 3 [⟨#[116, 114, 117, 101]⟩] (pu ⟨2, 1, ⟨#[]⟩, ⟨#[]⟩, ⟨#[]⟩, []⟩)
 (ifH 3 [⟨#[102, 97, 108, 115, 101]⟩] (pu ⟨2, 0, ⟨#[]⟩, ⟨#[]⟩, ⟨#[]⟩, []⟩)
 (bd zbR fun n => ifS 4 [⟨#[91]⟩] (bd rI fun x => pu ⟨4, 0, n, ⟨#[]⟩, ⟨#[]⟩, [x]⟩)
  (ifH 4 [⟨#[46]⟩] (bd zbR fun f => pu ⟨5, 0, n, f, ⟨#[]⟩, []⟩) (pu ⟨3, 0, n, ⟨#[]⟩, ⟨#[]⟩, []⟩)))))))
def iB (rE : Ps zb) : Ps zb := bd (zbs [⟨#[91]⟩]) fun _ => bd rE fun x => bd (zbs [⟨#[93]⟩]) fun _ => pu x
def bL (Bf : List (List BA) → Ps zb) (lv : List BA) (ls : List (List BA)) : Nat → zb → Ps zb
 | 0, _ => fun _ => none
 | n + 1, x => ifS 4 lv (bd (tk 4 []) fun t => bd (Bf ls) fun y => bL Bf lv ls n ⟨7, 0, ⟨#[]⟩, ⟨#[]⟩, t.Text, [x, y]⟩) (pu x)
def bB (rU : Ps zb) (Bf : List (List BA) → Ps zb) : List (List BA) → Ps zb
 | [] => rU
 | lv :: ls => bd (Bf ls) fun x => bL Bf lv ls big x
def lvls : List (List BA) := [[⟨#[124, 124]⟩], [⟨#[38, 38]⟩], [⟨#[61, 61]⟩, ⟨#[33, 61]⟩, ⟨#[60]⟩, ⟨#[60, 61]⟩, ⟨#[62]⟩, ⟨#[62, 61]⟩], [⟨#[43]⟩, ⟨#[45]⟩], [⟨#[42]⟩, ⟨#[47]⟩, ⟨#[37]⟩]]
def sG : Nat → Ps zb × (List (List BA) → Ps zb) × Ps zb × Ps zb
 | 0 => (fun _ => none, fun _ _ => none, fun _ => none, fun _ => none)
 | n + 1 => ((sG n).2.1 lvls, bB (sG n).2.2.1 (sG n).2.1, uB (sG n).1 (sG n).2.2.1 (sG n).2.2.2, iB (sG n).1)
theorem zmq {Bf : List (List BA) → Ps zb} (h : ∀ l, Sf (Bf l)) (lv : List BA) (ls : List (List BA)) : ∀ n x, Sf (bL Bf lv ls n x)
 | 0, _ => zdt
 | n + 1, x => zeK (zH (zbD _ _) fun _ => zH (h _) fun _ => zmq h lv ls n _) (zbw _)
theorem zfS : ∀ n, Sf (sG n).1 ∧ (∀ l, Sf ((sG n).2.1 l)) ∧ Sf (sG n).2.2.1 ∧ Sf (sG n).2.2.2
 | 0 => ⟨zdt, fun _ => zdt, zdt, zdt⟩
 | n + 1 => by
  obtain ⟨h1, h2, h3, h4⟩ := zfS n
  refine ⟨h2 _, fun l => ?_, ?_, ?_⟩
  ·cases l with
   | nil => exact h3
   | cons lv ls => exact zH (h2 ls) fun x => zmq h2 lv ls big x
  ·exact zeK (zH (zbD _ _) fun _ => zH h3 fun _ => zbw _) (zbX (zH h1 fun _ => zH (zJ _) fun _ => zbw _) (zeK (zH (zbD _ _) fun _ => zbw _) (zbX (zbw _) (zbX (zbw _) (zH zbm fun _ => zeK (zH h4 fun _ => zbw _) (zbX (zH zbm fun _ => zbw _) (zbw _)))))))
  ·exact zH (zJ _) fun _ => zH h1 fun _ => zH (zJ _) fun _ => zbw _
section
variable {T : List Tok} {S : List zw} {D : List zp}
theorem zlg {R : PS → List (List BA) → Option (Except (Value × PS) (zb × PS))} {Bf : List (List BA) → Ps zb} (hf : ∀ l, Sf (Bf l)) {lv : List BA} {ls : List (List BA)} (hv : lv.length ≤ 1000) (hl : ls.length ≤ 1000) (hR : ∀ l r, l.length ≤ 1000 → (∀ x ∈ l, x.length ≤ 1000) → Suf T r → R (mkP T S D r) l = cv T S D (Bf l r)) (hx : ∀ x ∈ ls, x.length ≤ 1000) :
  ∀ (n : Nat) (x : zb) (r : List Tok), Suf T r → zgp R (lv :: ls) n T ((T.length - r.length : Nat) : Int) S D x.Kind x.Num x.Name x.Field x.Op x.Kids = cv T S D (bL Bf lv ls n x r)
 | 0, x, r, hs => rfl
 | n + 1, x, r, hs => by
  show zho _ R (lv :: ls) T _ S D x.Kind x.Num x.Name x.Field x.Op x.Kids = _
  unfold zho bL
  rw [show zz (lv :: ls) 0 = some lv from rfl, Option.bind_some]
  refine L_S (C := cv T S D) (k := 4) (tx := lv) hs hv (fun _ => ?_) (by cases x; rfl)
  refine zbZ hs (zbD _ _) (zdT hs (by simp)) fun t r2 hs2 => ?_
  have hc : zde (lv :: ls) 1 ((lv :: ls).length : Int) = some ls := by
   rw [show (1 : Int) = ((1 : Nat) : Int) from rfl, zlD (by simp) (Nat.le_refl _), List.take_length]
   rfl
  rw [hc, Option.bind_some]
  refine zbZ hs2 (hf ls) (hR ls r2 hl hx hs2) fun y r3 hs3 => ?_
  have := zlg hf hv hl hR hx n ⟨7, 0, ⟨#[]⟩, ⟨#[]⟩, t.Text, [x, y]⟩ r3 hs3
  cases x
  cases y
  exact this
theorem P_G : ∀ (n : Nat) (r : List Tok), Suf T r → (z5 n).1 (mkP T S D r) = cv T S D ((sG n).1 r) ∧ (∀ l : List (List BA), l.length ≤ 1000 → (∀ x ∈ l, x.length ≤ 1000) → (z5 n).2.1 (mkP T S D r) l = cv T S D ((sG n).2.1 l r)) ∧ (z5 n).2.2.1 (mkP T S D r) = cv T S D ((sG n).2.2.1 r) ∧ (z5 n).2.2.2 (mkP T S D r) = cv T S D ((sG n).2.2.2 r)
 | 0, r, hs => ⟨rfl, fun _ _ _ => rfl, rfl, rfl⟩
 | n + 1, r, hs => by
  have h1 := fun r hs => (P_G n r hs).1
  have h2 := fun r hs => (P_G n r hs).2.1
  have h3 := fun r hs => (P_G n r hs).2.2.1
  have h4 := fun r hs => (P_G n r hs).2.2.2
  obtain ⟨f1, f2, f3, f4⟩ := zfS n
  have eta : ∀ {p : Ps zb}, bd p (fun x => pu x) = p := fun {p} => by
   funext r
   unfold bd pu
   cases p r with
   | none => rfl
   | some v => cases v <;> rfl
  refine ⟨?_, fun l hl hx => ?_, ?_, ?_⟩
  ·show zhz (z5 n).1 (z5 n).2.1 (z5 n).2.2.1 (z5 n).2.2.2 (mkP T S D r) = _
   unfold zhz ziw
   rw [Option.bind_some]
   refine (zbZ (f := fun x => pu x) hs (f2 lvls) (h2 r hs lvls (by decide) (by decide)) fun x r' _ => rfl).trans ?_
   rw [eta]
   rfl
  ·show zgu (z5 n).1 (z5 n).2.1 (z5 n).2.2.1 (z5 n).2.2.2 (mkP T S D r) l = _
   unfold zgu
   cases l with
   | nil =>
    rw [if_pos (show ((([] : List (List BA)).length : Int) == 0) = true from rfl)]
    refine (zbZ (f := fun x => pu x) hs f3 (h3 r hs) fun x r' _ => rfl).trans ?_
    rw [eta]
    rfl
   | cons lv ls =>
    have hc : zde (lv :: ls) 1 ((lv :: ls).length : Int) = some ls := by
     rw [show (1 : Int) = ((1 : Nat) : Int) from rfl, zlD (by simp) (Nat.le_refl _), List.take_length]
     rfl
    rw [if_neg (by simp; omega), hc, Option.bind_some]
    refine zbZ (f := fun x => bL (sG n).2.1 lv ls big x) hs (f2 ls) (h2 r hs ls (by simp at hl; omega) fun x hm => hx x (List.mem_cons_of_mem _ hm)) fun x r' hs' => ?_
    exact zlg f2 (hx lv (List.mem_cons_self ..)) (by simp at hl; omega) (fun l r hl hx hs => h2 r hs l hl hx) (fun x hm => hx x (List.mem_cons_of_mem _ hm)) big x r' hs'
  ·show zhA (z5 n).1 (z5 n).2.1 (z5 n).2.2.1 (z5 n).2.2.2 (mkP T S D r) = cv T S D (uB (sG n).1 (sG n).2.2.1 (sG n).2.2.2 r)
   unfold zhA uB
   refine L_S (C := cv T S D) hs (by simp) (fun _ => ?_) ?_
   ·refine zbZ hs (zbD _ _) (zdT hs (by simp)) fun t r2 hs2 => ?_
    exact zbZ hs2 f3 (h3 r2 hs2) fun x r3 hs3 => by cases x; rfl
   refine L_H (C := cv T S D) hs (by simp) (fun r2 hs2 => ?_) ?_
   ·refine zbZ hs2 f1 (h1 r2 hs2) fun x r3 hs3 => ?_
    exact zfv hs3 (zJ _) (zcI hs3 (by simp)) fun r4 hs4 => rfl
   refine L_S (C := cv T S D) hs (by simp) (fun _ => ?_) ?_
   ·exact zbZ hs (zbD _ _) (zdT hs (by simp)) fun t r2 hs2 => rfl
   refine L_H (C := cv T S D) hs (by simp) (fun r2 hs2 => rfl) ?_
   refine L_H (C := cv T S D) hs (by simp) (fun r2 hs2 => rfl) ?_
   refine zbZ hs zbm (zdj hs) fun nm r2 hs2 => ?_
   refine L_S (C := cv T S D) hs2 (by simp) (fun _ => ?_) ?_
   ·exact zbZ hs2 f4 (h4 r2 hs2) fun x r3 hs3 => by cases x; rfl
   refine L_H (C := cv T S D) hs2 (by simp) (fun r3 hs3 => ?_) rfl
   exact zbZ hs3 zbm (zdj hs3) fun x r4 hs4 => rfl
  ·show zgm (z5 n).1 (z5 n).2.1 (z5 n).2.2.1 (z5 n).2.2.2 (mkP T S D r) = cv T S D (iB (sG n).1 r)
   unfold zgm iB
   refine zfv hs (zJ _) (zcI hs (by simp)) fun r2 hs2 => ?_
   refine zbZ hs2 f1 (h1 r2 hs2) fun x r3 hs3 => ?_
   exact zfv hs3 (zJ _) (zcI hs3 (by simp)) fun r4 hs4 => rfl
end
abbrev zb1 : Ps zb := (sG big).1
abbrev zeb : Ps zb := (sG big).2.2.2
theorem zdP {T : List Tok} {S : List zw} {D : List zp} {r : List Tok} (hs : Suf T r) : zdl (mkP T S D r) = cv T S D (zb1 r) := (P_G big r hs).1
theorem zoo {T : List Tok} {S : List zw} {D : List zp} {r : List Tok} (hs : Suf T r) : zjz (mkP T S D r) = cv T S D (zeb r) := (P_G big r hs).2.2.2
end Go.Proofs.Ytnhboaaikehpoaa
