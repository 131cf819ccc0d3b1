import Derived.Test.YtnhboaaikehpoaaP_12
import Derived.KernelRfl
namespace Go.Proofs.Ytnhboaaikehpoaa
open Go.Ab Go.RowKit
set_option linter.unusedVariables false
set_option linter.unusedSimpArgs false
def ifM {α : Type} (must : Bool) (k : Int) (tx : List BA) (p q : Ps α) : Ps α := fun r => if must = true then p r else ifS k tx p q r
theorem zqs {α : Type} {m : Bool} {k : Int} {tx : List BA} {p q : Ps α} (hp : Sf p) (hq : Sf q) : Sf (ifM m k tx p q) := fun r v h => by
 unfold ifM at h
 split at h
 ·exact hp r v h
 ·exact zdt hp hq r v h
def zdR (must : Bool) : Ps zI :=
 ifH 3 [⟨#[105, 110, 116]⟩] (pu ⟨1, 0, ⟨#[]⟩⟩) (ifH 3 [⟨#[98, 111, 111, 108]⟩] (pu ⟨2, 0, ⟨#[]⟩⟩) (ifH 4 [⟨#[91]⟩] (bd (tk 2 []) fun t => bd (zbu [⟨#[93]⟩]) fun _ => bd (tk 3 [⟨#[105, 110, 116]⟩]) fun _ => pu ⟨3, t.Num, ⟨#[]⟩⟩)
  (ifM must 1 [] (bd zbQ fun n => pu ⟨4, 0, n⟩) (pu ⟨0, 0, ⟨#[]⟩⟩))))
theorem zcQ (m : Bool) : Sf (zdR m) :=
 zbS (zbi _) (zbS (zbi _) (zbS (zy (zbC _ _) fun _ => zy (zG _) fun _ => zy (zbC _ _) fun _ => zbi _) (zqs (zy zbl fun _ => zbi _) (zbi _))))
section
variable {T : List Tok} {S : List zl} {D : List zi} {r : List Tok}
theorem zjh (hs : Suf T r) (m : Bool) : zfs (mkP T S D r) m = cv T S D (zdR m r) := by
 unfold zfs zdR
 refine L_H hs (by simp) (fun r' _ => rfl) ?_
 refine L_H hs (by simp) (fun r' _ => rfl) ?_
 refine L_H hs (by simp) (fun r' hs' => ?_) ?_
 ·refine zb8 hs' (zbC _ _) (zd6 hs' (by simp)) fun t r2 hs2 => ?_
  refine zfk hs2 (zG _) (zcK hs2 (by simp)) fun r3 hs3 => ?_
  exact zb8 hs3 (zbC _ _) (zd6 hs3 (by simp)) fun _ r4 hs4 => rfl
 ·have hn : zF (zcZ (mkP T S D r)) (fun x => some (.error (x.1, x.2))) (fun c207 => some (.ok ((⟨(4 : UInt8), 0, c207.1⟩ : zI), c207.2))) = cv T S D (bd zbQ (fun n => pu ⟨4, 0, n⟩) r) := zb8 hs zbl (zdx hs) fun _ _ _ => rfl
  dsimp only
  rw [hn, zeE hs (by simp)]
  unfold ifM ifS
  cases m with
  | true => rfl
  | false =>
   rw [if_neg (by simp), if_neg (by simp), Option.bind_some, Option.bind_some]
   cases zz 1 [] r <;> rfl
theorem zlz (hs : Suf T r) : zeN (mkP T S D r) = some (match r with | [] => 0 | t :: _ => t.Line) := by
 unfold zeN mkP
 dsimp only
 cases r with
 | nil => rw [if_neg (by simp)]
 | cons t r =>
  have := zb3 hs
  rw [if_pos (zbx (by simp only [List.length_cons] at *; omega)), zeJ hs]
  rfl
end
def uB (rE rU rI : Ps zb) : Ps zb :=
 ifS 4 [⟨#[45]⟩, ⟨#[33]⟩] (bd (tk 4 []) fun t => bd rU fun x => pu ⟨6, 0, ⟨#[]⟩, ⟨#[]⟩, t.Text, [x]⟩)
 (ifH 4 [⟨#[40]⟩] (bd rE fun x => bd (zbu [⟨#[41]⟩]) fun _ => pu x)
 (ifS 2 [] (bd (tk 2 []) fun t => pu ⟨1, t.Num, ⟨#[]⟩, ⟨#[]⟩, ⟨#[]⟩, []⟩)
 (ifH 3 [⟨#[116, 114, 117, 101]⟩] (pu ⟨2, 1, ⟨#[]⟩, ⟨#[]⟩, ⟨#[]⟩, []⟩)
 (ifH 3 [⟨#[102, 97, 108, 115, 101]⟩] (pu ⟨2, 0, ⟨#[]⟩, ⟨#[]⟩, ⟨#[]⟩, []⟩)
 (bd zbQ fun n => ifS 4 [⟨#[91]⟩] (bd rI fun x => pu ⟨4, 0, n, ⟨#[]⟩, ⟨#[]⟩, [x]⟩)
  (ifH 4 [⟨#[46]⟩] (bd zbQ fun f => pu ⟨5, 0, n, f, ⟨#[]⟩, []⟩) (pu ⟨3, 0, n, ⟨#[]⟩, ⟨#[]⟩, []⟩)))))))
def iB (rE : Ps zb) : Ps zb := bd (zbu [⟨#[91]⟩]) fun _ => bd rE fun x => bd (zbu [⟨#[93]⟩]) fun _ => pu x
def bL (Bf : List (List BA) → Ps zb) (lv : List BA) (ls : List (List BA)) : Nat → zb → Ps zb
 | 0, _ => fun _ => none
 | n + 1, x => ifS 4 lv (bd (tk 4 []) fun t => bd (Bf ls) fun y => bL Bf lv ls n ⟨7, 0, ⟨#[]⟩, ⟨#[]⟩, t.Text, [x, y]⟩) (pu x)
def bB (rU : Ps zb) (Bf : List (List BA) → Ps zb) : List (List BA) → Ps zb
 | [] => rU
 | lv :: ls => bd (Bf ls) fun x => bL Bf lv ls big x
def lvls : List (List BA) := [[⟨#[124, 124]⟩], [⟨#[38, 38]⟩], [⟨#[61, 61]⟩, ⟨#[33, 61]⟩, ⟨#[60]⟩, ⟨#[60, 61]⟩, ⟨#[62]⟩, ⟨#[62, 61]⟩], [⟨#[43]⟩, ⟨#[45]⟩], [⟨#[42]⟩, ⟨#[47]⟩, ⟨#[37]⟩]]
def sG : Nat → Ps zb × (List (List BA) → Ps zb) × Ps zb × Ps zb
 | 0 => (fun _ => none, fun _ _ => none, fun _ => none, fun _ => none)
 | n + 1 => ((sG n).2.1 lvls, bB (sG n).2.2.1 (sG n).2.1, uB (sG n).1 (sG n).2.2.1 (sG n).2.2.2, iB (sG n).1)
theorem zj8 {Bf : List (List BA) → Ps zb} (h : ∀ l, Sf (Bf l)) (lv : List BA) (ls : List (List BA)) : ∀ n x, Sf (bL Bf lv ls n x)
 | 0, _ => zdw
 | n + 1, x => zdt (zy (zbC _ _) fun _ => zy (h _) fun _ => zj8 h lv ls n _) (zbi _)
theorem zfj : ∀ n, Sf (sG n).1 ∧ (∀ l, Sf ((sG n).2.1 l)) ∧ Sf (sG n).2.2.1 ∧ Sf (sG n).2.2.2
 | 0 => ⟨zdw, fun _ => zdw, zdw, zdw⟩
 | n + 1 => by
  obtain ⟨h1, h2, h3, h4⟩ := zfj n
  refine ⟨h2 _, fun l => ?_, ?_, ?_⟩
  ·cases l with
   | nil => exact h3
   | cons lv ls => exact zy (h2 ls) fun x => zj8 h2 lv ls big x
  ·exact zdt (zy (zbC _ _) fun _ => zy h3 fun _ => zbi _) (zbS (zy h1 fun _ => zy (zG _) fun _ => zbi _) (zdt (zy (zbC _ _) fun _ => zbi _) (zbS (zbi _) (zbS (zbi _) (zy zbl fun _ => zdt (zy h4 fun _ => zbi _) (zbS (zy zbl fun _ => zbi _) (zbi _)))))))
  ·exact zy (zG _) fun _ => zy h1 fun _ => zy (zG _) fun _ => zbi _
section
variable {T : List Tok} {S : List zl} {D : List zi}
theorem zmF {R : PS → List (List BA) → Option (Except (Value × PS) (zb × PS))} {Bf : List (List BA) → Ps zb} (hf : ∀ l, Sf (Bf l)) {lv : List BA} {ls : List (List BA)} (hv : lv.length ≤ 1000) (hl : ls.length ≤ 1000) (hR : ∀ l r, l.length ≤ 1000 → (∀ x ∈ l, x.length ≤ 1000) → Suf T r → R (mkP T S D r) l = cv T S D (Bf l r)) (hx : ∀ x ∈ ls, x.length ≤ 1000) :
  ∀ (n : Nat) (x : zb) (r : List Tok), Suf T r → zhG R (lv :: ls) n T ((T.length - r.length : Nat) : Int) S D x.Kind x.Num x.Name x.Field x.Op x.Kids = cv T S D (bL Bf lv ls n x r)
 | 0, x, r, hs => rfl
 | n + 1, x, r, hs => by
  show zhF _ R (lv :: ls) T _ S D x.Kind x.Num x.Name x.Field x.Op x.Kids = _
  unfold zhF bL
  rw [show zA (lv :: ls) 0 = some lv from rfl, Option.bind_some]
  refine L_S (C := cv T S D) (k := 4) (tx := lv) hs hv (fun _ => ?_) (by cases x; rfl)
  refine zb8 hs (zbC _ _) (zd6 hs (by simp)) fun t r2 hs2 => ?_
  have hc : zdp (lv :: ls) 1 ((lv :: ls).length : Int) = some ls := by
   rw [show (1 : Int) = ((1 : Nat) : Int) from rfl, zls (by simp) (Nat.le_refl _), List.take_length]
   rfl
  rw [hc, Option.bind_some]
  refine zb8 hs2 (hf ls) (hR ls r2 hl hx hs2) fun y r3 hs3 => ?_
  have := zmF hf hv hl hR hx n ⟨7, 0, ⟨#[]⟩, ⟨#[]⟩, t.Text, [x, y]⟩ r3 hs3
  cases x
  cases y
  exact this
theorem P_G : ∀ (n : Nat) (r : List Tok), Suf T r → (zZ n).1 (mkP T S D r) = cv T S D ((sG n).1 r) ∧ (∀ l : List (List BA), l.length ≤ 1000 → (∀ x ∈ l, x.length ≤ 1000) → (zZ n).2.1 (mkP T S D r) l = cv T S D ((sG n).2.1 l r)) ∧ (zZ n).2.2.1 (mkP T S D r) = cv T S D ((sG n).2.2.1 r) ∧ (zZ n).2.2.2 (mkP T S D r) = cv T S D ((sG n).2.2.2 r)
 | 0, r, hs => ⟨rfl, fun _ _ _ => rfl, rfl, rfl⟩
 | n + 1, r, hs => by
  have h1 := fun r hs => (P_G n r hs).1
  have h2 := fun r hs => (P_G n r hs).2.1
  have h3 := fun r hs => (P_G n r hs).2.2.1
  have h4 := fun r hs => (P_G n r hs).2.2.2
  obtain ⟨f1, f2, f3, f4⟩ := zfj n
  have eta : ∀ {p : Ps zb}, bd p (fun x => pu x) = p := fun {p} => by
   funext r
   unfold bd pu
   cases p r with
   | none => rfl
   | some v => cases v <;> rfl
  refine ⟨?_, fun l hl hx => ?_, ?_, ?_⟩
  ·show zgK (zZ n).1 (zZ n).2.1 (zZ n).2.2.1 (zZ n).2.2.2 (mkP T S D r) = _
   unfold zgK zid
   rw [Option.bind_some]
   refine (zb8 (f := fun x => pu x) hs (f2 lvls) (h2 r hs lvls (by decide) (by decide)) fun x r' _ => rfl).trans ?_
   rw [eta]
   rfl
  ·show zhd (zZ n).1 (zZ n).2.1 (zZ n).2.2.1 (zZ n).2.2.2 (mkP T S D r) l = _
   unfold zhd
   cases l with
   | nil =>
    rw [if_pos (show ((([] : List (List BA)).length : Int) == 0) = true from rfl)]
    refine (zb8 (f := fun x => pu x) hs f3 (h3 r hs) fun x r' _ => rfl).trans ?_
    rw [eta]
    rfl
   | cons lv ls =>
    have hc : zdp (lv :: ls) 1 ((lv :: ls).length : Int) = some ls := by
     rw [show (1 : Int) = ((1 : Nat) : Int) from rfl, zls (by simp) (Nat.le_refl _), List.take_length]
     rfl
    rw [if_neg (by simp; omega), hc, Option.bind_some]
    refine zb8 (f := fun x => bL (sG n).2.1 lv ls big x) hs (f2 ls) (h2 r hs ls (by simp at hl; omega) fun x hm => hx x (List.mem_cons_of_mem _ hm)) fun x r' hs' => ?_
    exact zmF f2 (hx lv (List.mem_cons_self ..)) (by simp at hl; omega) (fun l r hl hx hs => h2 r hs l hl hx) (fun x hm => hx x (List.mem_cons_of_mem _ hm)) big x r' hs'
  ·show zg8 (zZ n).1 (zZ n).2.1 (zZ n).2.2.1 (zZ n).2.2.2 (mkP T S D r) = cv T S D (uB (sG n).1 (sG n).2.2.1 (sG n).2.2.2 r)
   unfold zg8 uB
   refine L_S (C := cv T S D) hs (by simp) (fun _ => ?_) ?_
   ·refine zb8 hs (zbC _ _) (zd6 hs (by simp)) fun t r2 hs2 => ?_
    exact zb8 hs2 f3 (h3 r2 hs2) fun x r3 hs3 => by cases x; rfl
   refine L_H (C := cv T S D) hs (by simp) (fun r2 hs2 => ?_) ?_
   ·refine zb8 hs2 f1 (h1 r2 hs2) fun x r3 hs3 => ?_
    exact zfk hs3 (zG _) (zcK hs3 (by simp)) fun r4 hs4 => rfl
   refine L_S (C := cv T S D) hs (by simp) (fun _ => ?_) ?_
   ·exact zb8 hs (zbC _ _) (zd6 hs (by simp)) fun t r2 hs2 => rfl
   refine L_H (C := cv T S D) hs (by simp) (fun r2 hs2 => rfl) ?_
   refine L_H (C := cv T S D) hs (by simp) (fun r2 hs2 => rfl) ?_
   refine zb8 hs zbl (zdx hs) fun nm r2 hs2 => ?_
   refine L_S (C := cv T S D) hs2 (by simp) (fun _ => ?_) ?_
   ·exact zb8 hs2 f4 (h4 r2 hs2) fun x r3 hs3 => by cases x; rfl
   refine L_H (C := cv T S D) hs2 (by simp) (fun r3 hs3 => ?_) rfl
   exact zb8 hs3 zbl (zdx hs3) fun x r4 hs4 => rfl
  ·show zgv (zZ n).1 (zZ n).2.1 (zZ n).2.2.1 (zZ n).2.2.2 (mkP T S D r) = cv T S D (iB (sG n).1 r)
   unfold zgv iB
   refine zfk hs (zG _) (zcK hs (by simp)) fun r2 hs2 => ?_
   refine zb8 hs2 f1 (h1 r2 hs2) fun x r3 hs3 => ?_
   exact zfk hs3 (zG _) (zcK hs3 (by simp)) fun r4 hs4 => rfl
end
abbrev zbZ : Ps zb := (sG big).1
abbrev zd9 : Ps zb := (sG big).2.2.2
theorem zd7 {T : List Tok} {S : List zl} {D : List zi} {r : List Tok} (hs : Suf T r) : zdu (mkP T S D r) = cv T S D (zbZ r) := (P_G big r hs).1
theorem zrJ {T : List Tok} {S : List zl} {D : List zi} {r : List Tok} (hs : Suf T r) : zjR (mkP T S D r) = cv T S D (zd9 r) := (P_G big r hs).2.2.2
end Go.Proofs.Ytnhboaaikehpoaa
