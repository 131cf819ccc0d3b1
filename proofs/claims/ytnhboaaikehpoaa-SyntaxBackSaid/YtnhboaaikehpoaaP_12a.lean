import Derived.Test.YtnhboaaikehpoaaP_12
import Derived.KernelRfl
namespace Go.Proofs.Ytnhboaaikehpoaa
open Go.Ab Go.RowKit
set_option linter.unusedVariables false
set_option linter.unusedSimpArgs false
def ifM {α : Type} (must : Bool) (k : Int) (tx : List BA) (p q : Ps α) : Ps α := fun r => if must = true then p r else ifS k tx p q r
theorem zrS {α : Type} {m : Bool} {k : Int} {tx : List BA} {p q : Ps α} (hp : Sf p) (hq : Sf q) : Sf (ifM m k tx p q) := fun r v h => by
 unfold ifM at h
 split at h
 ·exact hp r v h
 ·exact zeR hp hq r v h
def zcN (must : Bool) : Ps zR :=
 ifH 3 [zs6] (pu ⟨1, 0, zs3⟩) (ifH 3 [ztu] (pu ⟨2, 0, zs3⟩) (ifH 4 [ztb] (bd (tk 2 []) fun t => bd (zbO [ztj]) fun _ => bd (tk 3 [zs6]) fun _ => pu ⟨3, t.Num, zs3⟩)
  (ifM must 1 [] (bd zcC fun n => pu ⟨4, 0, n⟩) (pu ⟨0, 0, zs3⟩))))
theorem zdu (m : Bool) : Sf (zcN m) :=
 zbW (zbx _) (zbW (zbx _) (zbW (zP (zbM _ _) fun _ => zP (zba _) fun _ => zP (zbM _ _) fun _ => zbx _) (zrS (zP zbF fun _ => zbx _) (zbx _))))
section
variable {T : List Tok} {S : List zq} {D : List zo} {r : List Tok}
theorem zlp (hs : Suf T r) (m : Bool) : zfm (mkP T S D r) m = cv T S D (zcN m r) := by
 unfold zfm zcN
 refine L_H hs (by simp) (fun r' _ => rfl) ?_
 refine L_H hs (by simp) (fun r' _ => rfl) ?_
 refine L_H hs (by simp) (fun r' hs' => ?_) ?_
 ·refine zbX hs' (zbM _ _) (zdY hs' (by simp)) fun t r2 hs2 => ?_
  refine zfG hs2 (zba _) (zcD hs2 (by simp)) fun r3 hs3 => ?_
  exact zbX hs3 (zbM _ _) (zdY hs3 (by simp)) fun _ r4 hs4 => rfl
 ·have hn : zO (zcM (mkP T S D r)) (fun x => some (.error (x.1, x.2))) (fun c207 => some (.ok ((⟨(4 : UInt8), 0, c207.1⟩ : zR), c207.2))) = cv T S D (bd zcC (fun n => pu ⟨4, 0, n⟩) r) := zbX hs zbF (zdl hs) fun _ _ _ => rfl
  dsimp only
  rw [hn, zeX hs (by simp)]
  unfold ifM ifS
  cases m with
  | true => rfl
  | false =>
   rw [if_neg (by simp), if_neg (by simp), Option.bind_some, Option.bind_some]
   cases zbg 1 [] r <;> rfl
theorem zlv (hs : Suf T r) : zeM (mkP T S D r) = some (match r with | [] => 0 | t :: _ => t.Line) := by
 unfold zeM mkP
 dsimp only
 cases r with
 | nil => rw [if_neg (by simp)]
 | cons t r =>
  have := zeq hs
  rw [if_pos (zJ (by simp only [List.length_cons] at *; omega)), zkq hs]
  rfl
end
def uB (rE rU rI : Ps zb) : Ps zb :=
 ifS 4 [ztf, ztH] (bd (tk 4 []) fun t => bd rU fun x => pu ⟨6, 0, zs3, zs3, t.Text, [x]⟩)
 (ifH 4 [zs5] (bd rE fun x => bd (zbO [zs4]) fun _ => pu x)
 (ifS 2 [] (bd (tk 2 []) fun t => pu ⟨1, t.Num, zs3, zs3, zs3, []⟩)
 (ifH 3 [ztl] (pu ⟨2, 1, zs3, zs3, zs3, []⟩)
 (ifH 3 [zti] (pu ⟨2, 0, zs3, zs3, zs3, []⟩)
 (bd zcC fun n => ifS 4 [ztb] (bd rI fun x => pu ⟨4, 0, n, zs3, zs3, [x]⟩)
  (ifH 4 [ztv] (bd zcC fun f => pu ⟨5, 0, n, f, zs3, []⟩) (pu ⟨3, 0, n, zs3, zs3, []⟩)))))))
def iB (rE : Ps zb) : Ps zb := bd (zbO [ztb]) fun _ => bd rE fun x => bd (zbO [ztj]) fun _ => pu x
def bL (Bf : List (List BA) → Ps zb) (lv : List BA) (ls : List (List BA)) : Nat → zb → Ps zb
 | 0, _ => fun _ => none
 | n + 1, x => ifS 4 lv (bd (tk 4 []) fun t => bd (Bf ls) fun y => bL Bf lv ls n ⟨7, 0, zs3, zs3, t.Text, [x, y]⟩) (pu x)
def bB (rU : Ps zb) (Bf : List (List BA) → Ps zb) : List (List BA) → Ps zb
 | [] => rU
 | lv :: ls => bd (Bf ls) fun x => bL Bf lv ls big x
def lvls : List (List BA) := [[ztk], [zto], [ztp, ztq, ztz, ztr, ztA, zts], [ztB, ztf], [zty, ztC, ztD]]
def sG : Nat → Ps zb × (List (List BA) → Ps zb) × Ps zb × Ps zb
 | 0 => (fun _ => none, fun _ _ => none, fun _ => none, fun _ => none)
 | n + 1 => ((sG n).2.1 lvls, bB (sG n).2.2.1 (sG n).2.1, uB (sG n).1 (sG n).2.2.1 (sG n).2.2.2, iB (sG n).1)
theorem zm7 {Bf : List (List BA) → Ps zb} (h : ∀ l, Sf (Bf l)) (lv : List BA) (ls : List (List BA)) : ∀ n x, Sf (bL Bf lv ls n x)
 | 0, _ => zdM
 | n + 1, x => zeR (zP (zbM _ _) fun _ => zP (h _) fun _ => zm7 h lv ls n _) (zbx _)
theorem zin : ∀ n, Sf (sG n).1 ∧ (∀ l, Sf ((sG n).2.1 l)) ∧ Sf (sG n).2.2.1 ∧ Sf (sG n).2.2.2
 | 0 => ⟨zdM, fun _ => zdM, zdM, zdM⟩
 | n + 1 => by
  obtain ⟨h1, h2, h3, h4⟩ := zin n
  refine ⟨h2 _, fun l => ?_, ?_, ?_⟩
  ·cases l with
   | nil => exact h3
   | cons lv ls => exact zP (h2 ls) fun x => zm7 h2 lv ls big x
  ·exact zeR (zP (zbM _ _) fun _ => zP h3 fun _ => zbx _) (zbW (zP h1 fun _ => zP (zba _) fun _ => zbx _) (zeR (zP (zbM _ _) fun _ => zbx _) (zbW (zbx _) (zbW (zbx _) (zP zbF fun _ => zeR (zP h4 fun _ => zbx _) (zbW (zP zbF fun _ => zbx _) (zbx _)))))))
  ·exact zP (zba _) fun _ => zP h1 fun _ => zP (zba _) fun _ => zbx _
section
variable {T : List Tok} {S : List zq} {D : List zo}
theorem zlE {R : PS → List (List BA) → Option (Except (Value × PS) (zb × PS))} {Bf : List (List BA) → Ps zb} (hf : ∀ l, Sf (Bf l)) {lv : List BA} {ls : List (List BA)} (hv : lv.length ≤ 1000) (hl : ls.length ≤ 1000) (hR : ∀ l r, l.length ≤ 1000 → (∀ x ∈ l, x.length ≤ 1000) → Suf T r → R (mkP T S D r) l = cv T S D (Bf l r)) (hx : ∀ x ∈ ls, x.length ≤ 1000) :
  ∀ (n : Nat) (x : zb) (r : List Tok), Suf T r → zgQ R (lv :: ls) n T ((T.length - r.length : Nat) : Int) S D x.Kind x.Num x.Name x.Field x.Op x.Kids = cv T S D (bL Bf lv ls n x r)
 | 0, x, r, hs => rfl
 | n + 1, x, r, hs => by
  show zhL _ R (lv :: ls) T _ S D x.Kind x.Num x.Name x.Field x.Op x.Kids = _
  unfold zhL bL
  rw [show zv (lv :: ls) 0 = some lv from rfl, Option.bind_some]
  refine L_S (C := cv T S D) (k := 4) (tx := lv) hs hv (fun _ => ?_) (by cases x; rfl)
  refine zbX hs (zbM _ _) (zdY hs (by simp)) fun t r2 hs2 => ?_
  have hc : zcV (lv :: ls) 1 ((lv :: ls).length : Int) = some ls := by
   rw [show (1 : Int) = ((1 : Nat) : Int) from rfl, zii (by simp) (Nat.le_refl _), List.take_length]
   rfl
  rw [hc, Option.bind_some]
  refine zbX hs2 (hf ls) (hR ls r2 hl hx hs2) fun y r3 hs3 => ?_
  have := zlE hf hv hl hR hx n ⟨7, 0, zs3, zs3, t.Text, [x, y]⟩ r3 hs3
  cases x
  cases y
  exact this
theorem P_G : ∀ (n : Nat) (r : List Tok), Suf T r → (z8 n).1 (mkP T S D r) = cv T S D ((sG n).1 r) ∧ (∀ l : List (List BA), l.length ≤ 1000 → (∀ x ∈ l, x.length ≤ 1000) → (z8 n).2.1 (mkP T S D r) l = cv T S D ((sG n).2.1 l r)) ∧ (z8 n).2.2.1 (mkP T S D r) = cv T S D ((sG n).2.2.1 r) ∧ (z8 n).2.2.2 (mkP T S D r) = cv T S D ((sG n).2.2.2 r)
 | 0, r, hs => ⟨rfl, fun _ _ _ => rfl, rfl, rfl⟩
 | n + 1, r, hs => by
  have h1 := fun r hs => (P_G n r hs).1
  have h2 := fun r hs => (P_G n r hs).2.1
  have h3 := fun r hs => (P_G n r hs).2.2.1
  have h4 := fun r hs => (P_G n r hs).2.2.2
  obtain ⟨f1, f2, f3, f4⟩ := zin n
  have eta : ∀ {p : Ps zb}, bd p (fun x => pu x) = p := fun {p} => by
   funext r
   unfold bd pu
   cases p r with
   | none => rfl
   | some v => cases v <;> rfl
  refine ⟨?_, fun l hl hx => ?_, ?_, ?_⟩
  ·show zhp (z8 n).1 (z8 n).2.1 (z8 n).2.2.1 (z8 n).2.2.2 (mkP T S D r) = _
   unfold zhp ziY
   rw [Option.bind_some]
   refine (zbX (f := fun x => pu x) hs (f2 lvls) (h2 r hs lvls (by decide) (by decide)) fun x r' _ => rfl).trans ?_
   rw [eta]
   rfl
  ·show zgY (z8 n).1 (z8 n).2.1 (z8 n).2.2.1 (z8 n).2.2.2 (mkP T S D r) l = _
   unfold zgY
   cases l with
   | nil =>
    rw [if_pos (show ((([] : List (List BA)).length : Int) == 0) = true from rfl)]
    refine (zbX (f := fun x => pu x) hs f3 (h3 r hs) fun x r' _ => rfl).trans ?_
    rw [eta]
    rfl
   | cons lv ls =>
    have hc : zcV (lv :: ls) 1 ((lv :: ls).length : Int) = some ls := by
     rw [show (1 : Int) = ((1 : Nat) : Int) from rfl, zii (by simp) (Nat.le_refl _), List.take_length]
     rfl
    rw [if_neg (by simp; omega), hc, Option.bind_some]
    refine zbX (f := fun x => bL (sG n).2.1 lv ls big x) hs (f2 ls) (h2 r hs ls (by simp at hl; omega) fun x hm => hx x (List.mem_cons_of_mem _ hm)) fun x r' hs' => ?_
    exact zlE f2 (hx lv (List.mem_cons_self ..)) (by simp at hl; omega) (fun l r hl hx hs => h2 r hs l hl hx) (fun x hm => hx x (List.mem_cons_of_mem _ hm)) big x r' hs'
  ·show zh6 (z8 n).1 (z8 n).2.1 (z8 n).2.2.1 (z8 n).2.2.2 (mkP T S D r) = cv T S D (uB (sG n).1 (sG n).2.2.1 (sG n).2.2.2 r)
   unfold zh6 uB
   refine L_S (C := cv T S D) hs (by simp) (fun _ => ?_) ?_
   ·refine zbX hs (zbM _ _) (zdY hs (by simp)) fun t r2 hs2 => ?_
    exact zbX hs2 f3 (h3 r2 hs2) fun x r3 hs3 => by cases x; rfl
   refine L_H (C := cv T S D) hs (by simp) (fun r2 hs2 => ?_) ?_
   ·refine zbX hs2 f1 (h1 r2 hs2) fun x r3 hs3 => ?_
    exact zfG hs3 (zba _) (zcD hs3 (by simp)) fun r4 hs4 => rfl
   refine L_S (C := cv T S D) hs (by simp) (fun _ => ?_) ?_
   ·exact zbX hs (zbM _ _) (zdY hs (by simp)) fun t r2 hs2 => rfl
   refine L_H (C := cv T S D) hs (by simp) (fun r2 hs2 => rfl) ?_
   refine L_H (C := cv T S D) hs (by simp) (fun r2 hs2 => rfl) ?_
   refine zbX hs zbF (zdl hs) fun nm r2 hs2 => ?_
   refine L_S (C := cv T S D) hs2 (by simp) (fun _ => ?_) ?_
   ·exact zbX hs2 f4 (h4 r2 hs2) fun x r3 hs3 => by cases x; rfl
   refine L_H (C := cv T S D) hs2 (by simp) (fun r3 hs3 => ?_) rfl
   exact zbX hs3 zbF (zdl hs3) fun x r4 hs4 => rfl
  ·show zgN (z8 n).1 (z8 n).2.1 (z8 n).2.2.1 (z8 n).2.2.2 (mkP T S D r) = cv T S D (iB (sG n).1 r)
   unfold zgN iB
   refine zfG hs (zba _) (zcD hs (by simp)) fun r2 hs2 => ?_
   refine zbX hs2 f1 (h1 r2 hs2) fun x r3 hs3 => ?_
   exact zfG hs3 (zba _) (zcD hs3 (by simp)) fun r4 hs4 => rfl
end
abbrev zbN : Ps zb := (sG big).1
abbrev ze3 : Ps zb := (sG big).2.2.2
theorem zd2 {T : List Tok} {S : List zq} {D : List zo} {r : List Tok} (hs : Suf T r) : zdi (mkP T S D r) = cv T S D (zbN r) := (P_G big r hs).1
theorem zsC {T : List Tok} {S : List zq} {D : List zo} {r : List Tok} (hs : Suf T r) : zkw (mkP T S D r) = cv T S D (ze3 r) := (P_G big r hs).2.2.2
end Go.Proofs.Ytnhboaaikehpoaa
