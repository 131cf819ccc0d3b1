import Derived.Test.YtnhboaaikehpoaaP_12
import Derived.KernelRfl
namespace Go.Proofs.Ytnhboaaikehpoaa
open Go.Ab Go.RowKit
set_option linter.unusedVariables false
set_option linter.unusedSimpArgs false
def ifM {α : Type} (must : Bool) (k : Int) (tx : List BA) (p q : Ps α) : Ps α := fun r => if must = true then p r else ifS k tx p q r
theorem zo6 {α : Type} {m : Bool} {k : Int} {tx : List BA} {p q : Ps α} (hp : Sf p) (hq : Sf q) : Sf (ifM m k tx p q) := fun r v h => by
 unfold ifM at h
 split at h
 ·exact hp r v h
 ·exact zdo hp hq r v h
def zdv (must : Bool) : Ps zz :=
 ifH 3 [⟨#[105, 110, 116]⟩] (pu ⟨1, 0, ⟨#[]⟩⟩) (ifH 3 [⟨#[98, 111, 111, 108]⟩] (pu ⟨2, 0, ⟨#[]⟩⟩) (ifH 4 [⟨#[91]⟩] (bd (tk 2 []) fun t => bd (zbd [⟨#[93]⟩]) fun _ => bd (tk 3 [⟨#[105, 110, 116]⟩]) fun _ => pu ⟨3, t.Num, ⟨#[]⟩⟩)
  (ifM must 1 [] (bd zbB fun n => pu ⟨4, 0, n⟩) (pu ⟨0, 0, ⟨#[]⟩⟩))))
theorem zcO (m : Bool) : Sf (zdv m) :=
 zbG (z5 _) (zbG (z5 _) (zbG (zt (zbm _ _) fun _ => zt (zy _) fun _ => zt (zbm _ _) fun _ => z5 _) (zo6 (zt z9 fun _ => z5 _) (z5 _))))
section
variable {T : List Tok} {S : List zo} {D : List zi} {r : List Tok}
theorem zjf (hs : Suf T r) (m : Bool) : zfb (mkP T S D r) m = cv T S D (zdv m r) := by
 unfold zfb zdv
 refine L_H hs (by simp) (fun r' _ => rfl) ?_
 refine L_H hs (by simp) (fun r' _ => rfl) ?_
 refine L_H hs (by simp) (fun r' hs' => ?_) ?_
 ·refine zbP hs' (zbm _ _) (zdV hs' (by simp)) fun t r2 hs2 => ?_
  refine zfc hs2 (zy _) (zct hs2 (by simp)) fun r3 hs3 => ?_
  exact zbP hs3 (zbm _ _) (zdV hs3 (by simp)) fun _ r4 hs4 => rfl
 ·have hn : zx (zcL (mkP T S D r)) (fun x => some (.error (x.1, x.2))) (fun c207 => some (.ok ((⟨(4 : UInt8), 0, c207.1⟩ : zz), c207.2))) = cv T S D (bd zbB (fun n => pu ⟨4, 0, n⟩) r) := zbP hs z9 (zdl hs) fun _ _ _ => rfl
  dsimp only
  rw [hn, zeE hs (by simp)]
  unfold ifM ifS
  cases m with
  | true => rfl
  | false =>
   rw [if_neg (by simp), if_neg (by simp), Option.bind_some, Option.bind_some]
   cases zs 1 [] r <;> rfl
theorem zm3 (hs : Suf T r) : zeB (mkP T S D r) = some (match r with | [] => 0 | t :: _ => t.Line) := by
 unfold zeB mkP
 dsimp only
 cases r with
 | nil => rw [if_neg (by simp)]
 | cons t r =>
  have := zbM hs
  rw [if_pos (zbo (by simp only [List.length_cons] at *; omega)), zeA hs]
  rfl
end
def uB (rE rU rI : Ps za) : Ps za :=
 ifS 4 [⟨#[45]⟩, ⟨#[33]⟩] (bd (tk 4 []) fun t => bd rU fun x => pu ⟨6, 0, ⟨#[]⟩, ⟨#[]⟩, t.Text, [x]⟩)
 (ifH 4 [⟨#[40]⟩] (bd rE fun x => bd (zbd [⟨#[41]⟩]) fun _ => pu x)
 (ifS 2 [] (bd (tk 2 []) fun t => pu ⟨1, t.Num, ⟨#[]⟩, ⟨#[]⟩, ⟨#[]⟩, []⟩)
 (ifH 3 [⟨#[116, 114, 117, 101]⟩] (pu ⟨2, 1, ⟨#[]⟩, ⟨#[]⟩, ⟨#[]⟩, []⟩)
 (ifH 3 [⟨#[102, 97, 108, 115, 101]⟩] (pu ⟨2, 0, ⟨#[]⟩, ⟨#[]⟩, ⟨#[]⟩, []⟩)
 (bd zbB fun n => ifS 4 [⟨#[91]⟩] (bd rI fun x => pu ⟨4, 0, n, ⟨#[]⟩, ⟨#[]⟩, [x]⟩)
  (ifH 4 [⟨#[46]⟩] (bd zbB fun f => pu ⟨5, 0, n, f, ⟨#[]⟩, []⟩) (pu ⟨3, 0, n, ⟨#[]⟩, ⟨#[]⟩, []⟩)))))))
def iB (rE : Ps za) : Ps za := bd (zbd [⟨#[91]⟩]) fun _ => bd rE fun x => bd (zbd [⟨#[93]⟩]) fun _ => pu x
def bL (Bf : List (List BA) → Ps za) (lv : List BA) (ls : List (List BA)) : Nat → za → Ps za
 | 0, _ => fun _ => none
 | n + 1, x => ifS 4 lv (bd (tk 4 []) fun t => bd (Bf ls) fun y => bL Bf lv ls n ⟨7, 0, ⟨#[]⟩, ⟨#[]⟩, t.Text, [x, y]⟩) (pu x)
def bB (rU : Ps za) (Bf : List (List BA) → Ps za) : List (List BA) → Ps za
 | [] => rU
 | lv :: ls => bd (Bf ls) fun x => bL Bf lv ls big x
def lvls : List (List BA) := [[⟨#[124, 124]⟩], [⟨#[38, 38]⟩], [⟨#[61, 61]⟩, ⟨#[33, 61]⟩, ⟨#[60]⟩, ⟨#[60, 61]⟩, ⟨#[62]⟩, ⟨#[62, 61]⟩], [⟨#[43]⟩, ⟨#[45]⟩], [⟨#[42]⟩, ⟨#[47]⟩, ⟨#[37]⟩]]
def sG : Nat → Ps za × (List (List BA) → Ps za) × Ps za × Ps za
 | 0 => (fun _ => none, fun _ _ => none, fun _ => none, fun _ => none)
 | n + 1 => ((sG n).2.1 lvls, bB (sG n).2.2.1 (sG n).2.1, uB (sG n).1 (sG n).2.2.1 (sG n).2.2.2, iB (sG n).1)
theorem zj1 {Bf : List (List BA) → Ps za} (h : ∀ l, Sf (Bf l)) (lv : List BA) (ls : List (List BA)) : ∀ n x, Sf (bL Bf lv ls n x)
 | 0, _ => zdi
 | n + 1, x => zdo (zt (zbm _ _) fun _ => zt (h _) fun _ => zj1 h lv ls n _) (z5 _)
theorem zeY : ∀ n, Sf (sG n).1 ∧ (∀ l, Sf ((sG n).2.1 l)) ∧ Sf (sG n).2.2.1 ∧ Sf (sG n).2.2.2
 | 0 => ⟨zdi, fun _ => zdi, zdi, zdi⟩
 | n + 1 => by
  obtain ⟨h1, h2, h3, h4⟩ := zeY n
  refine ⟨h2 _, fun l => ?_, ?_, ?_⟩
  ·cases l with
   | nil => exact h3
   | cons lv ls => exact zt (h2 ls) fun x => zj1 h2 lv ls big x
  ·exact zdo (zt (zbm _ _) fun _ => zt h3 fun _ => z5 _) (zbG (zt h1 fun _ => zt (zy _) fun _ => z5 _) (zdo (zt (zbm _ _) fun _ => z5 _) (zbG (z5 _) (zbG (z5 _) (zt z9 fun _ => zdo (zt h4 fun _ => z5 _) (zbG (zt z9 fun _ => z5 _) (z5 _)))))))
  ·exact zt (zy _) fun _ => zt h1 fun _ => zt (zy _) fun _ => z5 _
section
variable {T : List Tok} {S : List zo} {D : List zi}
theorem zmr {R : PS → List (List BA) → Option (Except (Value × PS) (za × PS))} {Bf : List (List BA) → Ps za} (hf : ∀ l, Sf (Bf l)) {lv : List BA} {ls : List (List BA)} (hv : lv.length ≤ 1000) (hl : ls.length ≤ 1000) (hR : ∀ l r, l.length ≤ 1000 → (∀ x ∈ l, x.length ≤ 1000) → Suf T r → R (mkP T S D r) l = cv T S D (Bf l r)) (hx : ∀ x ∈ ls, x.length ≤ 1000) :
  ∀ (n : Nat) (x : za) (r : List Tok), Suf T r → zg8 R (lv :: ls) n T ((T.length - r.length : Nat) : Int) S D x.Kind x.Num x.Name x.Field x.Op x.Kids = cv T S D (bL Bf lv ls n x r)
 | 0, x, r, hs => rfl
 | n + 1, x, r, hs => by
  show zgZ _ R (lv :: ls) T _ S D x.Kind x.Num x.Name x.Field x.Op x.Kids = _
  unfold zgZ bL
  rw [show zI (lv :: ls) 0 = some lv from rfl, Option.bind_some]
  refine L_S (C := cv T S D) (k := 4) (tx := lv) hs hv (fun _ => ?_) (by cases x; rfl)
  refine zbP hs (zbm _ _) (zdV hs (by simp)) fun t r2 hs2 => ?_
  have hc : zcA (lv :: ls) 1 ((lv :: ls).length : Int) = some ls := by
   rw [show (1 : Int) = ((1 : Nat) : Int) from rfl, zij (by simp) (Nat.le_refl _), List.take_length]
   rfl
  rw [hc, Option.bind_some]
  refine zbP hs2 (hf ls) (hR ls r2 hl hx hs2) fun y r3 hs3 => ?_
  have := zmr hf hv hl hR hx n ⟨7, 0, ⟨#[]⟩, ⟨#[]⟩, t.Text, [x, y]⟩ r3 hs3
  cases x
  cases y
  exact this
theorem P_G : ∀ (n : Nat) (r : List Tok), Suf T r → (zM n).1 (mkP T S D r) = cv T S D ((sG n).1 r) ∧ (∀ l : List (List BA), l.length ≤ 1000 → (∀ x ∈ l, x.length ≤ 1000) → (zM n).2.1 (mkP T S D r) l = cv T S D ((sG n).2.1 l r)) ∧ (zM n).2.2.1 (mkP T S D r) = cv T S D ((sG n).2.2.1 r) ∧ (zM n).2.2.2 (mkP T S D r) = cv T S D ((sG n).2.2.2 r)
 | 0, r, hs => ⟨rfl, fun _ _ _ => rfl, rfl, rfl⟩
 | n + 1, r, hs => by
  have h1 := fun r hs => (P_G n r hs).1
  have h2 := fun r hs => (P_G n r hs).2.1
  have h3 := fun r hs => (P_G n r hs).2.2.1
  have h4 := fun r hs => (P_G n r hs).2.2.2
  obtain ⟨f1, f2, f3, f4⟩ := zeY n
  have eta : ∀ {p : Ps za}, bd p (fun x => pu x) = p := fun {p} => by
   funext r
   unfold bd pu
   cases p r with
   | none => rfl
   | some v => cases v <;> rfl
  refine ⟨?_, fun l hl hx => ?_, ?_, ?_⟩
  ·show zhe (zM n).1 (zM n).2.1 (zM n).2.2.1 (zM n).2.2.2 (mkP T S D r) = _
   unfold zhe zhw
   rw [Option.bind_some]
   refine (zbP (f := fun x => pu x) hs (f2 lvls) (h2 r hs lvls (by decide) (by decide)) fun x r' _ => rfl).trans ?_
   rw [eta]
   rfl
  ·show zgf (zM n).1 (zM n).2.1 (zM n).2.2.1 (zM n).2.2.2 (mkP T S D r) l = _
   unfold zgf
   cases l with
   | nil =>
    rw [if_pos (show ((([] : List (List BA)).length : Int) == 0) = true from rfl)]
    refine (zbP (f := fun x => pu x) hs f3 (h3 r hs) fun x r' _ => rfl).trans ?_
    rw [eta]
    rfl
   | cons lv ls =>
    have hc : zcA (lv :: ls) 1 ((lv :: ls).length : Int) = some ls := by
     rw [show (1 : Int) = ((1 : Nat) : Int) from rfl, zij (by simp) (Nat.le_refl _), List.take_length]
     rfl
    rw [if_neg (by simp; omega), hc, Option.bind_some]
    refine zbP (f := fun x => bL (sG n).2.1 lv ls big x) hs (f2 ls) (h2 r hs ls (by simp at hl; omega) fun x hm => hx x (List.mem_cons_of_mem _ hm)) fun x r' hs' => ?_
    exact zmr f2 (hx lv (List.mem_cons_self ..)) (by simp at hl; omega) (fun l r hl hx hs => h2 r hs l hl hx) (fun x hm => hx x (List.mem_cons_of_mem _ hm)) big x r' hs'
  ·show zg5 (zM n).1 (zM n).2.1 (zM n).2.2.1 (zM n).2.2.2 (mkP T S D r) = cv T S D (uB (sG n).1 (sG n).2.2.1 (sG n).2.2.2 r)
   unfold zg5 uB
   refine L_S (C := cv T S D) hs (by simp) (fun _ => ?_) ?_
   ·refine zbP hs (zbm _ _) (zdV hs (by simp)) fun t r2 hs2 => ?_
    exact zbP hs2 f3 (h3 r2 hs2) fun x r3 hs3 => by cases x; rfl
   refine L_H (C := cv T S D) hs (by simp) (fun r2 hs2 => ?_) ?_
   ·refine zbP hs2 f1 (h1 r2 hs2) fun x r3 hs3 => ?_
    exact zfc hs3 (zy _) (zct hs3 (by simp)) fun r4 hs4 => rfl
   refine L_S (C := cv T S D) hs (by simp) (fun _ => ?_) ?_
   ·exact zbP hs (zbm _ _) (zdV hs (by simp)) fun t r2 hs2 => rfl
   refine L_H (C := cv T S D) hs (by simp) (fun r2 hs2 => rfl) ?_
   refine L_H (C := cv T S D) hs (by simp) (fun r2 hs2 => rfl) ?_
   refine zbP hs z9 (zdl hs) fun nm r2 hs2 => ?_
   refine L_S (C := cv T S D) hs2 (by simp) (fun _ => ?_) ?_
   ·exact zbP hs2 f4 (h4 r2 hs2) fun x r3 hs3 => by cases x; rfl
   refine L_H (C := cv T S D) hs2 (by simp) (fun r3 hs3 => ?_) rfl
   exact zbP hs3 z9 (zdl hs3) fun x r4 hs4 => rfl
  ·show zha (zM n).1 (zM n).2.1 (zM n).2.2.1 (zM n).2.2.2 (mkP T S D r) = cv T S D (iB (sG n).1 r)
   unfold zha iB
   refine zfc hs (zy _) (zct hs (by simp)) fun r2 hs2 => ?_
   refine zbP hs2 f1 (h1 r2 hs2) fun x r3 hs3 => ?_
   exact zfc hs3 (zy _) (zct hs3 (by simp)) fun r4 hs4 => rfl
end
abbrev zbI : Ps za := (sG big).1
abbrev zd8 : Ps za := (sG big).2.2.2
theorem zd7 {T : List Tok} {S : List zo} {D : List zi} {r : List Tok} (hs : Suf T r) : zds (mkP T S D r) = cv T S D (zbI r) := (P_G big r hs).1
theorem znB {T : List Tok} {S : List zo} {D : List zi} {r : List Tok} (hs : Suf T r) : zi6 (mkP T S D r) = cv T S D (zd8 r) := (P_G big r hs).2.2.2
end Go.Proofs.Ytnhboaaikehpoaa
