import Derived.Test.YtnhboaaikehpoaaP_12a
import Derived.KernelRfl
namespace Go.Proofs.Ytnhboaaikehpoaa
open Go.Ab Go.RowKit
set_option linter.unusedVariables false
set_option linter.unusedSimpArgs false
def Co {α : Type} (p : Ps α) : Prop := ∀ r x r', p r = some (.ok (x, r')) → r'.length < r.length
theorem Sf.le {α : Type} {p : Ps α} (h : Sf p) {r : List Tok} {v : Rs α} (hv : p r = some v) : (zel v).length ≤ r.length := by
 obtain ⟨c, hc⟩ := h r v hv
 rw [hc, List.length_append]
 omega
theorem zft (k : Int) (tx : List BA) : Co (tk k tx) := fun r x r' h => by
 unfold tk at h
 split at h
 ·cases h
 ·split at h
  ·injection h with h; injection h with h; injection h with _ h; subst h; simp
  ·cases h
theorem zc6 {α β : Type} {p : Ps α} {f : α → Ps β} (hp : Co p) (hf : ∀ x, Sf (f x)) : Co (bd p f) := fun r y r' h => by
 unfold bd at h
 split at h
 ·cases h
 ·cases h
 ·rename_i x r2 he
  have h1 := hp r x r2 he
  have h2 := (hf x).le h
  have h2 : r'.length ≤ r2.length := h2
  omega
theorem zln {α β : Type} {p : Ps α} {f : α → Ps β} (hp : Sf p) (hf : ∀ x, Co (f x)) : Co (bd p f) := fun r y r' h => by
 unfold bd at h
 split at h
 ·cases h
 ·cases h
 ·rename_i x r2 he
  have h1 := hp.le he
  have h1 : r2.length ≤ r.length := h1
  have h2 := hf x r2 y r' h
  omega
theorem ze6 {α : Type} {k : Int} {tx : List BA} {p q : Ps α} (hp : Sf p) (hq : Co q) : Co (ifH k tx p q) := fun r x r' h => by
 unfold ifH at h
 split at h
 ·rename_i hs
  cases r with
  | nil => cases hs
  | cons t r =>
   have := hp.le h
   have : r'.length ≤ r.length := this
   simp
   omega
 ·exact hq r x r' h
theorem zh0 {α : Type} : Co (fun _ => none : Ps α) := fun r x r' h => by cases h
def zdh (r : List Tok) : Bool := zz 1 [] r && zz 4 [⟨#[40]⟩] r.tail
def ifC {α : Type} (p q : Ps α) : Ps α := fun r => if zdh r = true then p r else q r
theorem ziU {α : Type} {p q : Ps α} (hp : Sf p) (hq : Sf q) : Sf (ifC p q) := fun r v h => by
 unfold ifC at h
 split at h
 ·exact hp r v h
 ·exact hq r v h
def aL : Nat → List zb → Ps (List zb)
 | 0, _ => fun _ => none
 | n + 1, l => ifH 4 [⟨#[44]⟩] (bd zbZ fun x => aL n (l ++ [x])) (bd (zbu [⟨#[41]⟩]) fun _ => pu l)
def zdL : Ps (List zb) := bd (zbu [⟨#[40]⟩]) fun _ => ifH 4 [⟨#[41]⟩] (pu []) (bd zbZ fun x => aL big [x])
theorem zbo : Sf zbZ := (zfj big).1
theorem zhX : Sf zd9 := (zfj big).2.2.2
theorem zmh : ∀ n l, Sf (aL n l)
 | 0, l => zdw
 | n + 1, l => zbS (zy zbo fun _ => zmh n _) (zy (zG _) fun _ => zbi _)
theorem zeb : Sf zdL := zy (zG _) fun _ => zbS (zbi _) (zy zbo fun _ => zmh _ _)
def er : Option (Except (Value × PS × zg) (PS × zg)) → Option (Except (Value × PS) (zg × PS))
 | none => none
 | some (.error x) => some (.error (x.1, x.2.1))
 | some (.ok c) => some (.ok (c.2, c.1))
section
variable {T : List Tok} {S : List zl} {D : List zi} {r : List Tok} {k : Int} {tx : List BA}
theorem zoo {α β γ : Type} {W : Option β → Option γ} {C : Option (Rs α) → Option γ} {p q : Ps α} (hs : Suf T r) (ht : tx.length ≤ 1000) {A B : Option β} (hA : W A = C (p r)) (hB : W B = C (q r)) :
  W ((zcR (mkP T S D r) k tx).bind fun c => if c = true then A else B) = C (ifS k tx p q r) := by
 rw [zeE hs ht, Option.bind_some]
 unfold ifS
 cases h : zz k tx r with
 | true => exact hA
 | false => exact hB
theorem zry {α β γ : Type} {W : Option β → Option γ} {C : Option (Rs α) → Option γ} {p q : Ps α} (hs : Suf T r) (ht : tx.length ≤ 1000) {A B : Option β} (hA : W A = C (p r)) (hB : W B = C (q r)) :
  W ((zcR (mkP T S D r) k tx).bind fun c => if (!c) = true then B else A) = C (ifS k tx p q r) := by
 rw [zeE hs ht, Option.bind_some]
 unfold ifS
 cases h : zz k tx r with
 | true => exact hA
 | false => exact hB
theorem zfN {α β γ : Type} {W : Option β → Option γ} {C : Option (Rs α) → Option γ} {p q : Ps α} (hs : Suf T r) (ht : tx.length ≤ 1000) {A B : Bool × PS → Option β} (hA : ∀ r', Suf T r' → W (A (true, mkP T S D r')) = C (p r')) (hB : W (B (false, mkP T S D r)) = C (q r)) :
  W ((zbK (mkP T S D r) k tx).bind fun c => if c.1 = true then A c else B c) = C (ifH k tx p q r) := by
 rw [zfD hs ht, Option.bind_some]
 unfold ifH
 cases h : zz k tx r with
 | true =>
  cases r with
  | nil => cases h
  | cons t r => exact hA r hs.tail
 | false => exact hB
theorem zoj (hs : Suf T r) : zfe (mkP T S D r) = some (zdh r) := by
 unfold zfe zdh
 rw [zeE hs (by simp), Option.bind_some]
 cases h : zz 1 [] r with
 | false => rfl
 | true =>
  cases r with
  | nil => cases h
  | cons t r =>
   rw [if_pos rfl]
   have e : zgN (⟨(mkP T S D (t :: r)).cursor.tokens, IntKind.i64.wrap ((mkP T S D (t :: r)).cursor.at_ + 1)⟩ : zbf) 4 [⟨#[40]⟩] = some (zz 4 [⟨#[40]⟩] r) := by
    have := zeE (S := S) (D := D) (k := 4) (tx := [⟨#[40]⟩]) hs.tail (by simp)
    unfold mkP at this ⊢
    dsimp only
    rw [zeO (S := S) (D := D) hs]
    exact this
   rw [e]
   rfl
theorem zlr {α β γ : Type} {W : Option β → Option γ} {C : Option (Rs α) → Option γ} {p q : Ps α} (hs : Suf T r) {A B : Option β} (hA : W A = C (p r)) (hB : W B = C (q r)) :
  W ((zfe (mkP T S D r)).bind fun c => if c = true then A else B) = C (ifC p q r) := by
 rw [zoj hs, Option.bind_some]
 unfold ifC
 cases h : zdh r with
 | true => exact hA
 | false => exact hB
theorem zc2 {α : Type} {p : Ps α} {f : α → Ps zg} (hs : Suf T r) (hp : Sf p) {X : Option (Except (Value × PS) (α × PS))} (hX : X = cv T S D (p r)) {J : zg} {G : α × PS → Option (Except (Value × PS × zg) (PS × zg))}
  (hG : ∀ x r', Suf T r' → er (G (x, mkP T S D r')) = cv T S D (f x r')) : er (zF X (fun x => some (.error (x.1, x.2, J))) G) = cv T S D (bd p f r) := by
 subst hX
 unfold bd
 cases h : p r with
 | none => rfl
 | some v =>
  cases v with
  | error e => rfl
  | ok c => exact hG c.1 c.2 (hs.of (hp r _ h))
theorem zfb {p : Ps Unit} {f : Unit → Ps zg} (hs : Suf T r) (hp : Sf p) {X : Option (Except (Value × PS) PS)} (hX : X = cu T S D (p r)) {J : zg} {G : PS → Option (Except (Value × PS × zg) (PS × zg))}
  (hG : ∀ r', Suf T r' → er (G (mkP T S D r')) = cv T S D (f () r')) : er (zF X (fun x => some (.error (x.1, x.2, J))) G) = cv T S D (bd p f r) := by
 subst hX
 unfold bd
 cases h : p r with
 | none => rfl
 | some v =>
  cases v with
  | error e => rfl
  | ok c => exact hG c.2 (hs.of (hp r _ h))
theorem znH {p : Ps zg} {f : zg → Ps zg} (hs : Suf T r) (hp : Sf p) {X : Option (Except (Value × PS × zg) (PS × zg))} (hX : er X = cv T S D (p r)) {G : PS × zg → Option (Except (Value × PS × zg) (PS × zg))}
  (hG : ∀ x r', Suf T r' → er (G (mkP T S D r', x)) = cv T S D (f x r')) : er (zF X (fun x => some (.error (x.1, x.2.1, x.2.2))) G) = cv T S D (bd p f r) := by
 unfold bd
 cases h : p r with
 | none =>
  rw [h] at hX
  cases X with
  | none => rfl
  | some v => cases v <;> cases hX
 | some v =>
  rw [h] at hX
  cases v with
  | error e =>
   cases X with
   | none => cases hX
   | some v =>
    cases v with
    | error x => exact hX
    | ok x => cases hX
  | ok c =>
   cases X with
   | none => cases hX
   | some v =>
    cases v with
    | error x => cases hX
    | ok x =>
     obtain ⟨x1, x2⟩ := x
     obtain ⟨c1, c2⟩ := c
     injection hX with hX
     injection hX with hX
     injection hX with e1 e2
     dsimp only at e1 e2
     subst e1; subst e2
     exact hG _ c2 (hs.of (hp r _ h))
theorem zq4 {p : Ps zg} {f : zg → Ps zg} (hs : Suf T r) (hp : Sf p) {X : Option (Except (Value × PS × zg) (PS × zg))} (hX : er X = cv T S D (p r)) {G : PS × zg → Option (Except (Value × PS) (zg × PS))}
  (hG : ∀ x r', Suf T r' → G (mkP T S D r', x) = cv T S D (f x r')) : zF X (fun x => some (.error (x.1, x.2.1))) G = cv T S D (bd p f r) := by
 unfold bd
 cases h : p r with
 | none =>
  rw [h] at hX
  cases X with
  | none => rfl
  | some v => cases v <;> cases hX
 | some v =>
  rw [h] at hX
  cases v with
  | error e =>
   cases X with
   | none => cases hX
   | some v =>
    cases v with
    | error x => exact hX
    | ok x => cases hX
  | ok c =>
   cases X with
   | none => cases hX
   | some v =>
    cases v with
    | error x => cases hX
    | ok x =>
     obtain ⟨x1, x2⟩ := x
     obtain ⟨c1, c2⟩ := c
     injection hX with hX
     injection hX with hX
     injection hX with e1 e2
     dsimp only at e1 e2
     subst e1; subst e2
     exact hG _ c2 (hs.of (hp r _ h))
theorem zjS {α β : Type} {p : Ps α} {f : α → Ps β} (hs : Suf T r) (hp : Sf p) {X : Option (Except (Value × PS) (α × PS))} (hX : X = cv T S D (p r)) {G : α × PS → Option (Except (Value × PS) (β × PS))}
  (hG : ∀ x r', Suf T r' → p r = some (.ok (x, r')) → G (x, mkP T S D r') = cv T S D (f x r')) : zF X (fun x => some (.error (x.1, x.2))) G = cv T S D (bd p f r) := by
 subst hX
 unfold bd
 cases h : p r with
 | none => rfl
 | some v =>
  cases v with
  | error e => rfl
  | ok c => exact hG c.1 c.2 (hs.of (hp r _ h)) h
theorem zlM : ∀ (n : Nat) (l : List zb) (r : List Tok), Suf T r → l.length + r.length ≤ 1000001 → zfF n T ((T.length - r.length : Nat) : Int) S D l = cv T S D (aL n l r)
 | 0, l, r, hs, _ => rfl
 | n + 1, l, r, hs, hl => by
  show zhL (zfF n) T _ S D l = _
  unfold zhL aL
  show ((zbK (mkP T S D r) 4 _).bind _) = _
  rw [zfD hs (by simp), Option.bind_some]
  unfold ifH
  cases h : zz 4 [⟨#[44]⟩] r with
  | true =>
   cases r with
   | nil => cases h
   | cons t r =>
    rw [if_pos rfl, if_pos rfl, if_pos rfl]
    refine zjS hs.tail zbo (zd7 hs.tail) fun x r3 hs3 he => ?_
    have := zbo.le he
    have : r3.length ≤ r.length := this
    simp only [List.length_cons] at hl
    rw [zbO (by omega), Option.bind_some]
    have := zlM n (l ++ [x]) r3 hs3 (by simp; omega)
    cases x
    exact this
  | false =>
   rw [if_neg (by simp), if_neg (by simp), if_neg (by simp)]
   exact zfk hs (zG _) (zcK hs (by simp)) fun r4 hs4 => rfl
theorem zl2 (hs : Suf T r) : zf7 (mkP T S D r) = cv T S D (zdL r) := by
 unfold zf7 zdL
 refine zfk hs (zG _) (zcK hs (by simp)) fun r2 hs2 => ?_
 refine L_H (C := cv T S D) hs2 (by simp) (fun r3 hs3 => rfl) ?_
 refine zjS hs2 zbo (zd7 hs2) fun x r3 hs3 he => ?_
 have := zb3 hs3
 have h2 := hs3.2
 have := zlM (S := S) (D := D) big [x] r3 hs3 (by simp; omega)
 cases x
 exact this
end
def zeq (q : zg) : Ps zg := bd zbQ fun n => bd (zdR true) fun ty => ifH 4 [⟨#[61]⟩] (bd zbZ fun x => pu ⟨1, q.Line, n, q.Field, q.Call, ty, [x], q.Body, q.Else⟩) (pu ⟨1, q.Line, n, q.Field, q.Call, ty, q.Kids, q.Body, q.Else⟩)
def zdZ (q : zg) : Ps zg := ifH 3 [⟨#[105, 110, 112, 117, 116]⟩] (bd (zbu [⟨#[40]⟩, ⟨#[41]⟩]) fun _ => pu ⟨9, q.Line, q.Name, q.Field, q.Call, q.Type_, q.Kids, q.Body, q.Else⟩)
 (ifC (bd zbQ fun c => bd zdL fun l => pu ⟨5, q.Line, q.Name, q.Field, c, q.Type_, l, q.Body, q.Else⟩) (bd zbZ fun x => pu ⟨2, q.Line, q.Name, q.Field, q.Call, q.Type_, [x], q.Body, q.Else⟩))
def zdK (q : zg) : Ps zg := ifC (bd zbQ fun c => bd zdL fun l => pu ⟨5, q.Line, q.Name, q.Field, c, q.Type_, l, q.Body, q.Else⟩)
 (bd zbQ fun n => ifS 4 [⟨#[91]⟩] (bd zd9 fun i => bd (zbu [⟨#[61]⟩]) fun _ => bd zbZ fun x => pu ⟨3, q.Line, n, q.Field, q.Call, q.Type_, [i, x], q.Body, q.Else⟩)
  (ifH 4 [⟨#[46]⟩] (bd zbQ fun f => bd (zbu [⟨#[61]⟩]) fun _ => bd zbZ fun x => pu ⟨4, q.Line, n, f, q.Call, q.Type_, [x], q.Body, q.Else⟩)
   (bd (zbu [⟨#[61]⟩]) fun _ => zdZ ⟨q.Kind, q.Line, n, q.Field, q.Call, q.Type_, q.Kids, q.Body, q.Else⟩)))
def k3 (s : zg) : Ps zg := bd (zbu [⟨#[59]⟩]) fun _ => pu s
def zdF (q : zg) : Ps zg := ifH 3 [⟨#[118, 97, 114]⟩] (bd (zeq q) k3)
 (ifH 3 [⟨#[112, 114, 105, 110, 116]⟩] (bd (zbu [⟨#[40]⟩]) fun _ => bd zbZ fun x => bd (zbu [⟨#[41]⟩]) fun _ => k3 ⟨8, q.Line, q.Name, q.Field, q.Call, q.Type_, [x], q.Body, q.Else⟩)
 (ifH 3 [⟨#[114, 101, 116, 117, 114, 110]⟩] (ifS 4 [⟨#[59]⟩] (k3 ⟨10, q.Line, q.Name, q.Field, q.Call, q.Type_, q.Kids, q.Body, q.Else⟩) (bd zbZ fun x => k3 ⟨10, q.Line, q.Name, q.Field, q.Call, q.Type_, [x], q.Body, q.Else⟩))
 (bd (zdK q) k3)))
theorem zeg (s : zg) : Sf (k3 s) := zy (zG _) fun _ => zbi _
theorem ziY (q : zg) : Sf (zeq q) := zy zbl fun _ => zy (zcQ _) fun _ => zbS (zy zbo fun _ => zbi _) (zbi _)
theorem zjH (q : zg) : Sf (zdZ q) := zbS (zy (zG _) fun _ => zbi _) (ziU (zy zbl fun _ => zy zeb fun _ => zbi _) (zy zbo fun _ => zbi _))
theorem ziL (q : zg) : Sf (zdK q) := ziU (zy zbl fun _ => zy zeb fun _ => zbi _) (zy zbl fun _ => zdt (zy zhX fun _ => zy (zG _) fun _ => zy zbo fun _ => zbi _) (zbS (zy zbl fun _ => zy (zG _) fun _ => zy zbo fun _ => zbi _) (zy (zG _) fun _ => zjH _)))
theorem zmw (q : zg) : Sf (zdF q) := zbS (zy (ziY _) zeg) (zbS (zy (zG _) fun _ => zy zbo fun _ => zy (zG _) fun _ => zeg _) (zbS (zdt (zeg _) (zy zbo fun _ => zeg _)) (zy (ziL _) zeg)))
theorem zov (s : zg) : Co (k3 s) := zc6 (zc6 (zft _ _) fun _ => zG _) fun _ => zbi _
theorem zqY (q : zg) : Co (zdF q) := ze6 (zy (ziY _) zeg) (ze6 (zy (zG _) fun _ => zy zbo fun _ => zy (zG _) fun _ => zeg _) (ze6 (zdt (zeg _) (zy zbo fun _ => zeg _)) (zln (ziL _) zov)))
section
variable {T : List Tok} {S : List zl} {D : List zi} {r : List Tok} {k : Int} {tx : List BA}
theorem zpr (hs : Suf T r) (q : zg) : er (zgI (mkP T S D r) q) = cv T S D (zeq q r) := by
 unfold zgI zeq
 refine zc2 hs zbl (zdx hs) fun n r2 hs2 => ?_
 refine zc2 hs2 (zcQ _) (zjh hs2 true) fun ty r3 hs3 => ?_
 refine zfN (W := er) (C := cv T S D) hs3 (by simp) (fun r4 hs4 => ?_) rfl
 exact zc2 hs4 zbo (zd7 hs4) fun x r5 hs5 => by cases x; rfl
theorem zp7 (hs : Suf T r) (q : zg) : er (zhE (mkP T S D r) q) = cv T S D (zdZ q r) := by
 unfold zhE zdZ
 refine zfN (W := er) (C := cv T S D) hs (by simp) (fun r4 hs4 => ?_) ?_
 ·exact zfb hs4 (zG _) (zcK hs4 (by simp)) fun r5 hs5 => rfl
 refine zlr (W := er) (C := cv T S D) hs ?_ ?_
 ·refine zc2 hs zbl (zdx hs) fun n r2 hs2 => ?_
  exact zc2 hs2 zeb (zl2 hs2) fun l r3 hs3 => rfl
 ·exact zc2 hs zbo (zd7 hs) fun x r5 hs5 => by cases x; rfl
theorem zpl (hs : Suf T r) (q : zg) : er (zg5 (mkP T S D r) q) = cv T S D (zdK q r) := by
 unfold zg5 zdK
 refine zlr (W := er) (C := cv T S D) hs ?_ ?_
 ·refine zc2 hs zbl (zdx hs) fun n r2 hs2 => ?_
  exact zc2 hs2 zeb (zl2 hs2) fun l r3 hs3 => rfl
 refine zc2 hs zbl (zdx hs) fun n r2 hs2 => ?_
 refine zoo (W := er) (C := cv T S D) hs2 (by simp) ?_ ?_
 ·refine zc2 hs2 zhX (zrJ hs2) fun i r3 hs3 => ?_
  refine zfb hs3 (zG _) (zcK hs3 (by simp)) fun r4 hs4 => ?_
  refine zc2 hs4 zbo (zd7 hs4) fun x r5 hs5 => ?_
  rw [zbO (by simp), Option.bind_some]
  cases x
  cases i
  rfl
 refine zfN (W := er) (C := cv T S D) hs2 (by simp) (fun r3 hs3 => ?_) ?_
 ·refine zc2 hs3 zbl (zdx hs3) fun i r3 hs3 => ?_
  refine zfb hs3 (zG _) (zcK hs3 (by simp)) fun r4 hs4 => ?_
  exact zc2 hs4 zbo (zd7 hs4) fun x r5 hs5 => by cases x; rfl
 refine zfb hs2 (zG _) (zcK hs2 (by simp)) fun r4 hs4 => ?_
 have e : ∀ X : Option (Except (Value × PS × zg) (PS × zg)), er (zF X (fun x => some (.error (x.1, x.2.1, x.2.2))) fun c => some (.ok (c.1, c.2))) = er X := fun X => by
  cases X with
  | none => rfl
  | some v => cases v <;> rfl
 dsimp only
 rw [e]
 exact zp7 hs4 _
theorem zgm (hs : Suf T r) (s : zg) : er (zei T ((T.length - r.length : Nat) : Int) S D s.Kind s.Line s.Name s.Field s.Call s.Type_.Kind s.Type_.N s.Type_.Name s.Kids s.Body s.Else) = cv T S D (k3 s r) := by
 unfold zei k3
 exact zfb hs (zG _) (zcK hs (by simp)) fun r5 hs5 => by cases s; rfl
theorem zrd (hs : Suf T r) (q : zg) : er (zg6 (mkP T S D r) q) = cv T S D (zdF q r) := by
 unfold zg6 zdF
 refine zfN (W := er) (C := cv T S D) hs (by simp) (fun r3 hs3 => ?_) ?_
 ·exact znH hs3 (ziY _) (zpr hs3 q) fun s r4 hs4 => zgm hs4 s
 refine zfN (W := er) (C := cv T S D) hs (by simp) (fun r3 hs3 => ?_) ?_
 ·refine zfb hs3 (zG _) (zcK hs3 (by simp)) fun r4 hs4 => ?_
  refine zc2 hs4 zbo (zd7 hs4) fun x r5 hs5 => ?_
  refine zfb hs5 (zG _) (zcK hs5 (by simp)) fun r6 hs6 => ?_
  have := zgm (S := S) (D := D) hs6 ⟨8, q.Line, q.Name, q.Field, q.Call, q.Type_, [x], q.Body, q.Else⟩
  cases x
  exact this
 refine zfN (W := er) (C := cv T S D) hs (by simp) (fun r3 hs3 => ?_) ?_
 ·refine zry (W := er) (C := cv T S D) hs3 (by simp) ?_ ?_
  ·exact zgm hs3 ⟨10, q.Line, q.Name, q.Field, q.Call, q.Type_, q.Kids, q.Body, q.Else⟩
  ·refine zc2 hs3 zbo (zd7 hs3) fun x r5 hs5 => ?_
   have := zgm (S := S) (D := D) hs5 ⟨10, q.Line, q.Name, q.Field, q.Call, q.Type_, [x], q.Body, q.Else⟩
   cases x
   exact this
 exact znH hs (ziL _) (zpl hs q) fun s r4 hs4 => zgm hs4 s
end
end Go.Proofs.Ytnhboaaikehpoaa
