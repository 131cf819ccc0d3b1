import Derived.Test.YtnhboaaikehpoaaP_12a
import Derived.KernelRfl
namespace Go.Proofs.Ytnhboaaikehpoaa
open Go.Ab Go.RowKit
set_option linter.unusedVariables false
set_option linter.unusedSimpArgs false
def Co {α : Type} (p : Ps α) : Prop := ∀ r x r', p r = some (.ok (x, r')) → r'.length < r.length
theorem Sf.le {α : Type} {p : Ps α} (h : Sf p) {r : List Tok} {v : Rs α} (hv : p r = some v) : (zlI v).length ≤ r.length := by
 obtain ⟨c, hc⟩ := h r v hv
 rw [hc, List.length_append]
 omega
theorem zfA (k : Int) (tx : List BA) : Co (tk k tx) := fun r x r' h => by
 unfold tk at h
 split at h
 ·cases h
 ·split at h
  ·injection h with h; injection h with h; injection h with _ h; subst h; simp
  ·cases h
theorem zfy {α β : Type} {p : Ps α} {f : α → Ps β} (hp : Co p) (hf : ∀ x, Sf (f x)) : Co (bd p f) := fun r y r' h => by
 unfold bd at h
 split at h
 ·cases h
 ·cases h
 ·rename_i x r2 he
  have h1 := hp r x r2 he
  have h2 := (hf x).le h
  have h2 : r'.length ≤ r2.length := h2
  omega
theorem zoN {α β : Type} {p : Ps α} {f : α → Ps β} (hp : Sf p) (hf : ∀ x, Co (f x)) : Co (bd p f) := fun r y r' h => by
 unfold bd at h
 split at h
 ·cases h
 ·cases h
 ·rename_i x r2 he
  have h1 := hp.le he
  have h1 : r2.length ≤ r.length := h1
  have h2 := hf x r2 y r' h
  omega
theorem zhG {α : Type} {k : Int} {tx : List BA} {p q : Ps α} (hp : Sf p) (hq : Co q) : Co (ifH k tx p q) := fun r x r' h => by
 unfold ifH at h
 split at h
 ·rename_i hs
  cases r with
  | nil => cases hs
  | cons t r =>
   have := hp.le h
   have : r'.length ≤ r.length := this
   simp
   omega
 ·exact hq r x r' h
theorem zpS {α : Type} : Co (fun _ => none : Ps α) := fun r x r' h => by cases h
def zeo (r : List Tok) : Bool := zI 1 [] r && zI 4 [⟨#[40]⟩] r.tail
def ifC {α : Type} (p q : Ps α) : Ps α := fun r => if zeo r = true then p r else q r
theorem zly {α : Type} {p q : Ps α} (hp : Sf p) (hq : Sf q) : Sf (ifC p q) := fun r v h => by
 unfold ifC at h
 split at h
 ·exact hp r v h
 ·exact hq r v h
def aL : Nat → List zb → Ps (List zb)
 | 0, _ => fun _ => none
 | n + 1, l => ifH 4 [⟨#[44]⟩] (bd zb1 fun x => aL n (l ++ [x])) (bd (zbs [⟨#[41]⟩]) fun _ => pu l)
def zdU : Ps (List zb) := bd (zbs [⟨#[40]⟩]) fun _ => ifH 4 [⟨#[41]⟩] (pu []) (bd zb1 fun x => aL big [x])
theorem zbo : Sf zb1 := (zfS big).1
theorem zjL : Sf zeb := (zfS big).2.2.2
theorem zlG : ∀ n l, Sf (aL n l)
 | 0, l => zdt
 | n + 1, l => zbX (zH zbo fun _ => zlG n _) (zH (zJ _) fun _ => zbw _)
theorem zeC : Sf zdU := zH (zJ _) fun _ => zbX (zbw _) (zH zbo fun _ => zlG _ _)
def er : Option (Except (Value × PS × zh) (PS × zh)) → Option (Except (Value × PS) (zh × PS))
 | none => none
 | some (.error x) => some (.error (x.1, x.2.1))
 | some (.ok c) => some (.ok (c.2, c.1))
section
variable {T : List Tok} {S : List zw} {D : List zp} {r : List Tok} {k : Int} {tx : List BA}
theorem zoc {α β γ : Type} {W : Option β → Option γ} {C : Option (Rs α) → Option γ} {p q : Ps α} (hs : Suf T r) (ht : tx.length ≤ 1000) {A B : Option β} (hA : W A = C (p r)) (hB : W B = C (q r)) :
  W ((zcM (mkP T S D r) k tx).bind fun c => if c = true then A else B) = C (ifS k tx p q r) := by
 rw [zeP hs ht, Option.bind_some]
 unfold ifS
 cases h : zI k tx r with
 | true => exact hA
 | false => exact hB
theorem zqq {α β γ : Type} {W : Option β → Option γ} {C : Option (Rs α) → Option γ} {p q : Ps α} (hs : Suf T r) (ht : tx.length ≤ 1000) {A B : Option β} (hA : W A = C (p r)) (hB : W B = C (q r)) :
  W ((zcM (mkP T S D r) k tx).bind fun c => if (!c) = true then B else A) = C (ifS k tx p q r) := by
 rw [zeP hs ht, Option.bind_some]
 unfold ifS
 cases h : zI k tx r with
 | true => exact hA
 | false => exact hB
theorem zfD {α β γ : Type} {W : Option β → Option γ} {C : Option (Rs α) → Option γ} {p q : Ps α} (hs : Suf T r) (ht : tx.length ≤ 1000) {A B : Bool × PS → Option β} (hA : ∀ r', Suf T r' → W (A (true, mkP T S D r')) = C (p r')) (hB : W (B (false, mkP T S D r)) = C (q r)) :
  W ((zbI (mkP T S D r) k tx).bind fun c => if c.1 = true then A c else B c) = C (ifH k tx p q r) := by
 rw [zgd hs ht, Option.bind_some]
 unfold ifH
 cases h : zI k tx r with
 | true =>
  cases r with
  | nil => cases h
  | cons t r => exact hA r hs.tail
 | false => exact hB
theorem zpE (hs : Suf T r) : zeS (mkP T S D r) = some (zeo r) := by
 unfold zeS zeo
 rw [zeP hs (by simp), Option.bind_some]
 cases h : zI 1 [] r with
 | false => rfl
 | true =>
  cases r with
  | nil => cases h
  | cons t r =>
   rw [if_pos rfl]
   have e : zg7 (⟨(mkP T S D (t :: r)).cursor.tokens, IntKind.i64.wrap ((mkP T S D (t :: r)).cursor.at_ + 1)⟩ : zbc) 4 [⟨#[40]⟩] = some (zI 4 [⟨#[40]⟩] r) := by
    have := zeP (S := S) (D := D) (k := 4) (tx := [⟨#[40]⟩]) hs.tail (by simp)
    unfold mkP at this ⊢
    dsimp only
    rw [zeL (S := S) (D := D) hs]
    exact this
   rw [e]
   rfl
theorem zmx {α β γ : Type} {W : Option β → Option γ} {C : Option (Rs α) → Option γ} {p q : Ps α} (hs : Suf T r) {A B : Option β} (hA : W A = C (p r)) (hB : W B = C (q r)) :
  W ((zeS (mkP T S D r)).bind fun c => if c = true then A else B) = C (ifC p q r) := by
 rw [zpE hs, Option.bind_some]
 unfold ifC
 cases h : zeo r with
 | true => exact hA
 | false => exact hB
theorem zcW {α : Type} {p : Ps α} {f : α → Ps zh} (hs : Suf T r) (hp : Sf p) {X : Option (Except (Value × PS) (α × PS))} (hX : X = cv T S D (p r)) {J : zh} {G : α × PS → Option (Except (Value × PS × zh) (PS × zh))}
  (hG : ∀ x r', Suf T r' → er (G (x, mkP T S D r')) = cv T S D (f x r')) : er (zF X (fun x => some (.error (x.1, x.2, J))) G) = cv T S D (bd p f r) := by
 subst hX
 unfold bd
 cases h : p r with
 | none => rfl
 | some v =>
  cases v with
  | error e => rfl
  | ok c => exact hG c.1 c.2 (hs.of (hp r _ h))
theorem zfd {p : Ps Unit} {f : Unit → Ps zh} (hs : Suf T r) (hp : Sf p) {X : Option (Except (Value × PS) PS)} (hX : X = cu T S D (p r)) {J : zh} {G : PS → Option (Except (Value × PS × zh) (PS × zh))}
  (hG : ∀ r', Suf T r' → er (G (mkP T S D r')) = cv T S D (f () r')) : er (zF X (fun x => some (.error (x.1, x.2, J))) G) = cv T S D (bd p f r) := by
 subst hX
 unfold bd
 cases h : p r with
 | none => rfl
 | some v =>
  cases v with
  | error e => rfl
  | ok c => exact hG c.2 (hs.of (hp r _ h))
theorem zlY {p : Ps zh} {f : zh → Ps zh} (hs : Suf T r) (hp : Sf p) {X : Option (Except (Value × PS × zh) (PS × zh))} (hX : er X = cv T S D (p r)) {G : PS × zh → Option (Except (Value × PS × zh) (PS × zh))}
  (hG : ∀ x r', Suf T r' → er (G (mkP T S D r', x)) = cv T S D (f x r')) : er (zF X (fun x => some (.error (x.1, x.2.1, x.2.2))) G) = cv T S D (bd p f r) := by
 unfold bd
 cases h : p r with
 | none =>
  rw [h] at hX
  cases X with
  | none => rfl
  | some v => cases v <;> cases hX
 | some v =>
  rw [h] at hX
  cases v with
  | error e =>
   cases X with
   | none => cases hX
   | some v =>
    cases v with
    | error x => exact hX
    | ok x => cases hX
  | ok c =>
   cases X with
   | none => cases hX
   | some v =>
    cases v with
    | error x => cases hX
    | ok x =>
     obtain ⟨x1, x2⟩ := x
     obtain ⟨c1, c2⟩ := c
     injection hX with hX
     injection hX with hX
     injection hX with e1 e2
     dsimp only at e1 e2
     subst e1; subst e2
     exact hG _ c2 (hs.of (hp r _ h))
theorem zpa {p : Ps zh} {f : zh → Ps zh} (hs : Suf T r) (hp : Sf p) {X : Option (Except (Value × PS × zh) (PS × zh))} (hX : er X = cv T S D (p r)) {G : PS × zh → Option (Except (Value × PS) (zh × PS))}
  (hG : ∀ x r', Suf T r' → G (mkP T S D r', x) = cv T S D (f x r')) : zF X (fun x => some (.error (x.1, x.2.1))) G = cv T S D (bd p f r) := by
 unfold bd
 cases h : p r with
 | none =>
  rw [h] at hX
  cases X with
  | none => rfl
  | some v => cases v <;> cases hX
 | some v =>
  rw [h] at hX
  cases v with
  | error e =>
   cases X with
   | none => cases hX
   | some v =>
    cases v with
    | error x => exact hX
    | ok x => cases hX
  | ok c =>
   cases X with
   | none => cases hX
   | some v =>
    cases v with
    | error x => cases hX
    | ok x =>
     obtain ⟨x1, x2⟩ := x
     obtain ⟨c1, c2⟩ := c
     injection hX with hX
     injection hX with hX
     injection hX with e1 e2
     dsimp only at e1 e2
     subst e1; subst e2
     exact hG _ c2 (hs.of (hp r _ h))
theorem zjf {α β : Type} {p : Ps α} {f : α → Ps β} (hs : Suf T r) (hp : Sf p) {X : Option (Except (Value × PS) (α × PS))} (hX : X = cv T S D (p r)) {G : α × PS → Option (Except (Value × PS) (β × PS))}
  (hG : ∀ x r', Suf T r' → p r = some (.ok (x, r')) → G (x, mkP T S D r') = cv T S D (f x r')) : zF X (fun x => some (.error (x.1, x.2))) G = cv T S D (bd p f r) := by
 subst hX
 unfold bd
 cases h : p r with
 | none => rfl
 | some v =>
  cases v with
  | error e => rfl
  | ok c => exact hG c.1 c.2 (hs.of (hp r _ h)) h
theorem zkT : ∀ (n : Nat) (l : List zb) (r : List Tok), Suf T r → l.length + r.length ≤ 1000001 → zf0 n T ((T.length - r.length : Nat) : Int) S D l = cv T S D (aL n l r)
 | 0, l, r, hs, _ => rfl
 | n + 1, l, r, hs, hl => by
  show zgM (zf0 n) T _ S D l = _
  unfold zgM aL
  show ((zbI (mkP T S D r) 4 _).bind _) = _
  rw [zgd hs (by simp), Option.bind_some]
  unfold ifH
  cases h : zI 4 [⟨#[44]⟩] r with
  | true =>
   cases r with
   | nil => cases h
   | cons t r =>
    rw [if_pos rfl, if_pos rfl, if_pos rfl]
    refine zjf hs.tail zbo (zdP hs.tail) fun x r3 hs3 he => ?_
    have := zbo.le he
    have : r3.length ≤ r.length := this
    simp only [List.length_cons] at hl
    rw [zbV (by omega), Option.bind_some]
    have := zkT n (l ++ [x]) r3 hs3 (by simp; omega)
    cases x
    exact this
  | false =>
   rw [if_neg (by simp), if_neg (by simp), if_neg (by simp)]
   exact zfv hs (zJ _) (zcI hs (by simp)) fun r4 hs4 => rfl
theorem zlC (hs : Suf T r) : zf6 (mkP T S D r) = cv T S D (zdU r) := by
 unfold zf6 zdU
 refine zfv hs (zJ _) (zcI hs (by simp)) fun r2 hs2 => ?_
 refine L_H (C := cv T S D) hs2 (by simp) (fun r3 hs3 => rfl) ?_
 refine zjf hs2 zbo (zdP hs2) fun x r3 hs3 he => ?_
 have := zbT hs3
 have h2 := hs3.2
 have := zkT (S := S) (D := D) big [x] r3 hs3 (by simp; omega)
 cases x
 exact this
end
def zeM (q : zh) : Ps zh := bd zbR fun n => bd (zdM true) fun ty => ifH 4 [⟨#[61]⟩] (bd zb1 fun x => pu ⟨1, q.Line, n, q.Field, q.Call, ty, [x], q.Body, q.Else⟩) (pu ⟨1, q.Line, n, q.Field, q.Call, ty, q.Kids, q.Body, q.Else⟩)
def zek (q : zh) : Ps zh := ifH 3 [⟨#[105, 110, 112, 117, 116]⟩] (bd (zbs [⟨#[40]⟩, ⟨#[41]⟩]) fun _ => pu ⟨9, q.Line, q.Name, q.Field, q.Call, q.Type_, q.Kids, q.Body, q.Else⟩)
 (ifC (bd zbR fun c => bd zdU fun l => pu ⟨5, q.Line, q.Name, q.Field, c, q.Type_, l, q.Body, q.Else⟩) (bd zb1 fun x => pu ⟨2, q.Line, q.Name, q.Field, q.Call, q.Type_, [x], q.Body, q.Else⟩))
def zdY (q : zh) : Ps zh := ifC (bd zbR fun c => bd zdU fun l => pu ⟨5, q.Line, q.Name, q.Field, c, q.Type_, l, q.Body, q.Else⟩)
 (bd zbR fun n => ifS 4 [⟨#[91]⟩] (bd zeb fun i => bd (zbs [⟨#[61]⟩]) fun _ => bd zb1 fun x => pu ⟨3, q.Line, n, q.Field, q.Call, q.Type_, [i, x], q.Body, q.Else⟩)
  (ifH 4 [⟨#[46]⟩] (bd zbR fun f => bd (zbs [⟨#[61]⟩]) fun _ => bd zb1 fun x => pu ⟨4, q.Line, n, f, q.Call, q.Type_, [x], q.Body, q.Else⟩)
   (bd (zbs [⟨#[61]⟩]) fun _ => zek ⟨q.Kind, q.Line, n, q.Field, q.Call, q.Type_, q.Kids, q.Body, q.Else⟩)))
def k3 (s : zh) : Ps zh := bd (zbs [⟨#[59]⟩]) fun _ => pu s
def zep (q : zh) : Ps zh := ifH 3 [⟨#[118, 97, 114]⟩] (bd (zeM q) k3)
 (ifH 3 [⟨#[112, 114, 105, 110, 116]⟩] (bd (zbs [⟨#[40]⟩]) fun _ => bd zb1 fun x => bd (zbs [⟨#[41]⟩]) fun _ => k3 ⟨8, q.Line, q.Name, q.Field, q.Call, q.Type_, [x], q.Body, q.Else⟩)
 (ifH 3 [⟨#[114, 101, 116, 117, 114, 110]⟩] (ifS 4 [⟨#[59]⟩] (k3 ⟨10, q.Line, q.Name, q.Field, q.Call, q.Type_, q.Kids, q.Body, q.Else⟩) (bd zb1 fun x => k3 ⟨10, q.Line, q.Name, q.Field, q.Call, q.Type_, [x], q.Body, q.Else⟩))
 (bd (zdY q) k3)))
theorem zd5 (s : zh) : Sf (k3 s) := zH (zJ _) fun _ => zbw _
theorem zhX (q : zh) : Sf (zeM q) := zH zbm fun _ => zH (zcJ _) fun _ => zbX (zH zbo fun _ => zbw _) (zbw _)
theorem zmd (q : zh) : Sf (zek q) := zbX (zH (zJ _) fun _ => zbw _) (zly (zH zbm fun _ => zH zeC fun _ => zbw _) (zH zbo fun _ => zbw _))
theorem zil (q : zh) : Sf (zdY q) := zly (zH zbm fun _ => zH zeC fun _ => zbw _) (zH zbm fun _ => zeK (zH zjL fun _ => zH (zJ _) fun _ => zH zbo fun _ => zbw _) (zbX (zH zbm fun _ => zH (zJ _) fun _ => zH zbo fun _ => zbw _) (zH (zJ _) fun _ => zmd _)))
theorem zmE (q : zh) : Sf (zep q) := zbX (zH (zhX _) zd5) (zbX (zH (zJ _) fun _ => zH zbo fun _ => zH (zJ _) fun _ => zd5 _) (zbX (zeK (zd5 _) (zH zbo fun _ => zd5 _)) (zH (zil _) zd5)))
theorem zo0 (s : zh) : Co (k3 s) := zfy (zfy (zfA _ _) fun _ => zJ _) fun _ => zbw _
theorem zpy (q : zh) : Co (zep q) := zhG (zH (zhX _) zd5) (zhG (zH (zJ _) fun _ => zH zbo fun _ => zH (zJ _) fun _ => zd5 _) (zhG (zeK (zd5 _) (zH zbo fun _ => zd5 _)) (zoN (zil _) zo0)))
section
variable {T : List Tok} {S : List zw} {D : List zp} {r : List Tok} {k : Int} {tx : List BA}
theorem zqp (hs : Suf T r) (q : zh) : er (zhE (mkP T S D r) q) = cv T S D (zeM q r) := by
 unfold zhE zeM
 refine zcW hs zbm (zdj hs) fun n r2 hs2 => ?_
 refine zcW hs2 (zcJ _) (zkI hs2 true) fun ty r3 hs3 => ?_
 refine zfD (W := er) (C := cv T S D) hs3 (by simp) (fun r4 hs4 => ?_) rfl
 exact zcW hs4 zbo (zdP hs4) fun x r5 hs5 => by cases x; rfl
theorem zqM (hs : Suf T r) (q : zh) : er (zhK (mkP T S D r) q) = cv T S D (zek q r) := by
 unfold zhK zek
 refine zfD (W := er) (C := cv T S D) hs (by simp) (fun r4 hs4 => ?_) ?_
 ·exact zfd hs4 (zJ _) (zcI hs4 (by simp)) fun r5 hs5 => rfl
 refine zmx (W := er) (C := cv T S D) hs ?_ ?_
 ·refine zcW hs zbm (zdj hs) fun n r2 hs2 => ?_
  exact zcW hs2 zeC (zlC hs2) fun l r3 hs3 => rfl
 ·exact zcW hs zbo (zdP hs) fun x r5 hs5 => by cases x; rfl
theorem zn4 (hs : Suf T r) (q : zh) : er (zgD (mkP T S D r) q) = cv T S D (zdY q r) := by
 unfold zgD zdY
 refine zmx (W := er) (C := cv T S D) hs ?_ ?_
 ·refine zcW hs zbm (zdj hs) fun n r2 hs2 => ?_
  exact zcW hs2 zeC (zlC hs2) fun l r3 hs3 => rfl
 refine zcW hs zbm (zdj hs) fun n r2 hs2 => ?_
 refine zoc (W := er) (C := cv T S D) hs2 (by simp) ?_ ?_
 ·refine zcW hs2 zjL (zoo hs2) fun i r3 hs3 => ?_
  refine zfd hs3 (zJ _) (zcI hs3 (by simp)) fun r4 hs4 => ?_
  refine zcW hs4 zbo (zdP hs4) fun x r5 hs5 => ?_
  rw [zbV (by simp), Option.bind_some]
  cases x
  cases i
  rfl
 refine zfD (W := er) (C := cv T S D) hs2 (by simp) (fun r3 hs3 => ?_) ?_
 ·refine zcW hs3 zbm (zdj hs3) fun i r3 hs3 => ?_
  refine zfd hs3 (zJ _) (zcI hs3 (by simp)) fun r4 hs4 => ?_
  exact zcW hs4 zbo (zdP hs4) fun x r5 hs5 => by cases x; rfl
 refine zfd hs2 (zJ _) (zcI hs2 (by simp)) fun r4 hs4 => ?_
 have e : ∀ X : Option (Except (Value × PS × zh) (PS × zh)), er (zF X (fun x => some (.error (x.1, x.2.1, x.2.2))) fun c => some (.ok (c.1, c.2))) = er X := fun X => by
  cases X with
  | none => rfl
  | some v => cases v <;> rfl
 dsimp only
 rw [e]
 exact zqM hs4 _
theorem zg9 (hs : Suf T r) (s : zh) : er (zeg T ((T.length - r.length : Nat) : Int) S D s.Kind s.Line s.Name s.Field s.Call s.Type_.Kind s.Type_.N s.Type_.Name s.Kids s.Body s.Else) = cv T S D (k3 s r) := by
 unfold zeg k3
 exact zfd hs (zJ _) (zcI hs (by simp)) fun r5 hs5 => by cases s; rfl
theorem zpG (hs : Suf T r) (q : zh) : er (zhM (mkP T S D r) q) = cv T S D (zep q r) := by
 unfold zhM zep
 refine zfD (W := er) (C := cv T S D) hs (by simp) (fun r3 hs3 => ?_) ?_
 ·exact zlY hs3 (zhX _) (zqp hs3 q) fun s r4 hs4 => zg9 hs4 s
 refine zfD (W := er) (C := cv T S D) hs (by simp) (fun r3 hs3 => ?_) ?_
 ·refine zfd hs3 (zJ _) (zcI hs3 (by simp)) fun r4 hs4 => ?_
  refine zcW hs4 zbo (zdP hs4) fun x r5 hs5 => ?_
  refine zfd hs5 (zJ _) (zcI hs5 (by simp)) fun r6 hs6 => ?_
  have := zg9 (S := S) (D := D) hs6 ⟨8, q.Line, q.Name, q.Field, q.Call, q.Type_, [x], q.Body, q.Else⟩
  cases x
  exact this
 refine zfD (W := er) (C := cv T S D) hs (by simp) (fun r3 hs3 => ?_) ?_
 ·refine zqq (W := er) (C := cv T S D) hs3 (by simp) ?_ ?_
  ·exact zg9 hs3 ⟨10, q.Line, q.Name, q.Field, q.Call, q.Type_, q.Kids, q.Body, q.Else⟩
  ·refine zcW hs3 zbo (zdP hs3) fun x r5 hs5 => ?_
   have := zg9 (S := S) (D := D) hs5 ⟨10, q.Line, q.Name, q.Field, q.Call, q.Type_, [x], q.Body, q.Else⟩
   cases x
   exact this
 exact zlY hs (zil _) (zn4 hs q) fun s r4 hs4 => zg9 hs4 s
end
end Go.Proofs.Ytnhboaaikehpoaa
