import Derived.Test.YtnhboaaikehpoaaP_12a
import Derived.KernelRfl
namespace Go.Proofs.Ytnhboaaikehpoaa
open Go.Ab Go.RowKit
set_option linter.unusedVariables false
set_option linter.unusedSimpArgs false
def Co {α : Type} (p : Ps α) : Prop := ∀ r x r', p r = some (.ok (x, r')) → r'.length < r.length
theorem Sf.le {α : Type} {p : Ps α} (h : Sf p) {r : List Tok} {v : Rs α} (hv : p r = some v) : (zmn v).length ≤ r.length := by
 obtain ⟨c, hc⟩ := h r v hv
 rw [hc, List.length_append]
 omega
theorem zfr (k : Int) (tx : List BA) : Co (tk k tx) := fun r x r' h => by
 unfold tk at h
 split at h
 ·cases h
 ·split at h
  ·injection h with h; injection h with h; injection h with _ h; subst h; simp
  ·cases h
theorem zfC {α β : Type} {p : Ps α} {f : α → Ps β} (hp : Co p) (hf : ∀ x, Sf (f x)) : Co (bd p f) := fun r y r' h => by
 unfold bd at h
 split at h
 ·cases h
 ·cases h
 ·rename_i x r2 he
  have h1 := hp r x r2 he
  have h2 := (hf x).le h
  have h2 : r'.length ≤ r2.length := h2
  omega
theorem zol {α β : Type} {p : Ps α} {f : α → Ps β} (hp : Sf p) (hf : ∀ x, Co (f x)) : Co (bd p f) := fun r y r' h => by
 unfold bd at h
 split at h
 ·cases h
 ·cases h
 ·rename_i x r2 he
  have h1 := hp.le he
  have h1 : r2.length ≤ r.length := h1
  have h2 := hf x r2 y r' h
  omega
theorem zgH {α : Type} {k : Int} {tx : List BA} {p q : Ps α} (hp : Sf p) (hq : Co q) : Co (ifH k tx p q) := fun r x r' h => by
 unfold ifH at h
 split at h
 ·rename_i hs
  cases r with
  | nil => cases hs
  | cons t r =>
   have := hp.le h
   have : r'.length ≤ r.length := this
   simp
   omega
 ·exact hq r x r' h
theorem zsf {α : Type} : Co (fun _ => none : Ps α) := fun r x r' h => by cases h
def zf1 (r : List Tok) : Bool := zbg 1 [] r && zbg 4 [zs5] r.tail
def ifC {α : Type} (p q : Ps α) : Ps α := fun r => if zf1 r = true then p r else q r
theorem znQ {α : Type} {p q : Ps α} (hp : Sf p) (hq : Sf q) : Sf (ifC p q) := fun r v h => by
 unfold ifC at h
 split at h
 ·exact hp r v h
 ·exact hq r v h
def aL : Nat → List zb → Ps (List zb)
 | 0, _ => fun _ => none
 | n + 1, l => ifH 4 [ztt] (bd zbN fun x => aL n (l ++ [x])) (bd (zbO [zs4]) fun _ => pu l)
def zd0 : Ps (List zb) := bd (zbO [zs5]) fun _ => ifH 4 [zs4] (pu []) (bd zbN fun x => aL big [x])
theorem zbD : Sf zbN := (zin big).1
theorem zk8 : Sf ze3 := (zin big).2.2.2
theorem zmW : ∀ n l, Sf (aL n l)
 | 0, l => zdM
 | n + 1, l => zbW (zP zbD fun _ => zmW n _) (zP (zba _) fun _ => zbx _)
theorem zga : Sf zd0 := zP (zba _) fun _ => zbW (zbx _) (zP zbD fun _ => zmW _ _)
def er : Option (Except (Value × PS × zh) (PS × zh)) → Option (Except (Value × PS) (zh × PS))
 | none => none
 | some (.error x) => some (.error (x.1, x.2.1))
 | some (.ok c) => some (.ok (c.2, c.1))
section
variable {T : List Tok} {S : List zq} {D : List zo} {r : List Tok} {k : Int} {tx : List BA}
theorem zsU {α β γ : Type} {W : Option β → Option γ} {C : Option (Rs α) → Option γ} {p q : Ps α} (hs : Suf T r) (ht : tx.length ≤ 1000) {A B : Option β} (hA : W A = C (p r)) (hB : W B = C (q r)) :
  W ((zcF (mkP T S D r) k tx).bind fun c => if c = true then A else B) = C (ifS k tx p q r) := by
 rw [zeX hs ht, Option.bind_some]
 unfold ifS
 cases h : zbg k tx r with
 | true => exact hA
 | false => exact hB
theorem zrY {α β γ : Type} {W : Option β → Option γ} {C : Option (Rs α) → Option γ} {p q : Ps α} (hs : Suf T r) (ht : tx.length ≤ 1000) {A B : Option β} (hA : W A = C (p r)) (hB : W B = C (q r)) :
  W ((zcF (mkP T S D r) k tx).bind fun c => if (!c) = true then B else A) = C (ifS k tx p q r) := by
 rw [zeX hs ht, Option.bind_some]
 unfold ifS
 cases h : zbg k tx r with
 | true => exact hA
 | false => exact hB
theorem zfZ {α β γ : Type} {W : Option β → Option γ} {C : Option (Rs α) → Option γ} {p q : Ps α} (hs : Suf T r) (ht : tx.length ≤ 1000) {A B : Bool × PS → Option β} (hA : ∀ r', Suf T r' → W (A (true, mkP T S D r')) = C (p r')) (hB : W (B (false, mkP T S D r)) = C (q r)) :
  W ((zbI (mkP T S D r) k tx).bind fun c => if c.1 = true then A c else B c) = C (ifH k tx p q r) := by
 rw [zgm hs ht, Option.bind_some]
 unfold ifH
 cases h : zbg k tx r with
 | true =>
  cases r with
  | nil => cases h
  | cons t r => exact hA r hs.tail
 | false => exact hB
theorem zqL (hs : Suf T r) : zfk (mkP T S D r) = some (zf1 r) := by
 unfold zfk zf1
 rw [zeX hs (by simp), Option.bind_some]
 cases h : zbg 1 [] r with
 | false => rfl
 | true =>
  cases r with
  | nil => cases h
  | cons t r =>
   rw [if_pos rfl]
   have e : zhJ (⟨(mkP T S D (t :: r)).cursor.tokens, IntKind.i64.wrap ((mkP T S D (t :: r)).cursor.at_ + 1)⟩ : zbe) 4 [zs5] = some (zbg 4 [zs5] r) := by
    have := zeX (S := S) (D := D) (k := 4) (tx := [zs5]) hs.tail (by simp)
    unfold mkP at this ⊢
    dsimp only
    rw [zll (S := S) (D := D) hs]
    exact this
   rw [e]
   rfl
theorem zmi {α β γ : Type} {W : Option β → Option γ} {C : Option (Rs α) → Option γ} {p q : Ps α} (hs : Suf T r) {A B : Option β} (hA : W A = C (p r)) (hB : W B = C (q r)) :
  W ((zfk (mkP T S D r)).bind fun c => if c = true then A else B) = C (ifC p q r) := by
 rw [zqL hs, Option.bind_some]
 unfold ifC
 cases h : zf1 r with
 | true => exact hA
 | false => exact hB
theorem zcU {α : Type} {p : Ps α} {f : α → Ps zh} (hs : Suf T r) (hp : Sf p) {X : Option (Except (Value × PS) (α × PS))} (hX : X = cv T S D (p r)) {J : zh} {G : α × PS → Option (Except (Value × PS × zh) (PS × zh))}
  (hG : ∀ x r', Suf T r' → er (G (x, mkP T S D r')) = cv T S D (f x r')) : er (zO X (fun x => some (.error (x.1, x.2, J))) G) = cv T S D (bd p f r) := by
 subst hX
 unfold bd
 cases h : p r with
 | none => rfl
 | some v =>
  cases v with
  | error e => rfl
  | ok c => exact hG c.1 c.2 (hs.of (hp r _ h))
theorem zff {p : Ps Unit} {f : Unit → Ps zh} (hs : Suf T r) (hp : Sf p) {X : Option (Except (Value × PS) PS)} (hX : X = cu T S D (p r)) {J : zh} {G : PS → Option (Except (Value × PS × zh) (PS × zh))}
  (hG : ∀ r', Suf T r' → er (G (mkP T S D r')) = cv T S D (f () r')) : er (zO X (fun x => some (.error (x.1, x.2, J))) G) = cv T S D (bd p f r) := by
 subst hX
 unfold bd
 cases h : p r with
 | none => rfl
 | some v =>
  cases v with
  | error e => rfl
  | ok c => exact hG c.2 (hs.of (hp r _ h))
theorem znA {p : Ps zh} {f : zh → Ps zh} (hs : Suf T r) (hp : Sf p) {X : Option (Except (Value × PS × zh) (PS × zh))} (hX : er X = cv T S D (p r)) {G : PS × zh → Option (Except (Value × PS × zh) (PS × zh))}
  (hG : ∀ x r', Suf T r' → er (G (mkP T S D r', x)) = cv T S D (f x r')) : er (zO X (fun x => some (.error (x.1, x.2.1, x.2.2))) G) = cv T S D (bd p f r) := by
 unfold bd
 cases h : p r with
 | none =>
  rw [h] at hX
  cases X with
  | none => rfl
  | some v => cases v <;> cases hX
 | some v =>
  rw [h] at hX
  cases v with
  | error e =>
   cases X with
   | none => cases hX
   | some v =>
    cases v with
    | error x => exact hX
    | ok x => cases hX
  | ok c =>
   cases X with
   | none => cases hX
   | some v =>
    cases v with
    | error x => cases hX
    | ok x =>
     obtain ⟨x1, x2⟩ := x
     obtain ⟨c1, c2⟩ := c
     injection hX with hX
     injection hX with hX
     injection hX with e1 e2
     dsimp only at e1 e2
     subst e1; subst e2
     exact hG _ c2 (hs.of (hp r _ h))
theorem zoM {p : Ps zh} {f : zh → Ps zh} (hs : Suf T r) (hp : Sf p) {X : Option (Except (Value × PS × zh) (PS × zh))} (hX : er X = cv T S D (p r)) {G : PS × zh → Option (Except (Value × PS) (zh × PS))}
  (hG : ∀ x r', Suf T r' → G (mkP T S D r', x) = cv T S D (f x r')) : zO X (fun x => some (.error (x.1, x.2.1))) G = cv T S D (bd p f r) := by
 unfold bd
 cases h : p r with
 | none =>
  rw [h] at hX
  cases X with
  | none => rfl
  | some v => cases v <;> cases hX
 | some v =>
  rw [h] at hX
  cases v with
  | error e =>
   cases X with
   | none => cases hX
   | some v =>
    cases v with
    | error x => exact hX
    | ok x => cases hX
  | ok c =>
   cases X with
   | none => cases hX
   | some v =>
    cases v with
    | error x => cases hX
    | ok x =>
     obtain ⟨x1, x2⟩ := x
     obtain ⟨c1, c2⟩ := c
     injection hX with hX
     injection hX with hX
     injection hX with e1 e2
     dsimp only at e1 e2
     subst e1; subst e2
     exact hG _ c2 (hs.of (hp r _ h))
theorem zlm {α β : Type} {p : Ps α} {f : α → Ps β} (hs : Suf T r) (hp : Sf p) {X : Option (Except (Value × PS) (α × PS))} (hX : X = cv T S D (p r)) {G : α × PS → Option (Except (Value × PS) (β × PS))}
  (hG : ∀ x r', Suf T r' → p r = some (.ok (x, r')) → G (x, mkP T S D r') = cv T S D (f x r')) : zO X (fun x => some (.error (x.1, x.2))) G = cv T S D (bd p f r) := by
 subst hX
 unfold bd
 cases h : p r with
 | none => rfl
 | some v =>
  cases v with
  | error e => rfl
  | ok c => exact hG c.1 c.2 (hs.of (hp r _ h)) h
theorem zmA : ∀ (n : Nat) (l : List zb) (r : List Tok), Suf T r → l.length + r.length ≤ 1000001 → zf4 n T ((T.length - r.length : Nat) : Int) S D l = cv T S D (aL n l r)
 | 0, l, r, hs, _ => rfl
 | n + 1, l, r, hs, hl => by
  show ziw (zf4 n) T _ S D l = _
  unfold ziw aL
  show ((zbI (mkP T S D r) 4 _).bind _) = _
  rw [zgm hs (by simp), Option.bind_some]
  unfold ifH
  cases h : zbg 4 [ztt] r with
  | true =>
   cases r with
   | nil => cases h
   | cons t r =>
    rw [if_pos rfl, if_pos rfl, if_pos rfl]
    refine zlm hs.tail zbD (zd2 hs.tail) fun x r3 hs3 he => ?_
    have := zbD.le he
    have : r3.length ≤ r.length := this
    simp only [List.length_cons] at hl
    rw [zcT (by omega), Option.bind_some]
    have := zmA n (l ++ [x]) r3 hs3 (by simp; omega)
    cases x
    exact this
  | false =>
   rw [if_neg (by simp), if_neg (by simp), if_neg (by simp)]
   exact zfG hs (zba _) (zcD hs (by simp)) fun r4 hs4 => rfl
theorem zns (hs : Suf T r) : zgu (mkP T S D r) = cv T S D (zd0 r) := by
 unfold zgu zd0
 refine zfG hs (zba _) (zcD hs (by simp)) fun r2 hs2 => ?_
 refine L_H (C := cv T S D) hs2 (by simp) (fun r3 hs3 => rfl) ?_
 refine zlm hs2 zbD (zd2 hs2) fun x r3 hs3 he => ?_
 have := zeq hs3
 have h2 := hs3.2
 have := zmA (S := S) (D := D) big [x] r3 hs3 (by simp; omega)
 cases x
 exact this
end
def zgw (q : zh) : Ps zh := bd zcC fun n => bd (zcN true) fun ty => ifH 4 [zs8] (bd zbN fun x => pu ⟨1, q.Line, n, q.Field, q.Call, ty, [x], q.Body, q.Else⟩) (pu ⟨1, q.Line, n, q.Field, q.Call, ty, q.Kids, q.Body, q.Else⟩)
def zf8 (q : zh) : Ps zh := ifH 3 [ztd] (bd (zbO [zs5, zs4]) fun _ => pu ⟨9, q.Line, q.Name, q.Field, q.Call, q.Type_, q.Kids, q.Body, q.Else⟩)
 (ifC (bd zcC fun c => bd zd0 fun l => pu ⟨5, q.Line, q.Name, q.Field, c, q.Type_, l, q.Body, q.Else⟩) (bd zbN fun x => pu ⟨2, q.Line, q.Name, q.Field, q.Call, q.Type_, [x], q.Body, q.Else⟩))
def zgj (q : zh) : Ps zh := ifC (bd zcC fun c => bd zd0 fun l => pu ⟨5, q.Line, q.Name, q.Field, c, q.Type_, l, q.Body, q.Else⟩)
 (bd zcC fun n => ifS 4 [ztb] (bd ze3 fun i => bd (zbO [zs8]) fun _ => bd zbN fun x => pu ⟨3, q.Line, n, q.Field, q.Call, q.Type_, [i, x], q.Body, q.Else⟩)
  (ifH 4 [ztv] (bd zcC fun f => bd (zbO [zs8]) fun _ => bd zbN fun x => pu ⟨4, q.Line, n, f, q.Call, q.Type_, [x], q.Body, q.Else⟩)
   (bd (zbO [zs8]) fun _ => zf8 ⟨q.Kind, q.Line, n, q.Field, q.Call, q.Type_, q.Kids, q.Body, q.Else⟩)))
def k3 (s : zh) : Ps zh := bd (zbO [zta]) fun _ => pu s
def zeE (q : zh) : Ps zh := ifH 3 [ztn] (bd (zgw q) k3)
 (ifH 3 [ztg] (bd (zbO [zs5]) fun _ => bd zbN fun x => bd (zbO [zs4]) fun _ => k3 ⟨8, q.Line, q.Name, q.Field, q.Call, q.Type_, [x], q.Body, q.Else⟩)
 (ifH 3 [zs9] (ifS 4 [zta] (k3 ⟨10, q.Line, q.Name, q.Field, q.Call, q.Type_, q.Kids, q.Body, q.Else⟩) (bd zbN fun x => k3 ⟨10, q.Line, q.Name, q.Field, q.Call, q.Type_, [x], q.Body, q.Else⟩))
 (bd (zgj q) k3)))
theorem zei (s : zh) : Sf (k3 s) := zP (zba _) fun _ => zbx _
theorem ziR (q : zh) : Sf (zgw q) := zP zbF fun _ => zP (zdu _) fun _ => zbW (zP zbD fun _ => zbx _) (zbx _)
theorem zsI (q : zh) : Sf (zf8 q) := zbW (zP (zba _) fun _ => zbx _) (znQ (zP zbF fun _ => zP zga fun _ => zbx _) (zP zbD fun _ => zbx _))
theorem ziZ (q : zh) : Sf (zgj q) := znQ (zP zbF fun _ => zP zga fun _ => zbx _) (zP zbF fun _ => zeR (zP zk8 fun _ => zP (zba _) fun _ => zP zbD fun _ => zbx _) (zbW (zP zbF fun _ => zP (zba _) fun _ => zP zbD fun _ => zbx _) (zP (zba _) fun _ => zsI _)))
theorem znB (q : zh) : Sf (zeE q) := zbW (zP (ziR _) zei) (zbW (zP (zba _) fun _ => zP zbD fun _ => zP (zba _) fun _ => zei _) (zbW (zeR (zei _) (zP zbD fun _ => zei _)) (zP (ziZ _) zei)))
theorem zom (s : zh) : Co (k3 s) := zfC (zfC (zfr _ _) fun _ => zba _) fun _ => zbx _
theorem zpA (q : zh) : Co (zeE q) := zgH (zP (ziR _) zei) (zgH (zP (zba _) fun _ => zP zbD fun _ => zP (zba _) fun _ => zei _) (zgH (zeR (zei _) (zP zbD fun _ => zei _)) (zol (ziZ _) zom)))
section
variable {T : List Tok} {S : List zq} {D : List zo} {r : List Tok} {k : Int} {tx : List BA}
theorem zpJ (hs : Suf T r) (q : zh) : er (ziq (mkP T S D r) q) = cv T S D (zgw q r) := by
 unfold ziq zgw
 refine zcU hs zbF (zdl hs) fun n r2 hs2 => ?_
 refine zcU hs2 (zdu _) (zlp hs2 true) fun ty r3 hs3 => ?_
 refine zfZ (W := er) (C := cv T S D) hs3 (by simp) (fun r4 hs4 => ?_) rfl
 exact zcU hs4 zbD (zd2 hs4) fun x r5 hs5 => by cases x; rfl
theorem zp7 (hs : Suf T r) (q : zh) : er (zh3 (mkP T S D r) q) = cv T S D (zf8 q r) := by
 unfold zh3 zf8
 refine zfZ (W := er) (C := cv T S D) hs (by simp) (fun r4 hs4 => ?_) ?_
 ·exact zff hs4 (zba _) (zcD hs4 (by simp)) fun r5 hs5 => rfl
 refine zmi (W := er) (C := cv T S D) hs ?_ ?_
 ·refine zcU hs zbF (zdl hs) fun n r2 hs2 => ?_
  exact zcU hs2 zga (zns hs2) fun l r3 hs3 => rfl
 ·exact zcU hs zbD (zd2 hs) fun x r5 hs5 => by cases x; rfl
theorem zrL (hs : Suf T r) (q : zh) : er (zgU (mkP T S D r) q) = cv T S D (zgj q r) := by
 unfold zgU zgj
 refine zmi (W := er) (C := cv T S D) hs ?_ ?_
 ·refine zcU hs zbF (zdl hs) fun n r2 hs2 => ?_
  exact zcU hs2 zga (zns hs2) fun l r3 hs3 => rfl
 refine zcU hs zbF (zdl hs) fun n r2 hs2 => ?_
 refine zsU (W := er) (C := cv T S D) hs2 (by simp) ?_ ?_
 ·refine zcU hs2 zk8 (zsC hs2) fun i r3 hs3 => ?_
  refine zff hs3 (zba _) (zcD hs3 (by simp)) fun r4 hs4 => ?_
  refine zcU hs4 zbD (zd2 hs4) fun x r5 hs5 => ?_
  rw [zcT (by simp), Option.bind_some]
  cases x
  cases i
  rfl
 refine zfZ (W := er) (C := cv T S D) hs2 (by simp) (fun r3 hs3 => ?_) ?_
 ·refine zcU hs3 zbF (zdl hs3) fun i r3 hs3 => ?_
  refine zff hs3 (zba _) (zcD hs3 (by simp)) fun r4 hs4 => ?_
  exact zcU hs4 zbD (zd2 hs4) fun x r5 hs5 => by cases x; rfl
 refine zff hs2 (zba _) (zcD hs2 (by simp)) fun r4 hs4 => ?_
 have e : ∀ X : Option (Except (Value × PS × zh) (PS × zh)), er (zO X (fun x => some (.error (x.1, x.2.1, x.2.2))) fun c => some (.ok (c.1, c.2))) = er X := fun X => by
  cases X with
  | none => rfl
  | some v => cases v <;> rfl
 dsimp only
 rw [e]
 exact zp7 hs4 _
theorem zia (hs : Suf T r) (s : zh) : er (zey T ((T.length - r.length : Nat) : Int) S D s.Kind s.Line s.Name s.Field s.Call s.Type_.Kind s.Type_.N s.Type_.Name s.Kids s.Body s.Else) = cv T S D (k3 s r) := by
 unfold zey k3
 exact zff hs (zba _) (zcD hs (by simp)) fun r5 hs5 => by cases s; rfl
theorem zrB (hs : Suf T r) (q : zh) : er (zhZ (mkP T S D r) q) = cv T S D (zeE q r) := by
 unfold zhZ zeE
 refine zfZ (W := er) (C := cv T S D) hs (by simp) (fun r3 hs3 => ?_) ?_
 ·exact znA hs3 (ziR _) (zpJ hs3 q) fun s r4 hs4 => zia hs4 s
 refine zfZ (W := er) (C := cv T S D) hs (by simp) (fun r3 hs3 => ?_) ?_
 ·refine zff hs3 (zba _) (zcD hs3 (by simp)) fun r4 hs4 => ?_
  refine zcU hs4 zbD (zd2 hs4) fun x r5 hs5 => ?_
  refine zff hs5 (zba _) (zcD hs5 (by simp)) fun r6 hs6 => ?_
  have := zia (S := S) (D := D) hs6 ⟨8, q.Line, q.Name, q.Field, q.Call, q.Type_, [x], q.Body, q.Else⟩
  cases x
  exact this
 refine zfZ (W := er) (C := cv T S D) hs (by simp) (fun r3 hs3 => ?_) ?_
 ·refine zrY (W := er) (C := cv T S D) hs3 (by simp) ?_ ?_
  ·exact zia hs3 ⟨10, q.Line, q.Name, q.Field, q.Call, q.Type_, q.Kids, q.Body, q.Else⟩
  ·refine zcU hs3 zbD (zd2 hs3) fun x r5 hs5 => ?_
   have := zia (S := S) (D := D) hs5 ⟨10, q.Line, q.Name, q.Field, q.Call, q.Type_, [x], q.Body, q.Else⟩
   cases x
   exact this
 exact znA hs (ziZ _) (zrL hs q) fun s r4 hs4 => zia hs4 s
end
end Go.Proofs.Ytnhboaaikehpoaa
