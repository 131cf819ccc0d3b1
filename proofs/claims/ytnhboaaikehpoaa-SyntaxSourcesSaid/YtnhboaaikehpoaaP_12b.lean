import Derived.Test.YtnhboaaikehpoaaP_12a
import Derived.KernelRfl
namespace Go.Proofs.Ytnhboaaikehpoaa
open Go.Ab Go.RowKit
set_option linter.unusedVariables false
set_option linter.unusedSimpArgs false
def Co {α : Type} (p : Ps α) : Prop := ∀ r x r', p r = some (.ok (x, r')) → r'.length < r.length
theorem Sf.le {α : Type} {p : Ps α} (h : Sf p) {r : List Tok} {v : Rs α} (hv : p r = some v) : (zmn v).length ≤ r.length := by
 obtain ⟨c, hc⟩ := h r v hv
 rw [hc, List.length_append]
 omega
theorem ze9 (k : Int) (tx : List BA) : Co (tk k tx) := fun r x r' h => by
 unfold tk at h
 split at h
 ·cases h
 ·split at h
  ·injection h with h; injection h with h; injection h with _ h; subst h; simp
  ·cases h
theorem zeY {α β : Type} {p : Ps α} {f : α → Ps β} (hp : Co p) (hf : ∀ x, Sf (f x)) : Co (bd p f) := fun r y r' h => by
 unfold bd at h
 split at h
 ·cases h
 ·cases h
 ·rename_i x r2 he
  have h1 := hp r x r2 he
  have h2 := (hf x).le h
  have h2 : r'.length ≤ r2.length := h2
  omega
theorem zoh {α β : Type} {p : Ps α} {f : α → Ps β} (hp : Sf p) (hf : ∀ x, Co (f x)) : Co (bd p f) := fun r y r' h => by
 unfold bd at h
 split at h
 ·cases h
 ·cases h
 ·rename_i x r2 he
  have h1 := hp.le he
  have h1 : r2.length ≤ r.length := h1
  have h2 := hf x r2 y r' h
  omega
theorem zhq {α : Type} {k : Int} {tx : List BA} {p q : Ps α} (hp : Sf p) (hq : Co q) : Co (ifH k tx p q) := fun r x r' h => by
 unfold ifH at h
 split at h
 ·rename_i hs
  cases r with
  | nil => cases hs
  | cons t r =>
   have := hp.le h
   have : r'.length ≤ r.length := this
   simp
   omega
 ·exact hq r x r' h
theorem zor {α : Type} : Co (fun _ => none : Ps α) := fun r x r' h => by cases h
def zed (r : List Tok) : Bool := zI 1 [] r && zI 4 [⟨#[40]⟩] r.tail
def ifC {α : Type} (p q : Ps α) : Ps α := fun r => if zed r = true then p r else q r
theorem znk {α : Type} {p q : Ps α} (hp : Sf p) (hq : Sf q) : Sf (ifC p q) := fun r v h => by
 unfold ifC at h
 split at h
 ·exact hp r v h
 ·exact hq r v h
def aL : Nat → List zb → Ps (List zb)
 | 0, _ => fun _ => none
 | n + 1, l => ifH 4 [⟨#[44]⟩] (bd zb5 fun x => aL n (l ++ [x])) (bd (zbs [⟨#[41]⟩]) fun _ => pu l)
def zd1 : Ps (List zb) := bd (zbs [⟨#[40]⟩]) fun _ => ifH 4 [⟨#[41]⟩] (pu []) (bd zb5 fun x => aL big [x])
theorem zbq : Sf zb5 := (zfO big).1
theorem zjw : Sf zeb := (zfO big).2.2.2
theorem zlY : ∀ n l, Sf (aL n l)
 | 0, l => zdy
 | n + 1, l => zbZ (zH zbq fun _ => zlY n _) (zH (zK _) fun _ => zbx _)
theorem zeH : Sf zd1 := zH (zK _) fun _ => zbZ (zbx _) (zH zbq fun _ => zlY _ _)
def er : Option (Except (Value × PS × zh) (PS × zh)) → Option (Except (Value × PS) (zh × PS))
 | none => none
 | some (.error x) => some (.error (x.1, x.2.1))
 | some (.ok c) => some (.ok (c.2, c.1))
section
variable {T : List Tok} {S : List zw} {D : List zo} {r : List Tok} {k : Int} {tx : List BA}
theorem zo6 {α β γ : Type} {W : Option β → Option γ} {C : Option (Rs α) → Option γ} {p q : Ps α} (hs : Suf T r) (ht : tx.length ≤ 1000) {A B : Option β} (hA : W A = C (p r)) (hB : W B = C (q r)) :
  W ((zcM (mkP T S D r) k tx).bind fun c => if c = true then A else B) = C (ifS k tx p q r) := by
 rw [zeK hs ht, Option.bind_some]
 unfold ifS
 cases h : zI k tx r with
 | true => exact hA
 | false => exact hB
theorem zoM {α β γ : Type} {W : Option β → Option γ} {C : Option (Rs α) → Option γ} {p q : Ps α} (hs : Suf T r) (ht : tx.length ≤ 1000) {A B : Option β} (hA : W A = C (p r)) (hB : W B = C (q r)) :
  W ((zcM (mkP T S D r) k tx).bind fun c => if (!c) = true then B else A) = C (ifS k tx p q r) := by
 rw [zeK hs ht, Option.bind_some]
 unfold ifS
 cases h : zI k tx r with
 | true => exact hA
 | false => exact hB
theorem zga {α β γ : Type} {W : Option β → Option γ} {C : Option (Rs α) → Option γ} {p q : Ps α} (hs : Suf T r) (ht : tx.length ≤ 1000) {A B : Bool × PS → Option β} (hA : ∀ r', Suf T r' → W (A (true, mkP T S D r')) = C (p r')) (hB : W (B (false, mkP T S D r)) = C (q r)) :
  W ((zbJ (mkP T S D r) k tx).bind fun c => if c.1 = true then A c else B c) = C (ifH k tx p q r) := by
 rw [zf0 hs ht, Option.bind_some]
 unfold ifH
 cases h : zI k tx r with
 | true =>
  cases r with
  | nil => cases h
  | cons t r => exact hA r hs.tail
 | false => exact hB
theorem zpg (hs : Suf T r) : zeX (mkP T S D r) = some (zed r) := by
 unfold zeX zed
 rw [zeK hs (by simp), Option.bind_some]
 cases h : zI 1 [] r with
 | false => rfl
 | true =>
  cases r with
  | nil => cases h
  | cons t r =>
   rw [if_pos rfl]
   have e : zhi (⟨(mkP T S D (t :: r)).cursor.tokens, IntKind.i64.wrap ((mkP T S D (t :: r)).cursor.at_ + 1)⟩ : zbd) 4 [⟨#[40]⟩] = some (zI 4 [⟨#[40]⟩] r) := by
    have := zeK (S := S) (D := D) (k := 4) (tx := [⟨#[40]⟩]) hs.tail (by simp)
    unfold mkP at this ⊢
    dsimp only
    rw [zeO (S := S) (D := D) hs]
    exact this
   rw [e]
   rfl
theorem zmW {α β γ : Type} {W : Option β → Option γ} {C : Option (Rs α) → Option γ} {p q : Ps α} (hs : Suf T r) {A B : Option β} (hA : W A = C (p r)) (hB : W B = C (q r)) :
  W ((zeX (mkP T S D r)).bind fun c => if c = true then A else B) = C (ifC p q r) := by
 rw [zpg hs, Option.bind_some]
 unfold ifC
 cases h : zed r with
 | true => exact hA
 | false => exact hB
theorem zcX {α : Type} {p : Ps α} {f : α → Ps zh} (hs : Suf T r) (hp : Sf p) {X : Option (Except (Value × PS) (α × PS))} (hX : X = cv T S D (p r)) {J : zh} {G : α × PS → Option (Except (Value × PS × zh) (PS × zh))}
  (hG : ∀ x r', Suf T r' → er (G (x, mkP T S D r')) = cv T S D (f x r')) : er (zG X (fun x => some (.error (x.1, x.2, J))) G) = cv T S D (bd p f r) := by
 subst hX
 unfold bd
 cases h : p r with
 | none => rfl
 | some v =>
  cases v with
  | error e => rfl
  | ok c => exact hG c.1 c.2 (hs.of (hp r _ h))
theorem zfA {p : Ps Unit} {f : Unit → Ps zh} (hs : Suf T r) (hp : Sf p) {X : Option (Except (Value × PS) PS)} (hX : X = cu T S D (p r)) {J : zh} {G : PS → Option (Except (Value × PS × zh) (PS × zh))}
  (hG : ∀ r', Suf T r' → er (G (mkP T S D r')) = cv T S D (f () r')) : er (zG X (fun x => some (.error (x.1, x.2, J))) G) = cv T S D (bd p f r) := by
 subst hX
 unfold bd
 cases h : p r with
 | none => rfl
 | some v =>
  cases v with
  | error e => rfl
  | ok c => exact hG c.2 (hs.of (hp r _ h))
theorem zm0 {p : Ps zh} {f : zh → Ps zh} (hs : Suf T r) (hp : Sf p) {X : Option (Except (Value × PS × zh) (PS × zh))} (hX : er X = cv T S D (p r)) {G : PS × zh → Option (Except (Value × PS × zh) (PS × zh))}
  (hG : ∀ x r', Suf T r' → er (G (mkP T S D r', x)) = cv T S D (f x r')) : er (zG X (fun x => some (.error (x.1, x.2.1, x.2.2))) G) = cv T S D (bd p f r) := by
 unfold bd
 cases h : p r with
 | none =>
  rw [h] at hX
  cases X with
  | none => rfl
  | some v => cases v <;> cases hX
 | some v =>
  rw [h] at hX
  cases v with
  | error e =>
   cases X with
   | none => cases hX
   | some v =>
    cases v with
    | error x => exact hX
    | ok x => cases hX
  | ok c =>
   cases X with
   | none => cases hX
   | some v =>
    cases v with
    | error x => cases hX
    | ok x =>
     obtain ⟨x1, x2⟩ := x
     obtain ⟨c1, c2⟩ := c
     injection hX with hX
     injection hX with hX
     injection hX with e1 e2
     dsimp only at e1 e2
     subst e1; subst e2
     exact hG _ c2 (hs.of (hp r _ h))
theorem zoB {p : Ps zh} {f : zh → Ps zh} (hs : Suf T r) (hp : Sf p) {X : Option (Except (Value × PS × zh) (PS × zh))} (hX : er X = cv T S D (p r)) {G : PS × zh → Option (Except (Value × PS) (zh × PS))}
  (hG : ∀ x r', Suf T r' → G (mkP T S D r', x) = cv T S D (f x r')) : zG X (fun x => some (.error (x.1, x.2.1))) G = cv T S D (bd p f r) := by
 unfold bd
 cases h : p r with
 | none =>
  rw [h] at hX
  cases X with
  | none => rfl
  | some v => cases v <;> cases hX
 | some v =>
  rw [h] at hX
  cases v with
  | error e =>
   cases X with
   | none => cases hX
   | some v =>
    cases v with
    | error x => exact hX
    | ok x => cases hX
  | ok c =>
   cases X with
   | none => cases hX
   | some v =>
    cases v with
    | error x => cases hX
    | ok x =>
     obtain ⟨x1, x2⟩ := x
     obtain ⟨c1, c2⟩ := c
     injection hX with hX
     injection hX with hX
     injection hX with e1 e2
     dsimp only at e1 e2
     subst e1; subst e2
     exact hG _ c2 (hs.of (hp r _ h))
theorem zkn {α β : Type} {p : Ps α} {f : α → Ps β} (hs : Suf T r) (hp : Sf p) {X : Option (Except (Value × PS) (α × PS))} (hX : X = cv T S D (p r)) {G : α × PS → Option (Except (Value × PS) (β × PS))}
  (hG : ∀ x r', Suf T r' → p r = some (.ok (x, r')) → G (x, mkP T S D r') = cv T S D (f x r')) : zG X (fun x => some (.error (x.1, x.2))) G = cv T S D (bd p f r) := by
 subst hX
 unfold bd
 cases h : p r with
 | none => rfl
 | some v =>
  cases v with
  | error e => rfl
  | ok c => exact hG c.1 c.2 (hs.of (hp r _ h)) h
theorem zmr : ∀ (n : Nat) (l : List zb) (r : List Tok), Suf T r → l.length + r.length ≤ 1000001 → zgg n T ((T.length - r.length : Nat) : Int) S D l = cv T S D (aL n l r)
 | 0, l, r, hs, _ => rfl
 | n + 1, l, r, hs, hl => by
  show zhV (zgg n) T _ S D l = _
  unfold zhV aL
  show ((zbJ (mkP T S D r) 4 _).bind _) = _
  rw [zf0 hs (by simp), Option.bind_some]
  unfold ifH
  cases h : zI 4 [⟨#[44]⟩] r with
  | true =>
   cases r with
   | nil => cases h
   | cons t r =>
    rw [if_pos rfl, if_pos rfl, if_pos rfl]
    refine zkn hs.tail zbq (zdM hs.tail) fun x r3 hs3 he => ?_
    have := zbq.le he
    have : r3.length ≤ r.length := this
    simp only [List.length_cons] at hl
    rw [zbY (by omega), Option.bind_some]
    have := zmr n (l ++ [x]) r3 hs3 (by simp; omega)
    cases x
    exact this
  | false =>
   rw [if_neg (by simp), if_neg (by simp), if_neg (by simp)]
   exact zfw hs (zK _) (zcJ hs (by simp)) fun r4 hs4 => rfl
theorem zlJ (hs : Suf T r) : zgp (mkP T S D r) = cv T S D (zd1 r) := by
 unfold zgp zd1
 refine zfw hs (zK _) (zcJ hs (by simp)) fun r2 hs2 => ?_
 refine L_H (C := cv T S D) hs2 (by simp) (fun r3 hs3 => rfl) ?_
 refine zkn hs2 zbq (zdM hs2) fun x r3 hs3 he => ?_
 have := zbW hs3
 have h2 := hs3.2
 have := zmr (S := S) (D := D) big [x] r3 hs3 (by simp; omega)
 cases x
 exact this
end
def zeG (q : zh) : Ps zh := bd zbU fun n => bd (zdR true) fun ty => ifH 4 [⟨#[61]⟩] (bd zb5 fun x => pu ⟨1, q.Line, n, q.Field, q.Call, ty, [x], q.Body, q.Else⟩) (pu ⟨1, q.Line, n, q.Field, q.Call, ty, q.Kids, q.Body, q.Else⟩)
def zel (q : zh) : Ps zh := ifH 3 [⟨#[105, 110, 112, 117, 116]⟩] (bd (zbs [⟨#[40]⟩, ⟨#[41]⟩]) fun _ => pu ⟨9, q.Line, q.Name, q.Field, q.Call, q.Type_, q.Kids, q.Body, q.Else⟩)
 (ifC (bd zbU fun c => bd zd1 fun l => pu ⟨5, q.Line, q.Name, q.Field, c, q.Type_, l, q.Body, q.Else⟩) (bd zb5 fun x => pu ⟨2, q.Line, q.Name, q.Field, q.Call, q.Type_, [x], q.Body, q.Else⟩))
def zdX (q : zh) : Ps zh := ifC (bd zbU fun c => bd zd1 fun l => pu ⟨5, q.Line, q.Name, q.Field, c, q.Type_, l, q.Body, q.Else⟩)
 (bd zbU fun n => ifS 4 [⟨#[91]⟩] (bd zeb fun i => bd (zbs [⟨#[61]⟩]) fun _ => bd zb5 fun x => pu ⟨3, q.Line, n, q.Field, q.Call, q.Type_, [i, x], q.Body, q.Else⟩)
  (ifH 4 [⟨#[46]⟩] (bd zbU fun f => bd (zbs [⟨#[61]⟩]) fun _ => bd zb5 fun x => pu ⟨4, q.Line, n, f, q.Call, q.Type_, [x], q.Body, q.Else⟩)
   (bd (zbs [⟨#[61]⟩]) fun _ => zel ⟨q.Kind, q.Line, n, q.Field, q.Call, q.Type_, q.Kids, q.Body, q.Else⟩)))
def k3 (s : zh) : Ps zh := bd (zbs [⟨#[59]⟩]) fun _ => pu s
def zeh (q : zh) : Ps zh := ifH 3 [⟨#[118, 97, 114]⟩] (bd (zeG q) k3)
 (ifH 3 [⟨#[112, 114, 105, 110, 116]⟩] (bd (zbs [⟨#[40]⟩]) fun _ => bd zb5 fun x => bd (zbs [⟨#[41]⟩]) fun _ => k3 ⟨8, q.Line, q.Name, q.Field, q.Call, q.Type_, [x], q.Body, q.Else⟩)
 (ifH 3 [⟨#[114, 101, 116, 117, 114, 110]⟩] (ifS 4 [⟨#[59]⟩] (k3 ⟨10, q.Line, q.Name, q.Field, q.Call, q.Type_, q.Kids, q.Body, q.Else⟩) (bd zb5 fun x => k3 ⟨10, q.Line, q.Name, q.Field, q.Call, q.Type_, [x], q.Body, q.Else⟩))
 (bd (zdX q) k3)))
theorem zet (s : zh) : Sf (k3 s) := zH (zK _) fun _ => zbx _
theorem zi3 (q : zh) : Sf (zeG q) := zH zbo fun _ => zH (zcR _) fun _ => zbZ (zH zbq fun _ => zbx _) (zbx _)
theorem zmC (q : zh) : Sf (zel q) := zbZ (zH (zK _) fun _ => zbx _) (znk (zH zbo fun _ => zH zeH fun _ => zbx _) (zH zbq fun _ => zbx _))
theorem zik (q : zh) : Sf (zdX q) := znk (zH zbo fun _ => zH zeH fun _ => zbx _) (zH zbo fun _ => zeS (zH zjw fun _ => zH (zK _) fun _ => zH zbq fun _ => zbx _) (zbZ (zH zbo fun _ => zH (zK _) fun _ => zH zbq fun _ => zbx _) (zH (zK _) fun _ => zmC _)))
theorem zl1 (q : zh) : Sf (zeh q) := zbZ (zH (zi3 _) zet) (zbZ (zH (zK _) fun _ => zH zbq fun _ => zH (zK _) fun _ => zet _) (zbZ (zeS (zet _) (zH zbq fun _ => zet _)) (zH (zik _) zet)))
theorem zrm (s : zh) : Co (k3 s) := zeY (zeY (ze9 _ _) fun _ => zK _) fun _ => zbx _
theorem znL (q : zh) : Co (zeh q) := zhq (zH (zi3 _) zet) (zhq (zH (zK _) fun _ => zH zbq fun _ => zH (zK _) fun _ => zet _) (zhq (zeS (zet _) (zH zbq fun _ => zet _)) (zoh (zik _) zrm)))
section
variable {T : List Tok} {S : List zw} {D : List zo} {r : List Tok} {k : Int} {tx : List BA}
theorem znG (hs : Suf T r) (q : zh) : er (zhx (mkP T S D r) q) = cv T S D (zeG q r) := by
 unfold zhx zeG
 refine zcX hs zbo (zdh hs) fun n r2 hs2 => ?_
 refine zcX hs2 (zcR _) (zkc hs2 true) fun ty r3 hs3 => ?_
 refine zga (W := er) (C := cv T S D) hs3 (by simp) (fun r4 hs4 => ?_) rfl
 exact zcX hs4 zbq (zdM hs4) fun x r5 hs5 => by cases x; rfl
theorem znu (hs : Suf T r) (q : zh) : er (zhA (mkP T S D r) q) = cv T S D (zel q r) := by
 unfold zhA zel
 refine zga (W := er) (C := cv T S D) hs (by simp) (fun r4 hs4 => ?_) ?_
 ·exact zfA hs4 (zK _) (zcJ hs4 (by simp)) fun r5 hs5 => rfl
 refine zmW (W := er) (C := cv T S D) hs ?_ ?_
 ·refine zcX hs zbo (zdh hs) fun n r2 hs2 => ?_
  exact zcX hs2 zeH (zlJ hs2) fun l r3 hs3 => rfl
 ·exact zcX hs zbq (zdM hs) fun x r5 hs5 => by cases x; rfl
theorem zql (hs : Suf T r) (q : zh) : er (zgJ (mkP T S D r) q) = cv T S D (zdX q r) := by
 unfold zgJ zdX
 refine zmW (W := er) (C := cv T S D) hs ?_ ?_
 ·refine zcX hs zbo (zdh hs) fun n r2 hs2 => ?_
  exact zcX hs2 zeH (zlJ hs2) fun l r3 hs3 => rfl
 refine zcX hs zbo (zdh hs) fun n r2 hs2 => ?_
 refine zo6 (W := er) (C := cv T S D) hs2 (by simp) ?_ ?_
 ·refine zcX hs2 zjw (zra hs2) fun i r3 hs3 => ?_
  refine zfA hs3 (zK _) (zcJ hs3 (by simp)) fun r4 hs4 => ?_
  refine zcX hs4 zbq (zdM hs4) fun x r5 hs5 => ?_
  rw [zbY (by simp), Option.bind_some]
  cases x
  cases i
  rfl
 refine zga (W := er) (C := cv T S D) hs2 (by simp) (fun r3 hs3 => ?_) ?_
 ·refine zcX hs3 zbo (zdh hs3) fun i r3 hs3 => ?_
  refine zfA hs3 (zK _) (zcJ hs3 (by simp)) fun r4 hs4 => ?_
  exact zcX hs4 zbq (zdM hs4) fun x r5 hs5 => by cases x; rfl
 refine zfA hs2 (zK _) (zcJ hs2 (by simp)) fun r4 hs4 => ?_
 have e : ∀ X : Option (Except (Value × PS × zh) (PS × zh)), er (zG X (fun x => some (.error (x.1, x.2.1, x.2.2))) fun c => some (.ok (c.1, c.2))) = er X := fun X => by
  cases X with
  | none => rfl
  | some v => cases v <;> rfl
 dsimp only
 rw [e]
 exact znu hs4 _
theorem zgt (hs : Suf T r) (s : zh) : er (zd8 T ((T.length - r.length : Nat) : Int) S D s.Kind s.Line s.Name s.Field s.Call s.Type_.Kind s.Type_.N s.Type_.Name s.Kids s.Body s.Else) = cv T S D (k3 s r) := by
 unfold zd8 k3
 exact zfA hs (zK _) (zcJ hs (by simp)) fun r5 hs5 => by cases s; rfl
theorem zpT (hs : Suf T r) (q : zh) : er (zh3 (mkP T S D r) q) = cv T S D (zeh q r) := by
 unfold zh3 zeh
 refine zga (W := er) (C := cv T S D) hs (by simp) (fun r3 hs3 => ?_) ?_
 ·exact zm0 hs3 (zi3 _) (znG hs3 q) fun s r4 hs4 => zgt hs4 s
 refine zga (W := er) (C := cv T S D) hs (by simp) (fun r3 hs3 => ?_) ?_
 ·refine zfA hs3 (zK _) (zcJ hs3 (by simp)) fun r4 hs4 => ?_
  refine zcX hs4 zbq (zdM hs4) fun x r5 hs5 => ?_
  refine zfA hs5 (zK _) (zcJ hs5 (by simp)) fun r6 hs6 => ?_
  have := zgt (S := S) (D := D) hs6 ⟨8, q.Line, q.Name, q.Field, q.Call, q.Type_, [x], q.Body, q.Else⟩
  cases x
  exact this
 refine zga (W := er) (C := cv T S D) hs (by simp) (fun r3 hs3 => ?_) ?_
 ·refine zoM (W := er) (C := cv T S D) hs3 (by simp) ?_ ?_
  ·exact zgt hs3 ⟨10, q.Line, q.Name, q.Field, q.Call, q.Type_, q.Kids, q.Body, q.Else⟩
  ·refine zcX hs3 zbq (zdM hs3) fun x r5 hs5 => ?_
   have := zgt (S := S) (D := D) hs5 ⟨10, q.Line, q.Name, q.Field, q.Call, q.Type_, [x], q.Body, q.Else⟩
   cases x
   exact this
 exact zm0 hs (zik _) (zql hs q) fun s r4 hs4 => zgt hs4 s
end
end Go.Proofs.Ytnhboaaikehpoaa
