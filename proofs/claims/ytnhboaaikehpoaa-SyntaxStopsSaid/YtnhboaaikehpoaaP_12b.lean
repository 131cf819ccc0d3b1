import Derived.Test.YtnhboaaikehpoaaP_12a
import Derived.KernelRfl
namespace Go.Proofs.Ytnhboaaikehpoaa
open Go.Ab Go.RowKit
set_option linter.unusedVariables false
set_option linter.unusedSimpArgs false
def Co {α : Type} (p : Ps α) : Prop := ∀ r x r', p r = some (.ok (x, r')) → r'.length < r.length
theorem Sf.le {α : Type} {p : Ps α} (h : Sf p) {r : List Tok} {v : Rs α} (hv : p r = some v) : (zd4 v).length ≤ r.length := by
 obtain ⟨c, hc⟩ := h r v hv
 rw [hc, List.length_append]
 omega
theorem ze5 (k : Int) (tx : List BA) : Co (tk k tx) := fun r x r' h => by
 unfold tk at h
 split at h
 ·cases h
 ·split at h
  ·injection h with h; injection h with h; injection h with _ h; subst h; simp
  ·cases h
theorem zdc {α β : Type} {p : Ps α} {f : α → Ps β} (hp : Co p) (hf : ∀ x, Sf (f x)) : Co (bd p f) := fun r y r' h => by
 unfold bd at h
 split at h
 ·cases h
 ·cases h
 ·rename_i x r2 he
  have h1 := hp r x r2 he
  have h2 := (hf x).le h
  have h2 : r'.length ≤ r2.length := h2
  omega
theorem zk9 {α β : Type} {p : Ps α} {f : α → Ps β} (hp : Sf p) (hf : ∀ x, Co (f x)) : Co (bd p f) := fun r y r' h => by
 unfold bd at h
 split at h
 ·cases h
 ·cases h
 ·rename_i x r2 he
  have h1 := hp.le he
  have h1 : r2.length ≤ r.length := h1
  have h2 := hf x r2 y r' h
  omega
theorem zeV {α : Type} {k : Int} {tx : List BA} {p q : Ps α} (hp : Sf p) (hq : Co q) : Co (ifH k tx p q) := fun r x r' h => by
 unfold ifH at h
 split at h
 ·rename_i hs
  cases r with
  | nil => cases hs
  | cons t r =>
   have := hp.le h
   have : r'.length ≤ r.length := this
   simp
   omega
 ·exact hq r x r' h
theorem zhM {α : Type} : Co (fun _ => none : Ps α) := fun r x r' h => by cases h
def zc7 (r : List Tok) : Bool := zs 1 [] r && zs 4 [⟨#[40]⟩] r.tail
def ifC {α : Type} (p q : Ps α) : Ps α := fun r => if zc7 r = true then p r else q r
theorem ziK {α : Type} {p q : Ps α} (hp : Sf p) (hq : Sf q) : Sf (ifC p q) := fun r v h => by
 unfold ifC at h
 split at h
 ·exact hp r v h
 ·exact hq r v h
def aL : Nat → List za → Ps (List za)
 | 0, _ => fun _ => none
 | n + 1, l => ifH 4 [⟨#[44]⟩] (bd zbI fun x => aL n (l ++ [x])) (bd (zbd [⟨#[41]⟩]) fun _ => pu l)
def zdA : Ps (List za) := bd (zbd [⟨#[40]⟩]) fun _ => ifH 4 [⟨#[41]⟩] (pu []) (bd zbI fun x => aL big [x])
theorem zbb : Sf zbI := (zeY big).1
theorem zia : Sf zd8 := (zeY big).2.2.2
theorem znp : ∀ n l, Sf (aL n l)
 | 0, l => zdi
 | n + 1, l => zbG (zt zbb fun _ => znp n _) (zt (zy _) fun _ => z5 _)
theorem zd6 : Sf zdA := zt (zy _) fun _ => zbG (z5 _) (zt zbb fun _ => znp _ _)
def er : Option (Except (Value × PS × ze) (PS × ze)) → Option (Except (Value × PS) (ze × PS))
 | none => none
 | some (.error x) => some (.error (x.1, x.2.1))
 | some (.ok c) => some (.ok (c.2, c.1))
section
variable {T : List Tok} {S : List zo} {D : List zi} {r : List Tok} {k : Int} {tx : List BA}
theorem znN {α β γ : Type} {W : Option β → Option γ} {C : Option (Rs α) → Option γ} {p q : Ps α} (hs : Suf T r) (ht : tx.length ≤ 1000) {A B : Option β} (hA : W A = C (p r)) (hB : W B = C (q r)) :
  W ((zcD (mkP T S D r) k tx).bind fun c => if c = true then A else B) = C (ifS k tx p q r) := by
 rw [zeE hs ht, Option.bind_some]
 unfold ifS
 cases h : zs k tx r with
 | true => exact hA
 | false => exact hB
theorem zqe {α β γ : Type} {W : Option β → Option γ} {C : Option (Rs α) → Option γ} {p q : Ps α} (hs : Suf T r) (ht : tx.length ≤ 1000) {A B : Option β} (hA : W A = C (p r)) (hB : W B = C (q r)) :
  W ((zcD (mkP T S D r) k tx).bind fun c => if (!c) = true then B else A) = C (ifS k tx p q r) := by
 rw [zeE hs ht, Option.bind_some]
 unfold ifS
 cases h : zs k tx r with
 | true => exact hA
 | false => exact hB
theorem zfE {α β γ : Type} {W : Option β → Option γ} {C : Option (Rs α) → Option γ} {p q : Ps α} (hs : Suf T r) (ht : tx.length ≤ 1000) {A B : Bool × PS → Option β} (hA : ∀ r', Suf T r' → W (A (true, mkP T S D r')) = C (p r')) (hB : W (B (false, mkP T S D r)) = C (q r)) :
  W ((zbw (mkP T S D r) k tx).bind fun c => if c.1 = true then A c else B c) = C (ifH k tx p q r) := by
 rw [zfv hs ht, Option.bind_some]
 unfold ifH
 cases h : zs k tx r with
 | true =>
  cases r with
  | nil => cases h
  | cons t r => exact hA r hs.tail
 | false => exact hB
theorem zpv (hs : Suf T r) : zeQ (mkP T S D r) = some (zc7 r) := by
 unfold zeQ zc7
 rw [zeE hs (by simp), Option.bind_some]
 cases h : zs 1 [] r with
 | false => rfl
 | true =>
  cases r with
  | nil => cases h
  | cons t r =>
   rw [if_pos rfl]
   have e : zgk (⟨(mkP T S D (t :: r)).cursor.tokens, IntKind.i64.wrap ((mkP T S D (t :: r)).cursor.at_ + 1)⟩ : zW) 4 [⟨#[40]⟩] = some (zs 4 [⟨#[40]⟩] r) := by
    have := zeE (S := S) (D := D) (k := 4) (tx := [⟨#[40]⟩]) hs.tail (by simp)
    unfold mkP at this ⊢
    dsimp only
    rw [zeo (S := S) (D := D) hs]
    exact this
   rw [e]
   rfl
theorem zl9 {α β γ : Type} {W : Option β → Option γ} {C : Option (Rs α) → Option γ} {p q : Ps α} (hs : Suf T r) {A B : Option β} (hA : W A = C (p r)) (hB : W B = C (q r)) :
  W ((zeQ (mkP T S D r)).bind fun c => if c = true then A else B) = C (ifC p q r) := by
 rw [zpv hs, Option.bind_some]
 unfold ifC
 cases h : zc7 r with
 | true => exact hA
 | false => exact hB
theorem zcT {α : Type} {p : Ps α} {f : α → Ps ze} (hs : Suf T r) (hp : Sf p) {X : Option (Except (Value × PS) (α × PS))} (hX : X = cv T S D (p r)) {J : ze} {G : α × PS → Option (Except (Value × PS × ze) (PS × ze))}
  (hG : ∀ x r', Suf T r' → er (G (x, mkP T S D r')) = cv T S D (f x r')) : er (zx X (fun x => some (.error (x.1, x.2, J))) G) = cv T S D (bd p f r) := by
 subst hX
 unfold bd
 cases h : p r with
 | none => rfl
 | some v =>
  cases v with
  | error e => rfl
  | ok c => exact hG c.1 c.2 (hs.of (hp r _ h))
theorem zeU {p : Ps Unit} {f : Unit → Ps ze} (hs : Suf T r) (hp : Sf p) {X : Option (Except (Value × PS) PS)} (hX : X = cu T S D (p r)) {J : ze} {G : PS → Option (Except (Value × PS × ze) (PS × ze))}
  (hG : ∀ r', Suf T r' → er (G (mkP T S D r')) = cv T S D (f () r')) : er (zx X (fun x => some (.error (x.1, x.2, J))) G) = cv T S D (bd p f r) := by
 subst hX
 unfold bd
 cases h : p r with
 | none => rfl
 | some v =>
  cases v with
  | error e => rfl
  | ok c => exact hG c.2 (hs.of (hp r _ h))
theorem zmq {p : Ps ze} {f : ze → Ps ze} (hs : Suf T r) (hp : Sf p) {X : Option (Except (Value × PS × ze) (PS × ze))} (hX : er X = cv T S D (p r)) {G : PS × ze → Option (Except (Value × PS × ze) (PS × ze))}
  (hG : ∀ x r', Suf T r' → er (G (mkP T S D r', x)) = cv T S D (f x r')) : er (zx X (fun x => some (.error (x.1, x.2.1, x.2.2))) G) = cv T S D (bd p f r) := by
 unfold bd
 cases h : p r with
 | none =>
  rw [h] at hX
  cases X with
  | none => rfl
  | some v => cases v <;> cases hX
 | some v =>
  rw [h] at hX
  cases v with
  | error e =>
   cases X with
   | none => cases hX
   | some v =>
    cases v with
    | error x => exact hX
    | ok x => cases hX
  | ok c =>
   cases X with
   | none => cases hX
   | some v =>
    cases v with
    | error x => cases hX
    | ok x =>
     obtain ⟨x1, x2⟩ := x
     obtain ⟨c1, c2⟩ := c
     injection hX with hX
     injection hX with hX
     injection hX with e1 e2
     dsimp only at e1 e2
     subst e1; subst e2
     exact hG _ c2 (hs.of (hp r _ h))
theorem znQ {p : Ps ze} {f : ze → Ps ze} (hs : Suf T r) (hp : Sf p) {X : Option (Except (Value × PS × ze) (PS × ze))} (hX : er X = cv T S D (p r)) {G : PS × ze → Option (Except (Value × PS) (ze × PS))}
  (hG : ∀ x r', Suf T r' → G (mkP T S D r', x) = cv T S D (f x r')) : zx X (fun x => some (.error (x.1, x.2.1))) G = cv T S D (bd p f r) := by
 unfold bd
 cases h : p r with
 | none =>
  rw [h] at hX
  cases X with
  | none => rfl
  | some v => cases v <;> cases hX
 | some v =>
  rw [h] at hX
  cases v with
  | error e =>
   cases X with
   | none => cases hX
   | some v =>
    cases v with
    | error x => exact hX
    | ok x => cases hX
  | ok c =>
   cases X with
   | none => cases hX
   | some v =>
    cases v with
    | error x => cases hX
    | ok x =>
     obtain ⟨x1, x2⟩ := x
     obtain ⟨c1, c2⟩ := c
     injection hX with hX
     injection hX with hX
     injection hX with e1 e2
     dsimp only at e1 e2
     subst e1; subst e2
     exact hG _ c2 (hs.of (hp r _ h))
theorem zku {α β : Type} {p : Ps α} {f : α → Ps β} (hs : Suf T r) (hp : Sf p) {X : Option (Except (Value × PS) (α × PS))} (hX : X = cv T S D (p r)) {G : α × PS → Option (Except (Value × PS) (β × PS))}
  (hG : ∀ x r', Suf T r' → p r = some (.ok (x, r')) → G (x, mkP T S D r') = cv T S D (f x r')) : zx X (fun x => some (.error (x.1, x.2))) G = cv T S D (bd p f r) := by
 subst hX
 unfold bd
 cases h : p r with
 | none => rfl
 | some v =>
  cases v with
  | error e => rfl
  | ok c => exact hG c.1 c.2 (hs.of (hp r _ h)) h
theorem znb : ∀ (n : Nat) (l : List za) (r : List Tok), Suf T r → l.length + r.length ≤ 1000001 → zfP n T ((T.length - r.length : Nat) : Int) S D l = cv T S D (aL n l r)
 | 0, l, r, hs, _ => rfl
 | n + 1, l, r, hs, hl => by
  show zgh (zfP n) T _ S D l = _
  unfold zgh aL
  show ((zbw (mkP T S D r) 4 _).bind _) = _
  rw [zfv hs (by simp), Option.bind_some]
  unfold ifH
  cases h : zs 4 [⟨#[44]⟩] r with
  | true =>
   cases r with
   | nil => cases h
   | cons t r =>
    rw [if_pos rfl, if_pos rfl, if_pos rfl]
    refine zku hs.tail zbb (zd7 hs.tail) fun x r3 hs3 he => ?_
    have := zbb.le he
    have : r3.length ≤ r.length := this
    simp only [List.length_cons] at hl
    rw [zbJ (by omega), Option.bind_some]
    have := znb n (l ++ [x]) r3 hs3 (by simp; omega)
    cases x
    exact this
  | false =>
   rw [if_neg (by simp), if_neg (by simp), if_neg (by simp)]
   exact zfc hs (zy _) (zct hs (by simp)) fun r4 hs4 => rfl
theorem zmi (hs : Suf T r) : zfF (mkP T S D r) = cv T S D (zdA r) := by
 unfold zfF zdA
 refine zfc hs (zy _) (zct hs (by simp)) fun r2 hs2 => ?_
 refine L_H (C := cv T S D) hs2 (by simp) (fun r3 hs3 => rfl) ?_
 refine zku hs2 zbb (zd7 hs2) fun x r3 hs3 he => ?_
 have := zbM hs3
 have h2 := hs3.2
 have := znb (S := S) (D := D) big [x] r3 hs3 (by simp; omega)
 cases x
 exact this
end
def zel (q : ze) : Ps ze := bd zbB fun n => bd (zdv true) fun ty => ifH 4 [⟨#[61]⟩] (bd zbI fun x => pu ⟨1, q.Line, n, q.Field, q.Call, ty, [x], q.Body, q.Else⟩) (pu ⟨1, q.Line, n, q.Field, q.Call, ty, q.Kids, q.Body, q.Else⟩)
def zd5 (q : ze) : Ps ze := ifH 3 [⟨#[105, 110, 112, 117, 116]⟩] (bd (zbd [⟨#[40]⟩, ⟨#[41]⟩]) fun _ => pu ⟨9, q.Line, q.Name, q.Field, q.Call, q.Type_, q.Kids, q.Body, q.Else⟩)
 (ifC (bd zbB fun c => bd zdA fun l => pu ⟨5, q.Line, q.Name, q.Field, c, q.Type_, l, q.Body, q.Else⟩) (bd zbI fun x => pu ⟨2, q.Line, q.Name, q.Field, q.Call, q.Type_, [x], q.Body, q.Else⟩))
def zdJ (q : ze) : Ps ze := ifC (bd zbB fun c => bd zdA fun l => pu ⟨5, q.Line, q.Name, q.Field, c, q.Type_, l, q.Body, q.Else⟩)
 (bd zbB fun n => ifS 4 [⟨#[91]⟩] (bd zd8 fun i => bd (zbd [⟨#[61]⟩]) fun _ => bd zbI fun x => pu ⟨3, q.Line, n, q.Field, q.Call, q.Type_, [i, x], q.Body, q.Else⟩)
  (ifH 4 [⟨#[46]⟩] (bd zbB fun f => bd (zbd [⟨#[61]⟩]) fun _ => bd zbI fun x => pu ⟨4, q.Line, n, f, q.Call, q.Type_, [x], q.Body, q.Else⟩)
   (bd (zbd [⟨#[61]⟩]) fun _ => zd5 ⟨q.Kind, q.Line, n, q.Field, q.Call, q.Type_, q.Kids, q.Body, q.Else⟩)))
def k3 (s : ze) : Ps ze := bd (zbd [⟨#[59]⟩]) fun _ => pu s
def zdB (q : ze) : Ps ze := ifH 3 [⟨#[118, 97, 114]⟩] (bd (zel q) k3)
 (ifH 3 [⟨#[112, 114, 105, 110, 116]⟩] (bd (zbd [⟨#[40]⟩]) fun _ => bd zbI fun x => bd (zbd [⟨#[41]⟩]) fun _ => k3 ⟨8, q.Line, q.Name, q.Field, q.Call, q.Type_, [x], q.Body, q.Else⟩)
 (ifH 3 [⟨#[114, 101, 116, 117, 114, 110]⟩] (ifS 4 [⟨#[59]⟩] (k3 ⟨10, q.Line, q.Name, q.Field, q.Call, q.Type_, q.Kids, q.Body, q.Else⟩) (bd zbI fun x => k3 ⟨10, q.Line, q.Name, q.Field, q.Call, q.Type_, [x], q.Body, q.Else⟩))
 (bd (zdJ q) k3)))
theorem zee (s : ze) : Sf (k3 s) := zt (zy _) fun _ => z5 _
theorem zh0 (q : ze) : Sf (zel q) := zt z9 fun _ => zt (zcO _) fun _ => zbG (zt zbb fun _ => z5 _) (z5 _)
theorem ziX (q : ze) : Sf (zd5 q) := zbG (zt (zy _) fun _ => z5 _) (ziK (zt z9 fun _ => zt zd6 fun _ => z5 _) (zt zbb fun _ => z5 _))
theorem zhQ (q : ze) : Sf (zdJ q) := ziK (zt z9 fun _ => zt zd6 fun _ => z5 _) (zt z9 fun _ => zdo (zt zia fun _ => zt (zy _) fun _ => zt zbb fun _ => z5 _) (zbG (zt z9 fun _ => zt (zy _) fun _ => zt zbb fun _ => z5 _) (zt (zy _) fun _ => ziX _)))
theorem zlR (q : ze) : Sf (zdB q) := zbG (zt (zh0 _) zee) (zbG (zt (zy _) fun _ => zt zbb fun _ => zt (zy _) fun _ => zee _) (zbG (zdo (zee _) (zt zbb fun _ => zee _)) (zt (zhQ _) zee)))
theorem zqA (s : ze) : Co (k3 s) := zdc (zdc (ze5 _ _) fun _ => zy _) fun _ => z5 _
theorem zn7 (q : ze) : Co (zdB q) := zeV (zt (zh0 _) zee) (zeV (zt (zy _) fun _ => zt zbb fun _ => zt (zy _) fun _ => zee _) (zeV (zdo (zee _) (zt zbb fun _ => zee _)) (zk9 (zhQ _) zqA)))
section
variable {T : List Tok} {S : List zo} {D : List zi} {r : List Tok} {k : Int} {tx : List BA}
theorem zpD (hs : Suf T r) (q : ze) : er (zgR (mkP T S D r) q) = cv T S D (zel q r) := by
 unfold zgR zel
 refine zcT hs z9 (zdl hs) fun n r2 hs2 => ?_
 refine zcT hs2 (zcO _) (zjf hs2 true) fun ty r3 hs3 => ?_
 refine zfE (W := er) (C := cv T S D) hs3 (by simp) (fun r4 hs4 => ?_) rfl
 exact zcT hs4 zbb (zd7 hs4) fun x r5 hs5 => by cases x; rfl
theorem zpS (hs : Suf T r) (q : ze) : er (zgL (mkP T S D r) q) = cv T S D (zd5 q r) := by
 unfold zgL zd5
 refine zfE (W := er) (C := cv T S D) hs (by simp) (fun r4 hs4 => ?_) ?_
 ·exact zeU hs4 (zy _) (zct hs4 (by simp)) fun r5 hs5 => rfl
 refine zl9 (W := er) (C := cv T S D) hs ?_ ?_
 ·refine zcT hs z9 (zdl hs) fun n r2 hs2 => ?_
  exact zcT hs2 zd6 (zmi hs2) fun l r3 hs3 => rfl
 ·exact zcT hs zbb (zd7 hs) fun x r5 hs5 => by cases x; rfl
theorem zqt (hs : Suf T r) (q : ze) : er (zgp (mkP T S D r) q) = cv T S D (zdJ q r) := by
 unfold zgp zdJ
 refine zl9 (W := er) (C := cv T S D) hs ?_ ?_
 ·refine zcT hs z9 (zdl hs) fun n r2 hs2 => ?_
  exact zcT hs2 zd6 (zmi hs2) fun l r3 hs3 => rfl
 refine zcT hs z9 (zdl hs) fun n r2 hs2 => ?_
 refine znN (W := er) (C := cv T S D) hs2 (by simp) ?_ ?_
 ·refine zcT hs2 zia (znB hs2) fun i r3 hs3 => ?_
  refine zeU hs3 (zy _) (zct hs3 (by simp)) fun r4 hs4 => ?_
  refine zcT hs4 zbb (zd7 hs4) fun x r5 hs5 => ?_
  rw [zbJ (by simp), Option.bind_some]
  cases x
  cases i
  rfl
 refine zfE (W := er) (C := cv T S D) hs2 (by simp) (fun r3 hs3 => ?_) ?_
 ·refine zcT hs3 z9 (zdl hs3) fun i r3 hs3 => ?_
  refine zeU hs3 (zy _) (zct hs3 (by simp)) fun r4 hs4 => ?_
  exact zcT hs4 zbb (zd7 hs4) fun x r5 hs5 => by cases x; rfl
 refine zeU hs2 (zy _) (zct hs2 (by simp)) fun r4 hs4 => ?_
 have e : ∀ X : Option (Except (Value × PS × ze) (PS × ze)), er (zx X (fun x => some (.error (x.1, x.2.1, x.2.2))) fun c => some (.ok (c.1, c.2))) = er X := fun X => by
  cases X with
  | none => rfl
  | some v => cases v <;> rfl
 dsimp only
 rw [e]
 exact zpS hs4 _
theorem zge (hs : Suf T r) (s : ze) : er (zed T ((T.length - r.length : Nat) : Int) S D s.Kind s.Line s.Name s.Field s.Call s.Type_.Kind s.Type_.N s.Type_.Name s.Kids s.Body s.Else) = cv T S D (k3 s r) := by
 unfold zed k3
 exact zeU hs (zy _) (zct hs (by simp)) fun r5 hs5 => by cases s; rfl
theorem zn4 (hs : Suf T r) (q : ze) : er (zho (mkP T S D r) q) = cv T S D (zdB q r) := by
 unfold zho zdB
 refine zfE (W := er) (C := cv T S D) hs (by simp) (fun r3 hs3 => ?_) ?_
 ·exact zmq hs3 (zh0 _) (zpD hs3 q) fun s r4 hs4 => zge hs4 s
 refine zfE (W := er) (C := cv T S D) hs (by simp) (fun r3 hs3 => ?_) ?_
 ·refine zeU hs3 (zy _) (zct hs3 (by simp)) fun r4 hs4 => ?_
  refine zcT hs4 zbb (zd7 hs4) fun x r5 hs5 => ?_
  refine zeU hs5 (zy _) (zct hs5 (by simp)) fun r6 hs6 => ?_
  have := zge (S := S) (D := D) hs6 ⟨8, q.Line, q.Name, q.Field, q.Call, q.Type_, [x], q.Body, q.Else⟩
  cases x
  exact this
 refine zfE (W := er) (C := cv T S D) hs (by simp) (fun r3 hs3 => ?_) ?_
 ·refine zqe (W := er) (C := cv T S D) hs3 (by simp) ?_ ?_
  ·exact zge hs3 ⟨10, q.Line, q.Name, q.Field, q.Call, q.Type_, q.Kids, q.Body, q.Else⟩
  ·refine zcT hs3 zbb (zd7 hs3) fun x r5 hs5 => ?_
   have := zge (S := S) (D := D) hs5 ⟨10, q.Line, q.Name, q.Field, q.Call, q.Type_, [x], q.Body, q.Else⟩
   cases x
   exact this
 exact zmq hs (zhQ _) (zqt hs q) fun s r4 hs4 => zge hs4 s
end
end Go.Proofs.Ytnhboaaikehpoaa
