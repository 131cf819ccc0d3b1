import Derived.Test.YtnhboaaikehpoaaP_12f
import Derived.KernelRfl
namespace Go.Proofs.Ytnhboaaikehpoaa
open Go.Ab Go.RowKit
set_option linter.unusedVariables false
set_option linter.unusedSimpArgs false
def Le {α : Type} (p q : Ps α) : Prop := ∀ r v, p r = some v → q r = some v
theorem Le.rfl {α : Type} {p : Ps α} : Le p p := fun _ _ h => h
theorem Le.trans {α : Type} {p q s : Ps α} (h : Le p q) (h' : Le q s) : Le p s := fun r v hv => h' r v (h r v hv)
theorem zeH {α : Type} {q : Ps α} : Le (fun _ => none) q := fun r v h => by cases h
theorem zcH {α β : Type} {p p' : Ps α} {f f' : α → Ps β} (hp : Le p p') (hf : ∀ x, Le (f x) (f' x)) : Le (bd p f) (bd p' f') := fun r v h => by
 unfold bd at h ⊢
 split at h
 ·cases h
 ·rename_i e he; rw [hp r _ he]; exact h
 ·rename_i x r' he; rw [hp r _ he]; exact hf x r' v h
theorem ziQ {α : Type} {k : Int} {tx : List BA} {p p' q q' : Ps α} (hp : Le p p') (hq : Le q q') : Le (ifS k tx p q) (ifS k tx p' q') := fun r v h => by
 unfold ifS at h ⊢
 split at h
 ·rename_i hc; rw [if_pos hc]; exact hp r v h
 ·rename_i hc; rw [if_neg hc]; exact hq r v h
theorem zfj {α : Type} {k : Int} {tx : List BA} {p p' q q' : Ps α} (hp : Le p p') (hq : Le q q') : Le (ifH k tx p q) (ifH k tx p' q') := fun r v h => by
 unfold ifH at h ⊢
 split at h
 ·rename_i hc; rw [if_pos hc]; exact hp _ v h
 ·rename_i hc; rw [if_neg hc]; exact hq r v h
theorem zmK {Bf Bf' : List (List BA) → Ps za} (h : ∀ l, Le (Bf l) (Bf' l)) (lv : List BA) (ls : List (List BA)) : ∀ n x, Le (bL Bf lv ls n x) (bL Bf' lv ls n x)
 | 0, _ => zeH
 | n + 1, x => ziQ (zcH Le.rfl fun _ => zcH (h _) fun _ => zmK h lv ls n _) Le.rfl
theorem zjB : ∀ n, Le (sG n).1 (sG (n + 1)).1 ∧ (∀ l, Le ((sG n).2.1 l) ((sG (n + 1)).2.1 l)) ∧ Le (sG n).2.2.1 (sG (n + 1)).2.2.1 ∧ Le (sG n).2.2.2 (sG (n + 1)).2.2.2
 | 0 => ⟨zeH, fun _ => zeH, zeH, zeH⟩
 | n + 1 => by
  obtain ⟨h1, h2, h3, h4⟩ := zjB n
  refine ⟨h2 _, fun l => ?_, ?_, ?_⟩
  ·cases l with
   | nil => exact h3
   | cons lv ls => exact zcH (h2 ls) fun x => zmK h2 lv ls big x
  ·exact ziQ (zcH Le.rfl fun _ => zcH h3 fun _ => Le.rfl) (zfj (zcH h1 fun _ => Le.rfl) (ziQ Le.rfl (zfj Le.rfl (zfj Le.rfl (zcH Le.rfl fun _ => ziQ (zcH h4 fun _ => Le.rfl) Le.rfl)))))
  ·exact zcH Le.rfl fun _ => zcH h1 fun _ => Le.rfl
theorem znl {n m : Nat} (h : n ≤ m) : Le (sG n).1 (sG m).1 ∧ Le (sG n).2.2.2 (sG m).2.2.2 := by
 induction h with
 | refl => exact ⟨Le.rfl, Le.rfl⟩
 | step _ ih => exact ⟨ih.1.trans (zjB _).1, ih.2.trans (zjB _).2.2.2⟩
theorem zli {p q : Ps Stm} (h : Le p q) : ∀ n l, Le (zcW p n l) (zcW q n l)
 | 0, _ => zeH
 | n + 1, l => zfj Le.rfl (zcH h fun _ => zli h n _)
theorem zpW {p q : Ps (List Stm)} (h : Le p q) : Le (zcZ p) (zcZ q) := fun r v hv =>
 zfj (zcH Le.rfl fun _ => zcH h fun _ => zfj (zcH h fun _ => Le.rfl) Le.rfl) (zfj (zcH Le.rfl fun _ => zcH h fun _ => Le.rfl) Le.rfl) r v hv
theorem zmB : ∀ n, Le (sB n).1 (sB (n + 1)).1 ∧ Le (sB n).2 (sB (n + 1)).2
 | 0 => ⟨zeH, zeH⟩
 | n + 1 => by
  obtain ⟨h1, h2⟩ := zmB n
  exact ⟨zcH Le.rfl fun _ => zli h2 _ _, zpW h1⟩
theorem zpl {n m : Nat} (h : n ≤ m) : Le (sB n).1 (sB m).1 := by
 induction h with
 | refl => exact Le.rfl
 | step _ ih => exact ih.trans (zmB _).1
theorem zkk {α : Type} {p q : Ps α} (h : Le p q) {L : Nat} (ht : To p L) {r : List Tok} (hr : r.length ≤ L) {v : Rs α} (hv : q r = some v) : p r = some v := by
 cases hp : p r with
 | none => exact absurd hp (ht r hr)
 | some u =>
  have := h r u hp
  rw [hv] at this
  injection this with this
  rw [this]
theorem zp4 {r : List Tok} (hr : r.length ≤ 1000000) {v : Rs za} (hv : zbI r = some v) : (sG 8000008).1 r = some v :=
 zkk (znl (n := 8000008) (m := big) (by have := zbZ; omega)).1 ((zfU 8000008 1000000 (by omega)).1 (by omega)) hr hv
theorem zqG {r : List Tok} (hr : r.length ≤ 1000000) {v : Rs za} (hv : zd8 r = some v) : (sG 8000008).2.2.2 r = some v :=
 zkk (znl (n := 8000008) (m := big) (by have := zbZ; omega)).2 ((zfU 8000008 1000000 (by omega)).2.2.2 (by omega)) hr hv
theorem zqR {r : List Tok} (hr : r.length ≤ 1000000) {v : Rs (List Stm)} (hv : zd0 r = some v) : (sB 8000008).1 r = some v :=
 zkk (zpl (n := 8000008) (m := big) (by have := zbZ; omega)) ((zjM 8000008 1000000 (by omega)).1 (by omega)) hr hv
abbrev RP := zj
def mkR (T r : List Tok) (b : Bool) : RP := ⟨T, ((T.length - r.length : Nat) : Int), b⟩
def Rel {α : Type} (T : List Tok) (X : Option (α × RP)) : Rs α → Prop
 | .error e => ∃ x, X = some (x, mkR T e true)
 | .ok (x, r) => X = some (x, mkR T r false)
def zG {α : Type} (T : List Tok) (X : Option (α × RP)) (p : Ps α) (r : List Tok) : Prop := ∀ v, p r = some v → Rel T X v
def zkm (T : List Tok) (X : Option RP) (p : Ps Unit) (r : List Tok) : Prop := ∀ v, p r = some v → match v with
 | .error e => X = some (mkR T e true)
 | .ok (_, r') => X = some (mkR T r' false)
section
variable {T : List Tok} {r : List Tok} {k : Int} {tx : List BA}
theorem zeb {α : Type} {X : Option (α × RP)} : zG T X (fun _ => none) r := fun v h => by cases h
theorem zbE {α : Type} {x : α} : zG T (some (x, mkR T r false)) (pu x) r := fun v h => by
 injection h with h
 subst h
 rfl
theorem zbh {α β : Type} {p : Ps α} {f : α → Ps β} {X : Option (α × RP)} {G : α × RP → Option (β × RP)} (hs : Suf T r) (hp : Sf p) (hX : zG T X p r) (hG : ∀ x r', Suf T r' → p r = some (.ok (x, r')) → zG T (G (x, mkR T r' false)) (f x) r') (hF : ∀ x e, ∃ y, G (x, mkR T e true) = some (y, mkR T e true)) : zG T (X.bind G) (bd p f) r := fun v h => by
 unfold bd at h
 split at h
 ·cases h
 ·rename_i e he
  injection h with h
  subst h
  obtain ⟨x, hx⟩ := hX _ he
  rw [hx]
  exact hF x e
 ·rename_i x r' he
  have hx : X = some (x, mkR T r' false) := hX _ he
  rw [hx]
  exact hG x r' (hs.of (hp r _ he)) he v h
theorem zb7 {β : Type} {p : Ps Unit} {f : Unit → Ps β} {X : Option RP} {G : RP → Option (β × RP)} (hs : Suf T r) (hp : Sf p) (hX : zkm T X p r) (hG : ∀ r', Suf T r' → p r = some (.ok ((), r')) → zG T (G (mkR T r' false)) (f ()) r') (hF : ∀ e, ∃ y, G (mkR T e true) = some (y, mkR T e true)) : zG T (X.bind G) (bd p f) r := fun v h => by
 unfold bd at h
 split at h
 ·cases h
 ·rename_i e he
  injection h with h
  subst h
  have hx : X = some (mkR T e true) := hX _ he
  rw [hx]
  exact hF e
 ·rename_i x r' he
  have hx : X = some (mkR T r' false) := hX _ he
  rw [hx]
  exact hG r' (hs.of (hp r _ he)) he v h
theorem zgU (hs : Suf T r) : z7 (mkR T r false) k ⟨#[]⟩ = some (zs k [] r) := by
 unfold z7 mkR
 dsimp only
 cases r with
 | nil =>
  rw [if_neg (by simp)]
  rfl
 | cons t r =>
  have := zbM hs
  rw [if_pos (by simp only [List.length_cons] at *; simp; omega), zeA hs, Option.bind_some, Option.bind_some]
  unfold zs
  dsimp only
  by_cases hk : (t.Kind.toNat : Int) = k
  ·rw [zic hk, zbo hk, if_pos rfl, zeJ, if_pos (zbo rfl)]
   simp
  ·rw [zkD hk, zdD hk]
   rfl
theorem zcB (hs : Suf T r) {x : BA} (hx : x ≠ ⟨#[]⟩) : z7 (mkR T r false) k x = some (zs k [x] r) := by
 unfold z7 mkR
 dsimp only
 cases r with
 | nil =>
  rw [if_neg (by simp)]
  rfl
 | cons t r =>
  have := zbM hs
  rw [if_pos (by simp only [List.length_cons] at *; simp; omega), zeA hs, Option.bind_some, Option.bind_some]
  unfold zs
  dsimp only
  by_cases hk : (t.Kind.toNat : Int) = k
  ·rw [zic hk, zbo hk, if_pos rfl, zeJ, zdD hx, if_neg (by simp), Option.bind_some, zeJ, Option.bind_some]
   congr 1
   unfold inB
   simp [eq_comm]
  ·rw [zkD hk, zdD hk]
   rfl
theorem zcg {t : Tok} {b : Bool} (hs : Suf T (t :: r)) : (⟨(mkR T (t :: r) b).L, IntKind.i64.wrap ((mkR T (t :: r) b).At + 1), (mkR T (t :: r) b).Failed⟩ : RP) = mkR T r b := by
 unfold mkR
 dsimp only
 rw [zeo (S := []) (D := []) hs]
theorem ziS (h : zs k tx r = false) : tk k tx r = some (.error r) := by
 unfold tk
 cases r with
 | nil => rfl
 | cons t r =>
  dsimp only
  rw [h, if_neg (by simp)]
theorem znx {x : BA} (hs : Suf T r) (hi : z7 (mkR T r false) k x = some (zs k tx r)) : zG T (zdZ (mkR T r false) k x) (tk k tx) r := fun v hv => by
 unfold zdZ
 rw [hi, Option.bind_some]
 unfold tk at hv
 cases r with
 | nil =>
  injection hv with hv
  subst hv
  exact ⟨_, rfl⟩
 | cons t r =>
  dsimp only at hv
  cases h : zs k tx (t :: r) with
  | false =>
   rw [h, if_neg (by simp)] at hv
   injection hv with hv
   subst hv
   exact ⟨_, rfl⟩
  | true =>
   rw [h, if_pos rfl] at hv
   injection hv with hv
   subst hv
   rw [if_neg (by simp)]
   have hl := zbM hs
   have h2 := hs.2
   have e : IntKind.i64.wrap (((T.length - r.length : Nat) : Int) - 1) = ((T.length - (t :: r).length : Nat) : Int) := by
    simp only [List.length_cons] at *
    rw [zer (by omega)]
    omega
   unfold mkR
   dsimp only
   rw [zeo (S := []) (D := []) hs, e, zeA hs]
   rfl
theorem ziF (hs : Suf T r) : zG T (zdZ (mkR T r false) k ⟨#[]⟩) (tk k []) r := znx hs (zgU hs)
theorem zjV {x : BA} (hs : Suf T r) (hx : x ≠ ⟨#[]⟩) : zG T (zdZ (mkR T r false) k x) (tk k [x]) r := znx hs (zcB hs hx)
theorem zdf (hs : Suf T r) : zG T (zcM (mkR T r false)) zbB r :=
 zbh hs (zbm _ _) (ziF hs) (fun x r' _ _ => zbE) fun x e => ⟨_, rfl⟩
theorem zbN {x : BA} (hs : Suf T r) (hx : x ≠ ⟨#[]⟩) : zkm T (zbi (mkR T r false) x) (zbd [x]) r := fun v hv => by
 have ht := zjV (k := 4) hs hx
 unfold zbi
 have hv : bd (tk 4 [x]) (fun _ => pu ()) r = some v := hv
 unfold bd at hv
 split at hv
 ·cases hv
 ·rename_i e he
  injection hv with hv
  subst hv
  obtain ⟨y, hy⟩ := ht _ he
  rw [hy]
  rfl
 ·rename_i y r' he
  have hy : _ = some (y, mkR T r' false) := ht _ he
  rw [hy]
  injection hv with hv
  subst hv
  rfl
theorem zp7 {β : Type} {x : BA} {f : Tok → Ps β} {G : RP → Option (β × RP)} (hs : Suf T r) (hx : x ≠ ⟨#[]⟩) (hG : ∀ t r', Suf T r' → tk 3 [x] r = some (.ok (t, r')) → zG T (G (mkR T r' false)) (f t) r') (hF : ∀ e, ∃ y, G (mkR T e true) = some (y, mkR T e true)) : zG T ((zde (mkR T r false) x).bind G) (bd (tk 3 [x]) f) r := by
 unfold zde
 rw [Option.bind_assoc]
 exact zbh hs (zbm _ _) (zjV hs hx) (fun t r' hs' he => hG t r' hs' he) fun t e => hF e
theorem R_S {α : Type} {x : BA} {A B : Option (α × RP)} {p q : Ps α} (hi : z7 (mkR T r false) k x = some (zs k tx r)) (hA : zs k tx r = true → zG T A p r) (hB : zs k tx r = false → zG T B q r) : zG T ((z7 (mkR T r false) k x).bind fun c => if c = true then A else B) (ifS k tx p q) r := fun v hv => by
 rw [hi, Option.bind_some]
 unfold ifS at hv
 cases h : zs k tx r with
 | true => rw [h, if_pos rfl] at hv; exact hA h v hv
 | false => rw [h, if_neg (by simp)] at hv; exact hB h v hv
theorem R_H {α : Type} {x : BA} {A B : Option (α × RP)} {p q : Ps α} (hs : Suf T r) (hi : z7 (mkR T r false) k x = some (zs k tx r)) (hA : ∀ t r', r = t :: r' → Suf T r' → zG T A p r') (hB : zs k tx r = false → zG T B q r) : zG T ((z7 (mkR T r false) k x).bind fun c => if c = true then A else B) (ifH k tx p q) r := fun v hv => by
 rw [hi, Option.bind_some]
 unfold ifH at hv
 cases h : zs k tx r with
 | true =>
  rw [h, if_pos rfl] at hv
  cases r with
  | nil => cases h
  | cons t r => exact hA t r rfl hs.tail v hv
 | false => rw [h, if_neg (by simp)] at hv; exact hB h v hv
theorem ziv (hs : Suf T r) (m : Bool) : zG T (zea (mkR T r false) m) (zdv m) r := by
 unfold zea zdv
 refine R_H hs (zcB hs (by decide)) (fun t r' e hs' => by subst e; rw [zcg hs]; exact zbE) fun _ => ?_
 refine R_H hs (zcB hs (by decide)) (fun t r' e hs' => by subst e; rw [zcg hs]; exact zbE) fun _ => ?_
 refine R_H hs (zcB hs (by decide)) (fun t r' e hs' => ?_) fun _ => ?_
 ·subst e
  rw [zcg hs]
  refine zbh hs' (zbm _ _) (ziF hs') (fun t2 r2 hs2 _ => ?_) fun x e => ⟨_, rfl⟩
  refine zb7 hs2 (zy _) (zbN hs2 (by decide)) (fun r3 hs3 _ => ?_) fun e => ⟨_, rfl⟩
  exact zp7 hs3 (by decide) (fun t3 r4 hs4 _ => zbE) fun e => ⟨_, rfl⟩
 have hn : zG T ((zcM (mkR T r false)).bind fun c => some ((⟨4, 0, c.1⟩ : zz), c.2)) (bd zbB fun n => pu ⟨4, 0, n⟩) r := zbh hs z9 (zdf hs) (fun _ _ _ _ => zbE) fun x e => ⟨_, rfl⟩
 cases m with
 | false => exact R_S (zgU hs) (fun _ => hn) fun _ => zbE
 | true =>
  intro v hv
  rw [zgU hs, Option.bind_some]
  cases h : zs 1 [] r with
  | true => exact hn v hv
  | false =>
   rw [if_neg (by simp), if_pos rfl]
   have hv : bd (bd (tk 1 []) fun t => pu t.Text) (fun n => pu (⟨4, 0, n⟩ : zz)) r = some v := hv
   unfold bd at hv
   rw [ziS h] at hv
   injection hv with hv
   subst hv
   exact ⟨_, rfl⟩
end
end Go.Proofs.Ytnhboaaikehpoaa
