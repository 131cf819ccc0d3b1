import Derived.Test.YtnhboaaikehpoaaP_12f
import Derived.KernelRfl
namespace Go.Proofs.Ytnhboaaikehpoaa
open Go.Ab Go.RowKit
set_option linter.unusedVariables false
set_option linter.unusedSimpArgs false
def Le {α : Type} (p q : Ps α) : Prop := ∀ r v, p r = some v → q r = some v
theorem Le.rfl {α : Type} {p : Ps α} : Le p p := fun _ _ h => h
theorem Le.trans {α : Type} {p q s : Ps α} (h : Le p q) (h' : Le q s) : Le p s := fun r v hv => h' r v (h r v hv)
theorem zeU {α : Type} {q : Ps α} : Le (fun _ => none) q := fun r v h => by cases h
theorem zcL {α β : Type} {p p' : Ps α} {f f' : α → Ps β} (hp : Le p p') (hf : ∀ x, Le (f x) (f' x)) : Le (bd p f) (bd p' f') := fun r v h => by
 unfold bd at h ⊢
 split at h
 ·cases h
 ·rename_i e he; rw [hp r _ he]; exact h
 ·rename_i x r' he; rw [hp r _ he]; exact hf x r' v h
theorem zit {α : Type} {k : Int} {tx : List BA} {p p' q q' : Ps α} (hp : Le p p') (hq : Le q q') : Le (ifS k tx p q) (ifS k tx p' q') := fun r v h => by
 unfold ifS at h ⊢
 split at h
 ·rename_i hc; rw [if_pos hc]; exact hp r v h
 ·rename_i hc; rw [if_neg hc]; exact hq r v h
theorem zfc {α : Type} {k : Int} {tx : List BA} {p p' q q' : Ps α} (hp : Le p p') (hq : Le q q') : Le (ifH k tx p q) (ifH k tx p' q') := fun r v h => by
 unfold ifH at h ⊢
 split at h
 ·rename_i hc; rw [if_pos hc]; exact hp _ v h
 ·rename_i hc; rw [if_neg hc]; exact hq r v h
theorem zlM {Bf Bf' : List (List BA) → Ps zb} (h : ∀ l, Le (Bf l) (Bf' l)) (lv : List BA) (ls : List (List BA)) : ∀ n x, Le (bL Bf lv ls n x) (bL Bf' lv ls n x)
 | 0, _ => zeU
 | n + 1, x => zit (zcL Le.rfl fun _ => zcL (h _) fun _ => zlM h lv ls n _) Le.rfl
theorem zkw : ∀ n, Le (sG n).1 (sG (n + 1)).1 ∧ (∀ l, Le ((sG n).2.1 l) ((sG (n + 1)).2.1 l)) ∧ Le (sG n).2.2.1 (sG (n + 1)).2.2.1 ∧ Le (sG n).2.2.2 (sG (n + 1)).2.2.2
 | 0 => ⟨zeU, fun _ => zeU, zeU, zeU⟩
 | n + 1 => by
  obtain ⟨h1, h2, h3, h4⟩ := zkw n
  refine ⟨h2 _, fun l => ?_, ?_, ?_⟩
  ·cases l with
   | nil => exact h3
   | cons lv ls => exact zcL (h2 ls) fun x => zlM h2 lv ls big x
  ·exact zit (zcL Le.rfl fun _ => zcL h3 fun _ => Le.rfl) (zfc (zcL h1 fun _ => Le.rfl) (zit Le.rfl (zfc Le.rfl (zfc Le.rfl (zcL Le.rfl fun _ => zit (zcL h4 fun _ => Le.rfl) Le.rfl)))))
  ·exact zcL Le.rfl fun _ => zcL h1 fun _ => Le.rfl
theorem zlP {n m : Nat} (h : n ≤ m) : Le (sG n).1 (sG m).1 ∧ Le (sG n).2.2.2 (sG m).2.2.2 := by
 induction h with
 | refl => exact ⟨Le.rfl, Le.rfl⟩
 | step _ ih => exact ⟨ih.1.trans (zkw _).1, ih.2.trans (zkw _).2.2.2⟩
theorem zme {p q : Ps Stm} (h : Le p q) : ∀ n l, Le (zdJ p n l) (zdJ q n l)
 | 0, _ => zeU
 | n + 1, l => zfc Le.rfl (zcL h fun _ => zme h n _)
theorem zoE {p q : Ps (List Stm)} (h : Le p q) : Le (zdk p) (zdk q) := fun r v hv =>
 zfc (zcL Le.rfl fun _ => zcL h fun _ => zfc (zcL h fun _ => Le.rfl) Le.rfl) (zfc (zcL Le.rfl fun _ => zcL h fun _ => Le.rfl) Le.rfl) r v hv
theorem zmN : ∀ n, Le (sB n).1 (sB (n + 1)).1 ∧ Le (sB n).2 (sB (n + 1)).2
 | 0 => ⟨zeU, zeU⟩
 | n + 1 => by
  obtain ⟨h1, h2⟩ := zmN n
  exact ⟨zcL Le.rfl fun _ => zme h2 _ _, zoE h1⟩
theorem zp6 {n m : Nat} (h : n ≤ m) : Le (sB n).1 (sB m).1 := by
 induction h with
 | refl => exact Le.rfl
 | step _ ih => exact ih.trans (zmN _).1
theorem zkO {α : Type} {p q : Ps α} (h : Le p q) {L : Nat} (ht : To p L) {r : List Tok} (hr : r.length ≤ L) {v : Rs α} (hv : q r = some v) : p r = some v := by
 cases hp : p r with
 | none => exact absurd hp (ht r hr)
 | some u =>
  have := h r u hp
  rw [hv] at this
  injection this with this
  rw [this]
theorem zqQ {r : List Tok} (hr : r.length ≤ 1000000) {v : Rs zb} (hv : zb5 r = some v) : (sG 8000008).1 r = some v :=
 zkO (zlP (n := 8000008) (m := big) (by have := zcB; omega)).1 ((zgs 8000008 1000000 (by omega)).1 (by omega)) hr hv
theorem znU {r : List Tok} (hr : r.length ≤ 1000000) {v : Rs zb} (hv : zeb r = some v) : (sG 8000008).2.2.2 r = some v :=
 zkO (zlP (n := 8000008) (m := big) (by have := zcB; omega)).2 ((zgs 8000008 1000000 (by omega)).2.2.2 (by omega)) hr hv
theorem zpe {r : List Tok} (hr : r.length ≤ 1000000) {v : Rs (List Stm)} (hv : ze7 r = some v) : (sB 8000008).1 r = some v :=
 zkO (zp6 (n := 8000008) (m := big) (by have := zcB; omega)) ((zjY 8000008 1000000 (by omega)).1 (by omega)) hr hv
abbrev RP := zj
def mkR (T r : List Tok) (b : Bool) : RP := ⟨T, ((T.length - r.length : Nat) : Int), b⟩
def Rel {α : Type} (T : List Tok) (X : Option (α × RP)) : Rs α → Prop
 | .error e => ∃ x, X = some (x, mkR T e true)
 | .ok (x, r) => X = some (x, mkR T r false)
def zU {α : Type} (T : List Tok) (X : Option (α × RP)) (p : Ps α) (r : List Tok) : Prop := ∀ v, p r = some v → Rel T X v
def zj0 (T : List Tok) (X : Option RP) (p : Ps Unit) (r : List Tok) : Prop := ∀ v, p r = some v → match v with
 | .error e => X = some (mkR T e true)
 | .ok (_, r') => X = some (mkR T r' false)
section
variable {T : List Tok} {r : List Tok} {k : Int} {tx : List BA}
theorem zes {α : Type} {X : Option (α × RP)} : zU T X (fun _ => none) r := fun v h => by cases h
theorem zbO {α : Type} {x : α} : zU T (some (x, mkR T r false)) (pu x) r := fun v h => by
 injection h with h
 subst h
 rfl
theorem zbu {α β : Type} {p : Ps α} {f : α → Ps β} {X : Option (α × RP)} {G : α × RP → Option (β × RP)} (hs : Suf T r) (hp : Sf p) (hX : zU T X p r) (hG : ∀ x r', Suf T r' → p r = some (.ok (x, r')) → zU T (G (x, mkR T r' false)) (f x) r') (hF : ∀ x e, ∃ y, G (x, mkR T e true) = some (y, mkR T e true)) : zU T (X.bind G) (bd p f) r := fun v h => by
 unfold bd at h
 split at h
 ·cases h
 ·rename_i e he
  injection h with h
  subst h
  obtain ⟨x, hx⟩ := hX _ he
  rw [hx]
  exact hF x e
 ·rename_i x r' he
  have hx : X = some (x, mkR T r' false) := hX _ he
  rw [hx]
  exact hG x r' (hs.of (hp r _ he)) he v h
theorem zcv {β : Type} {p : Ps Unit} {f : Unit → Ps β} {X : Option RP} {G : RP → Option (β × RP)} (hs : Suf T r) (hp : Sf p) (hX : zj0 T X p r) (hG : ∀ r', Suf T r' → p r = some (.ok ((), r')) → zU T (G (mkR T r' false)) (f ()) r') (hF : ∀ e, ∃ y, G (mkR T e true) = some (y, mkR T e true)) : zU T (X.bind G) (bd p f) r := fun v h => by
 unfold bd at h
 split at h
 ·cases h
 ·rename_i e he
  injection h with h
  subst h
  have hx : X = some (mkR T e true) := hX _ he
  rw [hx]
  exact hF e
 ·rename_i x r' he
  have hx : X = some (mkR T r' false) := hX _ he
  rw [hx]
  exact hG r' (hs.of (hp r _ he)) he v h
theorem zhy (hs : Suf T r) : zbg (mkR T r false) k ⟨#[]⟩ = some (zI k [] r) := by
 unfold zbg mkR
 dsimp only
 cases r with
 | nil =>
  rw [if_neg (by simp)]
  rfl
 | cons t r =>
  have := zbW hs
  rw [if_pos (by simp only [List.length_cons] at *; simp; omega), zeE hs, Option.bind_some, Option.bind_some]
  unfold zI
  dsimp only
  by_cases hk : (t.Kind.toNat : Int) = k
  ·rw [zjU hk, zbe hk, if_pos rfl, zc5, if_pos (zbe rfl)]
   simp
  ·rw [zjH hk, zdC hk]
   rfl
theorem zcO (hs : Suf T r) {x : BA} (hx : x ≠ ⟨#[]⟩) : zbg (mkR T r false) k x = some (zI k [x] r) := by
 unfold zbg mkR
 dsimp only
 cases r with
 | nil =>
  rw [if_neg (by simp)]
  rfl
 | cons t r =>
  have := zbW hs
  rw [if_pos (by simp only [List.length_cons] at *; simp; omega), zeE hs, Option.bind_some, Option.bind_some]
  unfold zI
  dsimp only
  by_cases hk : (t.Kind.toNat : Int) = k
  ·rw [zjU hk, zbe hk, if_pos rfl, zc5, zdC hx, if_neg (by simp), Option.bind_some, zc5, Option.bind_some]
   congr 1
   unfold inB
   simp [eq_comm]
  ·rw [zjH hk, zdC hk]
   rfl
theorem zcu {t : Tok} {b : Bool} (hs : Suf T (t :: r)) : (⟨(mkR T (t :: r) b).L, IntKind.i64.wrap ((mkR T (t :: r) b).At + 1), (mkR T (t :: r) b).Failed⟩ : RP) = mkR T r b := by
 unfold mkR
 dsimp only
 rw [zeO (S := []) (D := []) hs]
theorem zjz (h : zI k tx r = false) : tk k tx r = some (.error r) := by
 unfold tk
 cases r with
 | nil => rfl
 | cons t r =>
  dsimp only
  rw [h, if_neg (by simp)]
theorem zmQ {x : BA} (hs : Suf T r) (hi : zbg (mkR T r false) k x = some (zI k tx r)) : zU T (zde (mkR T r false) k x) (tk k tx) r := fun v hv => by
 unfold zde
 rw [hi, Option.bind_some]
 unfold tk at hv
 cases r with
 | nil =>
  injection hv with hv
  subst hv
  exact ⟨_, rfl⟩
 | cons t r =>
  dsimp only at hv
  cases h : zI k tx (t :: r) with
  | false =>
   rw [h, if_neg (by simp)] at hv
   injection hv with hv
   subst hv
   exact ⟨_, rfl⟩
  | true =>
   rw [h, if_pos rfl] at hv
   injection hv with hv
   subst hv
   rw [if_neg (by simp)]
   have hl := zbW hs
   have h2 := hs.2
   have e : IntKind.i64.wrap (((T.length - r.length : Nat) : Int) - 1) = ((T.length - (t :: r).length : Nat) : Int) := by
    simp only [List.length_cons] at *
    rw [zev (by omega)]
    omega
   unfold mkR
   dsimp only
   rw [zeO (S := []) (D := []) hs, e, zeE hs]
   rfl
theorem ziA (hs : Suf T r) : zU T (zde (mkR T r false) k ⟨#[]⟩) (tk k []) r := zmQ hs (zhy hs)
theorem zjO {x : BA} (hs : Suf T r) (hx : x ≠ ⟨#[]⟩) : zU T (zde (mkR T r false) k x) (tk k [x]) r := zmQ hs (zcO hs hx)
theorem zdn (hs : Suf T r) : zU T (zcF (mkR T r false)) zbU r :=
 zbu hs (zbD _ _) (ziA hs) (fun x r' _ _ => zbO) fun x e => ⟨_, rfl⟩
theorem zb0 {x : BA} (hs : Suf T r) (hx : x ≠ ⟨#[]⟩) : zj0 T (zbt (mkR T r false) x) (zbs [x]) r := fun v hv => by
 have ht := zjO (k := 4) hs hx
 unfold zbt
 have hv : bd (tk 4 [x]) (fun _ => pu ()) r = some v := hv
 unfold bd at hv
 split at hv
 ·cases hv
 ·rename_i e he
  injection hv with hv
  subst hv
  obtain ⟨y, hy⟩ := ht _ he
  rw [hy]
  rfl
 ·rename_i y r' he
  have hy : _ = some (y, mkR T r' false) := ht _ he
  rw [hy]
  injection hv with hv
  subst hv
  rfl
theorem zqw {β : Type} {x : BA} {f : Tok → Ps β} {G : RP → Option (β × RP)} (hs : Suf T r) (hx : x ≠ ⟨#[]⟩) (hG : ∀ t r', Suf T r' → tk 3 [x] r = some (.ok (t, r')) → zU T (G (mkR T r' false)) (f t) r') (hF : ∀ e, ∃ y, G (mkR T e true) = some (y, mkR T e true)) : zU T ((zcY (mkR T r false) x).bind G) (bd (tk 3 [x]) f) r := by
 unfold zcY
 rw [Option.bind_assoc]
 exact zbu hs (zbD _ _) (zjO hs hx) (fun t r' hs' he => hG t r' hs' he) fun t e => hF e
theorem R_S {α : Type} {x : BA} {A B : Option (α × RP)} {p q : Ps α} (hi : zbg (mkR T r false) k x = some (zI k tx r)) (hA : zI k tx r = true → zU T A p r) (hB : zI k tx r = false → zU T B q r) : zU T ((zbg (mkR T r false) k x).bind fun c => if c = true then A else B) (ifS k tx p q) r := fun v hv => by
 rw [hi, Option.bind_some]
 unfold ifS at hv
 cases h : zI k tx r with
 | true => rw [h, if_pos rfl] at hv; exact hA h v hv
 | false => rw [h, if_neg (by simp)] at hv; exact hB h v hv
theorem R_H {α : Type} {x : BA} {A B : Option (α × RP)} {p q : Ps α} (hs : Suf T r) (hi : zbg (mkR T r false) k x = some (zI k tx r)) (hA : ∀ t r', r = t :: r' → Suf T r' → zU T A p r') (hB : zI k tx r = false → zU T B q r) : zU T ((zbg (mkR T r false) k x).bind fun c => if c = true then A else B) (ifH k tx p q) r := fun v hv => by
 rw [hi, Option.bind_some]
 unfold ifH at hv
 cases h : zI k tx r with
 | true =>
  rw [h, if_pos rfl] at hv
  cases r with
  | nil => cases h
  | cons t r => exact hA t r rfl hs.tail v hv
 | false => rw [h, if_neg (by simp)] at hv; exact hB h v hv
theorem zin (hs : Suf T r) (m : Bool) : zU T (zdF (mkR T r false) m) (zdR m) r := by
 unfold zdF zdR
 refine R_H hs (zcO hs (by decide)) (fun t r' e hs' => by subst e; rw [zcu hs]; exact zbO) fun _ => ?_
 refine R_H hs (zcO hs (by decide)) (fun t r' e hs' => by subst e; rw [zcu hs]; exact zbO) fun _ => ?_
 refine R_H hs (zcO hs (by decide)) (fun t r' e hs' => ?_) fun _ => ?_
 ·subst e
  rw [zcu hs]
  refine zbu hs' (zbD _ _) (ziA hs') (fun t2 r2 hs2 _ => ?_) fun x e => ⟨_, rfl⟩
  refine zcv hs2 (zK _) (zb0 hs2 (by decide)) (fun r3 hs3 _ => ?_) fun e => ⟨_, rfl⟩
  exact zqw hs3 (by decide) (fun t3 r4 hs4 _ => zbO) fun e => ⟨_, rfl⟩
 have hn : zU T ((zcF (mkR T r false)).bind fun c => some ((⟨4, 0, c.1⟩ : zD), c.2)) (bd zbU fun n => pu ⟨4, 0, n⟩) r := zbu hs zbo (zdn hs) (fun _ _ _ _ => zbO) fun x e => ⟨_, rfl⟩
 cases m with
 | false => exact R_S (zhy hs) (fun _ => hn) fun _ => zbO
 | true =>
  intro v hv
  rw [zhy hs, Option.bind_some]
  cases h : zI 1 [] r with
  | true => exact hn v hv
  | false =>
   rw [if_neg (by simp), if_pos rfl]
   have hv : bd (bd (tk 1 []) fun t => pu t.Text) (fun n => pu (⟨4, 0, n⟩ : zD)) r = some v := hv
   unfold bd at hv
   rw [zjz h] at hv
   injection hv with hv
   subst hv
   exact ⟨_, rfl⟩
end
end Go.Proofs.Ytnhboaaikehpoaa
