import Derived.Test.YtnhboaaikehpoaaP_12f
import Derived.KernelRfl
namespace Go.Proofs.Ytnhboaaikehpoaa
open Go.Ab Go.RowKit
set_option linter.unusedVariables false
set_option linter.unusedSimpArgs false
def Le {α : Type} (p q : Ps α) : Prop := ∀ r v, p r = some v → q r = some v
theorem Le.rfl {α : Type} {p : Ps α} : Le p p := fun _ _ h => h
theorem Le.trans {α : Type} {p q s : Ps α} (h : Le p q) (h' : Le q s) : Le p s := fun r v hv => h' r v (h r v hv)
theorem zeQ {α : Type} {q : Ps α} : Le (fun _ => none) q := fun r v h => by cases h
theorem zcN {α β : Type} {p p' : Ps α} {f f' : α → Ps β} (hp : Le p p') (hf : ∀ x, Le (f x) (f' x)) : Le (bd p f) (bd p' f') := fun r v h => by
 unfold bd at h ⊢
 split at h
 ·cases h
 ·rename_i e he; rw [hp r _ he]; exact h
 ·rename_i x r' he; rw [hp r _ he]; exact hf x r' v h
theorem zhV {α : Type} {k : Int} {tx : List BA} {p p' q q' : Ps α} (hp : Le p p') (hq : Le q q') : Le (ifS k tx p q) (ifS k tx p' q') := fun r v h => by
 unfold ifS at h ⊢
 split at h
 ·rename_i hc; rw [if_pos hc]; exact hp r v h
 ·rename_i hc; rw [if_neg hc]; exact hq r v h
theorem zfu {α : Type} {k : Int} {tx : List BA} {p p' q q' : Ps α} (hp : Le p p') (hq : Le q q') : Le (ifH k tx p q) (ifH k tx p' q') := fun r v h => by
 unfold ifH at h ⊢
 split at h
 ·rename_i hc; rw [if_pos hc]; exact hp _ v h
 ·rename_i hc; rw [if_neg hc]; exact hq r v h
theorem znf {Bf Bf' : List (List BA) → Ps zb} (h : ∀ l, Le (Bf l) (Bf' l)) (lv : List BA) (ls : List (List BA)) : ∀ n x, Le (bL Bf lv ls n x) (bL Bf' lv ls n x)
 | 0, _ => zeQ
 | n + 1, x => zhV (zcN Le.rfl fun _ => zcN (h _) fun _ => znf h lv ls n _) Le.rfl
theorem zkS : ∀ n, Le (sG n).1 (sG (n + 1)).1 ∧ (∀ l, Le ((sG n).2.1 l) ((sG (n + 1)).2.1 l)) ∧ Le (sG n).2.2.1 (sG (n + 1)).2.2.1 ∧ Le (sG n).2.2.2 (sG (n + 1)).2.2.2
 | 0 => ⟨zeQ, fun _ => zeQ, zeQ, zeQ⟩
 | n + 1 => by
  obtain ⟨h1, h2, h3, h4⟩ := zkS n
  refine ⟨h2 _, fun l => ?_, ?_, ?_⟩
  ·cases l with
   | nil => exact h3
   | cons lv ls => exact zcN (h2 ls) fun x => znf h2 lv ls big x
  ·exact zhV (zcN Le.rfl fun _ => zcN h3 fun _ => Le.rfl) (zfu (zcN h1 fun _ => Le.rfl) (zhV Le.rfl (zfu Le.rfl (zfu Le.rfl (zcN Le.rfl fun _ => zhV (zcN h4 fun _ => Le.rfl) Le.rfl)))))
  ·exact zcN Le.rfl fun _ => zcN h1 fun _ => Le.rfl
theorem zmG {n m : Nat} (h : n ≤ m) : Le (sG n).1 (sG m).1 ∧ Le (sG n).2.2.2 (sG m).2.2.2 := by
 induction h with
 | refl => exact ⟨Le.rfl, Le.rfl⟩
 | step _ ih => exact ⟨ih.1.trans (zkS _).1, ih.2.trans (zkS _).2.2.2⟩
theorem znz {p q : Ps Stm} (h : Le p q) : ∀ n l, Le (zde p n l) (zde q n l)
 | 0, _ => zeQ
 | n + 1, l => zfu Le.rfl (zcN h fun _ => znz h n _)
theorem zrA {p q : Ps (List Stm)} (h : Le p q) : Le (zc7 p) (zc7 q) := fun r v hv =>
 zfu (zcN Le.rfl fun _ => zcN h fun _ => zfu (zcN h fun _ => Le.rfl) Le.rfl) (zfu (zcN Le.rfl fun _ => zcN h fun _ => Le.rfl) Le.rfl) r v hv
theorem znp : ∀ n, Le (sB n).1 (sB (n + 1)).1 ∧ Le (sB n).2 (sB (n + 1)).2
 | 0 => ⟨zeQ, zeQ⟩
 | n + 1 => by
  obtain ⟨h1, h2⟩ := znp n
  exact ⟨zcN Le.rfl fun _ => znz h2 _ _, zrA h1⟩
theorem zrE {n m : Nat} (h : n ≤ m) : Le (sB n).1 (sB m).1 := by
 induction h with
 | refl => exact Le.rfl
 | step _ ih => exact ih.trans (znp _).1
theorem zkY {α : Type} {p q : Ps α} (h : Le p q) {L : Nat} (ht : To p L) {r : List Tok} (hr : r.length ≤ L) {v : Rs α} (hv : q r = some v) : p r = some v := by
 cases hp : p r with
 | none => exact absurd hp (ht r hr)
 | some u =>
  have := h r u hp
  rw [hv] at this
  injection this with this
  rw [this]
theorem zrL {r : List Tok} (hr : r.length ≤ 1000000) {v : Rs zb} (hv : zbZ r = some v) : (sG 8000008).1 r = some v :=
 zkY (zmG (n := 8000008) (m := big) (by have := zco; omega)).1 ((zfR 8000008 1000000 (by omega)).1 (by omega)) hr hv
theorem zqD {r : List Tok} (hr : r.length ≤ 1000000) {v : Rs zb} (hv : zd9 r = some v) : (sG 8000008).2.2.2 r = some v :=
 zkY (zmG (n := 8000008) (m := big) (by have := zco; omega)).2 ((zfR 8000008 1000000 (by omega)).2.2.2 (by omega)) hr hv
theorem zrC {r : List Tok} (hr : r.length ≤ 1000000) {v : Rs (List Stm)} (hv : zev r = some v) : (sB 8000008).1 r = some v :=
 zkY (zrE (n := 8000008) (m := big) (by have := zco; omega)) ((zk5 8000008 1000000 (by omega)).1 (by omega)) hr hv
abbrev RP := zq
def mkR (T r : List Tok) (b : Bool) : RP := ⟨T, ((T.length - r.length : Nat) : Int), b⟩
def Rel {α : Type} (T : List Tok) (X : Option (α × RP)) : Rs α → Prop
 | .error e => ∃ x, X = some (x, mkR T e true)
 | .ok (x, r) => X = some (x, mkR T r false)
def zQ {α : Type} (T : List Tok) (X : Option (α × RP)) (p : Ps α) (r : List Tok) : Prop := ∀ v, p r = some v → Rel T X v
def zkn (T : List Tok) (X : Option RP) (p : Ps Unit) (r : List Tok) : Prop := ∀ v, p r = some v → match v with
 | .error e => X = some (mkR T e true)
 | .ok (_, r') => X = some (mkR T r' false)
section
variable {T : List Tok} {r : List Tok} {k : Int} {tx : List BA}
theorem zer {α : Type} {X : Option (α × RP)} : zQ T X (fun _ => none) r := fun v h => by cases h
theorem zbT {α : Type} {x : α} : zQ T (some (x, mkR T r false)) (pu x) r := fun v h => by
 injection h with h
 subst h
 rfl
theorem zby {α β : Type} {p : Ps α} {f : α → Ps β} {X : Option (α × RP)} {G : α × RP → Option (β × RP)} (hs : Suf T r) (hp : Sf p) (hX : zQ T X p r) (hG : ∀ x r', Suf T r' → p r = some (.ok (x, r')) → zQ T (G (x, mkR T r' false)) (f x) r') (hF : ∀ x e, ∃ y, G (x, mkR T e true) = some (y, mkR T e true)) : zQ T (X.bind G) (bd p f) r := fun v h => by
 unfold bd at h
 split at h
 ·cases h
 ·rename_i e he
  injection h with h
  subst h
  obtain ⟨x, hx⟩ := hX _ he
  rw [hx]
  exact hF x e
 ·rename_i x r' he
  have hx : X = some (x, mkR T r' false) := hX _ he
  rw [hx]
  exact hG x r' (hs.of (hp r _ he)) he v h
theorem zct {β : Type} {p : Ps Unit} {f : Unit → Ps β} {X : Option RP} {G : RP → Option (β × RP)} (hs : Suf T r) (hp : Sf p) (hX : zkn T X p r) (hG : ∀ r', Suf T r' → p r = some (.ok ((), r')) → zQ T (G (mkR T r' false)) (f ()) r') (hF : ∀ e, ∃ y, G (mkR T e true) = some (y, mkR T e true)) : zQ T (X.bind G) (bd p f) r := fun v h => by
 unfold bd at h
 split at h
 ·cases h
 ·rename_i e he
  injection h with h
  subst h
  have hx : X = some (mkR T e true) := hX _ he
  rw [hx]
  exact hF e
 ·rename_i x r' he
  have hx : X = some (mkR T r' false) := hX _ he
  rw [hx]
  exact hG r' (hs.of (hp r _ he)) he v h
theorem zhw (hs : Suf T r) : zbk (mkR T r false) k ⟨#[]⟩ = some (zz k [] r) := by
 unfold zbk mkR
 dsimp only
 cases r with
 | nil =>
  rw [if_neg (by simp)]
  rfl
 | cons t r =>
  have := zb3 hs
  rw [if_pos (by simp only [List.length_cons] at *; simp; omega), zeJ hs, Option.bind_some, Option.bind_some]
  unfold zz
  dsimp only
  by_cases hk : (t.Kind.toNat : Int) = k
  ·rw [zik hk, zbx hk, if_pos rfl, zdf, if_pos (zbx rfl)]
   simp
  ·rw [zk4 hk, zdQ hk]
   rfl
theorem zcS (hs : Suf T r) {x : BA} (hx : x ≠ ⟨#[]⟩) : zbk (mkR T r false) k x = some (zz k [x] r) := by
 unfold zbk mkR
 dsimp only
 cases r with
 | nil =>
  rw [if_neg (by simp)]
  rfl
 | cons t r =>
  have := zb3 hs
  rw [if_pos (by simp only [List.length_cons] at *; simp; omega), zeJ hs, Option.bind_some, Option.bind_some]
  unfold zz
  dsimp only
  by_cases hk : (t.Kind.toNat : Int) = k
  ·rw [zik hk, zbx hk, if_pos rfl, zdf, zdQ hx, if_neg (by simp), Option.bind_some, zdf, Option.bind_some]
   congr 1
   unfold inB
   simp [eq_comm]
  ·rw [zk4 hk, zdQ hk]
   rfl
theorem zcy {t : Tok} {b : Bool} (hs : Suf T (t :: r)) : (⟨(mkR T (t :: r) b).L, IntKind.i64.wrap ((mkR T (t :: r) b).At + 1), (mkR T (t :: r) b).Failed⟩ : RP) = mkR T r b := by
 unfold mkR
 dsimp only
 rw [zeO (S := []) (D := []) hs]
theorem zj9 (h : zz k tx r = false) : tk k tx r = some (.error r) := by
 unfold tk
 cases r with
 | nil => rfl
 | cons t r =>
  dsimp only
  rw [h, if_neg (by simp)]
theorem zlu {x : BA} (hs : Suf T r) (hi : zbk (mkR T r false) k x = some (zz k tx r)) : zQ T (zdW (mkR T r false) k x) (tk k tx) r := fun v hv => by
 unfold zdW
 rw [hi, Option.bind_some]
 unfold tk at hv
 cases r with
 | nil =>
  injection hv with hv
  subst hv
  exact ⟨_, rfl⟩
 | cons t r =>
  dsimp only at hv
  cases h : zz k tx (t :: r) with
  | false =>
   rw [h, if_neg (by simp)] at hv
   injection hv with hv
   subst hv
   exact ⟨_, rfl⟩
  | true =>
   rw [h, if_pos rfl] at hv
   injection hv with hv
   subst hv
   rw [if_neg (by simp)]
   have hl := zb3 hs
   have h2 := hs.2
   have e : IntKind.i64.wrap (((T.length - r.length : Nat) : Int) - 1) = ((T.length - (t :: r).length : Nat) : Int) := by
    simp only [List.length_cons] at *
    rw [zeG (by omega)]
    omega
   unfold mkR
   dsimp only
   rw [zeO (S := []) (D := []) hs, e, zeJ hs]
   rfl
theorem zis (hs : Suf T r) : zQ T (zdW (mkR T r false) k ⟨#[]⟩) (tk k []) r := zlu hs (zhw hs)
theorem zju {x : BA} (hs : Suf T r) (hx : x ≠ ⟨#[]⟩) : zQ T (zdW (mkR T r false) k x) (tk k [x]) r := zlu hs (zcS hs hx)
theorem zdz (hs : Suf T r) : zQ T (zcX (mkR T r false)) zbQ r :=
 zby hs (zbC _ _) (zis hs) (fun x r' _ _ => zbT) fun x e => ⟨_, rfl⟩
theorem zb4 {x : BA} (hs : Suf T r) (hx : x ≠ ⟨#[]⟩) : zkn T (zbA (mkR T r false) x) (zbu [x]) r := fun v hv => by
 have ht := zju (k := 4) hs hx
 unfold zbA
 have hv : bd (tk 4 [x]) (fun _ => pu ()) r = some v := hv
 unfold bd at hv
 split at hv
 ·cases hv
 ·rename_i e he
  injection hv with hv
  subst hv
  obtain ⟨y, hy⟩ := ht _ he
  rw [hy]
  rfl
 ·rename_i y r' he
  have hy : _ = some (y, mkR T r' false) := ht _ he
  rw [hy]
  injection hv with hv
  subst hv
  rfl
theorem zq7 {β : Type} {x : BA} {f : Tok → Ps β} {G : RP → Option (β × RP)} (hs : Suf T r) (hx : x ≠ ⟨#[]⟩) (hG : ∀ t r', Suf T r' → tk 3 [x] r = some (.ok (t, r')) → zQ T (G (mkR T r' false)) (f t) r') (hF : ∀ e, ∃ y, G (mkR T e true) = some (y, mkR T e true)) : zQ T ((zdo (mkR T r false) x).bind G) (bd (tk 3 [x]) f) r := by
 unfold zdo
 rw [Option.bind_assoc]
 exact zby hs (zbC _ _) (zju hs hx) (fun t r' hs' he => hG t r' hs' he) fun t e => hF e
theorem R_S {α : Type} {x : BA} {A B : Option (α × RP)} {p q : Ps α} (hi : zbk (mkR T r false) k x = some (zz k tx r)) (hA : zz k tx r = true → zQ T A p r) (hB : zz k tx r = false → zQ T B q r) : zQ T ((zbk (mkR T r false) k x).bind fun c => if c = true then A else B) (ifS k tx p q) r := fun v hv => by
 rw [hi, Option.bind_some]
 unfold ifS at hv
 cases h : zz k tx r with
 | true => rw [h, if_pos rfl] at hv; exact hA h v hv
 | false => rw [h, if_neg (by simp)] at hv; exact hB h v hv
theorem R_H {α : Type} {x : BA} {A B : Option (α × RP)} {p q : Ps α} (hs : Suf T r) (hi : zbk (mkR T r false) k x = some (zz k tx r)) (hA : ∀ t r', r = t :: r' → Suf T r' → zQ T A p r') (hB : zz k tx r = false → zQ T B q r) : zQ T ((zbk (mkR T r false) k x).bind fun c => if c = true then A else B) (ifH k tx p q) r := fun v hv => by
 rw [hi, Option.bind_some]
 unfold ifH at hv
 cases h : zz k tx r with
 | true =>
  rw [h, if_pos rfl] at hv
  cases r with
  | nil => cases h
  | cons t r => exact hA t r rfl hs.tail v hv
 | false => rw [h, if_neg (by simp)] at hv; exact hB h v hv
theorem ziz (hs : Suf T r) (m : Bool) : zQ T (zep (mkR T r false) m) (zdR m) r := by
 unfold zep zdR
 refine R_H hs (zcS hs (by decide)) (fun t r' e hs' => by subst e; rw [zcy hs]; exact zbT) fun _ => ?_
 refine R_H hs (zcS hs (by decide)) (fun t r' e hs' => by subst e; rw [zcy hs]; exact zbT) fun _ => ?_
 refine R_H hs (zcS hs (by decide)) (fun t r' e hs' => ?_) fun _ => ?_
 ·subst e
  rw [zcy hs]
  refine zby hs' (zbC _ _) (zis hs') (fun t2 r2 hs2 _ => ?_) fun x e => ⟨_, rfl⟩
  refine zct hs2 (zG _) (zb4 hs2 (by decide)) (fun r3 hs3 _ => ?_) fun e => ⟨_, rfl⟩
  exact zq7 hs3 (by decide) (fun t3 r4 hs4 _ => zbT) fun e => ⟨_, rfl⟩
 have hn : zQ T ((zcX (mkR T r false)).bind fun c => some ((⟨4, 0, c.1⟩ : zI), c.2)) (bd zbQ fun n => pu ⟨4, 0, n⟩) r := zby hs zbl (zdz hs) (fun _ _ _ _ => zbT) fun x e => ⟨_, rfl⟩
 cases m with
 | false => exact R_S (zhw hs) (fun _ => hn) fun _ => zbT
 | true =>
  intro v hv
  rw [zhw hs, Option.bind_some]
  cases h : zz 1 [] r with
  | true => exact hn v hv
  | false =>
   rw [if_neg (by simp), if_pos rfl]
   have hv : bd (bd (tk 1 []) fun t => pu t.Text) (fun n => pu (⟨4, 0, n⟩ : zI)) r = some v := hv
   unfold bd at hv
   rw [zj9 h] at hv
   injection hv with hv
   subst hv
   exact ⟨_, rfl⟩
end
end Go.Proofs.Ytnhboaaikehpoaa
