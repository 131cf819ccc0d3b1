import Derived.Test.YtnhboaaikehpoaaP_12h
import Derived.KernelRfl
namespace Go.Proofs.Ytnhboaaikehpoaa
open Go.Ab Go.RowKit
set_option linter.unusedVariables false
set_option linter.unusedSimpArgs false
section
variable {T : List Tok} {r : List Tok} {k : Int} {tx : List BA}
def zgD (T : List Tok) (R : RP → Int → Option (zb × RP)) (rI : Ps zb) (r : List Tok) : Prop := ∀ t r', r = t :: r' → zI 4 [⟨#[91]⟩] r = true → Suf T r' → ∀ {β : Type} (f : zb → Ps β) (G : zb → RP → Option (β × RP)), (∀ x r2, Suf T r2 → zU T (G x (mkR T r2 false)) (f x) r2) → (∀ x e, ∃ y, G x (mkR T e true) = some (y, mkR T e true)) →
  zU T ((R (mkR T r' false) 0).bind fun c => (zbt c.2 ⟨#[93]⟩).bind fun d => G c.1 d) (bd rI f) r
theorem znA {R : RP → Int → Option (zb × RP)} : zgD T R (fun _ => none) r := fun t r' _ _ _ β f G _ _ v h => by cases h
theorem zfs {α β γ : Type} (p : Ps α) (f : α → Ps β) (g : β → Ps γ) : bd (bd p f) g = bd p fun x => bd (f x) g := by
 funext r
 unfold bd
 cases p r with
 | none => rfl
 | some v => cases v <;> rfl
theorem zfV {α β : Type} (x : α) (f : α → Ps β) : bd (pu x) f = f x := rfl
theorem zeB {α β : Type} {p : Ps α} {f : α → Ps β} {r r' : List Tok} {x : α} (h : p r = some (.ok (x, r'))) : bd p f r = f x r' := by
 unfold bd
 rw [h]
theorem zqd {R : RP → Int → Option (zb × RP)} {rE : Ps zb} (hE : Sf rE) (hR : ∀ r, Suf T r → zU T (R (mkR T r false) 0) rE r) (hs : Suf T r) : zgD T R (iB rE) r := fun t r' e h hs' β f G hG hF v hv => by
 subst e
 unfold iB at hv
 simp only [zfs, zfV] at hv
 have ht : zbs [⟨#[91]⟩] (t :: r') = some (.ok ((), r')) := by
  show bd (tk 4 [⟨#[91]⟩]) (fun _ => pu ()) (t :: r') = _
  unfold bd tk
  dsimp only
  rw [if_pos h]
  rfl
 rw [zeB ht] at hv
 refine (zbu hs' hE (hR r' hs') (fun x r2 hs2 _ => ?_) fun x e => ?_) v hv
 ·exact zcv hs2 (zK _) (zb0 hs2 (by decide)) (fun r3 hs3 _ => hG x r3 hs3) fun e => hF x e
 ·exact hF x e
theorem zcW {α : Type} {x : BA} {A B : Option (α × RP)} {p q : Ps α} (hs : Suf T r) (hx : x ≠ ⟨#[]⟩) (hA : ∀ t r', r = t :: r' → Suf T r' → zU T A p r') (hB : zI k [x] r = false → zU T B q r) : zU T ((zbg (mkR T r false) k x).bind fun c => if c = true then A else B) (ifH k [x] p q) r := R_H hs (zcO hs hx) hA hB
theorem znl (a b : BA) : zI 4 [a, b] r = (zI 4 [a] r || zI 4 [b] r) := by
 unfold zI
 cases r with
 | nil => rfl
 | cons t r =>
  dsimp only
  cases decide ((t.Kind.toNat : Int) = 4) with
  | false => rfl
  | true =>
   simp [inB]
theorem zoF {R : RP → Int → Option (zb × RP)} {R2 : RP → Option (zb × RP)} {rE rU rI : Ps zb} (hE : Sf rE) (hU : Sf rU) (hI : Sf rI) (h1 : ∀ r, Suf T r → zU T (R (mkR T r false) 0) rE r) (h2 : ∀ r, Suf T r → zU T (R2 (mkR T r false)) rU r) (h3 : ∀ r, Suf T r → zgD T R rI r) (hF : ∀ e, ∃ y, R2 (mkR T e true) = some (y, mkR T e true)) (hs : Suf T r) : zU T (zgm R R2 (mkR T r false)) (uB rE rU rI) r := by
 have e0 : zgm R R2 (mkR T r false) = zgl R R2 (mkR T r false) (zI 4 [⟨#[45]⟩, ⟨#[33]⟩] r) := by
  unfold zgm
  rw [zcO hs (by decide), zcO hs (by decide), Option.bind_some, Option.bind_some, znl]
  cases zI 4 [⟨#[45]⟩] r <;> rfl
 rw [e0]
 unfold zgl uB
 have hS : ∀ {A B : Option (zb × RP)} {p q : Ps zb}, (zI 4 [⟨#[45]⟩, ⟨#[33]⟩] r = true → zU T A p r) → zU T B q r → zU T (if zI 4 [⟨#[45]⟩, ⟨#[33]⟩] r = true then A else B) (ifS 4 [⟨#[45]⟩, ⟨#[33]⟩] p q) r := fun {A B p q} hA hB v hv => by
  unfold ifS at hv
  cases h : zI 4 [⟨#[45]⟩, ⟨#[33]⟩] r with
  | true => rw [h, if_pos rfl] at hv; exact hA h v hv
  | false => rw [h, if_neg (by simp)] at hv; exact hB v hv
 refine hS (fun _ => ?_) ?_
 ·refine zbu hs (zbD _ _) (ziA hs) (fun t r2 hs2 _ => ?_) fun x e => ?_
  ·exact zbu hs2 hU (h2 r2 hs2) (fun x r3 hs3 _ => by cases x; exact zbO) fun x e => ⟨_, rfl⟩
  ·obtain ⟨y, hy⟩ := hF e
   dsimp only
   rw [hy]
   exact ⟨_, rfl⟩
 refine zcW hs (by decide) (fun t r2 e hs2 => ?_) fun _ => ?_
 ·subst e
  rw [zcu hs]
  refine zbu hs2 hE (h1 r2 hs2) (fun x r3 hs3 _ => ?_) fun x e => ⟨_, rfl⟩
  exact zcv hs3 (zK _) (zb0 hs3 (by decide)) (fun r4 hs4 _ => zbO) fun e => ⟨_, rfl⟩
 refine R_S (zhy hs) (fun _ => ?_) fun _ => ?_
 ·exact zbu hs (zbD _ _) (ziA hs) (fun t r2 hs2 _ => zbO) fun x e => ⟨_, rfl⟩
 refine zcW hs (by decide) (fun t r2 e hs2 => by subst e; rw [zcu hs]; exact zbO) fun _ => ?_
 refine zcW hs (by decide) (fun t r2 e hs2 => by subst e; rw [zcu hs]; exact zbO) fun _ => ?_
 refine zbu hs zbo (zdn hs) (fun nm r2 hs2 _ => ?_) fun x e => ⟨_, rfl⟩
 dsimp only
 refine R_S (zcO hs2 (by decide)) (fun h => ?_) fun _ => ?_
 ·cases r2 with
  | nil => cases h
  | cons t r3 =>
   rw [zcu hs2]
   exact h3 _ hs2 t r3 rfl h hs2.tail _ (fun x d => some ((⟨(4 : UInt8), 0, nm, (⟨#[]⟩ : ByteArray), (⟨#[]⟩ : ByteArray), ([(⟨x.Kind, x.Num, x.Name, x.Field, x.Op, x.Kids⟩ : zb)] : List zb)⟩ : zb), d)) (fun x r4 _ => by cases x; exact zbO) fun x e => ⟨_, rfl⟩
 refine zcW hs2 (by decide) (fun t r3 e hs3 => ?_) fun _ => zbO
 subst e
 rw [zcu hs2]
 exact zbu hs3 zbo (zdn hs3) (fun x r4 hs4 _ => zbO) fun x e => ⟨_, rfl⟩
theorem R_G : ∀ (n m : Nat), n + 10 ≤ m → ∀ r, Suf T r → zU T ((zbP m).1 (mkR T r false) 0) (sG n).1 r ∧ (∀ j : Nat, j ≤ 5 → zU T ((zbP m).1 (mkR T r false) (j : Int)) ((sG n).2.1 (lvls.drop j)) r) ∧ zU T ((zbP m).2 (mkR T r false)) (sG n).2.2.1 r ∧ zgD T (zbP m).1 (sG n).2.2.2 r
 | 0, m, _, r, hs => ⟨zes, fun _ _ => zes, zes, znA⟩
 | n + 1, 0, h, r, hs => by omega
 | n + 1, m + 1, h, r, hs => by
  obtain ⟨f1, f2, f3, f4⟩ := zfO n
  have a := fun r hs => R_G n m (by omega) r hs
  have b := fun r hs => R_G n (m + 1) (by omega) r hs
  refine ⟨(b r hs).2.1 0 (by omega), fun j hj => ?_, ?_, ?_⟩
  ·show zU T (zep (zbP m).1 (zbP m).2 (mkR T r false) (j : Int)) (bB (sG n).2.2.1 (sG n).2.1 (lvls.drop j)) r
   unfold zep
   rw [show zfz = some lvls from rfl, Option.bind_some]
   by_cases h5 : j = 5
   ·subst h5
    rw [if_pos (zbe (by simp [lvls]))]
    have eta : ∀ X : Option (zb × RP), (X.bind fun c => some (c.1, c.2)) = X := fun X => by cases X <;> rfl
    rw [eta]
    exact (a r hs).2.2.1
   ·obtain ⟨lv, ls, hd⟩ := zmO (j := j) (by omega)
    obtain ⟨_, _, hls, _⟩ := zi4 hd
    rw [if_neg (by simp [lvls]; omega), hd, zbN (by omega)]
    have hR : ∀ r, Suf T r → zU T ((zbP m).1 (mkR T r false) ((j + 1 : Nat) : Int)) ((sG n).2.1 ls) r := fun r hs => by
     rw [hls]
     exact (a r hs).2.1 (j + 1) (by omega)
    refine zbu hs (f2 ls) (hR r hs) (fun x r2 hs2 _ => ?_) fun x e => ?_
    ·exact zmF f2 hd hR big big x r2 (by have := zbW hs2; have := hs2.2; have := zcB; omega) hs2
    ·exact ⟨x, zji hd _ x⟩
  ·exact zoF f1 f3 f4 (fun r hs => (a r hs).1) (fun r hs => (a r hs).2.2.1) (fun r hs => (a r hs).2.2.2) (fun e => by
    obtain ⟨m', rfl⟩ : ∃ m', m = m' + 1 := ⟨m - 1, by omega⟩
    exact zlQ e m') hs
  ·exact zqd f1 (fun r hs => (b r hs).1) hs
theorem zdN (hs : Suf T r) : zU T (zcj (mkR T r false) 0) zb5 r := fun v hv =>
 (R_G 8000008 big (by have := zbC (show 8000018 ≤ 9223372036854775807 by omega); omega) r hs).1 v (zqQ (by have := zbW hs; have := hs.2; omega) hv)
theorem zq0 (hs : Suf T r) : zgD T zcj zeb r := fun t r' e h hs' β f G hG hF v hv => by
 have := (R_G (T := T) 8000008 big (by have := zbC (show 8000018 ≤ 9223372036854775807 by omega); omega) r hs).2.2.2 t r' e h hs' f G hG hF
 refine this v ?_
 unfold bd at hv ⊢
 cases hi : zeb r with
 | none => rw [hi] at hv; cases hv
 | some u => rw [znU (by have := zbW hs; have := hs.2; omega) hi]; rw [hi] at hv; exact hv
end
end Go.Proofs.Ytnhboaaikehpoaa
