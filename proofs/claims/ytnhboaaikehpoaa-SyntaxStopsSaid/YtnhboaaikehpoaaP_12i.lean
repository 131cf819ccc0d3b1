import Derived.Test.YtnhboaaikehpoaaP_12h
import Derived.KernelRfl
namespace Go.Proofs.Ytnhboaaikehpoaa
open Go.Ab Go.RowKit
set_option linter.unusedVariables false
set_option linter.unusedSimpArgs false
section
variable {T : List Tok} {r : List Tok} {k : Int} {tx : List BA}
def zgW (T : List Tok) (R : RP → Int → Option (za × RP)) (rI : Ps za) (r : List Tok) : Prop := ∀ t r', r = t :: r' → zs 4 [⟨#[91]⟩] r = true → Suf T r' → ∀ {β : Type} (f : za → Ps β) (G : za → RP → Option (β × RP)), (∀ x r2, Suf T r2 → zG T (G x (mkR T r2 false)) (f x) r2) → (∀ x e, ∃ y, G x (mkR T e true) = some (y, mkR T e true)) →
  zG T ((R (mkR T r' false) 0).bind fun c => (zbi c.2 ⟨#[93]⟩).bind fun d => G c.1 d) (bd rI f) r
theorem zos {R : RP → Int → Option (za × RP)} : zgW T R (fun _ => none) r := fun t r' _ _ _ β f G _ _ v h => by cases h
theorem ze9 {α β γ : Type} (p : Ps α) (f : α → Ps β) (g : β → Ps γ) : bd (bd p f) g = bd p fun x => bd (f x) g := by
 funext r
 unfold bd
 cases p r with
 | none => rfl
 | some v => cases v <;> rfl
theorem zfs {α β : Type} (x : α) (f : α → Ps β) : bd (pu x) f = f x := rfl
theorem zdz {α β : Type} {p : Ps α} {f : α → Ps β} {r r' : List Tok} {x : α} (h : p r = some (.ok (x, r'))) : bd p f r = f x r' := by
 unfold bd
 rw [h]
theorem zqZ {R : RP → Int → Option (za × RP)} {rE : Ps za} (hE : Sf rE) (hR : ∀ r, Suf T r → zG T (R (mkR T r false) 0) rE r) (hs : Suf T r) : zgW T R (iB rE) r := fun t r' e h hs' β f G hG hF v hv => by
 subst e
 unfold iB at hv
 simp only [ze9, zfs] at hv
 have ht : zbd [⟨#[91]⟩] (t :: r') = some (.ok ((), r')) := by
  show bd (tk 4 [⟨#[91]⟩]) (fun _ => pu ()) (t :: r') = _
  unfold bd tk
  dsimp only
  rw [if_pos h]
  rfl
 rw [zdz ht] at hv
 refine (zbh hs' hE (hR r' hs') (fun x r2 hs2 _ => ?_) fun x e => ?_) v hv
 ·exact zb7 hs2 (zy _) (zbN hs2 (by decide)) (fun r3 hs3 _ => hG x r3 hs3) fun e => hF x e
 ·exact hF x e
theorem zcP {α : Type} {x : BA} {A B : Option (α × RP)} {p q : Ps α} (hs : Suf T r) (hx : x ≠ ⟨#[]⟩) (hA : ∀ t r', r = t :: r' → Suf T r' → zG T A p r') (hB : zs k [x] r = false → zG T B q r) : zG T ((z7 (mkR T r false) k x).bind fun c => if c = true then A else B) (ifH k [x] p q) r := R_H hs (zcB hs hx) hA hB
theorem zrh (a b : BA) : zs 4 [a, b] r = (zs 4 [a] r || zs 4 [b] r) := by
 unfold zs
 cases r with
 | nil => rfl
 | cons t r =>
  dsimp only
  cases decide ((t.Kind.toNat : Int) = 4) with
  | false => rfl
  | true =>
   simp [inB]
theorem zqc {R : RP → Int → Option (za × RP)} {R2 : RP → Option (za × RP)} {rE rU rI : Ps za} (hE : Sf rE) (hU : Sf rU) (hI : Sf rI) (h1 : ∀ r, Suf T r → zG T (R (mkR T r false) 0) rE r) (h2 : ∀ r, Suf T r → zG T (R2 (mkR T r false)) rU r) (h3 : ∀ r, Suf T r → zgW T R rI r) (hF : ∀ e, ∃ y, R2 (mkR T e true) = some (y, mkR T e true)) (hs : Suf T r) : zG T (zhH R R2 (mkR T r false)) (uB rE rU rI) r := by
 have e0 : zhH R R2 (mkR T r false) = zhO R R2 (mkR T r false) (zs 4 [⟨#[45]⟩, ⟨#[33]⟩] r) := by
  unfold zhH
  rw [zcB hs (by decide), zcB hs (by decide), Option.bind_some, Option.bind_some, zrh]
  cases zs 4 [⟨#[45]⟩] r <;> rfl
 rw [e0]
 unfold zhO uB
 have hS : ∀ {A B : Option (za × RP)} {p q : Ps za}, (zs 4 [⟨#[45]⟩, ⟨#[33]⟩] r = true → zG T A p r) → zG T B q r → zG T (if zs 4 [⟨#[45]⟩, ⟨#[33]⟩] r = true then A else B) (ifS 4 [⟨#[45]⟩, ⟨#[33]⟩] p q) r := fun {A B p q} hA hB v hv => by
  unfold ifS at hv
  cases h : zs 4 [⟨#[45]⟩, ⟨#[33]⟩] r with
  | true => rw [h, if_pos rfl] at hv; exact hA h v hv
  | false => rw [h, if_neg (by simp)] at hv; exact hB v hv
 refine hS (fun _ => ?_) ?_
 ·refine zbh hs (zbm _ _) (ziF hs) (fun t r2 hs2 _ => ?_) fun x e => ?_
  ·exact zbh hs2 hU (h2 r2 hs2) (fun x r3 hs3 _ => by cases x; exact zbE) fun x e => ⟨_, rfl⟩
  ·obtain ⟨y, hy⟩ := hF e
   dsimp only
   rw [hy]
   exact ⟨_, rfl⟩
 refine zcP hs (by decide) (fun t r2 e hs2 => ?_) fun _ => ?_
 ·subst e
  rw [zcg hs]
  refine zbh hs2 hE (h1 r2 hs2) (fun x r3 hs3 _ => ?_) fun x e => ⟨_, rfl⟩
  exact zb7 hs3 (zy _) (zbN hs3 (by decide)) (fun r4 hs4 _ => zbE) fun e => ⟨_, rfl⟩
 refine R_S (zgU hs) (fun _ => ?_) fun _ => ?_
 ·exact zbh hs (zbm _ _) (ziF hs) (fun t r2 hs2 _ => zbE) fun x e => ⟨_, rfl⟩
 refine zcP hs (by decide) (fun t r2 e hs2 => by subst e; rw [zcg hs]; exact zbE) fun _ => ?_
 refine zcP hs (by decide) (fun t r2 e hs2 => by subst e; rw [zcg hs]; exact zbE) fun _ => ?_
 refine zbh hs z9 (zdf hs) (fun nm r2 hs2 _ => ?_) fun x e => ⟨_, rfl⟩
 dsimp only
 refine R_S (zcB hs2 (by decide)) (fun h => ?_) fun _ => ?_
 ·cases r2 with
  | nil => cases h
  | cons t r3 =>
   rw [zcg hs2]
   exact h3 _ hs2 t r3 rfl h hs2.tail _ (fun x d => some ((⟨(4 : UInt8), 0, nm, (⟨#[]⟩ : ByteArray), (⟨#[]⟩ : ByteArray), ([(⟨x.Kind, x.Num, x.Name, x.Field, x.Op, x.Kids⟩ : za)] : List za)⟩ : za), d)) (fun x r4 _ => by cases x; exact zbE) fun x e => ⟨_, rfl⟩
 refine zcP hs2 (by decide) (fun t r3 e hs3 => ?_) fun _ => zbE
 subst e
 rw [zcg hs2]
 exact zbh hs3 z9 (zdf hs3) (fun x r4 hs4 _ => zbE) fun x e => ⟨_, rfl⟩
theorem R_G : ∀ (n m : Nat), n + 10 ≤ m → ∀ r, Suf T r → zG T ((zcv m).1 (mkR T r false) 0) (sG n).1 r ∧ (∀ j : Nat, j ≤ 5 → zG T ((zcv m).1 (mkR T r false) (j : Int)) ((sG n).2.1 (lvls.drop j)) r) ∧ zG T ((zcv m).2 (mkR T r false)) (sG n).2.2.1 r ∧ zgW T (zcv m).1 (sG n).2.2.2 r
 | 0, m, _, r, hs => ⟨zeb, fun _ _ => zeb, zeb, zos⟩
 | n + 1, 0, h, r, hs => by omega
 | n + 1, m + 1, h, r, hs => by
  obtain ⟨f1, f2, f3, f4⟩ := zeY n
  have a := fun r hs => R_G n m (by omega) r hs
  have b := fun r hs => R_G n (m + 1) (by omega) r hs
  refine ⟨(b r hs).2.1 0 (by omega), fun j hj => ?_, ?_, ?_⟩
  ·show zG T (zeW (zcv m).1 (zcv m).2 (mkR T r false) (j : Int)) (bB (sG n).2.2.1 (sG n).2.1 (lvls.drop j)) r
   unfold zeW
   rw [show zgj = some lvls from rfl, Option.bind_some]
   by_cases h5 : j = 5
   ·subst h5
    rw [if_pos (zbo (by simp [lvls]))]
    have eta : ∀ X : Option (za × RP), (X.bind fun c => some (c.1, c.2)) = X := fun X => by cases X <;> rfl
    rw [eta]
    exact (a r hs).2.2.1
   ·obtain ⟨lv, ls, hd⟩ := zmp (j := j) (by omega)
    obtain ⟨_, _, hls, _⟩ := zhU hd
    rw [if_neg (by simp [lvls]; omega), hd, zcq (by omega)]
    have hR : ∀ r, Suf T r → zG T ((zcv m).1 (mkR T r false) ((j + 1 : Nat) : Int)) ((sG n).2.1 ls) r := fun r hs => by
     rw [hls]
     exact (a r hs).2.1 (j + 1) (by omega)
    refine zbh hs (f2 ls) (hR r hs) (fun x r2 hs2 _ => ?_) fun x e => ?_
    ·exact zmC f2 hd hR big big x r2 (by have := zbM hs2; have := hs2.2; have := zbZ; omega) hs2
    ·exact ⟨x, zkV hd _ x⟩
  ·exact zqc f1 f3 f4 (fun r hs => (a r hs).1) (fun r hs => (a r hs).2.2.1) (fun r hs => (a r hs).2.2.2) (fun e => by
    obtain ⟨m', rfl⟩ : ∃ m', m = m' + 1 := ⟨m - 1, by omega⟩
    exact zno e m') hs
  ·exact zqZ f1 (fun r hs => (b r hs).1) hs
theorem zdO (hs : Suf T r) : zG T (zb8 (mkR T r false) 0) zbI r := fun v hv =>
 (R_G 8000008 big (by have := zb9 (show 8000018 ≤ 9223372036854775807 by omega); omega) r hs).1 v (zp4 (by have := zbM hs; have := hs.2; omega) hv)
theorem zpz (hs : Suf T r) : zgW T zb8 zd8 r := fun t r' e h hs' β f G hG hF v hv => by
 have := (R_G (T := T) 8000008 big (by have := zb9 (show 8000018 ≤ 9223372036854775807 by omega); omega) r hs).2.2.2 t r' e h hs' f G hG hF
 refine this v ?_
 unfold bd at hv ⊢
 cases hi : zd8 r with
 | none => rw [hi] at hv; cases hv
 | some u => rw [zqG (by have := zbM hs; have := hs.2; omega) hi]; rw [hi] at hv; exact hv
end
end Go.Proofs.Ytnhboaaikehpoaa
