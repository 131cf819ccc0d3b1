import Derived.Test.YtnhboaaikehpoaaP_12h
import Derived.KernelRfl
namespace Go.Proofs.Ytnhboaaikehpoaa
open Go.Ab Go.RowKit
set_option linter.unusedVariables false
set_option linter.unusedSimpArgs false
section
variable {T : List Tok} {r : List Tok} {k : Int} {tx : List BA}
def zhm (T : List Tok) (R : RP → Int → Option (zb × RP)) (rI : Ps zb) (r : List Tok) : Prop := ∀ t r', r = t :: r' → zz 4 [⟨#[91]⟩] r = true → Suf T r' → ∀ {β : Type} (f : zb → Ps β) (G : zb → RP → Option (β × RP)), (∀ x r2, Suf T r2 → zQ T (G x (mkR T r2 false)) (f x) r2) → (∀ x e, ∃ y, G x (mkR T e true) = some (y, mkR T e true)) →
  zQ T ((R (mkR T r' false) 0).bind fun c => (zbA c.2 ⟨#[93]⟩).bind fun d => G c.1 d) (bd rI f) r
theorem zpw {R : RP → Int → Option (zb × RP)} : zhm T R (fun _ => none) r := fun t r' _ _ _ β f G _ _ v h => by cases h
theorem zfo {α β γ : Type} (p : Ps α) (f : α → Ps β) (g : β → Ps γ) : bd (bd p f) g = bd p fun x => bd (f x) g := by
 funext r
 unfold bd
 cases p r with
 | none => rfl
 | some v => cases v <;> rfl
theorem zgd {α β : Type} (x : α) (f : α → Ps β) : bd (pu x) f = f x := rfl
theorem zdI {α β : Type} {p : Ps α} {f : α → Ps β} {r r' : List Tok} {x : α} (h : p r = some (.ok (x, r'))) : bd p f r = f x r' := by
 unfold bd
 rw [h]
theorem znU {R : RP → Int → Option (zb × RP)} {rE : Ps zb} (hE : Sf rE) (hR : ∀ r, Suf T r → zQ T (R (mkR T r false) 0) rE r) (hs : Suf T r) : zhm T R (iB rE) r := fun t r' e h hs' β f G hG hF v hv => by
 subst e
 unfold iB at hv
 simp only [zfo, zgd] at hv
 have ht : zbu [⟨#[91]⟩] (t :: r') = some (.ok ((), r')) := by
  show bd (tk 4 [⟨#[91]⟩]) (fun _ => pu ()) (t :: r') = _
  unfold bd tk
  dsimp only
  rw [if_pos h]
  rfl
 rw [zdI ht] at hv
 refine (zby hs' hE (hR r' hs') (fun x r2 hs2 _ => ?_) fun x e => ?_) v hv
 ·exact zct hs2 (zG _) (zb4 hs2 (by decide)) (fun r3 hs3 _ => hG x r3 hs3) fun e => hF x e
 ·exact hF x e
theorem zc5 {α : Type} {x : BA} {A B : Option (α × RP)} {p q : Ps α} (hs : Suf T r) (hx : x ≠ ⟨#[]⟩) (hA : ∀ t r', r = t :: r' → Suf T r' → zQ T A p r') (hB : zz k [x] r = false → zQ T B q r) : zQ T ((zbk (mkR T r false) k x).bind fun c => if c = true then A else B) (ifH k [x] p q) r := R_H hs (zcS hs hx) hA hB
theorem zq1 (a b : BA) : zz 4 [a, b] r = (zz 4 [a] r || zz 4 [b] r) := by
 unfold zz
 cases r with
 | nil => rfl
 | cons t r =>
  dsimp only
  cases decide ((t.Kind.toNat : Int) = 4) with
  | false => rfl
  | true =>
   simp [inB]
theorem zrf {R : RP → Int → Option (zb × RP)} {R2 : RP → Option (zb × RP)} {rE rU rI : Ps zb} (hE : Sf rE) (hU : Sf rU) (hI : Sf rI) (h1 : ∀ r, Suf T r → zQ T (R (mkR T r false) 0) rE r) (h2 : ∀ r, Suf T r → zQ T (R2 (mkR T r false)) rU r) (h3 : ∀ r, Suf T r → zhm T R rI r) (hF : ∀ e, ∃ y, R2 (mkR T e true) = some (y, mkR T e true)) (hs : Suf T r) : zQ T (ziG R R2 (mkR T r false)) (uB rE rU rI) r := by
 have e0 : ziG R R2 (mkR T r false) = ziH R R2 (mkR T r false) (zz 4 [⟨#[45]⟩, ⟨#[33]⟩] r) := by
  unfold ziG
  rw [zcS hs (by decide), zcS hs (by decide), Option.bind_some, Option.bind_some, zq1]
  cases zz 4 [⟨#[45]⟩] r <;> rfl
 rw [e0]
 unfold ziH uB
 have hS : ∀ {A B : Option (zb × RP)} {p q : Ps zb}, (zz 4 [⟨#[45]⟩, ⟨#[33]⟩] r = true → zQ T A p r) → zQ T B q r → zQ T (if zz 4 [⟨#[45]⟩, ⟨#[33]⟩] r = true then A else B) (ifS 4 [⟨#[45]⟩, ⟨#[33]⟩] p q) r := fun {A B p q} hA hB v hv => by
  unfold ifS at hv
  cases h : zz 4 [⟨#[45]⟩, ⟨#[33]⟩] r with
  | true => rw [h, if_pos rfl] at hv; exact hA h v hv
  | false => rw [h, if_neg (by simp)] at hv; exact hB v hv
 refine hS (fun _ => ?_) ?_
 ·refine zby hs (zbC _ _) (zis hs) (fun t r2 hs2 _ => ?_) fun x e => ?_
  ·exact zby hs2 hU (h2 r2 hs2) (fun x r3 hs3 _ => by cases x; exact zbT) fun x e => ⟨_, rfl⟩
  ·obtain ⟨y, hy⟩ := hF e
   dsimp only
   rw [hy]
   exact ⟨_, rfl⟩
 refine zc5 hs (by decide) (fun t r2 e hs2 => ?_) fun _ => ?_
 ·subst e
  rw [zcy hs]
  refine zby hs2 hE (h1 r2 hs2) (fun x r3 hs3 _ => ?_) fun x e => ⟨_, rfl⟩
  exact zct hs3 (zG _) (zb4 hs3 (by decide)) (fun r4 hs4 _ => zbT) fun e => ⟨_, rfl⟩
 refine R_S (zhw hs) (fun _ => ?_) fun _ => ?_
 ·exact zby hs (zbC _ _) (zis hs) (fun t r2 hs2 _ => zbT) fun x e => ⟨_, rfl⟩
 refine zc5 hs (by decide) (fun t r2 e hs2 => by subst e; rw [zcy hs]; exact zbT) fun _ => ?_
 refine zc5 hs (by decide) (fun t r2 e hs2 => by subst e; rw [zcy hs]; exact zbT) fun _ => ?_
 refine zby hs zbl (zdz hs) (fun nm r2 hs2 _ => ?_) fun x e => ⟨_, rfl⟩
 dsimp only
 refine R_S (zcS hs2 (by decide)) (fun h => ?_) fun _ => ?_
 ·cases r2 with
  | nil => cases h
  | cons t r3 =>
   rw [zcy hs2]
   exact h3 _ hs2 t r3 rfl h hs2.tail _ (fun x d => some ((⟨(4 : UInt8), 0, nm, (⟨#[]⟩ : ByteArray), (⟨#[]⟩ : ByteArray), ([(⟨x.Kind, x.Num, x.Name, x.Field, x.Op, x.Kids⟩ : zb)] : List zb)⟩ : zb), d)) (fun x r4 _ => by cases x; exact zbT) fun x e => ⟨_, rfl⟩
 refine zc5 hs2 (by decide) (fun t r3 e hs3 => ?_) fun _ => zbT
 subst e
 rw [zcy hs2]
 exact zby hs3 zbl (zdz hs3) (fun x r4 hs4 _ => zbT) fun x e => ⟨_, rfl⟩
theorem R_G : ∀ (n m : Nat), n + 10 ≤ m → ∀ r, Suf T r → zQ T ((zcI m).1 (mkR T r false) 0) (sG n).1 r ∧ (∀ j : Nat, j ≤ 5 → zQ T ((zcI m).1 (mkR T r false) (j : Int)) ((sG n).2.1 (lvls.drop j)) r) ∧ zQ T ((zcI m).2 (mkR T r false)) (sG n).2.2.1 r ∧ zhm T (zcI m).1 (sG n).2.2.2 r
 | 0, m, _, r, hs => ⟨zer, fun _ _ => zer, zer, zpw⟩
 | n + 1, 0, h, r, hs => by omega
 | n + 1, m + 1, h, r, hs => by
  obtain ⟨f1, f2, f3, f4⟩ := zfj n
  have a := fun r hs => R_G n m (by omega) r hs
  have b := fun r hs => R_G n (m + 1) (by omega) r hs
  refine ⟨(b r hs).2.1 0 (by omega), fun j hj => ?_, ?_, ?_⟩
  ·show zQ T (zfa (zcI m).1 (zcI m).2 (mkR T r false) (j : Int)) (bB (sG n).2.2.1 (sG n).2.1 (lvls.drop j)) r
   unfold zfa
   rw [show zhg = some lvls from rfl, Option.bind_some]
   by_cases h5 : j = 5
   ·subst h5
    rw [if_pos (zbx (by simp [lvls]))]
    have eta : ∀ X : Option (zb × RP), (X.bind fun c => some (c.1, c.2)) = X := fun X => by cases X <;> rfl
    rw [eta]
    exact (a r hs).2.2.1
   ·obtain ⟨lv, ls, hd⟩ := zlh (j := j) (by omega)
    obtain ⟨_, _, hls, _⟩ := zij hd
    rw [if_neg (by simp [lvls]; omega), hd, zcc (by omega)]
    have hR : ∀ r, Suf T r → zQ T ((zcI m).1 (mkR T r false) ((j + 1 : Nat) : Int)) ((sG n).2.1 ls) r := fun r hs => by
     rw [hls]
     exact (a r hs).2.1 (j + 1) (by omega)
    refine zby hs (f2 ls) (hR r hs) (fun x r2 hs2 _ => ?_) fun x e => ?_
    ·exact zms f2 hd hR big big x r2 (by have := zb3 hs2; have := hs2.2; have := zco; omega) hs2
    ·exact ⟨x, zjA hd _ x⟩
  ·exact zrf f1 f3 f4 (fun r hs => (a r hs).1) (fun r hs => (a r hs).2.2.1) (fun r hs => (a r hs).2.2.2) (fun e => by
    obtain ⟨m', rfl⟩ : ∃ m', m = m' + 1 := ⟨m - 1, by omega⟩
    exact zmR e m') hs
  ·exact znU f1 (fun r hs => (b r hs).1) hs
theorem zdX (hs : Suf T r) : zQ T (zcu (mkR T r false) 0) zbZ r := fun v hv =>
 (R_G 8000008 big (by have := zbU (show 8000018 ≤ 9223372036854775807 by omega); omega) r hs).1 v (zrL (by have := zb3 hs; have := hs.2; omega) hv)
theorem zrI (hs : Suf T r) : zhm T zcu zd9 r := fun t r' e h hs' β f G hG hF v hv => by
 have := (R_G (T := T) 8000008 big (by have := zbU (show 8000018 ≤ 9223372036854775807 by omega); omega) r hs).2.2.2 t r' e h hs' f G hG hF
 refine this v ?_
 unfold bd at hv ⊢
 cases hi : zd9 r with
 | none => rw [hi] at hv; cases hv
 | some u => rw [zqD (by have := zb3 hs; have := hs.2; omega) hi]; rw [hi] at hv; exact hv
end
end Go.Proofs.Ytnhboaaikehpoaa
