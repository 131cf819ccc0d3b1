import Derived.Test.YtnhboaaikehpoaaP_12r
import Derived.KernelRfl
namespace Go.Proofs.Ytnhboaaikehpoaa
open Go.Ab Go.RowKit
set_option linter.unusedVariables false
set_option linter.unusedSimpArgs false
theorem zhv {c d e : List Tok} (h : zce c = some (.error e)) (he : e ≠ []) : zce (c ++ d) = some (.error (e ++ d)) := zjv _ _ _ _ _ h he d
theorem znI {c : List Tok} {t : Tok} {e2 d : List Tok} (hc : c.length + 1 ≤ 1000000) (hl : e2.length ≤ 1000000) (h : zce (c ++ t :: e2) = some (.error (t :: e2))) : zce (c ++ t :: d) = some (.error (t :: d)) := by
 have a1 : c ++ t :: e2 = (c ++ [t]) ++ e2 := by simp
 have a2 : c ++ t :: d = (c ++ [t]) ++ d := by simp
 rw [a1] at h
 rw [a2]
 obtain ⟨v, hv⟩ := zkd (T := c ++ [t]) (by simp; omega)
 cases v with
 | error e =>
  by_cases he : e = []
  ·subst he
   have := ziR _ _ _ _ hv _ _ _ h
   simp at this
   omega
  ·have hx := zhv hv he (d := e2)
   rw [h] at hx
   injection hx with hx
   injection hx with hx
   have hx : [t] ++ e2 = e ++ e2 := hx
   have ht := List.append_cancel_right hx
   subst ht
   exact zhv hv he
 | ok p =>
  obtain ⟨S, D⟩ := p
  obtain ⟨w, hw⟩ := zkd hl
  have hx := zpo (by simp; omega) hl hv hw
  rw [h] at hx
  injection hx with hx
  cases w with
  | ok q => cases hx
  | error e =>
   have hx : (Except.error (t :: e2) : WV) = .error e := hx
   injection hx with hx
   obtain ⟨c2, hc2⟩ := zfl _ _ _ _ _ hw
   have h1 := congrArg List.length hc2
   have h2 := congrArg List.length hx
   simp at h1 h2
   omega
theorem zou {c d : List Tok} {e : List Tok} (h : zce c = some (.error e)) {v : WV} (hv : zce (c ++ d) = some v) (hn : ∀ e', v = .error e' → e'.length ≤ d.length) (ho : e ≠ [] → ∃ e', v = .error e') : e = [] := by
 by_cases he : e = []
 ·exact he
 ·obtain ⟨e', rfl⟩ := ho he
  have hx := zhv h he (d := d)
  rw [hv] at hx
  injection hx with hx
  injection hx with hx
  have h1 := hn _ rfl
  rw [hx, List.length_append] at h1
  exact List.eq_nil_of_length_eq_zero (by omega)
theorem zjZ (T : List Tok) (S : List zo) (D : List zi) : ((zbW T (.ok (S, D))).2.2 == 7) = false ∧ ((zbW T (.ok (S, D))).2.1 != 0) = false ∧ (if ((zbW T (.ok (S, D))).2.2 != 0) = true then some ((zbW T (.ok (S, D))).2.2 != 11) else some false) = some false := by
 unfold zbW
 dsimp only
 split <;> exact ⟨rfl, rfl, rfl⟩
theorem zm1 (c e : List Tok) : zcA (c ++ e) 0 (c.length : Int) = some c := by
 have := zij (l := c ++ e) (a := 0) (b := c.length) (by omega) (by simp)
 rw [List.take_left] at this
 exact this
theorem zq9 (a b : List Tok) (p : Int) (hp : 0 ≤ p ∧ p < 65536) : zh4 a b p = some true := by
 have k3 : zf3 = some true := by
  unfold zf3
  rw [zmP]
  rfl
 unfold zh4
 rw [zmP, k3]
 by_cases h : a.length > 2000 ∨ b.length > 1000
 ·rw [if_pos (by rw [Bool.or_eq_true, decide_eq_true_eq, decide_eq_true_eq]; omega)]
  rfl
 ·rw [if_neg (by rw [Bool.or_eq_true, decide_eq_true_eq, decide_eq_true_eq]; omega)]
  obtain ⟨v, hv, h1, _⟩ := zh8 (T := a) (by omega)
  rw [h1, Option.bind_some]
  cases v with
  | error e =>
   obtain ⟨c, rfl⟩ := zfl _ _ _ _ _ hv
   simp only [List.length_append] at h
   have hat : zbW (c ++ e) (.error e) = (⟨[], []⟩, (c.length : Int), 7) := by
    unfold zbW
    dsimp only
    rw [List.length_append, Nat.add_sub_cancel]
   obtain ⟨v1, hv1, h2, _⟩ := zh8 (T := c) (by omega)
   have hn : ((zbW c v1).2.2 == 7 && (zbW c v1).2.1 != (c.length : Int)) = false := by
    cases v1 with
    | ok q =>
     obtain ⟨S, D⟩ := q
     rw [(zjZ c S D).1]
     rfl
    | error e1 =>
     have : e1 = [] := zou hv1 hv (fun e' he => by injection he with he; subst he; exact Nat.le_refl _) fun _ => ⟨_, rfl⟩
     subst this
     unfold zbW
     simp
   rw [hat, if_pos (show ((7 : Int) == 7) = true from rfl)]
   dsimp only
   rw [if_neg (by rw [Bool.or_eq_true, decide_eq_true_eq, decide_eq_true_eq, List.length_append]; omega), zm1, Option.bind_some, h2, Option.bind_some, hn, if_neg (by simp)]
   cases e with
   | nil => rw [if_neg (by simp)]
   | cons t e2 =>
    simp only [List.length_cons] at h
    have h3 := znI (d := b) (by omega) (by omega) hv
    obtain ⟨v3, hv3, h4, _⟩ := zh8 (T := c ++ [t] ++ b) (by simp; omega)
    have e3 : c ++ [t] ++ b = c ++ t :: b := by simp
    have hv3' := hv3
    rw [e3, h3] at hv3'
    injection hv3' with hv3'
    subst hv3'
    have hb : zbW (c ++ [t] ++ b) (.error (t :: b)) = (⟨[], []⟩, (c.length : Int), 7) := by
     unfold zbW
     dsimp only
     congr 2
     simp only [List.length_append, List.length_cons, List.length_nil]
     omega
    have hcut : zcA (c ++ t :: e2) 0 (IntKind.i64.wrap ((c.length : Int) + 1)) = some (c ++ [t]) := by
     have := zm1 (c ++ [t]) e2
     rw [zcq (by omega)]
     rw [List.append_assoc, List.length_append] at this
     exact this
    rw [if_pos (zbo (by simp; omega)), hcut, Option.bind_some, zbJ (by simp; omega), Option.bind_some, zbJ (by simp; omega), Option.bind_some, List.nil_append, h4, Option.bind_some, hb, if_neg (by simp)]
  | ok q =>
   obtain ⟨S, D⟩ := q
   obtain ⟨z1, z2, z3⟩ := zjZ a S D
   obtain ⟨pn, rfl⟩ := Int.eq_ofNat_of_zero_le hp.1
   have hk : pn % (a.length + 1) < a.length + 1 := Nat.mod_lt _ (by omega)
   have hr : zgQ .i64 (IntKind.i64.wrap (pn : Int)) (IntKind.i64.wrap ((a.length : Int) + 1)) = some ((pn % (a.length + 1) : Nat) : Int) := by
    rw [zp6 (by omega), zcq (by omega)]
    unfold zgQ
    rw [if_neg (by omega)]
    rfl
   have hcut : zcA a 0 ((pn % (a.length + 1) : Nat) : Int) = some (a.take (pn % (a.length + 1))) :=
    zij (l := a) (a := 0) (b := pn % (a.length + 1)) (by omega) (by omega)
   rw [if_neg (by rw [z1]; simp), z2, if_neg (by simp), z3, Option.bind_some, if_neg (by simp), hr, Option.bind_some, hcut, Option.bind_some]
   obtain ⟨v1, hv1, h2, _⟩ := zh8 (T := a.take (pn % (a.length + 1))) (by simp; omega)
   rw [h2, Option.bind_some]
   cases v1 with
   | ok q =>
    obtain ⟨S1, D1⟩ := q
    have := (zjZ (a.take (pn % (a.length + 1))) S1 D1).1
    have this : ((zbW (a.take (pn % (a.length + 1))) (.ok (S1, D1))).2.2 != 7) = true := by
     unfold bne
     rw [this]
     rfl
    rw [this]
    rfl
   | error e1 =>
    have hx : zce (a.take (pn % (a.length + 1)) ++ a.drop (pn % (a.length + 1))) = some (.ok (S, D)) := by rw [List.take_append_drop]; exact hv
    have : e1 = [] := by
     by_cases he : e1 = []
     ·exact he
     ·rw [zhv hv1 he] at hx
      cases hx
    subst this
    have hb : ((zbW (a.take (pn % (a.length + 1))) (.error [])).2.1 == ((pn % (a.length + 1) : Nat) : Int)) = true := by
     unfold zbW
     exact zic (by dsimp only; rw [List.length_take, List.length_nil]; omega)
    rw [hb, Bool.or_true]
    rfl
end Go.Proofs.Ytnhboaaikehpoaa
