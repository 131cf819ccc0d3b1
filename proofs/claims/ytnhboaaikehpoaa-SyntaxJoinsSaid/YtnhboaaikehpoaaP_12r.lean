import Derived.Test.YtnhboaaikehpoaaP_12q
import Derived.KernelRfl
namespace Go.Proofs.Ytnhboaaikehpoaa
open Go.Ab Go.RowKit
set_option linter.unusedVariables false
set_option linter.unusedSimpArgs false
abbrev WV := Except (List Tok) (List zl × List zi)
theorem zi9 : ∀ (n : Nat) (S : List zl) (D : List zi) (r : List Tok) (v : WV), wL n S D r = some v → wL (n + 1) S D r = some v
 | 0, S, D, r, v, h => by cases h
 | n + 1, S, D, [], v, h => h
 | n + 1, S, D, t :: r, v, h => by
  unfold wL at h ⊢
  split at h
  ·rename_i hs
   rw [if_pos hs]
   split at h
   ·cases h
   ·rename_i e he; exact h
   ·rename_i x r' he; exact zi9 n _ _ r' v h
  ·rename_i hs
   rw [if_neg hs]
   split at h
   ·cases h
   ·rename_i e he; exact h
   ·rename_i x r' he; exact zi9 n _ _ r' v h
theorem zkC {n m : Nat} (h : n ≤ m) {S : List zl} {D : List zi} {r : List Tok} {v : WV} (hv : wL n S D r = some v) : wL m S D r = some v := by
 induction h with
 | refl => exact hv
 | step _ ih => exact zi9 _ _ _ _ _ ih
theorem znA {S : List zl} {D : List zi} {r : List Tok} (hr : r.length ≤ 1000000) {v : WV} (hv : wL big S D r = some v) : wL 1000001 S D r = some v := by
 cases h : wL 1000001 S D r with
 | none => exact absurd h (ziK 1000001 S D r (by omega) hr)
 | some u =>
  have := zkC (m := big) (by have := zco; omega) h
  rw [hv] at this
  injection this with this
  rw [this]
theorem zjM : ∀ (n : Nat) (S : List zl) (D : List zi) (r : List Tok) (e : List Tok), wL n S D r = some (.error e) → ∃ c, r = c ++ e
 | 0, S, D, r, e, h => by cases h
 | n + 1, S, D, [], e, h => by cases h
 | n + 1, S, D, t :: r, e, h => by
  unfold wL at h
  split at h
  ·split at h
   ·cases h
   ·rename_i e' he
    injection h with h
    injection h with h
    subst h
    obtain ⟨c, hc⟩ := zi2 r _ he
    exact ⟨t :: c, by rw [List.cons_append]; exact congrArg _ hc⟩
   ·rename_i x r' he
    obtain ⟨c, hc⟩ := zi2 r _ he
    obtain ⟨c2, hc2⟩ := zjM n _ _ r' e h
    exact ⟨t :: (c ++ c2), by rw [List.cons_append, List.append_assoc, ← hc2]; exact congrArg _ hc⟩
  ·split at h
   ·cases h
   ·rename_i e' he
    injection h with h
    injection h with h
    subst h
    exact ziC _ _ he
   ·rename_i x r' he
    obtain ⟨c, hc⟩ := ziC _ _ he
    obtain ⟨c2, hc2⟩ := zjM n _ _ r' e h
    exact ⟨c ++ c2, by rw [List.append_assoc, ← hc2]; exact hc⟩
theorem zla : ∀ (n : Nat) (S : List zl) (D : List zi) (c : List Tok) {S' : List zl} {D' : List zi}, wL n S D c = some (.ok (S', D')) → ∀ (m : Nat) (d : List Tok) (v : WV), wL m S' D' d = some v → wL (n + m) S D (c ++ d) = some v
 | 0, S, D, c, S', D', h, m, d, v, _ => by cases h
 | n + 1, S, D, [], S', D', h, m, d, v, hv => by
  injection h with h
  injection h with h
  injection h with h1 h2
  subst h1; subst h2
  exact zkC (by omega) hv
 | n + 1, S, D, t :: r, S', D', h, m, d, v, hv => by
  rw [show n + 1 + m = (n + m) + 1 by omega]
  show wL (n + m + 1) S D (t :: (r ++ d)) = _
  unfold wL at h ⊢
  split at h
  ·rename_i hs
   rw [if_pos (show zz 3 [⟨#[116, 121, 112, 101]⟩] (t :: (r ++ d)) = true from hs)]
   split at h
   ·cases h
   ·cases h
   ·rename_i x r' he
    rw [zrx r x r' he d]
    exact zla n _ _ r' h m d v hv
  ·rename_i hs
   rw [if_neg (show ¬ zz 3 [⟨#[116, 121, 112, 101]⟩] (t :: (r ++ d)) = true from hs)]
   split at h
   ·cases h
   ·cases h
   ·rename_i x r' he
    have := zpH (t :: r) x r' he d
    have this : zdk (t :: (r ++ d)) = _ := this
    rw [this]
    exact zla n _ _ r' h m d v hv
def shW (S : List zl) (D : List zi) : WV → WV
 | .error e => .error e
 | .ok (S', D') => .ok (S ++ S', D ++ D')
theorem zjN (S : List zl) (D : List zi) : ∀ (n : Nat) (S1 : List zl) (D1 : List zi) (r : List Tok) (v : WV), wL n S1 D1 r = some v → wL n (S ++ S1) (D ++ D1) r = some (shW S D v)
 | 0, S1, D1, r, v, h => by cases h
 | n + 1, S1, D1, [], v, h => by
  injection h with h
  subst h
  rfl
 | n + 1, S1, D1, t :: r, v, h => by
  unfold wL at h ⊢
  split at h
  ·rename_i hs
   rw [if_pos hs]
   split at h
   ·cases h
   ·rename_i e he
    injection h with h
    subst h
    rfl
   ·rename_i x r' he
    rw [List.append_assoc]
    exact zjN S D n _ _ r' v h
  ·rename_i hs
   rw [if_neg hs]
   split at h
   ·cases h
   ·rename_i e he
    injection h with h
    subst h
    rfl
   ·rename_i x r' he
    rw [List.append_assoc]
    exact zjN S D n _ _ r' v h
theorem zob {a b : List Tok} (ha : a.length ≤ 1000000) (hb : b.length ≤ 1000000) {S : List zl} {D : List zi} (h : zc1 a = some (.ok (S, D))) {v : WV} (hv : zc1 b = some v) : zc1 (a ++ b) = some (shW S D v) := by
 have h1 := znA ha h
 have h2 := zjN S D _ _ _ _ _ (znA hb hv)
 rw [List.append_nil, List.append_nil] at h2
 exact zkC (by have := zco; omega) (zla _ _ _ _ h1 _ _ _ h2)
theorem zrQ (a b : List Tok) (hab : a.length + b.length ≤ 9000000000000000000) : ziN a b = some true := by
 unfold ziN
 rw [znL, zmB (by omega)]
 by_cases h : a.length + b.length > 3000
 ·rw [if_pos (zbx (by omega))]
  rfl
 ·obtain ⟨v, hv, h1, _⟩ := zkK (T := a) (by omega)
  obtain ⟨w, hw, h2, _⟩ := zkK (T := b) (by omega)
  obtain ⟨u, hu, h3, _⟩ := zkK (T := a ++ b) (by simp; omega)
  rw [if_neg (by simp; omega), h1, Option.bind_some, h2, Option.bind_some, zbO (by simp; omega), Option.bind_some, zbO (by simp; omega), Option.bind_some, List.nil_append, h3, Option.bind_some]
  cases v with
  | error e => rfl
  | ok p =>
   obtain ⟨S, D⟩ := p
   have e := zob (by omega) (by omega) hv hw
   rw [hu] at e
   injection e with e
   subst e
   have n7 : (zb6 a (.ok (S, D))).2.2 = if zcY D = true then 11 else 0 := by
    unfold zb6
    dsimp only
    split <;> rfl
   rw [if_neg (show ¬ ((zb6 a (.ok (S, D))).2.2 == 7) = true by rw [n7]; split <;> decide)]
   cases w with
   | error e =>
    have hl : ∃ c, b = c ++ e := zjM _ _ _ _ _ hw
    obtain ⟨c, rfl⟩ := hl
    simp only [List.length_append] at h
    have e1 : ((((a ++ (c ++ e)).length - e.length : Nat) : Int) == IntKind.i64.wrap ((a.length : Int) + (((c ++ e).length - e.length : Nat) : Int))) = true := by
     rw [zmB (by simp only [List.length_append]; omega)]
     exact zik (by simp only [List.length_append]; omega)
    show (((if ((7 : Int) == 7 && ((((a ++ (c ++ e)).length - e.length : Nat) : Int) == IntKind.i64.wrap ((a.length : Int) + (((c ++ e).length - e.length : Nat) : Int)))) = true then _ else some false)).bind _) = _
    rw [e1]
    rfl
   | ok q =>
    obtain ⟨S2, D2⟩ := q
    have m7 : (zb6 b (.ok (S2, D2))).2.2 = if zcY D2 = true then 11 else 0 := by
     unfold zb6
     dsimp only
     split <;> rfl
    have hd : zcY (D ++ D2) = (zcY D || zcY D2) := List.any_append
    have u7 : (zb6 (a ++ b) (shW S D (.ok (S2, D2)))).2.2 = if (zcY D || zcY D2) = true then 11 else 0 := by
     rw [← hd]
     unfold shW zb6
     dsimp only
     split <;> rfl
    rw [if_neg (show ¬ ((zb6 b (.ok (S2, D2))).2.2 == 7) = true by rw [m7]; split <;> decide), n7, m7, u7]
    cases hd1 : zcY D with
    | true => simp
    | false =>
     cases hd2 : zcY D2 with
     | true => simp
     | false =>
      have o1 := zjQ hv
      have o2 := zjQ hw
      have oo := zof (T := a ++ b) (by simp; omega) hu
      have z1 := o1.1
      have z2 := o1.2.1
      have z3 := o2.1
      have z4 := o2.2.1
      have a1 : zb6 a (.ok (S, D)) = (⟨S, D⟩, 0, 0) := by unfold zb6; dsimp only; rw [hd1]; rfl
      have a2 : zb6 b (.ok (S2, D2)) = (⟨S2, D2⟩, 0, 0) := by unfold zb6; dsimp only; rw [hd2]; rfl
      have a3 : zb6 (a ++ b) (shW S D (.ok (S2, D2))) = (⟨S ++ S2, D ++ D2⟩, 0, 0) := by unfold shW zb6; dsimp only; rw [hd, hd1, hd2]; rfl
      rw [a3] at oo
      rw [a1, a2, a3]
      rw [if_neg (by simp)]
      dsimp only
      rw [zbO (by simp; omega), Option.bind_some, zbO (by simp; omega), Option.bind_some, zbO (by simp; omega), Option.bind_some, zbO (by simp; omega), Option.bind_some, List.nil_append, List.nil_append]
      unfold zif
      rw [znL]
      dsimp only
      dsimp only at oo
      rw [oo]
      rfl
end Go.Proofs.Ytnhboaaikehpoaa
