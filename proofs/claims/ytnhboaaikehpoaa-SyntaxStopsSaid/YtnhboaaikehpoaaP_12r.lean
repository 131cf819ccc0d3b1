import Derived.Test.YtnhboaaikehpoaaP_12q
import Derived.KernelRfl
namespace Go.Proofs.Ytnhboaaikehpoaa
open Go.Ab Go.RowKit
set_option linter.unusedVariables false
set_option linter.unusedSimpArgs false
abbrev WV := Except (List Tok) (List zo × List zi)
theorem zkW : ∀ (n : Nat) (S : List zo) (D : List zi) (r : List Tok) (v : WV), wL n S D r = some v → wL (n + 1) S D r = some v
 | 0, S, D, r, v, h => by cases h
 | n + 1, S, D, [], v, h => h
 | n + 1, S, D, t :: r, v, h => by
  unfold wL at h ⊢
  split at h
  ·rename_i hs
   rw [if_pos hs]
   split at h
   ·cases h
   ·rename_i e he; exact h
   ·rename_i x r' he; exact zkW n _ _ r' v h
  ·rename_i hs
   rw [if_neg hs]
   split at h
   ·cases h
   ·rename_i e he; exact h
   ·rename_i x r' he; exact zkW n _ _ r' v h
theorem zj0 {n m : Nat} (h : n ≤ m) {S : List zo} {D : List zi} {r : List Tok} {v : WV} (hv : wL n S D r = some v) : wL m S D r = some v := by
 induction h with
 | refl => exact hv
 | step _ ih => exact zkW _ _ _ _ _ ih
theorem zng {S : List zo} {D : List zi} {r : List Tok} (hr : r.length ≤ 1000000) {v : WV} (hv : wL big S D r = some v) : wL 1000001 S D r = some v := by
 cases h : wL 1000001 S D r with
 | none => exact absurd h (zhX 1000001 S D r (by omega) hr)
 | some u =>
  have := zj0 (m := big) (by have := zbZ; omega) h
  rw [hv] at this
  injection this with this
  rw [this]
theorem zfl : ∀ (n : Nat) (S : List zo) (D : List zi) (r : List Tok) (e : List Tok), wL n S D r = some (.error e) → ∃ c, r = c ++ e
 | 0, S, D, r, e, h => by cases h
 | n + 1, S, D, [], e, h => by cases h
 | n + 1, S, D, t :: r, e, h => by
  unfold wL at h
  split at h
  ·split at h
   ·cases h
   ·rename_i e' he
    injection h with h
    injection h with h
    subst h
    obtain ⟨c, hc⟩ := ziy r _ he
    exact ⟨t :: c, by rw [List.cons_append]; exact congrArg _ hc⟩
   ·rename_i x r' he
    obtain ⟨c, hc⟩ := ziy r _ he
    obtain ⟨c2, hc2⟩ := zfl n _ _ r' e h
    exact ⟨t :: (c ++ c2), by rw [List.cons_append, List.append_assoc, ← hc2]; exact congrArg _ hc⟩
  ·split at h
   ·cases h
   ·rename_i e' he
    injection h with h
    injection h with h
    subst h
    exact zh6 _ _ he
   ·rename_i x r' he
    obtain ⟨c, hc⟩ := zh6 _ _ he
    obtain ⟨c2, hc2⟩ := zfl n _ _ r' e h
    exact ⟨c ++ c2, by rw [List.append_assoc, ← hc2]; exact hc⟩
theorem zjP : ∀ (n : Nat) (S : List zo) (D : List zi) (c : List Tok) {S' : List zo} {D' : List zi}, wL n S D c = some (.ok (S', D')) → ∀ (m : Nat) (d : List Tok) (v : WV), wL m S' D' d = some v → wL (n + m) S D (c ++ d) = some v
 | 0, S, D, c, S', D', h, m, d, v, _ => by cases h
 | n + 1, S, D, [], S', D', h, m, d, v, hv => by
  injection h with h
  injection h with h
  injection h with h1 h2
  subst h1; subst h2
  exact zj0 (by omega) hv
 | n + 1, S, D, t :: r, S', D', h, m, d, v, hv => by
  rw [show n + 1 + m = (n + m) + 1 by omega]
  show wL (n + m + 1) S D (t :: (r ++ d)) = _
  unfold wL at h ⊢
  split at h
  ·rename_i hs
   rw [if_pos (show zs 3 [⟨#[116, 121, 112, 101]⟩] (t :: (r ++ d)) = true from hs)]
   split at h
   ·cases h
   ·cases h
   ·rename_i x r' he
    rw [zkL r x r' he d]
    exact zjP n _ _ r' h m d v hv
  ·rename_i hs
   rw [if_neg (show ¬ zs 3 [⟨#[116, 121, 112, 101]⟩] (t :: (r ++ d)) = true from hs)]
   split at h
   ·cases h
   ·cases h
   ·rename_i x r' he
    have := zj9 (t :: r) x r' he d
    have this : zcF (t :: (r ++ d)) = _ := this
    rw [this]
    exact zjP n _ _ r' h m d v hv
theorem zjv : ∀ (n : Nat) (S : List zo) (D : List zi) (c e : List Tok), wL n S D c = some (.error e) → e ≠ [] → ∀ d, wL n S D (c ++ d) = some (.error (e ++ d))
 | 0, S, D, c, e, h, _, d => by cases h
 | n + 1, S, D, [], e, h, _, d => by cases h
 | n + 1, S, D, t :: r, e, h, hn, d => by
  show wL (n + 1) S D (t :: (r ++ d)) = _
  unfold wL at h ⊢
  split at h
  ·rename_i hs
   rw [if_pos (show zs 3 [⟨#[116, 121, 112, 101]⟩] (t :: (r ++ d)) = true from hs)]
   split at h
   ·cases h
   ·rename_i e' he
    injection h with h
    injection h with h
    subst h
    rw [(zmA.2 r _ he).1 hn d]
    rfl
   ·rename_i x r' he
    rw [zkL r x r' he d]
    exact zjv n _ _ r' e h hn d
  ·rename_i hs
   rw [if_neg (show ¬ zs 3 [⟨#[116, 121, 112, 101]⟩] (t :: (r ++ d)) = true from hs)]
   split at h
   ·cases h
   ·rename_i e' he
    injection h with h
    injection h with h
    subst h
    have := (znv.2 (t :: r) _ he).1 hn d
    have this : zcF (t :: (r ++ d)) = _ := this
    rw [this]
    rfl
   ·rename_i x r' he
    have := zj9 (t :: r) x r' he d
    have this : zcF (t :: (r ++ d)) = _ := this
    rw [this]
    exact zjv n _ _ r' e h hn d
theorem ziR : ∀ (n : Nat) (S : List zo) (D : List zi) (c : List Tok), wL n S D c = some (.error []) → ∀ (m : Nat) (d e : List Tok), wL m S D (c ++ d) = some (.error e) → e.length ≤ d.length
 | 0, S, D, c, h, m, d, e, _ => by cases h
 | n + 1, S, D, [], h, m, d, e, _ => by cases h
 | n + 1, S, D, t :: r, h, 0, d, e, hv => by cases hv
 | n + 1, S, D, t :: r, h, m + 1, d, e, hv => by
  have hv : wL (m + 1) S D (t :: (r ++ d)) = some (.error e) := hv
  unfold wL at h hv
  split at h
  ·rename_i hs
   rw [if_pos (show zs 3 [⟨#[116, 121, 112, 101]⟩] (t :: (r ++ d)) = true from hs)] at hv
   split at h
   ·cases h
   ·rename_i e' he
    injection h with h
    injection h with h
    subst h
    have g := (zmA.2 r _ he).2 rfl d
    split at hv
    ·cases hv
    ·rename_i e2 he2
     injection hv with hv
     injection hv with hv
     subst hv
     exact g _ he2
    ·rename_i x r2 he2
     have h1 : r2.length ≤ d.length := g _ he2
     obtain ⟨c2, hc2⟩ := zfl _ _ _ _ _ hv
     rw [hc2, List.length_append] at h1
     omega
   ·rename_i x r' he
    rw [zkL r x r' he d] at hv
    exact ziR n _ _ r' h m d e hv
  ·rename_i hs
   rw [if_neg (show ¬ zs 3 [⟨#[116, 121, 112, 101]⟩] (t :: (r ++ d)) = true from hs)] at hv
   split at h
   ·cases h
   ·rename_i e' he
    injection h with h
    injection h with h
    subst h
    have g := (znv.2 (t :: r) _ he).2 rfl d
    have g : ∀ v', zcF (t :: (r ++ d)) = some v' → (zd4 v').length ≤ d.length := g
    split at hv
    ·cases hv
    ·rename_i e2 he2
     injection hv with hv
     injection hv with hv
     subst hv
     exact g _ he2
    ·rename_i x r2 he2
     have h1 : r2.length ≤ d.length := g _ he2
     obtain ⟨c2, hc2⟩ := zfl _ _ _ _ _ hv
     rw [hc2, List.length_append] at h1
     omega
   ·rename_i x r' he
    have := zj9 (t :: r) x r' he d
    have this : zcF (t :: (r ++ d)) = _ := this
    rw [this] at hv
    exact ziR n _ _ r' h m d e hv
def shW (S : List zo) (D : List zi) : WV → WV
 | .error e => .error e
 | .ok (S', D') => .ok (S ++ S', D ++ D')
theorem zjQ (S : List zo) (D : List zi) : ∀ (n : Nat) (S1 : List zo) (D1 : List zi) (r : List Tok) (v : WV), wL n S1 D1 r = some v → wL n (S ++ S1) (D ++ D1) r = some (shW S D v)
 | 0, S1, D1, r, v, h => by cases h
 | n + 1, S1, D1, [], v, h => by
  injection h with h
  subst h
  rfl
 | n + 1, S1, D1, t :: r, v, h => by
  unfold wL at h ⊢
  split at h
  ·rename_i hs
   rw [if_pos hs]
   split at h
   ·cases h
   ·rename_i e he
    injection h with h
    subst h
    rfl
   ·rename_i x r' he
    rw [List.append_assoc]
    exact zjQ S D n _ _ r' v h
  ·rename_i hs
   rw [if_neg hs]
   split at h
   ·cases h
   ·rename_i e he
    injection h with h
    subst h
    rfl
   ·rename_i x r' he
    rw [List.append_assoc]
    exact zjQ S D n _ _ r' v h
theorem zpo {a b : List Tok} (ha : a.length ≤ 1000000) (hb : b.length ≤ 1000000) {S : List zo} {D : List zi} (h : zce a = some (.ok (S, D))) {v : WV} (hv : zce b = some v) : zce (a ++ b) = some (shW S D v) := by
 have h1 := zng ha h
 have h2 := zjQ S D _ _ _ _ _ (zng hb hv)
 rw [List.append_nil, List.append_nil] at h2
 exact zj0 (by have := zbZ; omega) (zjP _ _ _ _ h1 _ _ _ h2)
theorem wf_u16 {n : Int} (h : (Lit.int .u16 n).wf = true) : 0 ≤ n ∧ n < 65536 := by
 simp [Lit.wf, IntKind.min, IntKind.max, IntKind.signed, IntKind.bits] at h
 omega
end Go.Proofs.Ytnhboaaikehpoaa
