import Derived.Test.YtnhboaaikehpoaaP_12k
import Derived.KernelRfl
namespace Go.Proofs.Ytnhboaaikehpoaa
open Go.Ab Go.RowKit
set_option linter.unusedVariables false
set_option linter.unusedSimpArgs false
def zdx {α γ : Type} (K : Option γ → Rs α → Prop) (X : Option γ) (p : Ps α) (r : List Tok) : Prop := ∀ v, p r = some v → K X v
section
variable {T : List Tok} {r : List Tok} {k : Int} {tx : List BA}
theorem ziF {α β γ : Type} {K : Option γ → Rs β → Prop} {p : Ps α} {f : α → Ps β} {X : Option (α × RP)} {G : α × RP → Option γ} (hs : Suf T r) (hp : Sf p) (hX : zT T X p r) (hG : ∀ x r', Suf T r' → p r = some (.ok (x, r')) → zdx K (G (x, mkR T r' false)) (f x) r') (hF : ∀ x e, K (G (x, mkR T e true)) (.error e)) : zdx K (X.bind G) (bd p f) r := fun v h => by
 unfold bd at h
 split at h
 ·cases h
 ·rename_i e he
  injection h with h
  subst h
  obtain ⟨x, hx⟩ := hX _ he
  rw [hx]
  exact hF x e
 ·rename_i x r' he
  have hx : X = some (x, mkR T r' false) := hX _ he
  rw [hx]
  exact hG x r' (hs.of (hp r _ he)) he v h
theorem zlR {β γ : Type} {K : Option γ → Rs β → Prop} {p : Ps Unit} {f : Unit → Ps β} {X : Option RP} {G : RP → Option γ} (hs : Suf T r) (hp : Sf p) (hX : zj2 T X p r) (hG : ∀ r', Suf T r' → p r = some (.ok ((), r')) → zdx K (G (mkR T r' false)) (f ()) r') (hF : ∀ e, K (G (mkR T e true)) (.error e)) : zdx K (X.bind G) (bd p f) r := fun v h => by
 unfold bd at h
 split at h
 ·cases h
 ·rename_i e he
  injection h with h
  subst h
  have hx : X = some (mkR T e true) := hX _ he
  rw [hx]
  exact hF e
 ·rename_i x r' he
  have hx : X = some (mkR T r' false) := hX _ he
  rw [hx]
  exact hG r' (hs.of (hp r _ he)) he v h
theorem zj0 {β γ : Type} {K : Option γ → Rs β → Prop} {x : BA} {f : Tok → Ps β} {G : RP → Option γ} (hs : Suf T r) (hx : x ≠ ⟨#[]⟩) (hG : ∀ t r', Suf T r' → tk 3 [x] r = some (.ok (t, r')) → zdx K (G (mkR T r' false)) (f t) r') (hF : ∀ e, K (G (mkR T e true)) (.error e)) : zdx K ((zcV (mkR T r false) x).bind G) (bd (tk 3 [x]) f) r := by
 unfold zcV
 rw [Option.bind_assoc]
 exact ziF hs (zbD _ _) (zkF hs hx) (fun t r' hs' he => hG t r' hs' he) fun t e => hF e
theorem zir {a : BA} (h : zI 4 [a] r = true) : zbs [a] r = some (.ok ((), r.tail)) := by
 show bd (tk 4 [a]) (fun _ => pu ()) r = _
 cases r with
 | nil => cases h
 | cons t r =>
  have : tk 4 [a] (t :: r) = some (.ok (t, r)) := if_pos h
  rw [zeI this]
  rfl
theorem zlF {a : BA} (h : zI 4 [a] r = false) : zbs [a] r = some (.error r) := by
 show bd (tk 4 [a]) (fun _ => pu ()) r = _
 unfold bd
 rw [zju h]
theorem zia {a : BA} (hs : Suf T r) (ha : a ≠ ⟨#[]⟩) (h : zI 4 [a] r = true) : zbr (mkR T r false) a = some (mkR T r.tail false) := zbW hs ha _ (zir h)
theorem zqc {a : BA} (hs : Suf T r) (ha : a ≠ ⟨#[]⟩) (h : zI 4 [a] r = false) : zbr (mkR T r false) a = some (mkR T r true) := zbW hs ha _ (zlF h)
theorem zms (ln : Int) (nm : BA) (l : List zbb) (hs : Suf T r) : zT T ((zdC (mkR T r false) false).bind fun c279 => (zfl c279.2).bind fun c287 => some ((⟨nm, ln, l, (⟨c279.1.Kind, c279.1.N, c279.1.Name⟩ : zD), c287.1⟩ : zp), c287.2)) (k9 ln nm l) r := by
 unfold k9
 refine zbu hs (zcJ _) (zib hs false) (fun t r2 hs2 _ => ?_) fun x e => ?_
 ·exact zbu hs2 zgO (zou hs2) (fun b r3 hs3 _ => zbL) fun x e => ⟨_, rfl⟩
 ·dsimp only
  rw [zo4]
  exact ⟨_, rfl⟩
theorem zhJ (ln : Int) (c : BA × RP) (e : List Tok) (n : Nat) (l : List zbb) : ∃ y, zc1 ln c (n + 1) T ((T.length - e.length : Nat) : Int) true l = some (y, mkR T e true) := by
 exact ⟨⟨c.1, ln, l, ⟨0, 0, ⟨#[]⟩⟩, []⟩, rfl⟩
theorem zjH (ln : Int) (c : BA × RP) (e : List Tok) (n : Nat) (l : List zbb) (x : BA) (hl : l.length ≤ 1000001) : ∃ y, ((zdC (mkR T e true) true).bind fun c249 => (room (l.length + 1)).bind fun _ => zc1 ln c (n + 1) c249.2.L c249.2.At c249.2.Failed (l ++ [(⟨x, (⟨c249.1.Kind, c249.1.N, c249.1.Name⟩ : zD)⟩ : zbb)])) = some (y, mkR T e true) := by
 obtain ⟨y, hy⟩ := zhJ (T := T) ln c e n (l ++ [⟨x, ⟨0, 0, ⟨#[]⟩⟩⟩])
 refine ⟨y, ?_⟩
 show ((room (l.length + 1)).bind fun _ => _) = _
 rw [zbV (by omega), Option.bind_some]
 exact hy
theorem zqb (ln : Int) (c : BA × RP) (e : List Tok) (n : Nat) (l : List zbb) (hl : l.length ≤ 1000001) : ∃ y, zej (zc1 ln c (n + 1)) T ((T.length - e.length : Nat) : Int) true l = some (y, mkR T e true) :=
 zjH ln c e n l ⟨#[]⟩ hl
theorem zlX (ln : Int) (c : BA × RP) : ∀ (n m : Nat) (l : List zbb) (r : List Tok), l ≠ [] → r.length + 1 < n → Suf T r → l.length + r.length ≤ 1000001 → zT T (zc1 ln c n T ((T.length - r.length : Nat) : Int) false l) (pL ln c.1 m l) r
 | n, 0, l, r, _, _, _, _ => zei
 | 0, m + 1, l, r, _, h, _, _ => by omega
 | n + 1, m + 1, l, r, hne, hn, hs, hl => by
  have hpos : decide ((l.length : Int) > 0) = true := by
   cases l with
   | nil => exact absurd rfl hne
   | cons a l => exact zbq (by simp)
  obtain ⟨n', rfl⟩ : ∃ n', n = n' + 1 := ⟨n - 1, by omega⟩
  show zT T (ze8 (zc1 ln c (n' + 1)) ln c T ((T.length - r.length : Nat) : Int) false l) (ifH 4 [⟨#[44]⟩] (bd zdi fun p => pL ln c.1 m (l ++ [p])) (bd (zbs [⟨#[41]⟩]) fun _ => k9 ln c.1 l)) r
  unfold ze8
  rw [if_pos (show (!false) = true from rfl)]
  show zT T (((zbf (mkR T r false) 4 ⟨#[41]⟩).bind fun c => some (!c)).bind fun c212 => if c212 = true then (if (decide ((l.length : Int) > 0)) = true then (zbr (mkR T r false) (⟨#[44]⟩ : ByteArray)).bind fun c263 => zej (zc1 ln c (n' + 1)) c263.L c263.At c263.Failed l else _) else (zbr (mkR T r false) (⟨#[41]⟩ : ByteArray)).bind fun c271 => (zdC c271 false).bind fun c279 => (zfl c279.2).bind fun c287 => some ((⟨c.1, ln, l, (⟨c279.1.Kind, c279.1.N, c279.1.Name⟩ : zD), c287.1⟩ : zp), c287.2)) _ r
  rw [zcO hs (by decide), Option.bind_some, Option.bind_some, if_pos hpos]
  intro v hv
  unfold ifH at hv
  cases h : zI 4 [⟨#[44]⟩] r with
  | true =>
   rw [h, if_pos rfl] at hv
   cases r with
   | nil => cases h
   | cons t r =>
    have h2 : zI 4 [⟨#[41]⟩] (t :: r) = false := by
     cases h2 : zI 4 [⟨#[41]⟩] (t :: r) with
     | false => rfl
     | true => exact absurd ((zh0 h).symm.trans (zh0 h2)) (by decide)
    simp only [List.length_cons] at hn hl
    rw [h2, if_pos (show (!false) = true from rfl), zia hs (by decide) h, Option.bind_some]
    unfold zdi at hv
    simp only [zeU, zf5] at hv
    unfold zej
    refine (zbu hs.tail zbm (zdg hs.tail) (fun nm r2 hs2 he => ?_) fun x e => ?_) v hv
    ·refine zbu hs2 (zcJ _) (zib hs2 true) (fun ty r3 hs3 he3 => ?_) fun x e => ?_
     ·have h3 := zd9 r nm r2 he
      have h4 := (zcJ true).le he3
      have h4 : r3.length ≤ r2.length := h4
      rw [zbV (by omega), Option.bind_some]
      exact zlX ln c (n' + 1) m (l ++ [⟨nm, ty⟩]) r3 (by simp) (by omega) hs3 (by simp; omega)
     ·rw [zbV (by omega), Option.bind_some]
      exact zhJ ln c e n' _
    ·exact zjH ln c e n' l x (by omega)
  | false =>
   rw [h, if_neg (by simp)] at hv
   cases h2 : zI 4 [⟨#[41]⟩] r with
   | true =>
    rw [if_neg (by simp), zia hs (by decide) h2, Option.bind_some]
    rw [zeI (zir h2)] at hv
    exact zms ln c.1 l (hs.of (zJ _ _ _ (zir h2))) v hv
   | false =>
    rw [if_pos (show (!false) = true from rfl), zqc hs (by decide) h, Option.bind_some]
    unfold bd at hv
    rw [zlF h2] at hv
    injection hv with hv
    subst hv
    exact zqb ln c r n' l (by omega)
theorem znU (ln : Int) (c : BA × RP) (n m : Nat) (hn : r.length + 2 < n) (hs : Suf T r) : zT T (zc1 ln c n T ((T.length - r.length : Nat) : Int) false []) (ifH 4 [⟨#[41]⟩] (k9 ln c.1 []) (bd zdi fun p => pL ln c.1 m [p])) r := by
 obtain ⟨n, rfl⟩ : ∃ n', n = n' + 1 + 1 := ⟨n - 2, by omega⟩
 have hl := zbT hs
 have hT := hs.2
 show zT T (ze8 (zc1 ln c (n + 1)) ln c T ((T.length - r.length : Nat) : Int) false []) _ r
 unfold ze8
 rw [if_pos (show (!false) = true from rfl)]
 show zT T (((zbf (mkR T r false) 4 ⟨#[41]⟩).bind fun c => some (!c)).bind fun c212 => if c212 = true then zej (zc1 ln c (n + 1)) T ((T.length - r.length : Nat) : Int) false [] else (zbr (mkR T r false) (⟨#[41]⟩ : ByteArray)).bind fun c271 => (zdC c271 false).bind fun c279 => (zfl c279.2).bind fun c287 => some ((⟨c.1, ln, [], (⟨c279.1.Kind, c279.1.N, c279.1.Name⟩ : zD), c287.1⟩ : zp), c287.2)) _ r
 rw [zcO hs (by decide), Option.bind_some, Option.bind_some]
 intro v hv
 unfold ifH at hv
 cases h : zI 4 [⟨#[41]⟩] r with
 | true =>
  rw [h, if_pos rfl] at hv
  rw [if_neg (by simp), zia hs (by decide) h, Option.bind_some]
  exact zms ln c.1 [] (hs.of (zJ _ _ _ (zir h))) v hv
 | false =>
  rw [h, if_neg (by simp)] at hv
  rw [if_pos (show (!false) = true from rfl)]
  unfold zdi at hv
  simp only [zeU, zf5] at hv
  unfold zej
  refine (zbu hs zbm (zdg hs) (fun nm r2 hs2 he => ?_) fun x e => ?_) v hv
  ·refine zbu hs2 (zcJ _) (zib hs2 true) (fun ty r3 hs3 he3 => ?_) fun x e => ?_
   ·have h3 := zd9 r nm r2 he
    have h4 := (zcJ true).le he3
    have h4 : r3.length ≤ r2.length := h4
    rw [zbV (by simp), Option.bind_some]
    exact zlX ln c (n + 1) m [⟨nm, ty⟩] r3 (by simp) (by omega) hs3 (by simp; omega)
   ·rw [zbV (by simp), Option.bind_some]
    exact zhJ ln c e n _
  ·exact zjH ln c e n [] x (by simp)
theorem znM (ln : Int) (hs : Suf T r) : zT T (zeD (mkR T r false) ln) (bd zbR fun nm => bd (zbs [⟨#[40]⟩]) fun _ => ifH 4 [⟨#[41]⟩] (k9 ln nm []) (bd zdi fun p => pL ln nm big [p])) r := by
 unfold zeD
 refine zbu hs zbm (zdg hs) (fun nm r2 hs2 _ => ?_) fun x e => zhJ ln _ e _ _
 refine zcp hs2 (zJ _) (zbW hs2 (by decide)) (fun r3 hs3 _ => ?_) fun e => zhJ ln _ e _ _
 exact znU ln (nm, mkR T r2 false) big big (by have := zbT hs3; have := hs3.2; have := zcy; omega) hs3
theorem zpg (ln : Int) (e : List Tok) : ∃ y, zeD (mkR T e true) ln = some (y, mkR T e true) := ⟨⟨⟨#[]⟩, ln, [], ⟨0, 0, ⟨#[]⟩⟩, []⟩, rfl⟩
end
end Go.Proofs.Ytnhboaaikehpoaa
