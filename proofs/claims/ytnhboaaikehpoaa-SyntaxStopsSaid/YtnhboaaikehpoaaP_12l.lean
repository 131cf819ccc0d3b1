import Derived.Test.YtnhboaaikehpoaaP_12k
import Derived.KernelRfl
namespace Go.Proofs.Ytnhboaaikehpoaa
open Go.Ab Go.RowKit
set_option linter.unusedVariables false
set_option linter.unusedSimpArgs false
def zdK {α γ : Type} (K : Option γ → Rs α → Prop) (X : Option γ) (p : Ps α) (r : List Tok) : Prop := ∀ v, p r = some v → K X v
section
variable {T : List Tok} {r : List Tok} {k : Int} {tx : List BA}
theorem zh9 {α β γ : Type} {K : Option γ → Rs β → Prop} {p : Ps α} {f : α → Ps β} {X : Option (α × RP)} {G : α × RP → Option γ} (hs : Suf T r) (hp : Sf p) (hX : zG T X p r) (hG : ∀ x r', Suf T r' → p r = some (.ok (x, r')) → zdK K (G (x, mkR T r' false)) (f x) r') (hF : ∀ x e, K (G (x, mkR T e true)) (.error e)) : zdK K (X.bind G) (bd p f) r := fun v h => by
 unfold bd at h
 split at h
 ·cases h
 ·rename_i e he
  injection h with h
  subst h
  obtain ⟨x, hx⟩ := hX _ he
  rw [hx]
  exact hF x e
 ·rename_i x r' he
  have hx : X = some (x, mkR T r' false) := hX _ he
  rw [hx]
  exact hG x r' (hs.of (hp r _ he)) he v h
theorem zk5 {β γ : Type} {K : Option γ → Rs β → Prop} {p : Ps Unit} {f : Unit → Ps β} {X : Option RP} {G : RP → Option γ} (hs : Suf T r) (hp : Sf p) (hX : zkm T X p r) (hG : ∀ r', Suf T r' → p r = some (.ok ((), r')) → zdK K (G (mkR T r' false)) (f ()) r') (hF : ∀ e, K (G (mkR T e true)) (.error e)) : zdK K (X.bind G) (bd p f) r := fun v h => by
 unfold bd at h
 split at h
 ·cases h
 ·rename_i e he
  injection h with h
  subst h
  have hx : X = some (mkR T e true) := hX _ he
  rw [hx]
  exact hF e
 ·rename_i x r' he
  have hx : X = some (mkR T r' false) := hX _ he
  rw [hx]
  exact hG r' (hs.of (hp r _ he)) he v h
theorem zi0 {β γ : Type} {K : Option γ → Rs β → Prop} {x : BA} {f : Tok → Ps β} {G : RP → Option γ} (hs : Suf T r) (hx : x ≠ ⟨#[]⟩) (hG : ∀ t r', Suf T r' → tk 3 [x] r = some (.ok (t, r')) → zdK K (G (mkR T r' false)) (f t) r') (hF : ∀ e, K (G (mkR T e true)) (.error e)) : zdK K ((zde (mkR T r false) x).bind G) (bd (tk 3 [x]) f) r := by
 unfold zde
 rw [Option.bind_assoc]
 exact zh9 hs (zbm _ _) (zjV hs hx) (fun t r' hs' he => hG t r' hs' he) fun t e => hF e
theorem zhV {a : BA} (h : zs 4 [a] r = true) : zbd [a] r = some (.ok ((), r.tail)) := by
 show bd (tk 4 [a]) (fun _ => pu ()) r = _
 cases r with
 | nil => cases h
 | cons t r =>
  have : tk 4 [a] (t :: r) = some (.ok (t, r)) := if_pos h
  rw [zdz this]
  rfl
theorem zmm {a : BA} (h : zs 4 [a] r = false) : zbd [a] r = some (.error r) := by
 show bd (tk 4 [a]) (fun _ => pu ()) r = _
 unfold bd
 rw [ziS h]
theorem ziE {a : BA} (hs : Suf T r) (ha : a ≠ ⟨#[]⟩) (h : zs 4 [a] r = true) : zbi (mkR T r false) a = some (mkR T r.tail false) := zbN hs ha _ (zhV h)
theorem znC {a : BA} (hs : Suf T r) (ha : a ≠ ⟨#[]⟩) (h : zs 4 [a] r = false) : zbi (mkR T r false) a = some (mkR T r true) := zbN hs ha _ (zmm h)
theorem zk1 (ln : Int) (nm : BA) (l : List z4) (hs : Suf T r) : zG T ((zea (mkR T r false) false).bind fun c279 => (zfV c279.2).bind fun c287 => some ((⟨nm, ln, l, (⟨c279.1.Kind, c279.1.N, c279.1.Name⟩ : zz), c287.1⟩ : zi), c287.2)) (k9 ln nm l) r := by
 unfold k9
 refine zbh hs (zcO _) (ziv hs false) (fun t r2 hs2 _ => ?_) fun x e => ?_
 ·exact zbh hs2 zh1 (zoc hs2) (fun b r3 hs3 _ => zbE) fun x e => ⟨_, rfl⟩
 ·dsimp only
  rw [zo7]
  exact ⟨_, rfl⟩
theorem zgS (ln : Int) (c : BA × RP) (e : List Tok) (n : Nat) (l : List z4) : ∃ y, zdG ln c (n + 1) T ((T.length - e.length : Nat) : Int) true l = some (y, mkR T e true) := by
 exact ⟨⟨c.1, ln, l, ⟨0, 0, ⟨#[]⟩⟩, []⟩, rfl⟩
theorem zkv (ln : Int) (c : BA × RP) (e : List Tok) (n : Nat) (l : List z4) (x : BA) (hl : l.length ≤ 1000001) : ∃ y, ((zea (mkR T e true) true).bind fun c249 => (room (l.length + 1)).bind fun _ => zdG ln c (n + 1) c249.2.L c249.2.At c249.2.Failed (l ++ [(⟨x, (⟨c249.1.Kind, c249.1.N, c249.1.Name⟩ : zz)⟩ : z4)])) = some (y, mkR T e true) := by
 obtain ⟨y, hy⟩ := zgS (T := T) ln c e n (l ++ [⟨x, ⟨0, 0, ⟨#[]⟩⟩⟩])
 refine ⟨y, ?_⟩
 show ((room (l.length + 1)).bind fun _ => _) = _
 rw [zbJ (by omega), Option.bind_some]
 exact hy
theorem zpX (ln : Int) (c : BA × RP) (e : List Tok) (n : Nat) (l : List z4) (hl : l.length ≤ 1000001) : ∃ y, zfa (zdG ln c (n + 1)) T ((T.length - e.length : Nat) : Int) true l = some (y, mkR T e true) :=
 zkv ln c e n l ⟨#[]⟩ hl
theorem znf (ln : Int) (c : BA × RP) : ∀ (n m : Nat) (l : List z4) (r : List Tok), l ≠ [] → r.length + 1 < n → Suf T r → l.length + r.length ≤ 1000001 → zG T (zdG ln c n T ((T.length - r.length : Nat) : Int) false l) (pL ln c.1 m l) r
 | n, 0, l, r, _, _, _, _ => zeb
 | 0, m + 1, l, r, _, h, _, _ => by omega
 | n + 1, m + 1, l, r, hne, hn, hs, hl => by
  have hpos : decide ((l.length : Int) > 0) = true := by
   cases l with
   | nil => exact absurd rfl hne
   | cons a l => exact zbo (by simp)
  obtain ⟨n', rfl⟩ : ∃ n', n = n' + 1 := ⟨n - 1, by omega⟩
  show zG T (zg2 (zdG ln c (n' + 1)) ln c T ((T.length - r.length : Nat) : Int) false l) (ifH 4 [⟨#[44]⟩] (bd zc9 fun p => pL ln c.1 m (l ++ [p])) (bd (zbd [⟨#[41]⟩]) fun _ => k9 ln c.1 l)) r
  unfold zg2
  rw [if_pos (show (!false) = true from rfl)]
  show zG T (((z7 (mkR T r false) 4 ⟨#[41]⟩).bind fun c => some (!c)).bind fun c212 => if c212 = true then (if (decide ((l.length : Int) > 0)) = true then (zbi (mkR T r false) (⟨#[44]⟩ : ByteArray)).bind fun c263 => zfa (zdG ln c (n' + 1)) c263.L c263.At c263.Failed l else _) else (zbi (mkR T r false) (⟨#[41]⟩ : ByteArray)).bind fun c271 => (zea c271 false).bind fun c279 => (zfV c279.2).bind fun c287 => some ((⟨c.1, ln, l, (⟨c279.1.Kind, c279.1.N, c279.1.Name⟩ : zz), c287.1⟩ : zi), c287.2)) _ r
  rw [zcB hs (by decide), Option.bind_some, Option.bind_some, if_pos hpos]
  intro v hv
  unfold ifH at hv
  cases h : zs 4 [⟨#[44]⟩] r with
  | true =>
   rw [h, if_pos rfl] at hv
   cases r with
   | nil => cases h
   | cons t r =>
    have h2 : zs 4 [⟨#[41]⟩] (t :: r) = false := by
     cases h2 : zs 4 [⟨#[41]⟩] (t :: r) with
     | false => rfl
     | true => exact absurd ((ziA h).symm.trans (ziA h2)) (by decide)
    simp only [List.length_cons] at hn hl
    rw [h2, if_pos (show (!false) = true from rfl), ziE hs (by decide) h, Option.bind_some]
    unfold zc9 at hv
    simp only [ze9, zfs] at hv
    unfold zfa
    refine (zbh hs.tail z9 (zdf hs.tail) (fun nm r2 hs2 he => ?_) fun x e => ?_) v hv
    ·refine zbh hs2 (zcO _) (ziv hs2 true) (fun ty r3 hs3 he3 => ?_) fun x e => ?_
     ·have h3 := zeg r nm r2 he
      have h4 := (zcO true).le he3
      have h4 : r3.length ≤ r2.length := h4
      rw [zbJ (by omega), Option.bind_some]
      exact znf ln c (n' + 1) m (l ++ [⟨nm, ty⟩]) r3 (by simp) (by omega) hs3 (by simp; omega)
     ·rw [zbJ (by omega), Option.bind_some]
      exact zgS ln c e n' _
    ·exact zkv ln c e n' l x (by omega)
  | false =>
   rw [h, if_neg (by simp)] at hv
   cases h2 : zs 4 [⟨#[41]⟩] r with
   | true =>
    rw [if_neg (by simp), ziE hs (by decide) h2, Option.bind_some]
    rw [zdz (zhV h2)] at hv
    exact zk1 ln c.1 l (hs.of (zy _ _ _ (zhV h2))) v hv
   | false =>
    rw [if_pos (show (!false) = true from rfl), znC hs (by decide) h, Option.bind_some]
    unfold bd at hv
    rw [zmm h2] at hv
    injection hv with hv
    subst hv
    exact zpX ln c r n' l (by omega)
theorem zo2 (ln : Int) (c : BA × RP) (n m : Nat) (hn : r.length + 2 < n) (hs : Suf T r) : zG T (zdG ln c n T ((T.length - r.length : Nat) : Int) false []) (ifH 4 [⟨#[41]⟩] (k9 ln c.1 []) (bd zc9 fun p => pL ln c.1 m [p])) r := by
 obtain ⟨n, rfl⟩ : ∃ n', n = n' + 1 + 1 := ⟨n - 2, by omega⟩
 have hl := zbM hs
 have hT := hs.2
 show zG T (zg2 (zdG ln c (n + 1)) ln c T ((T.length - r.length : Nat) : Int) false []) _ r
 unfold zg2
 rw [if_pos (show (!false) = true from rfl)]
 show zG T (((z7 (mkR T r false) 4 ⟨#[41]⟩).bind fun c => some (!c)).bind fun c212 => if c212 = true then zfa (zdG ln c (n + 1)) T ((T.length - r.length : Nat) : Int) false [] else (zbi (mkR T r false) (⟨#[41]⟩ : ByteArray)).bind fun c271 => (zea c271 false).bind fun c279 => (zfV c279.2).bind fun c287 => some ((⟨c.1, ln, [], (⟨c279.1.Kind, c279.1.N, c279.1.Name⟩ : zz), c287.1⟩ : zi), c287.2)) _ r
 rw [zcB hs (by decide), Option.bind_some, Option.bind_some]
 intro v hv
 unfold ifH at hv
 cases h : zs 4 [⟨#[41]⟩] r with
 | true =>
  rw [h, if_pos rfl] at hv
  rw [if_neg (by simp), ziE hs (by decide) h, Option.bind_some]
  exact zk1 ln c.1 [] (hs.of (zy _ _ _ (zhV h))) v hv
 | false =>
  rw [h, if_neg (by simp)] at hv
  rw [if_pos (show (!false) = true from rfl)]
  unfold zc9 at hv
  simp only [ze9, zfs] at hv
  unfold zfa
  refine (zbh hs z9 (zdf hs) (fun nm r2 hs2 he => ?_) fun x e => ?_) v hv
  ·refine zbh hs2 (zcO _) (ziv hs2 true) (fun ty r3 hs3 he3 => ?_) fun x e => ?_
   ·have h3 := zeg r nm r2 he
    have h4 := (zcO true).le he3
    have h4 : r3.length ≤ r2.length := h4
    rw [zbJ (by simp), Option.bind_some]
    exact znf ln c (n + 1) m [⟨nm, ty⟩] r3 (by simp) (by omega) hs3 (by simp; omega)
   ·rw [zbJ (by simp), Option.bind_some]
    exact zgS ln c e n _
  ·exact zkv ln c e n [] x (by simp)
theorem zrg (ln : Int) (hs : Suf T r) : zG T (zfR (mkR T r false) ln) (bd zbB fun nm => bd (zbd [⟨#[40]⟩]) fun _ => ifH 4 [⟨#[41]⟩] (k9 ln nm []) (bd zc9 fun p => pL ln nm big [p])) r := by
 unfold zfR
 refine zbh hs z9 (zdf hs) (fun nm r2 hs2 _ => ?_) fun x e => zgS ln _ e _ _
 refine zb7 hs2 (zy _) (zbN hs2 (by decide)) (fun r3 hs3 _ => ?_) fun e => zgS ln _ e _ _
 exact zo2 ln (nm, mkR T r2 false) big big (by have := zbM hs3; have := hs3.2; have := zbZ; omega) hs3
theorem zpd (ln : Int) (e : List Tok) : ∃ y, zfR (mkR T e true) ln = some (y, mkR T e true) := ⟨⟨⟨#[]⟩, ln, [], ⟨0, 0, ⟨#[]⟩⟩, []⟩, rfl⟩
end
end Go.Proofs.Ytnhboaaikehpoaa
