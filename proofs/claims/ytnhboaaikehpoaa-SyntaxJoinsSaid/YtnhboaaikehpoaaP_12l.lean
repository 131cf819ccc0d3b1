import Derived.Test.YtnhboaaikehpoaaP_12k
import Derived.KernelRfl
namespace Go.Proofs.Ytnhboaaikehpoaa
open Go.Ab Go.RowKit
set_option linter.unusedVariables false
set_option linter.unusedSimpArgs false
def zdE {α γ : Type} (K : Option γ → Rs α → Prop) (X : Option γ) (p : Ps α) (r : List Tok) : Prop := ∀ v, p r = some v → K X v
section
variable {T : List Tok} {r : List Tok} {k : Int} {tx : List BA}
theorem ziW {α β γ : Type} {K : Option γ → Rs β → Prop} {p : Ps α} {f : α → Ps β} {X : Option (α × RP)} {G : α × RP → Option γ} (hs : Suf T r) (hp : Sf p) (hX : zQ T X p r) (hG : ∀ x r', Suf T r' → p r = some (.ok (x, r')) → zdE K (G (x, mkR T r' false)) (f x) r') (hF : ∀ x e, K (G (x, mkR T e true)) (.error e)) : zdE K (X.bind G) (bd p f) r := fun v h => by
 unfold bd at h
 split at h
 ·cases h
 ·rename_i e he
  injection h with h
  subst h
  obtain ⟨x, hx⟩ := hX _ he
  rw [hx]
  exact hF x e
 ·rename_i x r' he
  have hx : X = some (x, mkR T r' false) := hX _ he
  rw [hx]
  exact hG x r' (hs.of (hp r _ he)) he v h
theorem zlD {β γ : Type} {K : Option γ → Rs β → Prop} {p : Ps Unit} {f : Unit → Ps β} {X : Option RP} {G : RP → Option γ} (hs : Suf T r) (hp : Sf p) (hX : zkn T X p r) (hG : ∀ r', Suf T r' → p r = some (.ok ((), r')) → zdE K (G (mkR T r' false)) (f ()) r') (hF : ∀ e, K (G (mkR T e true)) (.error e)) : zdE K (X.bind G) (bd p f) r := fun v h => by
 unfold bd at h
 split at h
 ·cases h
 ·rename_i e he
  injection h with h
  subst h
  have hx : X = some (mkR T e true) := hX _ he
  rw [hx]
  exact hF e
 ·rename_i x r' he
  have hx : X = some (mkR T r' false) := hX _ he
  rw [hx]
  exact hG r' (hs.of (hp r _ he)) he v h
theorem zjG {β γ : Type} {K : Option γ → Rs β → Prop} {x : BA} {f : Tok → Ps β} {G : RP → Option γ} (hs : Suf T r) (hx : x ≠ ⟨#[]⟩) (hG : ∀ t r', Suf T r' → tk 3 [x] r = some (.ok (t, r')) → zdE K (G (mkR T r' false)) (f t) r') (hF : ∀ e, K (G (mkR T e true)) (.error e)) : zdE K ((zdo (mkR T r false) x).bind G) (bd (tk 3 [x]) f) r := by
 unfold zdo
 rw [Option.bind_assoc]
 exact ziW hs (zbC _ _) (zju hs hx) (fun t r' hs' he => hG t r' hs' he) fun t e => hF e
theorem zh8 {a : BA} (h : zz 4 [a] r = true) : zbu [a] r = some (.ok ((), r.tail)) := by
 show bd (tk 4 [a]) (fun _ => pu ()) r = _
 cases r with
 | nil => cases h
 | cons t r =>
  have : tk 4 [a] (t :: r) = some (.ok (t, r)) := if_pos h
  rw [zdI this]
  rfl
theorem zmq {a : BA} (h : zz 4 [a] r = false) : zbu [a] r = some (.error r) := by
 show bd (tk 4 [a]) (fun _ => pu ()) r = _
 unfold bd
 rw [zj9 h]
theorem zi0 {a : BA} (hs : Suf T r) (ha : a ≠ ⟨#[]⟩) (h : zz 4 [a] r = true) : zbA (mkR T r false) a = some (mkR T r.tail false) := zb4 hs ha _ (zh8 h)
theorem zoY {a : BA} (hs : Suf T r) (ha : a ≠ ⟨#[]⟩) (h : zz 4 [a] r = false) : zbA (mkR T r false) a = some (mkR T r true) := zb4 hs ha _ (zmq h)
theorem zmM (ln : Int) (nm : BA) (l : List zbh) (hs : Suf T r) : zQ T ((zep (mkR T r false) false).bind fun c279 => (zfz c279.2).bind fun c287 => some ((⟨nm, ln, l, (⟨c279.1.Kind, c279.1.N, c279.1.Name⟩ : zI), c287.1⟩ : zi), c287.2)) (k9 ln nm l) r := by
 unfold k9
 refine zby hs (zcQ _) (ziz hs false) (fun t r2 hs2 _ => ?_) fun x e => ?_
 ·exact zby hs2 zhy (zrq hs2) (fun b r3 hs3 _ => zbT) fun x e => ⟨_, rfl⟩
 ·dsimp only
  rw [zqT]
  exact ⟨_, rfl⟩
theorem zgU (ln : Int) (c : BA × RP) (e : List Tok) (n : Nat) (l : List zbh) : ∃ y, zdH ln c (n + 1) T ((T.length - e.length : Nat) : Int) true l = some (y, mkR T e true) := by
 exact ⟨⟨c.1, ln, l, ⟨0, 0, ⟨#[]⟩⟩, []⟩, rfl⟩
theorem zkx (ln : Int) (c : BA × RP) (e : List Tok) (n : Nat) (l : List zbh) (x : BA) (hl : l.length ≤ 1000001) : ∃ y, ((zep (mkR T e true) true).bind fun c249 => (room (l.length + 1)).bind fun _ => zdH ln c (n + 1) c249.2.L c249.2.At c249.2.Failed (l ++ [(⟨x, (⟨c249.1.Kind, c249.1.N, c249.1.Name⟩ : zI)⟩ : zbh)])) = some (y, mkR T e true) := by
 obtain ⟨y, hy⟩ := zgU (T := T) ln c e n (l ++ [⟨x, ⟨0, 0, ⟨#[]⟩⟩⟩])
 refine ⟨y, ?_⟩
 show ((room (l.length + 1)).bind fun _ => _) = _
 rw [zbO (by omega), Option.bind_some]
 exact hy
theorem zon (ln : Int) (c : BA × RP) (e : List Tok) (n : Nat) (l : List zbh) (hl : l.length ≤ 1000001) : ∃ y, zfc (zdH ln c (n + 1)) T ((T.length - e.length : Nat) : Int) true l = some (y, mkR T e true) :=
 zkx ln c e n l ⟨#[]⟩ hl
theorem znl (ln : Int) (c : BA × RP) : ∀ (n m : Nat) (l : List zbh) (r : List Tok), l ≠ [] → r.length + 1 < n → Suf T r → l.length + r.length ≤ 1000001 → zQ T (zdH ln c n T ((T.length - r.length : Nat) : Int) false l) (pL ln c.1 m l) r
 | n, 0, l, r, _, _, _, _ => zer
 | 0, m + 1, l, r, _, h, _, _ => by omega
 | n + 1, m + 1, l, r, hne, hn, hs, hl => by
  have hpos : decide ((l.length : Int) > 0) = true := by
   cases l with
   | nil => exact absurd rfl hne
   | cons a l => exact zbx (by simp)
  obtain ⟨n', rfl⟩ : ∃ n', n = n' + 1 := ⟨n - 1, by omega⟩
  show zQ T (zhn (zdH ln c (n' + 1)) ln c T ((T.length - r.length : Nat) : Int) false l) (ifH 4 [⟨#[44]⟩] (bd zdn fun p => pL ln c.1 m (l ++ [p])) (bd (zbu [⟨#[41]⟩]) fun _ => k9 ln c.1 l)) r
  unfold zhn
  rw [if_pos (show (!false) = true from rfl)]
  show zQ T (((zbk (mkR T r false) 4 ⟨#[41]⟩).bind fun c => some (!c)).bind fun c212 => if c212 = true then (if (decide ((l.length : Int) > 0)) = true then (zbA (mkR T r false) (⟨#[44]⟩ : ByteArray)).bind fun c263 => zfc (zdH ln c (n' + 1)) c263.L c263.At c263.Failed l else _) else (zbA (mkR T r false) (⟨#[41]⟩ : ByteArray)).bind fun c271 => (zep c271 false).bind fun c279 => (zfz c279.2).bind fun c287 => some ((⟨c.1, ln, l, (⟨c279.1.Kind, c279.1.N, c279.1.Name⟩ : zI), c287.1⟩ : zi), c287.2)) _ r
  rw [zcS hs (by decide), Option.bind_some, Option.bind_some, if_pos hpos]
  intro v hv
  unfold ifH at hv
  cases h : zz 4 [⟨#[44]⟩] r with
  | true =>
   rw [h, if_pos rfl] at hv
   cases r with
   | nil => cases h
   | cons t r =>
    have h2 : zz 4 [⟨#[41]⟩] (t :: r) = false := by
     cases h2 : zz 4 [⟨#[41]⟩] (t :: r) with
     | false => rfl
     | true => exact absurd ((ziT h).symm.trans (ziT h2)) (by decide)
    simp only [List.length_cons] at hn hl
    rw [h2, if_pos (show (!false) = true from rfl), zi0 hs (by decide) h, Option.bind_some]
    unfold zdn at hv
    simp only [zfo, zgd] at hv
    unfold zfc
    refine (zby hs.tail zbl (zdz hs.tail) (fun nm r2 hs2 he => ?_) fun x e => ?_) v hv
    ·refine zby hs2 (zcQ _) (ziz hs2 true) (fun ty r3 hs3 he3 => ?_) fun x e => ?_
     ·have h3 := zd2 r nm r2 he
      have h4 := (zcQ true).le he3
      have h4 : r3.length ≤ r2.length := h4
      rw [zbO (by omega), Option.bind_some]
      exact znl ln c (n' + 1) m (l ++ [⟨nm, ty⟩]) r3 (by simp) (by omega) hs3 (by simp; omega)
     ·rw [zbO (by omega), Option.bind_some]
      exact zgU ln c e n' _
    ·exact zkx ln c e n' l x (by omega)
  | false =>
   rw [h, if_neg (by simp)] at hv
   cases h2 : zz 4 [⟨#[41]⟩] r with
   | true =>
    rw [if_neg (by simp), zi0 hs (by decide) h2, Option.bind_some]
    rw [zdI (zh8 h2)] at hv
    exact zmM ln c.1 l (hs.of (zG _ _ _ (zh8 h2))) v hv
   | false =>
    rw [if_pos (show (!false) = true from rfl), zoY hs (by decide) h, Option.bind_some]
    unfold bd at hv
    rw [zmq h2] at hv
    injection hv with hv
    subst hv
    exact zon ln c r n' l (by omega)
theorem zpe (ln : Int) (c : BA × RP) (n m : Nat) (hn : r.length + 2 < n) (hs : Suf T r) : zQ T (zdH ln c n T ((T.length - r.length : Nat) : Int) false []) (ifH 4 [⟨#[41]⟩] (k9 ln c.1 []) (bd zdn fun p => pL ln c.1 m [p])) r := by
 obtain ⟨n, rfl⟩ : ∃ n', n = n' + 1 + 1 := ⟨n - 2, by omega⟩
 have hl := zb3 hs
 have hT := hs.2
 show zQ T (zhn (zdH ln c (n + 1)) ln c T ((T.length - r.length : Nat) : Int) false []) _ r
 unfold zhn
 rw [if_pos (show (!false) = true from rfl)]
 show zQ T (((zbk (mkR T r false) 4 ⟨#[41]⟩).bind fun c => some (!c)).bind fun c212 => if c212 = true then zfc (zdH ln c (n + 1)) T ((T.length - r.length : Nat) : Int) false [] else (zbA (mkR T r false) (⟨#[41]⟩ : ByteArray)).bind fun c271 => (zep c271 false).bind fun c279 => (zfz c279.2).bind fun c287 => some ((⟨c.1, ln, [], (⟨c279.1.Kind, c279.1.N, c279.1.Name⟩ : zI), c287.1⟩ : zi), c287.2)) _ r
 rw [zcS hs (by decide), Option.bind_some, Option.bind_some]
 intro v hv
 unfold ifH at hv
 cases h : zz 4 [⟨#[41]⟩] r with
 | true =>
  rw [h, if_pos rfl] at hv
  rw [if_neg (by simp), zi0 hs (by decide) h, Option.bind_some]
  exact zmM ln c.1 [] (hs.of (zG _ _ _ (zh8 h))) v hv
 | false =>
  rw [h, if_neg (by simp)] at hv
  rw [if_pos (show (!false) = true from rfl)]
  unfold zdn at hv
  simp only [zfo, zgd] at hv
  unfold zfc
  refine (zby hs zbl (zdz hs) (fun nm r2 hs2 he => ?_) fun x e => ?_) v hv
  ·refine zby hs2 (zcQ _) (ziz hs2 true) (fun ty r3 hs3 he3 => ?_) fun x e => ?_
   ·have h3 := zd2 r nm r2 he
    have h4 := (zcQ true).le he3
    have h4 : r3.length ≤ r2.length := h4
    rw [zbO (by simp), Option.bind_some]
    exact znl ln c (n + 1) m [⟨nm, ty⟩] r3 (by simp) (by omega) hs3 (by simp; omega)
   ·rw [zbO (by simp), Option.bind_some]
    exact zgU ln c e n _
  ·exact zkx ln c e n [] x (by simp)
theorem zo1 (ln : Int) (hs : Suf T r) : zQ T (zfJ (mkR T r false) ln) (bd zbQ fun nm => bd (zbu [⟨#[40]⟩]) fun _ => ifH 4 [⟨#[41]⟩] (k9 ln nm []) (bd zdn fun p => pL ln nm big [p])) r := by
 unfold zfJ
 refine zby hs zbl (zdz hs) (fun nm r2 hs2 _ => ?_) fun x e => zgU ln _ e _ _
 refine zct hs2 (zG _) (zb4 hs2 (by decide)) (fun r3 hs3 _ => ?_) fun e => zgU ln _ e _ _
 exact zpe ln (nm, mkR T r2 false) big big (by have := zb3 hs3; have := hs3.2; have := zco; omega) hs3
theorem zpa (ln : Int) (e : List Tok) : ∃ y, zfJ (mkR T e true) ln = some (y, mkR T e true) := ⟨⟨⟨#[]⟩, ln, [], ⟨0, 0, ⟨#[]⟩⟩, []⟩, rfl⟩
end
end Go.Proofs.Ytnhboaaikehpoaa
