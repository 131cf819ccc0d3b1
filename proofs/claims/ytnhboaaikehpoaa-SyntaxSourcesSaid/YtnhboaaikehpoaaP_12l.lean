import Derived.Test.YtnhboaaikehpoaaP_12k
import Derived.KernelRfl
namespace Go.Proofs.Ytnhboaaikehpoaa
open Go.Ab Go.RowKit
set_option linter.unusedVariables false
set_option linter.unusedSimpArgs false
def zdx {α γ : Type} (K : Option γ → Rs α → Prop) (X : Option γ) (p : Ps α) (r : List Tok) : Prop := ∀ v, p r = some v → K X v
section
variable {T : List Tok} {r : List Tok} {k : Int} {tx : List BA}
theorem zie {α β γ : Type} {K : Option γ → Rs β → Prop} {p : Ps α} {f : α → Ps β} {X : Option (α × RP)} {G : α × RP → Option γ} (hs : Suf T r) (hp : Sf p) (hX : zU T X p r) (hG : ∀ x r', Suf T r' → p r = some (.ok (x, r')) → zdx K (G (x, mkR T r' false)) (f x) r') (hF : ∀ x e, K (G (x, mkR T e true)) (.error e)) : zdx K (X.bind G) (bd p f) r := fun v h => by
 unfold bd at h
 split at h
 ·cases h
 ·rename_i e he
  injection h with h
  subst h
  obtain ⟨x, hx⟩ := hX _ he
  rw [hx]
  exact hF x e
 ·rename_i x r' he
  have hx : X = some (x, mkR T r' false) := hX _ he
  rw [hx]
  exact hG x r' (hs.of (hp r _ he)) he v h
theorem zm4 {β γ : Type} {K : Option γ → Rs β → Prop} {p : Ps Unit} {f : Unit → Ps β} {X : Option RP} {G : RP → Option γ} (hs : Suf T r) (hp : Sf p) (hX : zj0 T X p r) (hG : ∀ r', Suf T r' → p r = some (.ok ((), r')) → zdx K (G (mkR T r' false)) (f ()) r') (hF : ∀ e, K (G (mkR T e true)) (.error e)) : zdx K (X.bind G) (bd p f) r := fun v h => by
 unfold bd at h
 split at h
 ·cases h
 ·rename_i e he
  injection h with h
  subst h
  have hx : X = some (mkR T e true) := hX _ he
  rw [hx]
  exact hF e
 ·rename_i x r' he
  have hx : X = some (mkR T r' false) := hX _ he
  rw [hx]
  exact hG r' (hs.of (hp r _ he)) he v h
theorem zjv {β γ : Type} {K : Option γ → Rs β → Prop} {x : BA} {f : Tok → Ps β} {G : RP → Option γ} (hs : Suf T r) (hx : x ≠ ⟨#[]⟩) (hG : ∀ t r', Suf T r' → tk 3 [x] r = some (.ok (t, r')) → zdx K (G (mkR T r' false)) (f t) r') (hF : ∀ e, K (G (mkR T e true)) (.error e)) : zdx K ((zcY (mkR T r false) x).bind G) (bd (tk 3 [x]) f) r := by
 unfold zcY
 rw [Option.bind_assoc]
 exact zie hs (zbD _ _) (zjO hs hx) (fun t r' hs' he => hG t r' hs' he) fun t e => hF e
theorem zi7 {a : BA} (h : zI 4 [a] r = true) : zbs [a] r = some (.ok ((), r.tail)) := by
 show bd (tk 4 [a]) (fun _ => pu ()) r = _
 cases r with
 | nil => cases h
 | cons t r =>
  have : tk 4 [a] (t :: r) = some (.ok (t, r)) := if_pos h
  rw [zeB this]
  rfl
theorem zlk {a : BA} (h : zI 4 [a] r = false) : zbs [a] r = some (.error r) := by
 show bd (tk 4 [a]) (fun _ => pu ()) r = _
 unfold bd
 rw [zjz h]
theorem zi1 {a : BA} (hs : Suf T r) (ha : a ≠ ⟨#[]⟩) (h : zI 4 [a] r = true) : zbt (mkR T r false) a = some (mkR T r.tail false) := zb0 hs ha _ (zi7 h)
theorem zqt {a : BA} (hs : Suf T r) (ha : a ≠ ⟨#[]⟩) (h : zI 4 [a] r = false) : zbt (mkR T r false) a = some (mkR T r true) := zb0 hs ha _ (zlk h)
theorem zmU (ln : Int) (nm : BA) (l : List zbc) (hs : Suf T r) : zU T ((zdF (mkR T r false) false).bind fun c279 => (zfh c279.2).bind fun c287 => some ((⟨nm, ln, l, (⟨c279.1.Kind, c279.1.N, c279.1.Name⟩ : zD), c287.1⟩ : zo), c287.2)) (k9 ln nm l) r := by
 unfold k9
 refine zbu hs (zcR _) (zin hs false) (fun t r2 hs2 _ => ?_) fun x e => ?_
 ·exact zbu hs2 zhJ (zn3 hs2) (fun b r3 hs3 _ => zbO) fun x e => ⟨_, rfl⟩
 ·dsimp only
  rw [zoc]
  exact ⟨_, rfl⟩
theorem zhU (ln : Int) (c : BA × RP) (e : List Tok) (n : Nat) (l : List zbc) : ∃ y, zc6 ln c (n + 1) T ((T.length - e.length : Nat) : Int) true l = some (y, mkR T e true) := by
 exact ⟨⟨c.1, ln, l, ⟨0, 0, ⟨#[]⟩⟩, []⟩, rfl⟩
theorem zki (ln : Int) (c : BA × RP) (e : List Tok) (n : Nat) (l : List zbc) (x : BA) (hl : l.length ≤ 1000001) : ∃ y, ((zdF (mkR T e true) true).bind fun c249 => (room (l.length + 1)).bind fun _ => zc6 ln c (n + 1) c249.2.L c249.2.At c249.2.Failed (l ++ [(⟨x, (⟨c249.1.Kind, c249.1.N, c249.1.Name⟩ : zD)⟩ : zbc)])) = some (y, mkR T e true) := by
 obtain ⟨y, hy⟩ := zhU (T := T) ln c e n (l ++ [⟨x, ⟨0, 0, ⟨#[]⟩⟩⟩])
 refine ⟨y, ?_⟩
 show ((room (l.length + 1)).bind fun _ => _) = _
 rw [zbY (by omega), Option.bind_some]
 exact hy
theorem zpX (ln : Int) (c : BA × RP) (e : List Tok) (n : Nat) (l : List zbc) (hl : l.length ≤ 1000001) : ∃ y, zeq (zc6 ln c (n + 1)) T ((T.length - e.length : Nat) : Int) true l = some (y, mkR T e true) :=
 zki ln c e n l ⟨#[]⟩ hl
theorem zln (ln : Int) (c : BA × RP) : ∀ (n m : Nat) (l : List zbc) (r : List Tok), l ≠ [] → r.length + 1 < n → Suf T r → l.length + r.length ≤ 1000001 → zU T (zc6 ln c n T ((T.length - r.length : Nat) : Int) false l) (pL ln c.1 m l) r
 | n, 0, l, r, _, _, _, _ => zes
 | 0, m + 1, l, r, _, h, _, _ => by omega
 | n + 1, m + 1, l, r, hne, hn, hs, hl => by
  have hpos : decide ((l.length : Int) > 0) = true := by
   cases l with
   | nil => exact absurd rfl hne
   | cons a l => exact zbe (by simp)
  obtain ⟨n', rfl⟩ : ∃ n', n = n' + 1 := ⟨n - 1, by omega⟩
  show zU T (zfq (zc6 ln c (n' + 1)) ln c T ((T.length - r.length : Nat) : Int) false l) (ifH 4 [⟨#[44]⟩] (bd zdi fun p => pL ln c.1 m (l ++ [p])) (bd (zbs [⟨#[41]⟩]) fun _ => k9 ln c.1 l)) r
  unfold zfq
  rw [if_pos (show (!false) = true from rfl)]
  show zU T (((zbg (mkR T r false) 4 ⟨#[41]⟩).bind fun c => some (!c)).bind fun c212 => if c212 = true then (if (decide ((l.length : Int) > 0)) = true then (zbt (mkR T r false) (⟨#[44]⟩ : ByteArray)).bind fun c263 => zeq (zc6 ln c (n' + 1)) c263.L c263.At c263.Failed l else _) else (zbt (mkR T r false) (⟨#[41]⟩ : ByteArray)).bind fun c271 => (zdF c271 false).bind fun c279 => (zfh c279.2).bind fun c287 => some ((⟨c.1, ln, l, (⟨c279.1.Kind, c279.1.N, c279.1.Name⟩ : zD), c287.1⟩ : zo), c287.2)) _ r
  rw [zcO hs (by decide), Option.bind_some, Option.bind_some, if_pos hpos]
  intro v hv
  unfold ifH at hv
  cases h : zI 4 [⟨#[44]⟩] r with
  | true =>
   rw [h, if_pos rfl] at hv
   cases r with
   | nil => cases h
   | cons t r =>
    have h2 : zI 4 [⟨#[41]⟩] (t :: r) = false := by
     cases h2 : zI 4 [⟨#[41]⟩] (t :: r) with
     | false => rfl
     | true => exact absurd ((ziF h).symm.trans (ziF h2)) (by decide)
    simp only [List.length_cons] at hn hl
    rw [h2, if_pos (show (!false) = true from rfl), zi1 hs (by decide) h, Option.bind_some]
    unfold zdi at hv
    simp only [zfs, zfV] at hv
    unfold zeq
    refine (zbu hs.tail zbo (zdn hs.tail) (fun nm r2 hs2 he => ?_) fun x e => ?_) v hv
    ·refine zbu hs2 (zcR _) (zin hs2 true) (fun ty r3 hs3 he3 => ?_) fun x e => ?_
     ·have h3 := zer r nm r2 he
      have h4 := (zcR true).le he3
      have h4 : r3.length ≤ r2.length := h4
      rw [zbY (by omega), Option.bind_some]
      exact zln ln c (n' + 1) m (l ++ [⟨nm, ty⟩]) r3 (by simp) (by omega) hs3 (by simp; omega)
     ·rw [zbY (by omega), Option.bind_some]
      exact zhU ln c e n' _
    ·exact zki ln c e n' l x (by omega)
  | false =>
   rw [h, if_neg (by simp)] at hv
   cases h2 : zI 4 [⟨#[41]⟩] r with
   | true =>
    rw [if_neg (by simp), zi1 hs (by decide) h2, Option.bind_some]
    rw [zeB (zi7 h2)] at hv
    exact zmU ln c.1 l (hs.of (zK _ _ _ (zi7 h2))) v hv
   | false =>
    rw [if_pos (show (!false) = true from rfl), zqt hs (by decide) h, Option.bind_some]
    unfold bd at hv
    rw [zlk h2] at hv
    injection hv with hv
    subst hv
    exact zpX ln c r n' l (by omega)
theorem zqn (ln : Int) (c : BA × RP) (n m : Nat) (hn : r.length + 2 < n) (hs : Suf T r) : zU T (zc6 ln c n T ((T.length - r.length : Nat) : Int) false []) (ifH 4 [⟨#[41]⟩] (k9 ln c.1 []) (bd zdi fun p => pL ln c.1 m [p])) r := by
 obtain ⟨n, rfl⟩ : ∃ n', n = n' + 1 + 1 := ⟨n - 2, by omega⟩
 have hl := zbW hs
 have hT := hs.2
 show zU T (zfq (zc6 ln c (n + 1)) ln c T ((T.length - r.length : Nat) : Int) false []) _ r
 unfold zfq
 rw [if_pos (show (!false) = true from rfl)]
 show zU T (((zbg (mkR T r false) 4 ⟨#[41]⟩).bind fun c => some (!c)).bind fun c212 => if c212 = true then zeq (zc6 ln c (n + 1)) T ((T.length - r.length : Nat) : Int) false [] else (zbt (mkR T r false) (⟨#[41]⟩ : ByteArray)).bind fun c271 => (zdF c271 false).bind fun c279 => (zfh c279.2).bind fun c287 => some ((⟨c.1, ln, [], (⟨c279.1.Kind, c279.1.N, c279.1.Name⟩ : zD), c287.1⟩ : zo), c287.2)) _ r
 rw [zcO hs (by decide), Option.bind_some, Option.bind_some]
 intro v hv
 unfold ifH at hv
 cases h : zI 4 [⟨#[41]⟩] r with
 | true =>
  rw [h, if_pos rfl] at hv
  rw [if_neg (by simp), zi1 hs (by decide) h, Option.bind_some]
  exact zmU ln c.1 [] (hs.of (zK _ _ _ (zi7 h))) v hv
 | false =>
  rw [h, if_neg (by simp)] at hv
  rw [if_pos (show (!false) = true from rfl)]
  unfold zdi at hv
  simp only [zfs, zfV] at hv
  unfold zeq
  refine (zbu hs zbo (zdn hs) (fun nm r2 hs2 he => ?_) fun x e => ?_) v hv
  ·refine zbu hs2 (zcR _) (zin hs2 true) (fun ty r3 hs3 he3 => ?_) fun x e => ?_
   ·have h3 := zer r nm r2 he
    have h4 := (zcR true).le he3
    have h4 : r3.length ≤ r2.length := h4
    rw [zbY (by simp), Option.bind_some]
    exact zln ln c (n + 1) m [⟨nm, ty⟩] r3 (by simp) (by omega) hs3 (by simp; omega)
   ·rw [zbY (by simp), Option.bind_some]
    exact zhU ln c e n _
  ·exact zki ln c e n [] x (by simp)
theorem znw (ln : Int) (hs : Suf T r) : zU T (zez (mkR T r false) ln) (bd zbU fun nm => bd (zbs [⟨#[40]⟩]) fun _ => ifH 4 [⟨#[41]⟩] (k9 ln nm []) (bd zdi fun p => pL ln nm big [p])) r := by
 unfold zez
 refine zbu hs zbo (zdn hs) (fun nm r2 hs2 _ => ?_) fun x e => zhU ln _ e _ _
 refine zcv hs2 (zK _) (zb0 hs2 (by decide)) (fun r3 hs3 _ => ?_) fun e => zhU ln _ e _ _
 exact zqn ln (nm, mkR T r2 false) big big (by have := zbW hs3; have := hs3.2; have := zcB; omega) hs3
theorem znE (ln : Int) (e : List Tok) : ∃ y, zez (mkR T e true) ln = some (y, mkR T e true) := ⟨⟨⟨#[]⟩, ln, [], ⟨0, 0, ⟨#[]⟩⟩, []⟩, rfl⟩
end
end Go.Proofs.Ytnhboaaikehpoaa
