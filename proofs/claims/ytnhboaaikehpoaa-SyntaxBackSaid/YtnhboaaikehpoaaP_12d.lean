import Derived.Test.YtnhboaaikehpoaaP_12c
import Derived.KernelRfl
namespace Go.Proofs.Ytnhboaaikehpoaa
open Go.Ab Go.RowKit
set_option linter.unusedVariables false
set_option linter.unusedSimpArgs false
def To {α : Type} (p : Ps α) (L : Nat) : Prop := ∀ r : List Tok, r.length ≤ L → p r ≠ none
theorem zbG {α : Type} (x : α) (L : Nat) : To (pu x) L := fun r _ h => by cases h
theorem zdU (k : Int) (tx : List BA) (L : Nat) : To (tk k tx) L := fun r _ h => by
 unfold tk at h
 split at h
 ·cases h
 ·split at h <;> cases h
theorem z4 {α β : Type} {p : Ps α} {f : α → Ps β} {L : Nat} (hp : To p L) (hs : Sf p) (hf : ∀ x, To (f x) L) : To (bd p f) L := fun r hr h => by
 unfold bd at h
 split at h
 ·rename_i he; exact hp r hr he
 ·cases h
 ·rename_i x r' he
  have := hs.le he
  have : r'.length ≤ r.length := this
  exact hf x r' (by omega) h
theorem ze9 {α β : Type} {p : Ps α} {f : α → Ps β} {L : Nat} (hp : To p L) (hs : Co p) (hf : ∀ x, 0 < L → To (f x) (L - 1)) : To (bd p f) L := fun r hr h => by
 unfold bd at h
 split at h
 ·rename_i he; exact hp r hr he
 ·cases h
 ·rename_i x r' he
  have := hs r x r' he
  exact hf x (by omega) r' (by omega) h
theorem To.le {α : Type} {p : Ps α} {L L' : Nat} (h : To p L) (hl : L' ≤ L) : To p L' := fun r hr => h r (by omega)
theorem zfi {α : Type} {k : Int} {tx : List BA} {p q : Ps α} {L : Nat} (hp : 0 < L → To p L) (hq : To q L) : To (ifS k tx p q) L := fun r hr h => by
 unfold ifS at h
 split at h
 ·rename_i hs
  cases r with
  | nil => cases hs
  | cons t r => exact hp (by simp at hr; omega) _ hr h
 ·exact hq r hr h
theorem zb3 {α : Type} {k : Int} {tx : List BA} {p q : Ps α} {L : Nat} (hp : 0 < L → To p (L - 1)) (hq : To q L) : To (ifH k tx p q) L := fun r hr h => by
 unfold ifH at h
 split at h
 ·rename_i hs
  cases r with
  | nil => cases hs
  | cons t r => exact hp (by simp at hr; omega) _ (by simp at hr ⊢; omega) h
 ·exact hq r hr h
theorem zpM {α : Type} {m : Bool} {k : Int} {tx : List BA} {p q : Ps α} {L : Nat} (hp : To p L) (hq : To q L) : To (ifM m k tx p q) L := fun r hr h => by
 unfold ifM at h
 split at h
 ·exact hp r hr h
 ·exact zfi (fun _ => hp) hq r hr h
theorem zlu {α : Type} {p q : Ps α} {L : Nat} (hp : To p L) (hq : To q L) : To (ifC p q) L := fun r hr h => by
 unfold ifC at h
 split at h
 ·exact hp r hr h
 ·exact hq r hr h
theorem zdh (L : Nat) : To zcC L := z4 (zdU _ _ _) (zbM _ _) fun _ => zbG _ _
theorem zcu : ∀ (l : List BA) (L : Nat), To (zbO l) L
 | [], L => zbG _ _
 | s :: l, L => z4 (zdU _ _ _) (zbM _ _) fun _ => zcu l L
theorem zkO (s : BA) (l : List BA) : Co (zbO (s :: l)) := zfC (zfr _ _) fun _ => zba _
theorem zkR (m : Bool) (L : Nat) : To (zcN m) L :=
 zb3 (fun _ => zbG _ _) (zb3 (fun _ => zbG _ _) (zb3 (fun _ => z4 (zdU _ _ _) (zbM _ _) fun _ => z4 (zcu _ _) (zba _) fun _ => z4 (zdU _ _ _) (zbM _ _) fun _ => zbG _ _)
  (zpM (z4 (zdh _) zbF fun _ => zbG _ _) (zbG _ _))))
theorem zdH : 8 * 1000000 + 8 ≤ big := by
 have := z7 (show 8 * 1000000 + 8 ≤ 9223372036854775807 by omega)
 omega
theorem zny {Bf : List (List BA) → Ps zb} (hs : ∀ l, Sf (Bf l)) (lv : List BA) (ls : List (List BA)) : ∀ (n : Nat) (x : zb) (L : Nat), L < n → (0 < L → To (Bf ls) (L - 1)) → To (bL Bf lv ls n x) L
 | 0, x, L, h, _ => by omega
 | n + 1, x, L, h, hB => zfi (fun _ => ze9 (zdU _ _ _) (zfr _ _) fun t hL => z4 (hB hL) (hs _) fun y => zny hs lv ls n _ (L - 1) (by omega) fun h0 => (hB hL).le (by omega)) (zbG _ _)
theorem ziA : ∀ (n L : Nat), L ≤ 1000000 → (8 * L + 8 ≤ n → To (sG n).1 L) ∧ (∀ l : List (List BA), 8 * L + 2 + l.length ≤ n → To ((sG n).2.1 l) L) ∧ (8 * L + 1 ≤ n → To (sG n).2.2.1 L) ∧ (8 * L + 1 ≤ n → To (sG n).2.2.2 L)
 | 0, L, _ => ⟨fun h => by omega, fun l h => by omega, fun h => by omega, fun h => by omega⟩
 | n + 1, L, hL => by
  obtain ⟨f1, f2, f3, f4⟩ := zin n
  obtain ⟨a1, a2, a3, a4⟩ := ziA n L hL
  obtain ⟨b1, b2, b3, b4⟩ := ziA n (L - 1) (by omega)
  refine ⟨fun h => ?_, fun l h => ?_, fun h => ?_, fun h => ?_⟩
  ·exact a2 lvls (by simp [lvls]; omega)
  ·cases l with
   | nil => exact a3 (by simp at h; omega)
   | cons lv ls =>
    simp only [List.length_cons] at h
    exact z4 (a2 ls (by omega)) (f2 ls) fun x => zny f2 lv ls big x L (by have := zdH; omega) fun h0 => (a2 ls (by omega)).le (by omega)
  ·exact zfi (fun _ => ze9 (zdU _ _ _) (zfr _ _) fun t _ => z4 (b3 (by omega)) f3 fun _ => zbG _ _)
    (zb3 (fun _ => z4 (b1 (by omega)) f1 fun _ => z4 (zcu _ _) (zba _) fun _ => zbG _ _)
    (zfi (fun _ => z4 (zdU _ _ _) (zbM _ _) fun _ => zbG _ _)
    (zb3 (fun _ => zbG _ _) (zb3 (fun _ => zbG _ _)
    (ze9 (zdh _) zfJ fun _ _ => zfi (fun _ => z4 (b4 (by omega)) f4 fun _ => zbG _ _)
     (zb3 (fun _ => z4 (zdh _) zbF fun _ => zbG _ _) (zbG _ _)))))))
  ·exact ze9 (zcu _ _) (zkO _ _) fun _ _ => z4 (b1 (by omega)) f1 fun _ => z4 (zcu _ _) (zba _) fun _ => zbG _ _
theorem zdJ {L : Nat} (hL : L ≤ 1000000) : To zbN L := (ziA big L hL).1 (by have := zdH; omega)
theorem zmC {L : Nat} (hL : L ≤ 1000000) : To ze3 L := (ziA big L hL).2.2.2 (by have := zdH; omega)
theorem zmQ : ∀ (n : Nat) (l : List zb) (L : Nat), L < n → L ≤ 1000000 → To (aL n l) L
 | 0, l, L, h, _ => by omega
 | n + 1, l, L, h, hL => zb3 (fun h0 => z4 (zdJ (by omega)) zbD fun x => zmQ n _ (L - 1) (by omega) (by omega)) (z4 (zcu _ _) (zba _) fun _ => zbG _ _)
theorem zlw {L : Nat} (hL : L ≤ 1000000) : To zd0 L :=
 z4 (zcu _ _) (zba _) fun _ => zb3 (fun _ => zbG _ _) (z4 (zdJ hL) zbD fun x => zmQ big _ L (by have := zdH; omega) hL)
theorem zhu (s : zh) (L : Nat) : To (k3 s) L := z4 (zcu _ _) (zba _) fun _ => zbG _ _
theorem zpj (q : zh) {L : Nat} (hL : L ≤ 1000000) : To (zgw q) L := z4 (zdh _) zbF fun _ => z4 (zkR _ _) (zdu _) fun _ => zb3 (fun _ => z4 (zdJ (by omega)) zbD fun _ => zbG _ _) (zbG _ _)
theorem zsL (q : zh) {L : Nat} (hL : L ≤ 1000000) : To (zf8 q) L := zb3 (fun _ => z4 (zcu _ _) (zba _) fun _ => zbG _ _) (zlu (z4 (zdh _) zbF fun _ => z4 (zlw hL) zga fun _ => zbG _ _) (z4 (zdJ hL) zbD fun _ => zbG _ _))
theorem zsw (q : zh) {L : Nat} (hL : L ≤ 1000000) : To (zgj q) L := zlu (z4 (zdh _) zbF fun _ => z4 (zlw hL) zga fun _ => zbG _ _) (z4 (zdh _) zbF fun _ => zfi (fun _ => z4 (zmC hL) zk8 fun _ => z4 (zcu _ _) (zba _) fun _ => z4 (zdJ hL) zbD fun _ => zbG _ _) (zb3 (fun _ => z4 (zdh _) zbF fun _ => z4 (zcu _ _) (zba _) fun _ => z4 (zdJ (by omega)) zbD fun _ => zbG _ _) (z4 (zcu _ _) (zba _) fun _ => zsL _ hL)))
theorem zpO (q : zh) {L : Nat} (hL : L ≤ 1000000) : To (zeE q) L := zb3 (fun _ => z4 (zpj _ (by omega)) (ziR _) fun _ => zhu _ _) (zb3 (fun _ => z4 (zcu _ _) (zba _) fun _ => z4 (zdJ (by omega)) zbD fun _ => z4 (zcu _ _) (zba _) fun _ => zhu _ _) (zb3 (fun _ => zfi (fun _ => zhu _ _) (z4 (zdJ (by omega)) zbD fun _ => zhu _ _)) (z4 (zsw _ hL) (ziZ _) fun _ => zhu _ _)))
theorem zms {rS : Ps Stm} (hs : Co rS) : ∀ (n : Nat) (l : List Stm) (L : Nat), L < n → To rS L → To (zdo rS n l) L
 | 0, l, L, h, _ => by omega
 | n + 1, l, L, h, hS => zb3 (fun _ => zbG _ _) (ze9 hS hs fun x h0 => zms hs n _ (L - 1) (by omega) (hS.le (by omega)))
theorem zpa {rB : Ps (List Stm)} (hs : Sf rB) {L : Nat} (hL : L ≤ 1000000) (h : 0 < L → To rB (L - 1)) : To (zd4 rB) L := fun r hr hv =>
 zb3 (fun h0 => z4 (zdJ (by omega)) zbD fun _ => z4 (h h0) hs fun _ => zb3 (fun _ => z4 ((h h0).le (by omega)) hs fun _ => zbG _ _) (zbG _ _)) (zb3 (fun h0 => z4 (zdJ (by omega)) zbD fun _ => z4 (h h0) hs fun _ => zbG _ _) (zpO _ hL)) r hr hv
theorem zlz : ∀ (n L : Nat), L ≤ 1000000 → (2 * L + 1 ≤ n → To (sB n).1 L) ∧ (2 * L + 1 ≤ n → To (sB n).2 L)
 | 0, L, _ => ⟨fun h => by omega, fun h => by omega⟩
 | n + 1, L, hL => by
  obtain ⟨f1, f2, f3⟩ := zjn n
  obtain ⟨b1, b2⟩ := zlz n (L - 1) (by omega)
  refine ⟨fun h => ?_, fun h => zpa f1 hL fun h0 => b1 (by omega)⟩
  exact ze9 (zcu _ _) (zkO _ _) fun _ h0 => zms f3 big [] (L - 1) (by have := zdH; omega) (b2 (by omega))
theorem zlx {L : Nat} (hL : L ≤ 1000000) : To zf7 L := (zlz big L hL).1 (by have := zdH; omega)
theorem zl9 (L : Nat) : To zdD L := z4 (zdh _) zbF fun _ => z4 (zkR _ _) (zdu _) fun _ => zbG _ _
theorem zm8 (nm : BA) : ∀ (n : Nat) (l : List BA) (L : Nat), L < n → To (fL nm n l) L
 | 0, l, L, h => by omega
 | n + 1, l, L, h => zb3 (fun _ => zbG _ _) (ze9 (zdh _) zfJ fun _ h0 => z4 (zdU _ _ _) (zbM _ _) fun _ => z4 (zcu _ _) (zba _) fun _ => zm8 nm n _ (L - 1) (by omega))
theorem zoe {L : Nat} (hL : L ≤ 1000000) : To zdO L := z4 (zdh _) zbF fun _ => z4 (zdU _ _ _) (zbM _ _) fun _ => z4 (zcu _ _) (zba _) fun _ => zm8 _ big _ L (by have := zdH; omega)
theorem zlF (ln : Int) (nm : BA) (ps : List zbu) {L : Nat} (hL : L ≤ 1000000) : To (k9 ln nm ps) L := z4 (zkR _ _) (zdu _) fun _ => z4 (zlx hL) ziM fun _ => zbG _ _
theorem zlt (ln : Int) (nm : BA) : ∀ (n : Nat) (l : List zbu) (L : Nat), L < n → L ≤ 1000000 → To (pL ln nm n l) L
 | 0, l, L, h, _ => by omega
 | n + 1, l, L, h, hL => zb3 (fun h0 => z4 (zl9 _) zdR fun _ => zlt ln nm n _ (L - 1) (by omega) (by omega)) (z4 (zcu _ _) (zba _) fun _ => zlF _ _ _ hL)
theorem zr5 {L : Nat} (hL : L ≤ 1000000) : To zdB L := fun r hr h => z4 (zdU _ _ _) (zbM _ _) (fun _ => z4 (zdh _) zbF fun _ => z4 (zcu _ _) (zba _) fun _ => zb3 (fun _ => zlF _ _ _ (by omega)) (z4 (zl9 _) zdR fun _ => zlt _ _ big _ L (by have := zdH; omega) hL)) r hr h
theorem zki : ∀ (n : Nat) (S : List zq) (D : List zo) (r : List Tok), r.length < n → r.length ≤ 1000000 → wL n S D r ≠ none
 | 0, S, D, r, h, _ => by omega
 | n + 1, S, D, [], _, _ => fun h => by cases h
 | n + 1, S, D, t :: r, h, hl => fun hw => by
  simp only [List.length_cons] at h hl
  unfold wL at hw
  split at hw
  ·split at hw
   ·rename_i he; exact zoe (show r.length ≤ 1000000 by omega) r (Nat.le_refl _) he
   ·cases hw
   ·rename_i x r' he
    have := ziB r x r' he
    exact zki n _ _ r' (by omega) (by omega) hw
  ·split at hw
   ·rename_i he; exact zr5 (show (t :: r).length ≤ 1000000 by simpa using hl) (t :: r) (Nat.le_refl _) he
   ·cases hw
   ·rename_i x r' he
    have := zjl (t :: r) x r' he
    simp only [List.length_cons] at this
    exact zki n _ _ r' (by omega) (by omega) hw
theorem zsq {T : List Tok} (hT : T.length ≤ 1000000) : ∃ v, zdm T = some v := by
 cases h : zdm T with
 | none => exact absurd h (zki big [] [] T (by have := zdH; omega) hT)
 | some v => exact ⟨v, rfl⟩
end Go.Proofs.Ytnhboaaikehpoaa
