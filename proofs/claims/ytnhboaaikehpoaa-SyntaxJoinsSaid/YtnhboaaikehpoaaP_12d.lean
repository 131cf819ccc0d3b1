import Derived.Test.YtnhboaaikehpoaaP_12c
import Derived.KernelRfl
namespace Go.Proofs.Ytnhboaaikehpoaa
open Go.Ab Go.RowKit
set_option linter.unusedVariables false
set_option linter.unusedSimpArgs false
def To {α : Type} (p : Ps α) (L : Nat) : Prop := ∀ r : List Tok, r.length ≤ L → p r ≠ none
theorem zbH {α : Type} (x : α) (L : Nat) : To (pu x) L := fun r _ h => by cases h
theorem zd1 (k : Int) (tx : List BA) (L : Nat) : To (tk k tx) L := fun r _ h => by
 unfold tk at h
 split at h
 ·cases h
 ·split at h <;> cases h
theorem zW {α β : Type} {p : Ps α} {f : α → Ps β} {L : Nat} (hp : To p L) (hs : Sf p) (hf : ∀ x, To (f x) L) : To (bd p f) L := fun r hr h => by
 unfold bd at h
 split at h
 ·rename_i he; exact hp r hr he
 ·cases h
 ·rename_i x r' he
  have := hs.le he
  have : r'.length ≤ r.length := this
  exact hf x r' (by omega) h
theorem ze2 {α β : Type} {p : Ps α} {f : α → Ps β} {L : Nat} (hp : To p L) (hs : Co p) (hf : ∀ x, 0 < L → To (f x) (L - 1)) : To (bd p f) L := fun r hr h => by
 unfold bd at h
 split at h
 ·rename_i he; exact hp r hr he
 ·cases h
 ·rename_i x r' he
  have := hs r x r' he
  exact hf x (by omega) r' (by omega) h
theorem To.le {α : Type} {p : Ps α} {L L' : Nat} (h : To p L) (hl : L' ≤ L) : To p L' := fun r hr => h r (by omega)
theorem zfi {α : Type} {k : Int} {tx : List BA} {p q : Ps α} {L : Nat} (hp : 0 < L → To p L) (hq : To q L) : To (ifS k tx p q) L := fun r hr h => by
 unfold ifS at h
 split at h
 ·rename_i hs
  cases r with
  | nil => cases hs
  | cons t r => exact hp (by simp at hr; omega) _ hr h
 ·exact hq r hr h
theorem zce {α : Type} {k : Int} {tx : List BA} {p q : Ps α} {L : Nat} (hp : 0 < L → To p (L - 1)) (hq : To q L) : To (ifH k tx p q) L := fun r hr h => by
 unfold ifH at h
 split at h
 ·rename_i hs
  cases r with
  | nil => cases hs
  | cons t r => exact hp (by simp at hr; omega) _ (by simp at hr ⊢; omega) h
 ·exact hq r hr h
theorem zoz {α : Type} {m : Bool} {k : Int} {tx : List BA} {p q : Ps α} {L : Nat} (hp : To p L) (hq : To q L) : To (ifM m k tx p q) L := fun r hr h => by
 unfold ifM at h
 split at h
 ·exact hp r hr h
 ·exact zfi (fun _ => hp) hq r hr h
theorem zl3 {α : Type} {p q : Ps α} {L : Nat} (hp : To p L) (hq : To q L) : To (ifC p q) L := fun r hr h => by
 unfold ifC at h
 split at h
 ·exact hp r hr h
 ·exact hq r hr h
theorem zds (L : Nat) : To zbQ L := zW (zd1 _ _ _) (zbC _ _) fun _ => zbH _ _
theorem zcH : ∀ (l : List BA) (L : Nat), To (zbu l) L
 | [], L => zbH _ _
 | s :: l, L => zW (zd1 _ _ _) (zbC _ _) fun _ => zcH l L
theorem zge (s : BA) (l : List BA) : Co (zbu (s :: l)) := zc6 (zft _ _) fun _ => zG _
theorem zki (m : Bool) (L : Nat) : To (zdR m) L :=
 zce (fun _ => zbH _ _) (zce (fun _ => zbH _ _) (zce (fun _ => zW (zd1 _ _ _) (zbC _ _) fun _ => zW (zcH _ _) (zG _) fun _ => zW (zd1 _ _ _) (zbC _ _) fun _ => zbH _ _)
  (zoz (zW (zds _) zbl fun _ => zbH _ _) (zbH _ _))))
theorem zco : 8 * 1000000 + 8 ≤ big := by
 have := zbU (show 8 * 1000000 + 8 ≤ 9223372036854775807 by omega)
 omega
theorem zns {Bf : List (List BA) → Ps zb} (hs : ∀ l, Sf (Bf l)) (lv : List BA) (ls : List (List BA)) : ∀ (n : Nat) (x : zb) (L : Nat), L < n → (0 < L → To (Bf ls) (L - 1)) → To (bL Bf lv ls n x) L
 | 0, x, L, h, _ => by omega
 | n + 1, x, L, h, hB => zfi (fun _ => ze2 (zd1 _ _ _) (zft _ _) fun t hL => zW (hB hL) (hs _) fun y => zns hs lv ls n _ (L - 1) (by omega) fun h0 => (hB hL).le (by omega)) (zbH _ _)
theorem zfR : ∀ (n L : Nat), L ≤ 1000000 → (8 * L + 8 ≤ n → To (sG n).1 L) ∧ (∀ l : List (List BA), 8 * L + 2 + l.length ≤ n → To ((sG n).2.1 l) L) ∧ (8 * L + 1 ≤ n → To (sG n).2.2.1 L) ∧ (8 * L + 1 ≤ n → To (sG n).2.2.2 L)
 | 0, L, _ => ⟨fun h => by omega, fun l h => by omega, fun h => by omega, fun h => by omega⟩
 | n + 1, L, hL => by
  obtain ⟨f1, f2, f3, f4⟩ := zfj n
  obtain ⟨a1, a2, a3, a4⟩ := zfR n L hL
  obtain ⟨b1, b2, b3, b4⟩ := zfR n (L - 1) (by omega)
  refine ⟨fun h => ?_, fun l h => ?_, fun h => ?_, fun h => ?_⟩
  ·exact a2 lvls (by simp [lvls]; omega)
  ·cases l with
   | nil => exact a3 (by simp at h; omega)
   | cons lv ls =>
    simp only [List.length_cons] at h
    exact zW (a2 ls (by omega)) (f2 ls) fun x => zns f2 lv ls big x L (by have := zco; omega) fun h0 => (a2 ls (by omega)).le (by omega)
  ·exact zfi (fun _ => ze2 (zd1 _ _ _) (zft _ _) fun t _ => zW (b3 (by omega)) f3 fun _ => zbH _ _)
    (zce (fun _ => zW (b1 (by omega)) f1 fun _ => zW (zcH _ _) (zG _) fun _ => zbH _ _)
    (zfi (fun _ => zW (zd1 _ _ _) (zbC _ _) fun _ => zbH _ _)
    (zce (fun _ => zbH _ _) (zce (fun _ => zbH _ _)
    (ze2 (zds _) zd2 fun _ _ => zfi (fun _ => zW (b4 (by omega)) f4 fun _ => zbH _ _)
     (zce (fun _ => zW (zds _) zbl fun _ => zbH _ _) (zbH _ _)))))))
  ·exact ze2 (zcH _ _) (zge _ _) fun _ _ => zW (b1 (by omega)) f1 fun _ => zW (zcH _ _) (zG _) fun _ => zbH _ _
theorem zee {L : Nat} (hL : L ≤ 1000000) : To zbZ L := (zfR big L hL).1 (by have := zco; omega)
theorem zpM {L : Nat} (hL : L ≤ 1000000) : To zd9 L := (zfR big L hL).2.2.2 (by have := zco; omega)
theorem zmV : ∀ (n : Nat) (l : List zb) (L : Nat), L < n → L ≤ 1000000 → To (aL n l) L
 | 0, l, L, h, _ => by omega
 | n + 1, l, L, h, hL => zce (fun h0 => zW (zee (by omega)) zbo fun x => zmV n _ (L - 1) (by omega) (by omega)) (zW (zcH _ _) (zG _) fun _ => zbH _ _)
theorem znn {L : Nat} (hL : L ≤ 1000000) : To zdL L :=
 zW (zcH _ _) (zG _) fun _ => zce (fun _ => zbH _ _) (zW (zee hL) zbo fun x => zmV big _ L (by have := zco; omega) hL)
theorem zhi (s : zg) (L : Nat) : To (k3 s) L := zW (zcH _ _) (zG _) fun _ => zbH _ _
theorem zqm (q : zg) {L : Nat} (hL : L ≤ 1000000) : To (zeq q) L := zW (zds _) zbl fun _ => zW (zki _ _) (zcQ _) fun _ => zce (fun _ => zW (zee (by omega)) zbo fun _ => zbH _ _) (zbH _ _)
theorem zoe (q : zg) {L : Nat} (hL : L ≤ 1000000) : To (zdZ q) L := zce (fun _ => zW (zcH _ _) (zG _) fun _ => zbH _ _) (zl3 (zW (zds _) zbl fun _ => zW (znn hL) zeb fun _ => zbH _ _) (zW (zee hL) zbo fun _ => zbH _ _))
theorem zq9 (q : zg) {L : Nat} (hL : L ≤ 1000000) : To (zdK q) L := zl3 (zW (zds _) zbl fun _ => zW (znn hL) zeb fun _ => zbH _ _) (zW (zds _) zbl fun _ => zfi (fun _ => zW (zpM hL) zhX fun _ => zW (zcH _ _) (zG _) fun _ => zW (zee hL) zbo fun _ => zbH _ _) (zce (fun _ => zW (zds _) zbl fun _ => zW (zcH _ _) (zG _) fun _ => zW (zee (by omega)) zbo fun _ => zbH _ _) (zW (zcH _ _) (zG _) fun _ => zoe _ hL)))
theorem zpp (q : zg) {L : Nat} (hL : L ≤ 1000000) : To (zdF q) L := zce (fun _ => zW (zqm _ (by omega)) (ziY _) fun _ => zhi _ _) (zce (fun _ => zW (zcH _ _) (zG _) fun _ => zW (zee (by omega)) zbo fun _ => zW (zcH _ _) (zG _) fun _ => zhi _ _) (zce (fun _ => zfi (fun _ => zhi _ _) (zW (zee (by omega)) zbo fun _ => zhi _ _)) (zW (zq9 _ hL) (ziL _) fun _ => zhi _ _)))
theorem zmm {rS : Ps Stm} (hs : Co rS) : ∀ (n : Nat) (l : List Stm) (L : Nat), L < n → To rS L → To (zde rS n l) L
 | 0, l, L, h, _ => by omega
 | n + 1, l, L, h, hS => zce (fun _ => zbH _ _) (ze2 hS hs fun x h0 => zmm hs n _ (L - 1) (by omega) (hS.le (by omega)))
theorem zpQ {rB : Ps (List Stm)} (hs : Sf rB) {L : Nat} (hL : L ≤ 1000000) (h : 0 < L → To rB (L - 1)) : To (zc7 rB) L := fun r hr hv =>
 zce (fun h0 => zW (zee (by omega)) zbo fun _ => zW (h h0) hs fun _ => zce (fun _ => zW ((h h0).le (by omega)) hs fun _ => zbH _ _) (zbH _ _)) (zce (fun h0 => zW (zee (by omega)) zbo fun _ => zW (h h0) hs fun _ => zbH _ _) (zpp _ hL)) r hr hv
theorem zk5 : ∀ (n L : Nat), L ≤ 1000000 → (2 * L + 1 ≤ n → To (sB n).1 L) ∧ (2 * L + 1 ≤ n → To (sB n).2 L)
 | 0, L, _ => ⟨fun h => by omega, fun h => by omega⟩
 | n + 1, L, hL => by
  obtain ⟨f1, f2, f3⟩ := zfh n
  obtain ⟨b1, b2⟩ := zk5 n (L - 1) (by omega)
  refine ⟨fun h => ?_, fun h => zpQ f1 hL fun h0 => b1 (by omega)⟩
  exact ze2 (zcH _ _) (zge _ _) fun _ h0 => zmm f3 big [] (L - 1) (by have := zco; omega) (b2 (by omega))
theorem zq8 {L : Nat} (hL : L ≤ 1000000) : To zev L := (zk5 big L hL).1 (by have := zco; omega)
theorem znI (L : Nat) : To zdn L := zW (zds _) zbl fun _ => zW (zki _ _) (zcQ _) fun _ => zbH _ _
theorem zno (nm : BA) : ∀ (n : Nat) (l : List BA) (L : Nat), L < n → To (fL nm n l) L
 | 0, l, L, h => by omega
 | n + 1, l, L, h => zce (fun _ => zbH _ _) (ze2 (zds _) zd2 fun _ h0 => zW (zd1 _ _ _) (zbC _ _) fun _ => zW (zcH _ _) (zG _) fun _ => zno nm n _ (L - 1) (by omega))
theorem zqX {L : Nat} (hL : L ≤ 1000000) : To zdU L := zW (zds _) zbl fun _ => zW (zd1 _ _ _) (zbC _ _) fun _ => zW (zcH _ _) (zG _) fun _ => zno _ big _ L (by have := zco; omega)
theorem znc (ln : Int) (nm : BA) (ps : List zbh) {L : Nat} (hL : L ≤ 1000000) : To (k9 ln nm ps) L := zW (zki _ _) (zcQ _) fun _ => zW (zq8 hL) zhy fun _ => zbH _ _
theorem zli (ln : Int) (nm : BA) : ∀ (n : Nat) (l : List zbh) (L : Nat), L < n → L ≤ 1000000 → To (pL ln nm n l) L
 | 0, l, L, h, _ => by omega
 | n + 1, l, L, h, hL => zce (fun h0 => zW (znI _) zdl fun _ => zli ln nm n _ (L - 1) (by omega) (by omega)) (zW (zcH _ _) (zG _) fun _ => znc _ _ _ hL)
theorem zpF {L : Nat} (hL : L ≤ 1000000) : To zdk L := fun r hr h => zW (zd1 _ _ _) (zbC _ _) (fun _ => zW (zds _) zbl fun _ => zW (zcH _ _) (zG _) fun _ => zce (fun _ => znc _ _ _ (by omega)) (zW (znI _) zdl fun _ => zli _ _ big _ L (by have := zco; omega) hL)) r hr h
theorem ziK : ∀ (n : Nat) (S : List zl) (D : List zi) (r : List Tok), r.length < n → r.length ≤ 1000000 → wL n S D r ≠ none
 | 0, S, D, r, h, _ => by omega
 | n + 1, S, D, [], _, _ => fun h => by cases h
 | n + 1, S, D, t :: r, h, hl => fun hw => by
  simp only [List.length_cons] at h hl
  unfold wL at hw
  split at hw
  ·split at hw
   ·rename_i he; exact zqX (show r.length ≤ 1000000 by omega) r (Nat.le_refl _) he
   ·cases hw
   ·rename_i x r' he
    have := zhb r x r' he
    exact ziK n _ _ r' (by omega) (by omega) hw
  ·split at hw
   ·rename_i he; exact zpF (show (t :: r).length ≤ 1000000 by simpa using hl) (t :: r) (Nat.le_refl _) he
   ·cases hw
   ·rename_i x r' he
    have := zgP (t :: r) x r' he
    simp only [List.length_cons] at this
    exact ziK n _ _ r' (by omega) (by omega) hw
theorem zqS {T : List Tok} (hT : T.length ≤ 1000000) : ∃ v, zc1 T = some v := by
 cases h : zc1 T with
 | none => exact absurd h (ziK big [] [] T (by have := zco; omega) hT)
 | some v => exact ⟨v, rfl⟩
end Go.Proofs.Ytnhboaaikehpoaa
