import Derived.Test.YtnhboaaikehpoaaP_12c
import Derived.KernelRfl
namespace Go.Proofs.Ytnhboaaikehpoaa
open Go.Ab Go.RowKit
set_option linter.unusedVariables false
set_option linter.unusedSimpArgs false
def To {α : Type} (p : Ps α) (L : Nat) : Prop := ∀ r : List Tok, r.length ≤ L → p r ≠ none
theorem zbH {α : Type} (x : α) (L : Nat) : To (pu x) L := fun r _ h => by cases h
theorem zdT (k : Int) (tx : List BA) (L : Nat) : To (tk k tx) L := fun r _ h => by
 unfold tk at h
 split at h
 ·cases h
 ·split at h <;> cases h
theorem z4 {α β : Type} {p : Ps α} {f : α → Ps β} {L : Nat} (hp : To p L) (hs : Sf p) (hf : ∀ x, To (f x) L) : To (bd p f) L := fun r hr h => by
 unfold bd at h
 split at h
 ·rename_i he; exact hp r hr he
 ·cases h
 ·rename_i x r' he
  have := hs.le he
  have : r'.length ≤ r.length := this
  exact hf x r' (by omega) h
theorem zfG {α β : Type} {p : Ps α} {f : α → Ps β} {L : Nat} (hp : To p L) (hs : Co p) (hf : ∀ x, 0 < L → To (f x) (L - 1)) : To (bd p f) L := fun r hr h => by
 unfold bd at h
 split at h
 ·rename_i he; exact hp r hr he
 ·cases h
 ·rename_i x r' he
  have := hs r x r' he
  exact hf x (by omega) r' (by omega) h
theorem To.le {α : Type} {p : Ps α} {L L' : Nat} (h : To p L) (hl : L' ≤ L) : To p L' := fun r hr => h r (by omega)
theorem ze4 {α : Type} {k : Int} {tx : List BA} {p q : Ps α} {L : Nat} (hp : 0 < L → To p L) (hq : To q L) : To (ifS k tx p q) L := fun r hr h => by
 unfold ifS at h
 split at h
 ·rename_i hs
  cases r with
  | nil => cases hs
  | cons t r => exact hp (by simp at hr; omega) _ hr h
 ·exact hq r hr h
theorem zb8 {α : Type} {k : Int} {tx : List BA} {p q : Ps α} {L : Nat} (hp : 0 < L → To p (L - 1)) (hq : To q L) : To (ifH k tx p q) L := fun r hr h => by
 unfold ifH at h
 split at h
 ·rename_i hs
  cases r with
  | nil => cases hs
  | cons t r => exact hp (by simp at hr; omega) _ (by simp at hr ⊢; omega) h
 ·exact hq r hr h
theorem zod {α : Type} {m : Bool} {k : Int} {tx : List BA} {p q : Ps α} {L : Nat} (hp : To p L) (hq : To q L) : To (ifM m k tx p q) L := fun r hr h => by
 unfold ifM at h
 split at h
 ·exact hp r hr h
 ·exact ze4 (fun _ => hp) hq r hr h
theorem zma {α : Type} {p q : Ps α} {L : Nat} (hp : To p L) (hq : To q L) : To (ifC p q) L := fun r hr h => by
 unfold ifC at h
 split at h
 ·exact hp r hr h
 ·exact hq r hr h
theorem zdl (L : Nat) : To zbU L := z4 (zdT _ _ _) (zbD _ _) fun _ => zbH _ _
theorem zcA : ∀ (l : List BA) (L : Nat), To (zbs l) L
 | [], L => zbH _ _
 | s :: l, L => z4 (zdT _ _ _) (zbD _ _) fun _ => zcA l L
theorem zjy (s : BA) (l : List BA) : Co (zbs (s :: l)) := zeY (ze9 _ _) fun _ => zK _
theorem zjj (m : Bool) (L : Nat) : To (zdR m) L :=
 zb8 (fun _ => zbH _ _) (zb8 (fun _ => zbH _ _) (zb8 (fun _ => z4 (zdT _ _ _) (zbD _ _) fun _ => z4 (zcA _ _) (zK _) fun _ => z4 (zdT _ _ _) (zbD _ _) fun _ => zbH _ _)
  (zod (z4 (zdl _) zbo fun _ => zbH _ _) (zbH _ _))))
theorem zcB : 8 * 1000000 + 8 ≤ big := by
 have := zbC (show 8 * 1000000 + 8 ≤ 9223372036854775807 by omega)
 omega
theorem zmK {Bf : List (List BA) → Ps zb} (hs : ∀ l, Sf (Bf l)) (lv : List BA) (ls : List (List BA)) : ∀ (n : Nat) (x : zb) (L : Nat), L < n → (0 < L → To (Bf ls) (L - 1)) → To (bL Bf lv ls n x) L
 | 0, x, L, h, _ => by omega
 | n + 1, x, L, h, hB => ze4 (fun _ => zfG (zdT _ _ _) (ze9 _ _) fun t hL => z4 (hB hL) (hs _) fun y => zmK hs lv ls n _ (L - 1) (by omega) fun h0 => (hB hL).le (by omega)) (zbH _ _)
theorem zgs : ∀ (n L : Nat), L ≤ 1000000 → (8 * L + 8 ≤ n → To (sG n).1 L) ∧ (∀ l : List (List BA), 8 * L + 2 + l.length ≤ n → To ((sG n).2.1 l) L) ∧ (8 * L + 1 ≤ n → To (sG n).2.2.1 L) ∧ (8 * L + 1 ≤ n → To (sG n).2.2.2 L)
 | 0, L, _ => ⟨fun h => by omega, fun l h => by omega, fun h => by omega, fun h => by omega⟩
 | n + 1, L, hL => by
  obtain ⟨f1, f2, f3, f4⟩ := zfO n
  obtain ⟨a1, a2, a3, a4⟩ := zgs n L hL
  obtain ⟨b1, b2, b3, b4⟩ := zgs n (L - 1) (by omega)
  refine ⟨fun h => ?_, fun l h => ?_, fun h => ?_, fun h => ?_⟩
  ·exact a2 lvls (by simp [lvls]; omega)
  ·cases l with
   | nil => exact a3 (by simp at h; omega)
   | cons lv ls =>
    simp only [List.length_cons] at h
    exact z4 (a2 ls (by omega)) (f2 ls) fun x => zmK f2 lv ls big x L (by have := zcB; omega) fun h0 => (a2 ls (by omega)).le (by omega)
  ·exact ze4 (fun _ => zfG (zdT _ _ _) (ze9 _ _) fun t _ => z4 (b3 (by omega)) f3 fun _ => zbH _ _)
    (zb8 (fun _ => z4 (b1 (by omega)) f1 fun _ => z4 (zcA _ _) (zK _) fun _ => zbH _ _)
    (ze4 (fun _ => z4 (zdT _ _ _) (zbD _ _) fun _ => zbH _ _)
    (zb8 (fun _ => zbH _ _) (zb8 (fun _ => zbH _ _)
    (zfG (zdl _) zer fun _ _ => ze4 (fun _ => z4 (b4 (by omega)) f4 fun _ => zbH _ _)
     (zb8 (fun _ => z4 (zdl _) zbo fun _ => zbH _ _) (zbH _ _)))))))
  ·exact zfG (zcA _ _) (zjy _ _) fun _ _ => z4 (b1 (by omega)) f1 fun _ => z4 (zcA _ _) (zK _) fun _ => zbH _ _
theorem zd6 {L : Nat} (hL : L ≤ 1000000) : To zb5 L := (zgs big L hL).1 (by have := zcB; omega)
theorem zqB {L : Nat} (hL : L ≤ 1000000) : To zeb L := (zgs big L hL).2.2.2 (by have := zcB; omega)
theorem zm1 : ∀ (n : Nat) (l : List zb) (L : Nat), L < n → L ≤ 1000000 → To (aL n l) L
 | 0, l, L, h, _ => by omega
 | n + 1, l, L, h, hL => zb8 (fun h0 => z4 (zd6 (by omega)) zbq fun x => zm1 n _ (L - 1) (by omega) (by omega)) (z4 (zcA _ _) (zK _) fun _ => zbH _ _)
theorem zmu {L : Nat} (hL : L ≤ 1000000) : To zd1 L :=
 z4 (zcA _ _) (zK _) fun _ => zb8 (fun _ => zbH _ _) (z4 (zd6 hL) zbq fun x => zm1 big _ L (by have := zcB; omega) hL)
theorem zgM (s : zh) (L : Nat) : To (k3 s) L := z4 (zcA _ _) (zK _) fun _ => zbH _ _
theorem zqb (q : zh) {L : Nat} (hL : L ≤ 1000000) : To (zeG q) L := z4 (zdl _) zbo fun _ => z4 (zjj _ _) (zcR _) fun _ => zb8 (fun _ => z4 (zd6 (by omega)) zbq fun _ => zbH _ _) (zbH _ _)
theorem zrg (q : zh) {L : Nat} (hL : L ≤ 1000000) : To (zel q) L := zb8 (fun _ => z4 (zcA _ _) (zK _) fun _ => zbH _ _) (zma (z4 (zdl _) zbo fun _ => z4 (zmu hL) zeH fun _ => zbH _ _) (z4 (zd6 hL) zbq fun _ => zbH _ _))
theorem znQ (q : zh) {L : Nat} (hL : L ≤ 1000000) : To (zdX q) L := zma (z4 (zdl _) zbo fun _ => z4 (zmu hL) zeH fun _ => zbH _ _) (z4 (zdl _) zbo fun _ => ze4 (fun _ => z4 (zqB hL) zjw fun _ => z4 (zcA _ _) (zK _) fun _ => z4 (zd6 hL) zbq fun _ => zbH _ _) (zb8 (fun _ => z4 (zdl _) zbo fun _ => z4 (zcA _ _) (zK _) fun _ => z4 (zd6 (by omega)) zbq fun _ => zbH _ _) (z4 (zcA _ _) (zK _) fun _ => zrg _ hL)))
theorem zpU (q : zh) {L : Nat} (hL : L ≤ 1000000) : To (zeh q) L := zb8 (fun _ => z4 (zqb _ (by omega)) (zi3 _) fun _ => zgM _ _) (zb8 (fun _ => z4 (zcA _ _) (zK _) fun _ => z4 (zd6 (by omega)) zbq fun _ => z4 (zcA _ _) (zK _) fun _ => zgM _ _) (zb8 (fun _ => ze4 (fun _ => zgM _ _) (z4 (zd6 (by omega)) zbq fun _ => zgM _ _)) (z4 (znQ _ hL) (zik _) fun _ => zgM _ _)))
theorem zk8 {rS : Ps Stm} (hs : Co rS) : ∀ (n : Nat) (l : List Stm) (L : Nat), L < n → To rS L → To (zdJ rS n l) L
 | 0, l, L, h, _ => by omega
 | n + 1, l, L, h, hS => zb8 (fun _ => zbH _ _) (zfG hS hs fun x h0 => zk8 hs n _ (L - 1) (by omega) (hS.le (by omega)))
theorem zo5 {rB : Ps (List Stm)} (hs : Sf rB) {L : Nat} (hL : L ≤ 1000000) (h : 0 < L → To rB (L - 1)) : To (zdk rB) L := fun r hr hv =>
 zb8 (fun h0 => z4 (zd6 (by omega)) zbq fun _ => z4 (h h0) hs fun _ => zb8 (fun _ => z4 ((h h0).le (by omega)) hs fun _ => zbH _ _) (zbH _ _)) (zb8 (fun h0 => z4 (zd6 (by omega)) zbq fun _ => z4 (h h0) hs fun _ => zbH _ _) (zpU _ hL)) r hr hv
theorem zjY : ∀ (n L : Nat), L ≤ 1000000 → (2 * L + 1 ≤ n → To (sB n).1 L) ∧ (2 * L + 1 ≤ n → To (sB n).2 L)
 | 0, L, _ => ⟨fun h => by omega, fun h => by omega⟩
 | n + 1, L, hL => by
  obtain ⟨f1, f2, f3⟩ := zhw n
  obtain ⟨b1, b2⟩ := zjY n (L - 1) (by omega)
  refine ⟨fun h => ?_, fun h => zo5 f1 hL fun h0 => b1 (by omega)⟩
  exact zfG (zcA _ _) (zjy _ _) fun _ h0 => zk8 f3 big [] (L - 1) (by have := zcB; omega) (b2 (by omega))
theorem zqD {L : Nat} (hL : L ≤ 1000000) : To ze7 L := (zjY big L hL).1 (by have := zcB; omega)
theorem zlx (L : Nat) : To zdi L := z4 (zdl _) zbo fun _ => z4 (zjj _ _) (zcR _) fun _ => zbH _ _
theorem zkT (nm : BA) : ∀ (n : Nat) (l : List BA) (L : Nat), L < n → To (fL nm n l) L
 | 0, l, L, h => by omega
 | n + 1, l, L, h => zb8 (fun _ => zbH _ _) (zfG (zdl _) zer fun _ h0 => z4 (zdT _ _ _) (zbD _ _) fun _ => z4 (zcA _ _) (zK _) fun _ => zkT nm n _ (L - 1) (by omega))
theorem zoJ {L : Nat} (hL : L ≤ 1000000) : To zdZ L := z4 (zdl _) zbo fun _ => z4 (zdT _ _ _) (zbD _ _) fun _ => z4 (zcA _ _) (zK _) fun _ => zkT _ big _ L (by have := zcB; omega)
theorem zkW (ln : Int) (nm : BA) (ps : List zbc) {L : Nat} (hL : L ≤ 1000000) : To (k9 ln nm ps) L := z4 (zjj _ _) (zcR _) fun _ => z4 (zqD hL) zhJ fun _ => zbH _ _
theorem zlI (ln : Int) (nm : BA) : ∀ (n : Nat) (l : List zbc) (L : Nat), L < n → L ≤ 1000000 → To (pL ln nm n l) L
 | 0, l, L, h, _ => by omega
 | n + 1, l, L, h, hL => zb8 (fun h0 => z4 (zlx _) zdK fun _ => zlI ln nm n _ (L - 1) (by omega) (by omega)) (z4 (zcA _ _) (zK _) fun _ => zkW _ _ _ hL)
theorem zp5 {L : Nat} (hL : L ≤ 1000000) : To zdL L := fun r hr h => z4 (zdT _ _ _) (zbD _ _) (fun _ => z4 (zdl _) zbo fun _ => z4 (zcA _ _) (zK _) fun _ => zb8 (fun _ => zkW _ _ _ (by omega)) (z4 (zlx _) zdK fun _ => zlI _ _ big _ L (by have := zcB; omega) hL)) r hr h
theorem zkk : ∀ (n : Nat) (S : List zw) (D : List zo) (r : List Tok), r.length < n → r.length ≤ 1000000 → wL n S D r ≠ none
 | 0, S, D, r, h, _ => by omega
 | n + 1, S, D, [], _, _ => fun h => by cases h
 | n + 1, S, D, t :: r, h, hl => fun hw => by
  simp only [List.length_cons] at h hl
  unfold wL at hw
  split at hw
  ·split at hw
   ·rename_i he; exact zoJ (show r.length ≤ 1000000 by omega) r (Nat.le_refl _) he
   ·cases hw
   ·rename_i x r' he
    have := zgy r x r' he
    exact zkk n _ _ r' (by omega) (by omega) hw
  ·split at hw
   ·rename_i he; exact zp5 (show (t :: r).length ≤ 1000000 by simpa using hl) (t :: r) (Nat.le_refl _) he
   ·cases hw
   ·rename_i x r' he
    have := zg7 (t :: r) x r' he
    simp only [List.length_cons] at this
    exact zkk n _ _ r' (by omega) (by omega) hw
theorem zqE {T : List Tok} (hT : T.length ≤ 1000000) : ∃ v, zds T = some v := by
 cases h : zds T with
 | none => exact absurd h (zkk big [] [] T (by have := zcB; omega) hT)
 | some v => exact ⟨v, rfl⟩
end Go.Proofs.Ytnhboaaikehpoaa
