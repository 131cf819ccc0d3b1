import Derived.Test.YtnhboaaikehpoaaP_12c
import Derived.KernelRfl
namespace Go.Proofs.Ytnhboaaikehpoaa
open Go.Ab Go.RowKit
set_option linter.unusedVariables false
set_option linter.unusedSimpArgs false
def To {α : Type} (p : Ps α) (L : Nat) : Prop := ∀ r : List Tok, r.length ≤ L → p r ≠ none
theorem zbG {α : Type} (x : α) (L : Nat) : To (pu x) L := fun r _ h => by cases h
theorem zdS (k : Int) (tx : List BA) (L : Nat) : To (tk k tx) L := fun r _ h => by
 unfold tk at h
 split at h
 ·cases h
 ·split at h <;> cases h
theorem z3 {α β : Type} {p : Ps α} {f : α → Ps β} {L : Nat} (hp : To p L) (hs : Sf p) (hf : ∀ x, To (f x) L) : To (bd p f) L := fun r hr h => by
 unfold bd at h
 split at h
 ·rename_i he; exact hp r hr he
 ·cases h
 ·rename_i x r' he
  have := hs.le he
  have : r'.length ≤ r.length := this
  exact hf x r' (by omega) h
theorem zfp {α β : Type} {p : Ps α} {f : α → Ps β} {L : Nat} (hp : To p L) (hs : Co p) (hf : ∀ x, 0 < L → To (f x) (L - 1)) : To (bd p f) L := fun r hr h => by
 unfold bd at h
 split at h
 ·rename_i he; exact hp r hr he
 ·cases h
 ·rename_i x r' he
  have := hs r x r' he
  exact hf x (by omega) r' (by omega) h
theorem To.le {α : Type} {p : Ps α} {L L' : Nat} (h : To p L) (hl : L' ≤ L) : To p L' := fun r hr => h r (by omega)
theorem zfc {α : Type} {k : Int} {tx : List BA} {p q : Ps α} {L : Nat} (hp : 0 < L → To p L) (hq : To q L) : To (ifS k tx p q) L := fun r hr h => by
 unfold ifS at h
 split at h
 ·rename_i hs
  cases r with
  | nil => cases hs
  | cons t r => exact hp (by simp at hr; omega) _ hr h
 ·exact hq r hr h
theorem zb5 {α : Type} {k : Int} {tx : List BA} {p q : Ps α} {L : Nat} (hp : 0 < L → To p (L - 1)) (hq : To q L) : To (ifH k tx p q) L := fun r hr h => by
 unfold ifH at h
 split at h
 ·rename_i hs
  cases r with
  | nil => cases hs
  | cons t r => exact hp (by simp at hr; omega) _ (by simp at hr ⊢; omega) h
 ·exact hq r hr h
theorem znn {α : Type} {m : Bool} {k : Int} {tx : List BA} {p q : Ps α} {L : Nat} (hp : To p L) (hq : To q L) : To (ifM m k tx p q) L := fun r hr h => by
 unfold ifM at h
 split at h
 ·exact hp r hr h
 ·exact zfc (fun _ => hp) hq r hr h
theorem zlV {α : Type} {p q : Ps α} {L : Nat} (hp : To p L) (hq : To q L) : To (ifC p q) L := fun r hr h => by
 unfold ifC at h
 split at h
 ·exact hp r hr h
 ·exact hq r hr h
theorem zdo (L : Nat) : To zbR L := z3 (zdS _ _ _) (zbD _ _) fun _ => zbG _ _
theorem zcA : ∀ (l : List BA) (L : Nat), To (zbs l) L
 | [], L => zbG _ _
 | s :: l, L => z3 (zdS _ _ _) (zbD _ _) fun _ => zcA l L
theorem zjo (s : BA) (l : List BA) : Co (zbs (s :: l)) := zfy (zfA _ _) fun _ => zJ _
theorem zi9 (m : Bool) (L : Nat) : To (zdM m) L :=
 zb5 (fun _ => zbG _ _) (zb5 (fun _ => zbG _ _) (zb5 (fun _ => z3 (zdS _ _ _) (zbD _ _) fun _ => z3 (zcA _ _) (zJ _) fun _ => z3 (zdS _ _ _) (zbD _ _) fun _ => zbG _ _)
  (znn (z3 (zdo _) zbm fun _ => zbG _ _) (zbG _ _))))
theorem zcy : 8 * 1000000 + 8 ≤ big := by
 have := zbM (show 8 * 1000000 + 8 ≤ 9223372036854775807 by omega)
 omega
theorem zmP {Bf : List (List BA) → Ps zb} (hs : ∀ l, Sf (Bf l)) (lv : List BA) (ls : List (List BA)) : ∀ (n : Nat) (x : zb) (L : Nat), L < n → (0 < L → To (Bf ls) (L - 1)) → To (bL Bf lv ls n x) L
 | 0, x, L, h, _ => by omega
 | n + 1, x, L, h, hB => zfc (fun _ => zfp (zdS _ _ _) (zfA _ _) fun t hL => z3 (hB hL) (hs _) fun y => zmP hs lv ls n _ (L - 1) (by omega) fun h0 => (hB hL).le (by omega)) (zbG _ _)
theorem zf2 : ∀ (n L : Nat), L ≤ 1000000 → (8 * L + 8 ≤ n → To (sG n).1 L) ∧ (∀ l : List (List BA), 8 * L + 2 + l.length ≤ n → To ((sG n).2.1 l) L) ∧ (8 * L + 1 ≤ n → To (sG n).2.2.1 L) ∧ (8 * L + 1 ≤ n → To (sG n).2.2.2 L)
 | 0, L, _ => ⟨fun h => by omega, fun l h => by omega, fun h => by omega, fun h => by omega⟩
 | n + 1, L, hL => by
  obtain ⟨f1, f2, f3, f4⟩ := zfS n
  obtain ⟨a1, a2, a3, a4⟩ := zf2 n L hL
  obtain ⟨b1, b2, b3, b4⟩ := zf2 n (L - 1) (by omega)
  refine ⟨fun h => ?_, fun l h => ?_, fun h => ?_, fun h => ?_⟩
  ·exact a2 lvls (by simp [lvls]; omega)
  ·cases l with
   | nil => exact a3 (by simp at h; omega)
   | cons lv ls =>
    simp only [List.length_cons] at h
    exact z3 (a2 ls (by omega)) (f2 ls) fun x => zmP f2 lv ls big x L (by have := zcy; omega) fun h0 => (a2 ls (by omega)).le (by omega)
  ·exact zfc (fun _ => zfp (zdS _ _ _) (zfA _ _) fun t _ => z3 (b3 (by omega)) f3 fun _ => zbG _ _)
    (zb5 (fun _ => z3 (b1 (by omega)) f1 fun _ => z3 (zcA _ _) (zJ _) fun _ => zbG _ _)
    (zfc (fun _ => z3 (zdS _ _ _) (zbD _ _) fun _ => zbG _ _)
    (zb5 (fun _ => zbG _ _) (zb5 (fun _ => zbG _ _)
    (zfp (zdo _) zd9 fun _ _ => zfc (fun _ => z3 (b4 (by omega)) f4 fun _ => zbG _ _)
     (zb5 (fun _ => z3 (zdo _) zbm fun _ => zbG _ _) (zbG _ _)))))))
  ·exact zfp (zcA _ _) (zjo _ _) fun _ _ => z3 (b1 (by omega)) f1 fun _ => z3 (zcA _ _) (zJ _) fun _ => zbG _ _
theorem zdV {L : Nat} (hL : L ≤ 1000000) : To zb1 L := (zf2 big L hL).1 (by have := zcy; omega)
theorem znC {L : Nat} (hL : L ≤ 1000000) : To zeb L := (zf2 big L hL).2.2.2 (by have := zcy; omega)
theorem zl3 : ∀ (n : Nat) (l : List zb) (L : Nat), L < n → L ≤ 1000000 → To (aL n l) L
 | 0, l, L, h, _ => by omega
 | n + 1, l, L, h, hL => zb5 (fun h0 => z3 (zdV (by omega)) zbo fun x => zl3 n _ (L - 1) (by omega) (by omega)) (z3 (zcA _ _) (zJ _) fun _ => zbG _ _)
theorem zme {L : Nat} (hL : L ≤ 1000000) : To zdU L :=
 z3 (zcA _ _) (zJ _) fun _ => zb5 (fun _ => zbG _ _) (z3 (zdV hL) zbo fun x => zl3 big _ L (by have := zcy; omega) hL)
theorem zhN (s : zh) (L : Nat) : To (k3 s) L := z3 (zcA _ _) (zJ _) fun _ => zbG _ _
theorem zq2 (q : zh) {L : Nat} (hL : L ≤ 1000000) : To (zeM q) L := z3 (zdo _) zbm fun _ => z3 (zi9 _ _) (zcJ _) fun _ => zb5 (fun _ => z3 (zdV (by omega)) zbo fun _ => zbG _ _) (zbG _ _)
theorem znP (q : zh) {L : Nat} (hL : L ≤ 1000000) : To (zek q) L := zb5 (fun _ => z3 (zcA _ _) (zJ _) fun _ => zbG _ _) (zlV (z3 (zdo _) zbm fun _ => z3 (zme hL) zeC fun _ => zbG _ _) (z3 (zdV hL) zbo fun _ => zbG _ _))
theorem zn0 (q : zh) {L : Nat} (hL : L ≤ 1000000) : To (zdY q) L := zlV (z3 (zdo _) zbm fun _ => z3 (zme hL) zeC fun _ => zbG _ _) (z3 (zdo _) zbm fun _ => zfc (fun _ => z3 (znC hL) zjL fun _ => z3 (zcA _ _) (zJ _) fun _ => z3 (zdV hL) zbo fun _ => zbG _ _) (zb5 (fun _ => z3 (zdo _) zbm fun _ => z3 (zcA _ _) (zJ _) fun _ => z3 (zdV (by omega)) zbo fun _ => zbG _ _) (z3 (zcA _ _) (zJ _) fun _ => znP _ hL)))
theorem zpC (q : zh) {L : Nat} (hL : L ≤ 1000000) : To (zep q) L := zb5 (fun _ => z3 (zq2 _ (by omega)) (zhX _) fun _ => zhN _ _) (zb5 (fun _ => z3 (zcA _ _) (zJ _) fun _ => z3 (zdV (by omega)) zbo fun _ => z3 (zcA _ _) (zJ _) fun _ => zhN _ _) (zb5 (fun _ => zfc (fun _ => zhN _ _) (z3 (zdV (by omega)) zbo fun _ => zhN _ _)) (z3 (zn0 _ hL) (zil _) fun _ => zhN _ _)))
theorem zmv {rS : Ps Stm} (hs : Co rS) : ∀ (n : Nat) (l : List Stm) (L : Nat), L < n → To rS L → To (zdF rS n l) L
 | 0, l, L, h, _ => by omega
 | n + 1, l, L, h, hS => zb5 (fun _ => zbG _ _) (zfp hS hs fun x h0 => zmv hs n _ (L - 1) (by omega) (hS.le (by omega)))
theorem znR {rB : Ps (List Stm)} (hs : Sf rB) {L : Nat} (hL : L ≤ 1000000) (h : 0 < L → To rB (L - 1)) : To (zdc rB) L := fun r hr hv =>
 zb5 (fun h0 => z3 (zdV (by omega)) zbo fun _ => z3 (h h0) hs fun _ => zb5 (fun _ => z3 ((h h0).le (by omega)) hs fun _ => zbG _ _) (zbG _ _)) (zb5 (fun h0 => z3 (zdV (by omega)) zbo fun _ => z3 (h h0) hs fun _ => zbG _ _) (zpC _ hL)) r hr hv
theorem zkf : ∀ (n L : Nat), L ≤ 1000000 → (2 * L + 1 ≤ n → To (sB n).1 L) ∧ (2 * L + 1 ≤ n → To (sB n).2 L)
 | 0, L, _ => ⟨fun h => by omega, fun h => by omega⟩
 | n + 1, L, hL => by
  obtain ⟨f1, f2, f3⟩ := zgi n
  obtain ⟨b1, b2⟩ := zkf n (L - 1) (by omega)
  refine ⟨fun h => ?_, fun h => znR f1 hL fun h0 => b1 (by omega)⟩
  exact zfp (zcA _ _) (zjo _ _) fun _ h0 => zmv f3 big [] (L - 1) (by have := zcy; omega) (b2 (by omega))
theorem znF {L : Nat} (hL : L ≤ 1000000) : To zfk L := (zkf big L hL).1 (by have := zcy; omega)
theorem zmp (L : Nat) : To zdi L := z3 (zdo _) zbm fun _ => z3 (zi9 _ _) (zcJ _) fun _ => zbG _ _
theorem zkU (nm : BA) : ∀ (n : Nat) (l : List BA) (L : Nat), L < n → To (fL nm n l) L
 | 0, l, L, h => by omega
 | n + 1, l, L, h => zb5 (fun _ => zbG _ _) (zfp (zdo _) zd9 fun _ h0 => z3 (zdS _ _ _) (zbD _ _) fun _ => z3 (zcA _ _) (zJ _) fun _ => zkU nm n _ (L - 1) (by omega))
theorem zqS {L : Nat} (hL : L ≤ 1000000) : To zdO L := z3 (zdo _) zbm fun _ => z3 (zdS _ _ _) (zbD _ _) fun _ => z3 (zcA _ _) (zJ _) fun _ => zkU _ big _ L (by have := zcy; omega)
theorem zlA (ln : Int) (nm : BA) (ps : List zbb) {L : Nat} (hL : L ≤ 1000000) : To (k9 ln nm ps) L := z3 (zi9 _ _) (zcJ _) fun _ => z3 (znF hL) zgO fun _ => zbG _ _
theorem zmC (ln : Int) (nm : BA) : ∀ (n : Nat) (l : List zbb) (L : Nat), L < n → L ≤ 1000000 → To (pL ln nm n l) L
 | 0, l, L, h, _ => by omega
 | n + 1, l, L, h, hL => zb5 (fun h0 => z3 (zmp _) zdI fun _ => zmC ln nm n _ (L - 1) (by omega) (by omega)) (z3 (zcA _ _) (zJ _) fun _ => zlA _ _ _ hL)
theorem zpw {L : Nat} (hL : L ≤ 1000000) : To zdJ L := fun r hr h => z3 (zdS _ _ _) (zbD _ _) (fun _ => z3 (zdo _) zbm fun _ => z3 (zcA _ _) (zJ _) fun _ => zb5 (fun _ => zlA _ _ _ (by omega)) (z3 (zmp _) zdI fun _ => zmC _ _ big _ L (by have := zcy; omega) hL)) r hr h
theorem zi7 : ∀ (n : Nat) (S : List zw) (D : List zp) (r : List Tok), r.length < n → r.length ≤ 1000000 → wL n S D r ≠ none
 | 0, S, D, r, h, _ => by omega
 | n + 1, S, D, [], _, _ => fun h => by cases h
 | n + 1, S, D, t :: r, h, hl => fun hw => by
  simp only [List.length_cons] at h hl
  unfold wL at hw
  split at hw
  ·split at hw
   ·rename_i he; exact zqS (show r.length ≤ 1000000 by omega) r (Nat.le_refl _) he
   ·cases hw
   ·rename_i x r' he
    have := zhl r x r' he
    exact zi7 n _ _ r' (by omega) (by omega) hw
  ·split at hw
   ·rename_i he; exact zpw (show (t :: r).length ≤ 1000000 by simpa using hl) (t :: r) (Nat.le_refl _) he
   ·cases hw
   ·rename_i x r' he
    have := zgy (t :: r) x r' he
    simp only [List.length_cons] at this
    exact zi7 n _ _ r' (by omega) (by omega) hw
theorem zpn {T : List Tok} (hT : T.length ≤ 1000000) : ∃ v, zdb T = some v := by
 cases h : zdb T with
 | none => exact absurd h (zi7 big [] [] T (by have := zcy; omega) hT)
 | some v => exact ⟨v, rfl⟩
end Go.Proofs.Ytnhboaaikehpoaa
