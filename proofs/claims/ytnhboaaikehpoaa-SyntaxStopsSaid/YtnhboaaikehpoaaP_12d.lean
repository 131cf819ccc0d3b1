import Derived.Test.YtnhboaaikehpoaaP_12c
import Derived.KernelRfl
namespace Go.Proofs.Ytnhboaaikehpoaa
open Go.Ab Go.RowKit
set_option linter.unusedVariables false
set_option linter.unusedSimpArgs false
def To {α : Type} (p : Ps α) (L : Nat) : Prop := ∀ r : List Tok, r.length ≤ L → p r ≠ none
theorem zbt {α : Type} (x : α) (L : Nat) : To (pu x) L := fun r _ h => by cases h
theorem zdU (k : Int) (tx : List BA) (L : Nat) : To (tk k tx) L := fun r _ h => by
 unfold tk at h
 split at h
 ·cases h
 ·split at h <;> cases h
theorem zL {α β : Type} {p : Ps α} {f : α → Ps β} {L : Nat} (hp : To p L) (hs : Sf p) (hf : ∀ x, To (f x) L) : To (bd p f) L := fun r hr h => by
 unfold bd at h
 split at h
 ·rename_i he; exact hp r hr he
 ·cases h
 ·rename_i x r' he
  have := hs.le he
  have : r'.length ≤ r.length := this
  exact hf x r' (by omega) h
theorem ze1 {α β : Type} {p : Ps α} {f : α → Ps β} {L : Nat} (hp : To p L) (hs : Co p) (hf : ∀ x, 0 < L → To (f x) (L - 1)) : To (bd p f) L := fun r hr h => by
 unfold bd at h
 split at h
 ·rename_i he; exact hp r hr he
 ·cases h
 ·rename_i x r' he
  have := hs r x r' he
  exact hf x (by omega) r' (by omega) h
theorem To.le {α : Type} {p : Ps α} {L L' : Nat} (h : To p L) (hl : L' ≤ L) : To p L' := fun r hr => h r (by omega)
theorem zfi {α : Type} {k : Int} {tx : List BA} {p q : Ps α} {L : Nat} (hp : 0 < L → To p L) (hq : To q L) : To (ifS k tx p q) L := fun r hr h => by
 unfold ifS at h
 split at h
 ·rename_i hs
  cases r with
  | nil => cases hs
  | cons t r => exact hp (by simp at hr; omega) _ hr h
 ·exact hq r hr h
theorem zbY {α : Type} {k : Int} {tx : List BA} {p q : Ps α} {L : Nat} (hp : 0 < L → To p (L - 1)) (hq : To q L) : To (ifH k tx p q) L := fun r hr h => by
 unfold ifH at h
 split at h
 ·rename_i hs
  cases r with
  | nil => cases hs
  | cons t r => exact hp (by simp at hr; omega) _ (by simp at hr ⊢; omega) h
 ·exact hq r hr h
theorem znO {α : Type} {m : Bool} {k : Int} {tx : List BA} {p q : Ps α} {L : Nat} (hp : To p L) (hq : To q L) : To (ifM m k tx p q) L := fun r hr h => by
 unfold ifM at h
 split at h
 ·exact hp r hr h
 ·exact zfi (fun _ => hp) hq r hr h
theorem zlv {α : Type} {p q : Ps α} {L : Nat} (hp : To p L) (hq : To q L) : To (ifC p q) L := fun r hr h => by
 unfold ifC at h
 split at h
 ·exact hp r hr h
 ·exact hq r hr h
theorem zdn (L : Nat) : To zbB L := zL (zdU _ _ _) (zbm _ _) fun _ => zbt _ _
theorem zcj : ∀ (l : List BA) (L : Nat), To (zbd l) L
 | [], L => zbt _ _
 | s :: l, L => zL (zdU _ _ _) (zbm _ _) fun _ => zcj l L
theorem zfA (s : BA) (l : List BA) : Co (zbd (s :: l)) := zdc (ze5 _ _) fun _ => zy _
theorem zkO (m : Bool) (L : Nat) : To (zdv m) L :=
 zbY (fun _ => zbt _ _) (zbY (fun _ => zbt _ _) (zbY (fun _ => zL (zdU _ _ _) (zbm _ _) fun _ => zL (zcj _ _) (zy _) fun _ => zL (zdU _ _ _) (zbm _ _) fun _ => zbt _ _)
  (znO (zL (zdn _) z9 fun _ => zbt _ _) (zbt _ _))))
theorem zbZ : 8 * 1000000 + 8 ≤ big := by
 have := zb9 (show 8 * 1000000 + 8 ≤ 9223372036854775807 by omega)
 omega
theorem znu {Bf : List (List BA) → Ps za} (hs : ∀ l, Sf (Bf l)) (lv : List BA) (ls : List (List BA)) : ∀ (n : Nat) (x : za) (L : Nat), L < n → (0 < L → To (Bf ls) (L - 1)) → To (bL Bf lv ls n x) L
 | 0, x, L, h, _ => by omega
 | n + 1, x, L, h, hB => zfi (fun _ => ze1 (zdU _ _ _) (ze5 _ _) fun t hL => zL (hB hL) (hs _) fun y => znu hs lv ls n _ (L - 1) (by omega) fun h0 => (hB hL).le (by omega)) (zbt _ _)
theorem zfU : ∀ (n L : Nat), L ≤ 1000000 → (8 * L + 8 ≤ n → To (sG n).1 L) ∧ (∀ l : List (List BA), 8 * L + 2 + l.length ≤ n → To ((sG n).2.1 l) L) ∧ (8 * L + 1 ≤ n → To (sG n).2.2.1 L) ∧ (8 * L + 1 ≤ n → To (sG n).2.2.2 L)
 | 0, L, _ => ⟨fun h => by omega, fun l h => by omega, fun h => by omega, fun h => by omega⟩
 | n + 1, L, hL => by
  obtain ⟨f1, f2, f3, f4⟩ := zeY n
  obtain ⟨a1, a2, a3, a4⟩ := zfU n L hL
  obtain ⟨b1, b2, b3, b4⟩ := zfU n (L - 1) (by omega)
  refine ⟨fun h => ?_, fun l h => ?_, fun h => ?_, fun h => ?_⟩
  ·exact a2 lvls (by simp [lvls]; omega)
  ·cases l with
   | nil => exact a3 (by simp at h; omega)
   | cons lv ls =>
    simp only [List.length_cons] at h
    exact zL (a2 ls (by omega)) (f2 ls) fun x => znu f2 lv ls big x L (by have := zbZ; omega) fun h0 => (a2 ls (by omega)).le (by omega)
  ·exact zfi (fun _ => ze1 (zdU _ _ _) (ze5 _ _) fun t _ => zL (b3 (by omega)) f3 fun _ => zbt _ _)
    (zbY (fun _ => zL (b1 (by omega)) f1 fun _ => zL (zcj _ _) (zy _) fun _ => zbt _ _)
    (zfi (fun _ => zL (zdU _ _ _) (zbm _ _) fun _ => zbt _ _)
    (zbY (fun _ => zbt _ _) (zbY (fun _ => zbt _ _)
    (ze1 (zdn _) zeg fun _ _ => zfi (fun _ => zL (b4 (by omega)) f4 fun _ => zbt _ _)
     (zbY (fun _ => zL (zdn _) z9 fun _ => zbt _ _) (zbt _ _)))))))
  ·exact ze1 (zcj _ _) (zfA _ _) fun _ _ => zL (b1 (by omega)) f1 fun _ => zL (zcj _ _) (zy _) fun _ => zbt _ _
theorem zdM {L : Nat} (hL : L ≤ 1000000) : To zbI L := (zfU big L hL).1 (by have := zbZ; omega)
theorem zox {L : Nat} (hL : L ≤ 1000000) : To zd8 L := (zfU big L hL).2.2.2 (by have := zbZ; omega)
theorem zlS : ∀ (n : Nat) (l : List za) (L : Nat), L < n → L ≤ 1000000 → To (aL n l) L
 | 0, l, L, h, _ => by omega
 | n + 1, l, L, h, hL => zbY (fun h0 => zL (zdM (by omega)) zbb fun x => zlS n _ (L - 1) (by omega) (by omega)) (zL (zcj _ _) (zy _) fun _ => zbt _ _)
theorem zm8 {L : Nat} (hL : L ≤ 1000000) : To zdA L :=
 zL (zcj _ _) (zy _) fun _ => zbY (fun _ => zbt _ _) (zL (zdM hL) zbb fun x => zlS big _ L (by have := zbZ; omega) hL)
theorem zgD (s : ze) (L : Nat) : To (k3 s) L := zL (zcj _ _) (zy _) fun _ => zbt _ _
theorem zqk (q : ze) {L : Nat} (hL : L ≤ 1000000) : To (zel q) L := zL (zdn _) z9 fun _ => zL (zkO _ _) (zcO _) fun _ => zbY (fun _ => zL (zdM (by omega)) zbb fun _ => zbt _ _) (zbt _ _)
theorem zpU (q : ze) {L : Nat} (hL : L ≤ 1000000) : To (zd5 q) L := zbY (fun _ => zL (zcj _ _) (zy _) fun _ => zbt _ _) (zlv (zL (zdn _) z9 fun _ => zL (zm8 hL) zd6 fun _ => zbt _ _) (zL (zdM hL) zbb fun _ => zbt _ _))
theorem zoY (q : ze) {L : Nat} (hL : L ≤ 1000000) : To (zdJ q) L := zlv (zL (zdn _) z9 fun _ => zL (zm8 hL) zd6 fun _ => zbt _ _) (zL (zdn _) z9 fun _ => zfi (fun _ => zL (zox hL) zia fun _ => zL (zcj _ _) (zy _) fun _ => zL (zdM hL) zbb fun _ => zbt _ _) (zbY (fun _ => zL (zdn _) z9 fun _ => zL (zcj _ _) (zy _) fun _ => zL (zdM (by omega)) zbb fun _ => zbt _ _) (zL (zcj _ _) (zy _) fun _ => zpU _ hL)))
theorem zqh (q : ze) {L : Nat} (hL : L ≤ 1000000) : To (zdB q) L := zbY (fun _ => zL (zqk _ (by omega)) (zh0 _) fun _ => zgD _ _) (zbY (fun _ => zL (zcj _ _) (zy _) fun _ => zL (zdM (by omega)) zbb fun _ => zL (zcj _ _) (zy _) fun _ => zgD _ _) (zbY (fun _ => zfi (fun _ => zgD _ _) (zL (zdM (by omega)) zbb fun _ => zgD _ _)) (zL (zoY _ hL) (zhQ _) fun _ => zgD _ _)))
theorem zlX {rS : Ps Stm} (hs : Co rS) : ∀ (n : Nat) (l : List Stm) (L : Nat), L < n → To rS L → To (zcW rS n l) L
 | 0, l, L, h, _ => by omega
 | n + 1, l, L, h, hS => zbY (fun _ => zbt _ _) (ze1 hS hs fun x h0 => zlX hs n _ (L - 1) (by omega) (hS.le (by omega)))
theorem zny {rB : Ps (List Stm)} (hs : Sf rB) {L : Nat} (hL : L ≤ 1000000) (h : 0 < L → To rB (L - 1)) : To (zcZ rB) L := fun r hr hv =>
 zbY (fun h0 => zL (zdM (by omega)) zbb fun _ => zL (h h0) hs fun _ => zbY (fun _ => zL ((h h0).le (by omega)) hs fun _ => zbt _ _) (zbt _ _)) (zbY (fun h0 => zL (zdM (by omega)) zbb fun _ => zL (h h0) hs fun _ => zbt _ _) (zqh _ hL)) r hr hv
theorem zjM : ∀ (n L : Nat), L ≤ 1000000 → (2 * L + 1 ≤ n → To (sB n).1 L) ∧ (2 * L + 1 ≤ n → To (sB n).2 L)
 | 0, L, _ => ⟨fun h => by omega, fun h => by omega⟩
 | n + 1, L, hL => by
  obtain ⟨f1, f2, f3⟩ := zeO n
  obtain ⟨b1, b2⟩ := zjM n (L - 1) (by omega)
  refine ⟨fun h => ?_, fun h => zny f1 hL fun h0 => b1 (by omega)⟩
  exact ze1 (zcj _ _) (zfA _ _) fun _ h0 => zlX f3 big [] (L - 1) (by have := zbZ; omega) (b2 (by omega))
theorem zp0 {L : Nat} (hL : L ≤ 1000000) : To zd0 L := (zjM big L hL).1 (by have := zbZ; omega)
theorem zlB (L : Nat) : To zc9 L := zL (zdn _) z9 fun _ => zL (zkO _ _) (zcO _) fun _ => zbt _ _
theorem zmn (nm : BA) : ∀ (n : Nat) (l : List BA) (L : Nat), L < n → To (fL nm n l) L
 | 0, l, L, h => by omega
 | n + 1, l, L, h => zbY (fun _ => zbt _ _) (ze1 (zdn _) zeg fun _ h0 => zL (zdU _ _ _) (zbm _ _) fun _ => zL (zcj _ _) (zy _) fun _ => zmn nm n _ (L - 1) (by omega))
theorem zp8 {L : Nat} (hL : L ≤ 1000000) : To zdC L := zL (zdn _) z9 fun _ => zL (zdU _ _ _) (zbm _ _) fun _ => zL (zcj _ _) (zy _) fun _ => zmn _ big _ L (by have := zbZ; omega)
theorem zmc (ln : Int) (nm : BA) (ps : List z4) {L : Nat} (hL : L ≤ 1000000) : To (k9 ln nm ps) L := zL (zkO _ _) (zcO _) fun _ => zL (zp0 hL) zh1 fun _ => zbt _ _
theorem zl1 (ln : Int) (nm : BA) : ∀ (n : Nat) (l : List z4) (L : Nat), L < n → L ≤ 1000000 → To (pL ln nm n l) L
 | 0, l, L, h, _ => by omega
 | n + 1, l, L, h, hL => zbY (fun h0 => zL (zlB _) zc6 fun _ => zl1 ln nm n _ (L - 1) (by omega) (by omega)) (zL (zcj _ _) (zy _) fun _ => zmc _ _ _ hL)
theorem zqb {L : Nat} (hL : L ≤ 1000000) : To zcF L := fun r hr h => zL (zdU _ _ _) (zbm _ _) (fun _ => zL (zdn _) z9 fun _ => zL (zcj _ _) (zy _) fun _ => zbY (fun _ => zmc _ _ _ (by omega)) (zL (zlB _) zc6 fun _ => zl1 _ _ big _ L (by have := zbZ; omega) hL)) r hr h
theorem zhX : ∀ (n : Nat) (S : List zo) (D : List zi) (r : List Tok), r.length < n → r.length ≤ 1000000 → wL n S D r ≠ none
 | 0, S, D, r, h, _ => by omega
 | n + 1, S, D, [], _, _ => fun h => by cases h
 | n + 1, S, D, t :: r, h, hl => fun hw => by
  simp only [List.length_cons] at h hl
  unfold wL at hw
  split at hw
  ·split at hw
   ·rename_i he; exact zp8 (show r.length ≤ 1000000 by omega) r (Nat.le_refl _) he
   ·cases hw
   ·rename_i x r' he
    have := ziJ r x r' he
    exact zhX n _ _ r' (by omega) (by omega) hw
  ·split at hw
   ·rename_i he; exact zqb (show (t :: r).length ≤ 1000000 by simpa using hl) (t :: r) (Nat.le_refl _) he
   ·cases hw
   ·rename_i x r' he
    have := zh7 (t :: r) x r' he
    simp only [List.length_cons] at this
    exact zhX n _ _ r' (by omega) (by omega) hw
theorem zkd {T : List Tok} (hT : T.length ≤ 1000000) : ∃ v, zce T = some v := by
 cases h : zce T with
 | none => exact absurd h (zhX big [] [] T (by have := zbZ; omega) hT)
 | some v => exact ⟨v, rfl⟩
end Go.Proofs.Ytnhboaaikehpoaa
