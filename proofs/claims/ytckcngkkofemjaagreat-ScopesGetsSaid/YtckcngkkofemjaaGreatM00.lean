import Derived.Test.YtckcngkkofemjaaGreatAc0
import Derived.Test.YtckcngkkofemjaaGreatAc1
import Derived.Test.YtckcngkkofemjaaGreatFM
namespace Go.Proofs.YtckcngkkofemjaaGreat
open Go.Ab Go.RowKit
set_option linter.unusedVariables false
set_option linter.unusedSimpArgs false
theorem znK {w0 : Base} {σ : Hp} {v : Value} {l : List UInt8} (h : RdT Ty.u8 σ v l) (hl : l.length ≤ 1099511000000) :
  ACalls Tryz.prog w0 7 #[v] σ (fun r σ' => Hp.le σ σ' ∧ ∃ b, r = .slice (some ⟨b, 0, none⟩) l.length (l.length + 8) ∧ ∃ ty size own, σ' b = some ⟨u8s (l ++ [8, 7, 6, 5, 4, 3, 2, 1]), ty, size, own⟩) zbm := by
 obtain ⟨A, c, rfl, hc⟩ := h.form
 refine zlD (args := [.slice A l.length c]) hm Tryz.func7 s7 rfl fun Q hQ => ?_
 simp only [a7]
 have f1 : IntKind.i64.wrap ((l.length : Int) + 8) = ((l.length + 8 : Nat) : Int) := by rw [zbc (by omega)]; omega
 repeat (first | (with_reducible refine ze ?_) | (with_reducible refine zh ?_) | (with_reducible refine zbC fun K hK => ?_; simp only [xop, ev, zbH, Nat.reduceEqDiff, ↓reduceIte, zdu, zdv, binv, zb7, ibin, reduceCtorEq, decide_true, decide_false, f1]; with_reducible refine hK _ _ ?_; clear hK K) | (with_reducible refine zA ?_) | (with_reducible refine zm ?_) | (with_reducible refine zU ?_; try simp only [zdg, zcR, zb4, zb1]) | (with_reducible refine zk ?_ ?_; (· simp only [ev, zbH, ↓reduceIte, f1])) | (with_reducible refine zl ?_ ?_; (· simp only [ev, zbH, ↓reduceIte, f1])) | (with_reducible refine zg ?_; try simp only [zb4, zb1]) | (with_reducible refine hKc _ _ ?_; clear hKc Kc) | (with_reducible refine zdr fun Kc hKc => ?_))
 refine znO rfl rfl (by omega) (by omega) (by decide) fun bb hbb => ?_
 have hle0 := Hp.le_set hbb (r := ⟨(List.replicate (l.length + 8) [Value.int .u8 0]).flatten, 5, (l.length + 8) * 1, true⟩)
 repeat (first | (with_reducible refine ze ?_) | (with_reducible refine zh ?_) | (with_reducible refine zbC fun K hK => ?_; simp only [xop, ev, zbH, Nat.reduceEqDiff, ↓reduceIte, zdu, zdv, binv, zb7, ibin, reduceCtorEq, decide_true, decide_false]; with_reducible refine hK _ _ ?_; clear hK K) | (with_reducible refine zA ?_) | (with_reducible refine zm ?_) | (with_reducible refine zU ?_; try simp only [zdg, zcR, zb4, zb1]) | (with_reducible refine zk ?_ ?_; (· simp only [ev, zbH, ↓reduceIte])) | (with_reducible refine zl ?_ ?_; (· simp only [ev, zbH, ↓reduceIte])) | (with_reducible refine zg ?_; try simp only [zb4, zb1]) | (with_reducible refine hKc _ _ ?_; clear hKc Kc) | (with_reducible refine zdr fun Kc hKc => ?_))
 refine zn0 rfl (Hp.set_eq _ _ _) rfl (h.le hle0) rfl (by simp) ?_
 rw [Hp.set_set]
 repeat (first | (with_reducible refine ze ?_) | (with_reducible refine zh ?_) | (with_reducible refine zbC fun K hK => ?_; simp only [xop, ev, zbH, Nat.reduceEqDiff, ↓reduceIte, zdu, zdv, binv, zb7, ibin, reduceCtorEq, decide_true, decide_false]; with_reducible refine hK _ _ ?_; clear hK K) | (with_reducible refine zA ?_) | (with_reducible refine zm ?_) | (with_reducible refine zU ?_; try simp only [zdg, zcR, zb4, zb1]) | (with_reducible refine zk ?_ ?_; (· simp only [ev, zbH, ↓reduceIte])) | (with_reducible refine zl ?_ ?_; (· simp only [ev, zbH, ↓reduceIte])) | (with_reducible refine zg ?_; try simp only [zb4, zb1]) | (with_reducible refine hKc _ _ ?_; clear hKc Kc) | (with_reducible refine zdr fun Kc hKc => ?_))
 refine zmL (fun m e σ' => ∃ (i : Nat) (rest : List Value), m = 8 - i ∧ i ≤ 8 ∧ (i = 0 ∨ rest = []) ∧ e 0 = .slice A l.length c ∧ e 3 = .slice (some ⟨bb, 0, none⟩) (l.length + i) (l.length + 8) ∧ e 4 = .int .u8 ((8 - i : Nat) : Int) ∧ (∀ k r, k ≠ bb → σ k = some r → σ' k = some r) ∧ σ' bb = some ⟨u8s (l ++ ([8, 7, 6, 5, 4, 3, 2, 1] : List UInt8).take i) ++ rest, 5, (l.length + 8) * 1, true⟩) 8 ⟨0, (List.replicate (l.length + 8) [Value.int .u8 0]).flatten.drop l.length, rfl, by omega, .inl rfl, rfl, rfl, rfl, fun k r hk hr => by rw [Hp.set_ne _ _ hk]; exact hr, by rw [Hp.set_eq, List.take_zero, List.append_nil]⟩ ?_
 rintro m e σ' ⟨i, rest, rfl, hi, hr, h0, h3, h4, hk, hb⟩ J hJ
 by_cases hlt : i < 8
 ·have hlt' : ((8 - i : Nat) : Int) > 0 := by omega
  repeat (first | (with_reducible refine ze ?_) | (with_reducible refine zh ?_) | (with_reducible refine zbC fun K hK => ?_; simp only [xop, ev, zbH, Nat.reduceEqDiff, ↓reduceIte, zdu, zdv, binv, zb7, ibin, reduceCtorEq, decide_true, decide_false, h0, h3, h4, hlt']; with_reducible refine hK _ _ ?_; clear hK K) | (with_reducible refine zA ?_) | (with_reducible refine zm ?_) | (with_reducible refine zU ?_; try simp only [zdg, zcR, zb4, zb1]) | (with_reducible refine zk ?_ ?_; (· simp only [ev, zbH, ↓reduceIte])) | (with_reducible refine zl ?_ ?_; (· simp only [ev, zbH, ↓reduceIte])) | (with_reducible refine zg ?_; try simp only [zb4, zb1]) | (with_reducible refine hKc _ _ ?_; clear hKc Kc) | (with_reducible refine zdr fun Kc hKc => ?_))
  have hz : (([8, 7, 6, 5, 4, 3, 2, 1] : List UInt8)[i]'hlt).toNat = 8 - i := by
   have : i = 0 ∨ i = 1 ∨ i = 2 ∨ i = 3 ∨ i = 4 ∨ i = 5 ∨ i = 6 ∨ i = 7 := by omega
   rcases this with rfl | rfl | rfl | rfl | rfl | rfl | rfl | rfl <;> rfl
  refine znC (z := ([8, 7, 6, 5, 4, 3, 2, 1] : List UInt8)[i]'hlt) rfl (fun _ => rfl) hb (by simp; omega) (by omega) (by omega) (by rw [hz]; rfl) rfl (by decide) fun u σ2 hk2 hb2 => ?_
  have f4 : IntKind.u8.wrap (((8 - i : Nat) : Int) - 1) = ((8 - (i + 1) : Nat) : Int) := by rw [zd6]; omega
  repeat (first | (with_reducible refine ze ?_) | (with_reducible refine zh ?_) | (with_reducible refine zbC fun K hK => ?_; simp only [xop, ev, zbH, Nat.reduceEqDiff, ↓reduceIte, zdu, zdv, binv, zb7, ibin, reduceCtorEq, decide_true, decide_false, h0, h4, f4]; with_reducible refine hK _ _ ?_; clear hK K) | (with_reducible refine zA ?_) | (with_reducible refine zm ?_) | (with_reducible refine zU ?_; try simp only [zdg, zcR, zb4, zb1]) | (with_reducible refine zk ?_ ?_; (· simp only [ev, zbH, ↓reduceIte, f4])) | (with_reducible refine zl ?_ ?_; (· simp only [ev, zbH, ↓reduceIte, f4])) | (with_reducible refine zg ?_; try simp only [zb4, zb1]) | (with_reducible refine hKc _ _ ?_; clear hKc Kc) | (with_reducible refine zdr fun Kc hKc => ?_))
  refine hJ (8 - (i + 1)) _ _ (by omega) ⟨i + 1, [], rfl, by omega, .inr rfl, h0, rfl, rfl, fun k r hne hr => hk2 k r hne (hk k r hne hr), ?_⟩
  rw [hb2, List.append_nil, List.take_succ_eq_append_getElem (by simpa using hlt), List.append_assoc]
 ·have hlt' : ¬ ((8 - i : Nat) : Int) > 0 := by omega
  repeat (first | (with_reducible refine ze ?_) | (with_reducible refine zh ?_) | (with_reducible refine zbC fun K hK => ?_; simp only [xop, ev, zbH, Nat.reduceEqDiff, ↓reduceIte, zdu, zdv, binv, zb7, ibin, reduceCtorEq, decide_true, decide_false, h4, hlt']; with_reducible refine hK _ _ ?_; clear hK K) | (with_reducible refine zA ?_) | (with_reducible refine zm ?_) | (with_reducible refine zU ?_; try simp only [zdg, zcR, zb4, zb1]) | (with_reducible refine zk ?_ ?_; (· simp only [ev, zbH, ↓reduceIte])) | (with_reducible refine zl ?_ ?_; (· simp only [ev, zbH, ↓reduceIte])) | (with_reducible refine zg ?_; try simp only [zb4, zb1]) | (with_reducible refine hKc _ _ ?_; clear hKc Kc) | (with_reducible refine zdr fun Kc hKc => ?_))
  have h8 : i = 8 := by omega
  subst h8
  repeat (first | (with_reducible refine ze ?_) | (with_reducible refine zh ?_) | (with_reducible refine zbC fun K hK => ?_; simp only [xop, ev, zbH, Nat.reduceEqDiff, ↓reduceIte, zdu, zdv, binv, zb7, ibin, reduceCtorEq, decide_true, decide_false, h0, h3]; with_reducible refine hK _ _ ?_; clear hK K) | (with_reducible refine zA ?_) | (with_reducible refine zm ?_) | (with_reducible refine zU ?_; try simp only [zdg, zcR, zb4, zb1]) | (with_reducible refine zk ?_ ?_; (· simp only [ev, zbH, ↓reduceIte])) | (with_reducible refine zl ?_ ?_; (· simp only [ev, zbH, ↓reduceIte])) | (with_reducible refine zg ?_; try simp only [zb4, zb1]) | (with_reducible refine hKc _ _ ?_; clear hKc Kc) | (with_reducible refine zdr fun Kc hKc => ?_))
  have hle : Hp.le σ σ' := fun k r hr => hk k r (fun he => by subst he; rw [hbb] at hr; cases hr) hr
  refine zok (q := l.length) (by show e 3 = _; exact h3) rfl (by omega) ?_
  repeat (first | (with_reducible refine ze ?_) | (with_reducible refine zh ?_) | (with_reducible refine zbC fun K hK => ?_; simp only [xop, ev, zbH, Nat.reduceEqDiff, ↓reduceIte, zdu, zdv, binv, zb7, ibin, reduceCtorEq, decide_true, decide_false]; with_reducible refine hK _ _ ?_; clear hK K) | (with_reducible refine zA ?_) | (with_reducible refine zm ?_) | (with_reducible refine zU ?_; try simp only [zdg, zcR, zb4, zb1]) | (with_reducible refine zk ?_ ?_; (· simp only [ev, zbH, ↓reduceIte])) | (with_reducible refine zl ?_ ?_; (· simp only [ev, zbH, ↓reduceIte])) | (with_reducible refine zg ?_; try simp only [zb4, zb1]) | (with_reducible refine hKc _ _ ?_; clear hKc Kc) | (with_reducible refine zdr fun Kc hKc => ?_))
  obtain hr | rfl := hr
  ·omega
  rw [List.append_nil] at hb
  exact hQ _ _ _ rfl ⟨hle, bb, rfl, _, _, _, hb⟩
theorem zpq {τ : Hp} {v0 : Value} {p0 : List UInt8} (r0 : RdT Ty.u8 τ v0 p0) {rr : List UInt8 × List UInt8} (hF : zhL p0 = some rr) :
  Ctr Tryz.prog 7 #[v0] τ [] (fun v τ' vs' => ∃ v0, v = v0 ∧ vs' = [] ∧ RdT Ty.u8 τ' v0 rr.1 ∧ Full Ty.u8 τ' v0 rr.2) := by
 unfold zhL at hF
 split at hF
 ·rename_i hl
  injection hF with hF
  subst hF
  refine (Ctr.ofRd (K := fun v τ' => RdT Ty.u8 τ' v p0 ∧ Full Ty.u8 τ' v (p0 ++ [8, 7, 6, 5, 4, 3, 2, 1])) fun w0 σ hle => (znK (r0.le hle) hl).mono (fun r σ' hr => ?_) (fun _ _ h => h)).mono fun v τ' vs' _ h => ⟨v, rfl, h.2, h.1.1, h.1.2⟩
  obtain ⟨h1, b, rfl, ty, size, own, h2⟩ := hr
  refine ⟨h1, RdT.of_row h2 (by simp) (by simp) (by omega), some ⟨b, 0, none⟩, p0.length, by simp, RdT.of_row h2 List.take_length (Nat.le_refl _) (Nat.le_refl _)⟩
 ·cases hF
end Go.Proofs.YtckcngkkofemjaaGreat
