import Derived.Test.YtjcehfjmmbbblaaAb
import Derived.ChangeSlices
import Derived.ChangeArms
import Derived.SizedLaws
import Derived.RangeFuncLeaves
import Derived.RangeFuncKeeps
import Derived.DefersIn
import Derived.RecoverIn
namespace Go.Ab
open Go.RowKit
set_option linter.unusedVariables false
set_option linter.unusedSimpArgs false
theorem zdb {x : Int} (h : -9223372036854775808 ≤ x ∧ x ≤ 9223372036854775807) : IntKind.i64.wrap x = x := by
 show (if (true && decide (x % 18446744073709551616 ≥ 9223372036854775808)) = true then x % 18446744073709551616 - 18446744073709551616 else x % 18446744073709551616) = x
 split <;> rename_i h1 <;> simp at h1 <;> omega
def Ty.Flat {α : Type} (T : Ty α) : Prop := ∀ σ σ' x cs, T.R σ x cs → T.R σ' x cs
theorem Chunks.flat {α : Type} {T : Ty α} (hf : T.Flat) {σ σ' : Hp} : ∀ {l : List α} {cs : List Value}, Chunks T σ l cs → Chunks T σ' l cs
 | [], cs, h => h
 | x :: l, cs, h => by
  obtain ⟨c, r, rfl, h1, h2⟩ := h
  exact ⟨c, r, rfl, hf _ _ _ _ h1, Chunks.flat hf h2⟩
theorem RdT.empty {α : Type} {T : Ty α} {σ : Hp} {A : Option Addr} {n c : Nat} {l : List α} (h : RdT T σ (.slice A n c) l) (hs : 0 < T.sz) (hA : A.isNone = true) : l = [] := by
 cases l with
 | nil => rfl
 | cons x l =>
  have := h.has (i := 0) (by simp) hs
  cases A <;> simp at hA this
section
variable {P : Program} {w0 : Base}
theorem zdf {K K' : Env → Hp → Prop} (hk : ∀ e σ, K e σ → K' e σ) : ∀ (l : List XI) (e : Env) (σ : Hp), xis P w0 l e σ K → xis P w0 l e σ K'
 | [], e, σ, h => hk _ _ h
 | .s x :: r, e, σ, h => zcM h fun v σ' hv => ⟨hv.1, zdf hk r _ _ hv.2⟩
 | .g t b l :: r, e, σ, h => ⟨fun hb => zdG (fun e σ h => zdf hk r e σ h) l e σ (h.1 hb), fun hb => ⟨(h.2 hb).1, zdf hk r _ _ (h.2 hb).2⟩⟩
theorem zhp {s : ASt} {e : Env} {σ : Hp} {K K' : Env → Hp → Prop} (h : xstep P w0 s e σ K) (hk : ∀ e σ, K e σ → K' e σ) : xstep P w0 s e σ K' := by
 unfold xstep at h ⊢
 split at h
 ·exact zcM h fun v σ' hv => hk _ _ hv
 ·exact ⟨fun hb => zcM (h.1 hb) fun v σ' hv => hk _ _ hv, fun hb => hk _ _ (h.2 hb)⟩
theorem zdJ {K K' : Env → Hp → Prop} (hk : ∀ e σ, K e σ → K' e σ) : ∀ (t : zbb) (e : Env) (σ : Hp), xtree P w0 t e σ K → xtree P w0 t e σ K'
 | .done, e, σ, h => hk _ _ h
 | .top, e, σ, h => trivial
 | .quiet s k, e, σ, h => zhp h fun e σ h => zdJ hk k e σ h
 | .eff s st k, e, σ, h => zhp h fun e σ h => ⟨h.1, zdJ hk k e σ h.2⟩
 | .both a b, e, σ, h => ⟨zdJ hk a e σ h.1, zdJ hk b e σ h.2⟩
theorem zbQ : ∀ (c : zO) (Q Q' : Exit → Env → Hp → Prop) (e : Env) (σ : Hp), wpn P w0 c Q e σ → (∀ x e σ, Q x e σ → Q' x e σ) → wpn P w0 c Q' e σ
 | .skip, Q, Q', e, σ, h, hq => hq _ _ _ h
 | .reg l, Q, Q', e, σ, h, hq => zdf (fun e σ h => hq _ _ _ h) l e σ h
 | .par l, Q, Q', e, σ, h, hq => zdf (fun e σ h => hq _ _ _ h) l e σ h
 | .parT t, Q, Q', e, σ, h, hq => zdJ (fun e σ h => hq _ _ _ h) t e σ h
 | .seq a b, Q, Q', e, σ, h, hq => zbQ a _ _ e σ h fun x e σ h => by
  cases x with
  | normal => exact zbQ b Q Q' e σ h hq
  | _ => exact hq _ _ _ h
 | .cond c a b, Q, Q', e, σ, h, hq => by
  obtain ⟨t, h1, h2, h3⟩ := h
  exact ⟨t, h1, fun ht => zbQ a Q Q' e σ (h2 ht) hq, fun ht => zbQ b Q Q' e σ (h3 ht) hq⟩
 | .block id c, Q, Q', e, σ, h, hq => zbQ c _ _ e σ h fun x e σ h => by
  cases x with
  | exit k =>
   simp only [inb] at h ⊢
   split
   ·rename_i hk; rw [if_pos hk] at h; exact hq _ _ _ h
   ·rename_i hk; rw [if_neg hk] at h; exact hq _ _ _ h
  | _ => exact hq _ _ _ h
 | .loop c, Q, Q', e, σ, h, hq => by
  obtain ⟨I, h1, h2⟩ := h
  exact ⟨I, h1, fun n e σ hI => zbQ c _ _ e σ (h2 n e σ hI) fun x e σ h => by
   cases x with
   | normal => exact h
   | _ => exact hq _ _ _ h⟩
 | .exit id, Q, Q', e, σ, h, hq => hq _ _ _ h
 | .ret, Q, Q', e, σ, h, hq => hq _ _ _ h
theorem zh {a b c : zO} {Q : Exit → Env → Hp → Prop} {e : Env} {σ : Hp} (h : wpn P w0 (.seq a (.seq b c)) Q e σ) : wpn P w0 (.seq (.seq a b) c) Q e σ :=
 zbQ a _ _ e σ h fun x e σ h => by
  cases x with
  | normal => exact zbQ b _ _ e σ h fun x e σ h => by cases x <;> exact h
  | _ => exact h
section
variable {b : zO} {Q : Exit → Env → Hp → Prop} {e : Env} {σ : Hp} {d : Option Nat} {op : AOp} {r : List XI}
theorem zbu (h : ∀ K : Value → Hp → Prop, (∀ v σ', wpn P w0 (.seq (.reg r) b) Q (zm e d v) σ' → K v σ') → xop P w0 op e σ K) : wpn P w0 (.seq (.reg (.s ⟨d, op, []⟩ :: r)) b) Q e σ := by
 show xis P w0 (.s ⟨d, op, []⟩ :: r) e σ (fun e' σ' => wpn P w0 b Q e' σ')
 rw [zb6]
 exact h _ fun _ _ h => h
theorem ze (h : wpn P w0 b Q e σ) : wpn P w0 (.seq (.reg []) b) Q e σ := h
theorem zbn {l : List XI} (h : wpn P w0 (.seq (.reg l) b) Q e σ) : wpn P w0 (.seq (.par l) b) Q e σ := h
theorem zy {l : List XI} (h : wpn P w0 (.seq (.reg l) .skip) Q e σ) : wpn P w0 (.reg l) Q e σ := h
theorem zcL {l : List XI} (h : wpn P w0 (.seq (.reg l) .skip) Q e σ) : wpn P w0 (.par l) Q e σ := h
theorem zg0 : ∀ (l : List XJ) (e : Env) (σ : Hp) (K : Env → Hp → Prop), xis P w0 (l.map (fun x => .s ⟨x.d, x.op, x.st⟩) ++ r) e σ K → xjs P w0 l e σ (fun e' σ' => xis P w0 r e' σ' K)
 | [], e, σ, K, h => h
 | x :: l, e, σ, K, h => zcM h fun v σ' hv => ⟨hv.1, zg0 l _ _ _ hv.2⟩
theorem zP {t : Nat} {w : Bool} {l : List XJ} (hb : isB (e t) w = true) (h : wpn P w0 (.seq (.reg (l.map (fun x => .s ⟨x.d, x.op, x.st⟩) ++ r)) b) Q e σ) : wpn P w0 (.seq (.reg (.g t w l :: r)) b) Q e σ :=
 ⟨fun _ => zg0 l e σ _ h, (fun h0 => by rw [hb] at h0; cases h0)⟩
theorem zQ {t : Nat} {w : Bool} {l : List XJ} (hb : isB (e t) w = false) (h : wpn P w0 (.seq (.reg r) b) Q (undefs l e) σ) (hst : (l.all fun x => x.st.isEmpty) = true := by decide) : wpn P w0 (.seq (.reg (.g t w l :: r)) b) Q e σ :=
 ⟨(fun h0 => by rw [hb] at h0; cases h0), fun _ => ⟨zfs l e σ hst, h⟩⟩
theorem zbO {c : Opd} {x y : zO} (hb : ev e c = .bool true) (h : wpn P w0 (.seq x b) Q e σ) : wpn P w0 (.seq (.cond c x y) b) Q e σ := ⟨true, hb, fun _ => h, fun h0 => nomatch h0⟩
theorem zbM {c : Opd} {x y : zO} (hb : ev e c = .bool false) (h : wpn P w0 (.seq y b) Q e σ) : wpn P w0 (.seq (.cond c x y) b) Q e σ := ⟨false, hb, (fun h0 => nomatch h0), fun _ => h⟩
theorem zf (h : Q .normal e σ) : wpn P w0 .skip Q e σ := h
theorem zo (h : wpn P w0 b Q e σ) : wpn P w0 (.seq .skip b) Q e σ := h
theorem zB (h : Q .ret e σ) : wpn P w0 (.seq .ret b) Q e σ := h
theorem z0 {id : Nat} (h : Q (.exit id) e σ) : wpn P w0 (.seq (.exit id) b) Q e σ := h
theorem zba {c : Opd} {x y : zO} (h : wpn P w0 (.seq (.cond c x y) .skip) Q e σ) : wpn P w0 (.cond c x y) Q e σ := by
 obtain ⟨t, h1, h2, h3⟩ := h
 have hq : ∀ x : zO, wpn P w0 x (thn (fun e' σ' => wpn P w0 .skip Q e' σ') Q) e σ → wpn P w0 x Q e σ := fun x h => zbQ x _ _ e σ h fun x e σ h => by cases x <;> exact h
 exact ⟨t, h1, fun ht => hq _ (h2 ht), fun ht => hq _ (h3 ht)⟩
theorem zcp {id : Nat} {c : zO} (h : wpn P w0 (.seq (.block id c) .skip) Q e σ) : wpn P w0 (.block id c) Q e σ :=
 zbQ (.block id c) _ _ e σ h fun x e σ h => by cases x <;> exact h
end
end
section
variable {P : Program} {w0 : Base} {b : zO} {Q : Exit → Env → Hp → Prop} {e : Env} {σ : Hp} {d : Option Nat} {r : List XI}
theorem zg8 {ty len : Nat} {cells : List Value} {parts : List (Nat × Nat × Opd)} {K : Value → Hp → Prop} : xop P w0 (.bslice ty len cells parts) e σ K = aop P w0 (.bslice ty len cells parts) e σ K w0.pan := rfl
theorem zfl {ty n bytes : Nat} {s x : Opd} {K : Value → Hp → Prop} : xop P w0 (.app ty n bytes s x) e σ K = aop P w0 (.app ty n bytes s x) e σ K w0.pan := rfl
theorem RdT.slc {α : Type} {T : Ty α} {σ : Hp} {A : Option Addr} {n c : Nat} {l : List α} (h : RdT T σ (.slice A n c) l) {lo hi : Nat} (h1 : lo ≤ hi) (h2 : hi ≤ l.length) : RdT T σ (.slice (if c = lo then A else A.map (·.add (lo * T.sz))) (hi - lo) (c - lo)) ((l.take hi).drop lo) := by
 obtain ⟨A', c', hv, hc⟩ := h.form
 injection hv with hA hn hc'
 subst hA; subst hn; subst hc'
 have hC := h
 obtain ⟨cells, hR, hK⟩ := h
 obtain ⟨A', c', hv, g1, g2, g3⟩ := hR
 injection hv with hA _ hc'
 subst hA; subst hc'
 have hlen : ((l.take hi).drop lo).length = hi - lo := by simp; omega
 refine ⟨_, ⟨_, c - lo, by rw [hlen], by rw [hlen]; omega, ?_, ?_⟩, (hK.take hi).drop lo⟩
 ·exact ((hK.take hi).drop lo).len
 ·intro j u hu
  have hz := ((hK.take hi).drop lo).len
  rw [hlen] at hz
  have hj : j < (hi - lo) * T.sz := by rw [← hz]; exact (List.getElem?_eq_some_iff.1 hu).1
  have hne : ¬ c = lo := fun he => by
   rw [show hi - lo = 0 from by omega, Nat.zero_mul] at hj; omega
  rw [List.getElem?_drop, List.getElem?_take] at hu
  split at hu
  ·obtain ⟨a, rfl, hl⟩ := g3 _ _ hu
   refine ⟨_, by rw [if_neg hne]; rfl, ?_⟩
   rw [zdl]; exact hl
  ·cases hu
end
def foreign (W : World) : Hp := fun b => match W.heap[b]? with
 | some (.cells cs ty _) => some ⟨cs.toList, ty, cs.size, false⟩
 | _ => none
theorem Inv.start (W : World) : Inv (base W) (foreign W) W := by
 refine ⟨Below.refl _ _, fun b o h => (nomatch h), fun b r hb => ?_⟩
 unfold foreign at hb
 split at hb
 ·rename_i cs ty fr hw
  injection hb with hb
  subst hb
  exact ⟨cs, fr, hw, rfl, List.prefix_refl _, fun h => by cases h⟩
 ·cases hb
theorem zjp {W : World} {a : Addr} {v : Value} (h : W.cell? a = some v) : look (foreign W) a = some v := by
 unfold World.cell? at h
 split at h
 ·rename_i cs ty fr hw
  split at h
  ·cases h
  ·rename_i hs
   unfold look foreign
   rw [if_neg hs, hw]
   show cs.toList[a.off]? = some v
   rw [Array.getElem?_toList]
   exact h
 ·cases h
theorem ACalls.row {P : Program} {W : World} {f : FuncId} {args : Array Value} {K : Value → Hp → Prop} (h : ACalls P (base W) f args (foreign W) K zbg) : Calls P f args W fun e W' => ∃ v, e = .returned v ∧ Below W.heap.size W W' ∧ ∃ σ', K v σ' :=
 (h W (Inv.start W)).mono fun e w' he => by
  cases e with
  | returned v => obtain ⟨σ', hI, hk⟩ := he; exact ⟨v, rfl, hI.below, σ', hk⟩
  | panicked ch => obtain ⟨σ', hI, hk⟩ := he; exact hk.elim
  | outgrown => exact he.elim
theorem wf_i64 {n : Int} (h : (Lit.int .i64 n).wf = true) : -9223372036854775808 ≤ n ∧ n ≤ 9223372036854775807 := by
 simp [Lit.wf, IntKind.min, IntKind.max, IntKind.signed, IntKind.bits] at h
 omega
theorem zij {n : Int} (h : (Lit.int .u8 n).wf = true) : 0 ≤ n ∧ n < 256 := by
 simp [Lit.wf, IntKind.min, IntKind.max, IntKind.signed, IntKind.bits] at h
 omega
abbrev Ob := List (Nat × Row)
def Has (os : List Ob) (i b : Nat) (r : Row) : Prop := ∃ o, os[i]? = some o ∧ (b, r) ∈ o
structure Obs (τ σ : Hp) (os : List Ob) : Prop where
 base : Hp.le τ σ
 rowH : ∀ (i b : Nat) (r : Row), Has os i b r → σ b = some r ∧ τ b = none
 apartH : ∀ (i j b : Nat) (r r' : Row), Has os i b r → Has os j b r' → i = j
 nd : ∀ (i : Nat) (o : Ob), os[i]? = some o → o.Pairwise fun x y => x.1 ≠ y.1
section
variable {τ σ σ' : Hp} {os os' : List Ob} {i j b : Nat} {r : Row} {o : Ob}
theorem Has.lt (h : Has os i b r) : i < os.length := (List.getElem?_eq_some_iff.1 h.choose_spec.1).1
theorem Has.one {i b : Nat} {r : Row} (h : os[i]? = some [(b, r)]) : Has os i b r := ⟨_, h, List.mem_singleton.2 rfl⟩
theorem zbW (h : Has (os ++ os') i b r) : (i < os.length ∧ Has os i b r) ∨ (os.length ≤ i ∧ Has os' (i - os.length) b r) := by
 obtain ⟨o, h1, h2⟩ := h
 rw [List.getElem?_append] at h1
 split at h1
 ·rename_i hi; exact .inl ⟨hi, o, h1, h2⟩
 ·rename_i hi; exact .inr ⟨Nat.le_of_not_lt hi, o, h1, h2⟩
theorem Has.inl (h : Has os i b r) : Has (os ++ os') i b r := by
 obtain ⟨o, h1, h2⟩ := h
 exact ⟨o, by rw [List.getElem?_append_left (List.getElem?_eq_some_iff.1 h1).1]; exact h1, h2⟩
theorem Has.inr (h : Has os' i b r) : Has (os ++ os') (os.length + i) b r := by
 obtain ⟨o, h1, h2⟩ := h
 exact ⟨o, by rw [List.getElem?_append_right (by omega), Nat.add_sub_cancel_left]; exact h1, h2⟩
theorem zeB (h : Has [o] i b r) : i = 0 ∧ (b, r) ∈ o := by
 obtain ⟨o', h1, h2⟩ := h
 cases i with
 | zero => simp at h1; subst h1; exact ⟨rfl, h2⟩
 | succ k => simp at h1
theorem zbC (h : Has (os.set j o) i b r) : (i = j ∧ (b, r) ∈ o) ∨ (i ≠ j ∧ Has os i b r) := by
 obtain ⟨o', h1, h2⟩ := h
 rw [List.getElem?_set] at h1
 split at h1
 ·rename_i hk
  split at h1
  ·simp at h1; subst h1; exact .inl ⟨hk.symm, h2⟩
  ·simp at h1
 ·rename_i hk
  exact .inr ⟨fun e => hk e.symm, o', h1, h2⟩
theorem Obs.row (h : Obs τ σ os) (i b : Nat) (r : Row) (hi : os[i]? = some [(b, r)]) : σ b = some r ∧ τ b = none := h.rowH i b r (.one hi)
theorem zeF (x : Nat × Row) : List.Pairwise (fun x y : Nat × Row => x.1 ≠ y.1) [x] := List.pairwise_singleton _ _
theorem zbZ (h : ∀ (i : Nat) (o : Ob), os[i]? = some o → o.Pairwise fun x y => x.1 ≠ y.1) (ho : o.Pairwise fun x y => x.1 ≠ y.1) : ∀ (i : Nat) (o' : Ob), (os.set j o)[i]? = some o' → o'.Pairwise fun x y => x.1 ≠ y.1 := fun i o' e => by
 rw [List.getElem?_set] at e
 split at e
 ·split at e
  ·simp at e; subst e; exact ho
  ·simp at e
 ·exact h i o' e
theorem zd3 (h : ∀ (i : Nat) (o : Ob), os[i]? = some o → o.Pairwise fun x y => x.1 ≠ y.1) (h' : ∀ (i : Nat) (o : Ob), os'[i]? = some o → o.Pairwise fun x y => x.1 ≠ y.1) : ∀ (i : Nat) (o' : Ob), (os ++ os')[i]? = some o' → o'.Pairwise fun x y => x.1 ≠ y.1 := fun i o' e => by
 rw [List.getElem?_append] at e
 split at e
 ·exact h i o' e
 ·exact h' _ o' e
theorem zfp {o : Ob} (ho : o.Pairwise fun x y => x.1 ≠ y.1) : ∀ (i : Nat) (o' : Ob), [o][i]? = some o' → o'.Pairwise fun x y => x.1 ≠ y.1 := fun i o' e => by
 cases i with
 | zero => simp at e; subst e; exact ho
 | succ k => simp at e
theorem Obs.nil (σ : Hp) : Obs σ σ [] := ⟨Hp.le.refl σ, fun i b r ⟨o, h, _⟩ => by simp at h, fun i j b r r' ⟨o, h, _⟩ => by simp at h, fun i o h => by simp at h⟩
theorem Obs.mono (h : Obs τ σ os) (hle : Hp.le σ σ') : Obs τ σ' os := ⟨h.base.trans hle, fun i b r e => ⟨hle _ _ (h.rowH i b r e).1, (h.rowH i b r e).2⟩, h.apartH, h.nd⟩
theorem Obs.add (h : Obs τ σ os) {b : Nat} (hb : σ b = none) (r : Row) : Obs τ (σ.set b r) (os ++ [[(b, r)]]) := by
 have hne : ∀ {k q}, σ k = some q → k ≠ b := fun h he => by subst he; rw [hb] at h; cases h
 refine ⟨h.base.trans (Hp.le_set hb), fun i c q e => ?_, fun i j c q q' e1 e2 => ?_, zd3 h.nd (zfp (zeF _))⟩
 ·rcases zbW e with ⟨_, e⟩ | ⟨_, e⟩
  ·obtain ⟨h1, h2⟩ := h.rowH i c q e
   exact ⟨by rw [Hp.set_ne _ _ (hne h1)]; exact h1, h2⟩
  ·obtain ⟨_, e⟩ := zeB e
   have e := List.mem_singleton.1 e
   injection e with e1 e2
   subst e1; subst e2
   refine ⟨Hp.set_eq _ _ _, ?_⟩
   cases hτ : τ c with
   | none => rfl
   | some x => exact absurd rfl (hne (h.base _ _ hτ))
 ·have key : ∀ (i : Nat) (q : Row), Has (os ++ [[(b, r)]]) i c q → (i < os.length ∧ Has os i c q) ∨ (i = os.length ∧ c = b) := fun i q e => by
   rcases zbW e with ⟨hi, e⟩ | ⟨hi, e⟩
   ·exact .inl ⟨hi, e⟩
   ·obtain ⟨h0, e⟩ := zeB e
    have e := List.mem_singleton.1 e
    injection e with e1 e2
    exact .inr ⟨by omega, e1⟩
  rcases key i q e1 with ⟨hi, k1⟩ | ⟨hi, k1⟩ <;> rcases key j q' e2 with ⟨hj, k2⟩ | ⟨hj, k2⟩
  ·exact h.apartH i j c q q' k1 k2
  ·exact absurd k2 (hne (h.rowH _ _ _ k1).1)
  ·exact absurd k1 (hne (h.rowH _ _ _ k2).1)
  ·omega
theorem Obs.no (h : Obs τ σ os) : Obs τ σ (os ++ [[]]) := by
 have key : ∀ (i c : Nat) (q : Row), Has (os ++ [[]]) i c q → Has os i c q := fun i c q e => by
  rcases zbW e with ⟨_, e⟩ | ⟨_, e⟩
  ·exact e
  ·exact absurd (zeB e).2 (by simp)
 exact ⟨h.base, fun i c q e => h.rowH i c q (key i c q e), fun i j c q q' e1 e2 => h.apartH i j c q q' (key _ _ _ e1) (key _ _ _ e2), zd3 h.nd (zfp .nil)⟩
theorem Obs.sel (h : Obs τ σ os) (is : List Nat) (hn : is.Nodup := by decide) : Obs τ σ (is.map fun i => os.getD i []) := by
 have get : ∀ (i : Nat) (o : Ob), (is.map fun i => os.getD i [])[i]? = some o → ∃ k, is[i]? = some k ∧ (os[k]? = some o ∨ o = []) := fun i o e => by
  rw [List.getElem?_map] at e
  obtain ⟨k, hk, e⟩ := Option.map_eq_some_iff.1 e
  refine ⟨k, hk, ?_⟩
  rw [List.getD_eq_getElem?_getD] at e
  cases ho : os[k]? with
  | none => rw [ho] at e; exact .inr e.symm
  | some x => rw [ho] at e; simp at e; subst e; exact .inl rfl
 have key : ∀ (i c : Nat) (q : Row), Has (is.map fun i => os.getD i []) i c q → ∃ k, is[i]? = some k ∧ Has os k c q := fun i c q e => by
  obtain ⟨o, e, hm⟩ := e
  obtain ⟨k, hk, h1 | h1⟩ := get i o e
  ·exact ⟨k, hk, o, h1, hm⟩
  ·subst h1; simp at hm
 refine ⟨h.base, fun i c q e => ?_, fun i j c q q' e1 e2 => ?_, fun i o e => ?_⟩
 ·obtain ⟨k, _, hk⟩ := key i c q e
  exact h.rowH k c q hk
 ·obtain ⟨k1, a1, h1⟩ := key i c q e1
  obtain ⟨k2, a2, h2⟩ := key j c q' e2
  have := h.apartH k1 k2 c q q' h1 h2
  subst this
  exact (List.getElem?_inj (List.getElem?_eq_some_iff.1 a1).1 hn).1 (a1.trans a2.symm)
 ·obtain ⟨k, hk, h1 | h1⟩ := get i o e
  ·exact h.nd k o h1
  ·subst h1; exact .nil
theorem Obs.put (h : Obs τ σ os) {i b : Nat} {r : Row} (hi : os[i]? = some [(b, r)]) (r' : Row) : Obs τ (σ.set b r') (os.set i [(b, r')]) := by
 have hil := (List.getElem?_eq_some_iff.1 hi).1
 have key : ∀ (k c : Nat) (q : Row), Has (os.set i [(b, r')]) k c q → (k = i ∧ c = b ∧ q = r') ∨ (k ≠ i ∧ Has os k c q) := fun k c q e => by
  rcases zbC e with ⟨hk, e⟩ | e
  ·have e := List.mem_singleton.1 e
   injection e with e1 e2
   exact .inl ⟨hk, e1, e2⟩
  ·exact .inr e
 refine ⟨fun c q e => ?_, fun k c q e => ?_, fun k l c q q' e1 e2 => ?_, zbZ h.nd (zeF _)⟩
 ·rw [Hp.set_ne _ _ (fun he => by subst he; rw [(h.row _ _ _ hi).2] at e; cases e)]
  exact h.base c q e
 ·rcases key k c q e with ⟨rfl, rfl, rfl⟩ | ⟨hk, e3⟩
  ·exact ⟨Hp.set_eq _ _ _, (h.row _ _ _ hi).2⟩
  ·obtain ⟨h1, h2⟩ := h.rowH k c q e3
   refine ⟨?_, h2⟩
   rw [Hp.set_ne _ _ (fun he => by subst he; exact hk (h.apartH k i c q r e3 (.one hi)))]
   exact h1
 ·rcases key k c q e1 with ⟨rfl, rfl, rfl⟩ | ⟨hk, e3⟩ <;> rcases key l c q' e2 with ⟨rfl, h5, rfl⟩ | ⟨hl, e4⟩
  ·rfl
  ·exact absurd (h.apartH _ _ _ _ _ (.one hi) e4) (fun he => hl he.symm)
  ·subst h5; exact absurd (h.apartH _ _ _ _ _ e3 (.one hi)) hk
  ·exact h.apartH _ _ _ _ _ e3 e4
theorem Obs.share (h : Obs τ σ os) {i b : Nat} {r : Row} (hi : os[i]? = some [(b, r)]) : Hp.le τ (τ.set b r) ∧ Obs (τ.set b r) σ (os.set i []) := by
 obtain ⟨hs, ht⟩ := h.row _ _ _ hi
 have key : ∀ (k c : Nat) (q : Row), Has (os.set i []) k c q → k ≠ i ∧ Has os k c q := fun k c q e => by
  rcases zbC e with ⟨_, e⟩ | e
  ·simp at e
  ·exact e
 refine ⟨Hp.le_set ht, fun c q e => ?_, fun k c q e => ?_, fun k l c q q' e1 e2 => h.apartH k l c q q' (key _ _ _ e1).2 (key _ _ _ e2).2, zbZ h.nd .nil⟩
 ·by_cases hc : c = b
  ·subst hc
   rw [Hp.set_eq] at e
   injection e with e
   subst e
   exact hs
  ·rw [Hp.set_ne _ _ hc] at e
   exact h.base c q e
 ·obtain ⟨hk, e⟩ := key k c q e
  obtain ⟨h1, h2⟩ := h.rowH k c q e
  refine ⟨h1, ?_⟩
  rw [Hp.set_ne _ _ (fun he => by subst he; exact hk (h.apartH k i c q r e (.one hi)))]
  exact h2
end
def Ctr (P : Program) (f : FuncId) (args : Array Value) (τ : Hp) (vs : List Ob) (K : Value → Hp → List Ob → Prop) : Prop :=
 ∀ (w0 : Base) (ρ : Hp), Obs τ ρ vs → ACalls P w0 f args ρ (fun v ρ' => ∃ τ' vs', Obs τ' ρ' vs' ∧ Hp.le τ τ' ∧ K v τ' vs') zbg
theorem ACalls.fr {P : Program} {w0 : Base} {f : FuncId} {args : Array Value} {τ σ : Hp} {hs vs : List Ob} {K : Value → Hp → List Ob → Prop} (hO : Obs τ σ (hs ++ vs)) (hC : Ctr P f args τ vs K) :
  ACalls P w0 f args σ (fun v σ' => ∃ τ' vs', Obs τ' σ' (hs ++ vs') ∧ Hp.le τ τ' ∧ K v τ' vs') zbg := by
 intro w hI
 classical
 have hrow : ∀ (i b : Nat) (r : Row), Has hs i b r → σ b = some r ∧ τ b = none := fun i b r e => hO.rowH i b r e.inl
 have vrow : ∀ (i b : Nat) (r : Row), Has vs i b r → Has (hs ++ vs) (hs.length + i) b r := fun i b r e => e.inr
 let H : Nat → Prop := fun b => ∃ (i : Nat) (r : Row), Has hs i b r
 let w1 : Base := { world := w0.world, hid := fun b => if H b then w.heap[b]? else w0.hid b }
 let ρ : Hp := fun b => if H b then none else σ b
 have hρ : Obs τ ρ vs := by
  refine ⟨fun b r e => ?_, fun i b r e => ?_, fun i j b r r' e1 e2 => ?_, fun i o e => hO.nd (hs.length + i) o (by rw [List.getElem?_append_right (by omega), Nat.add_sub_cancel_left]; exact e)⟩
  ·have hn : ¬ H b := fun ⟨i, q, h⟩ => by rw [(hrow i b q h).2] at e; cases e
   simp only [ρ, if_neg hn]
   exact hO.base b r e
  ·obtain ⟨h1, h2⟩ := hO.rowH _ b r (vrow i b r e)
   have hn : ¬ H b := fun ⟨k, q, h⟩ => by
    have hk := h.lt
    have := hO.apartH k (hs.length + i) b q r h.inl (vrow i b r e)
    omega
   exact ⟨by simp only [ρ, if_neg hn]; exact h1, h2⟩
  ·have := hO.apartH _ _ b r r' (vrow i b r e1) (vrow j b r' e2)
   omega
 have hI1 : Inv w1 ρ w := by
  refine ⟨hI.below, fun b o ho => ?_, fun b r hb => ?_⟩
  ·by_cases hH : H b
   ·simp only [w1, if_pos hH] at ho
    exact ⟨by simp only [ρ, if_pos hH], ho⟩
   ·simp only [w1, if_neg hH] at ho
    exact ⟨by simp only [ρ, if_neg hH]; exact (hI.hid b o ho).1, (hI.hid b o ho).2⟩
  ·by_cases hH : H b
   ·simp only [ρ, if_pos hH] at hb; cases hb
   ·simp only [ρ, if_neg hH] at hb
    exact hI.row b r hb
 refine (hC w1 ρ hρ w hI1).mono fun e w' he => ?_
 cases e with
 | panicked ch => obtain ⟨_, _, h⟩ := he; exact h.elim
 | outgrown => exact he
 | returned v =>
  obtain ⟨ρ', hI', τ', vs', hO', hle, hK⟩ := he
  have hH' : ∀ b, H b → ρ' b = none ∧ w'.heap[b]? = w.heap[b]? := fun b hH => by
   obtain ⟨i, r, hi⟩ := hH
   obtain ⟨cs, fr, hw, _⟩ := hI.row b r (hrow i b r hi).1
   have := hI'.hid b _ (show w1.hid b = some _ from by simp only [w1, if_pos (show H b from ⟨i, r, hi⟩)]; exact hw)
   exact ⟨this.1, by rw [this.2, hw]⟩
  refine ⟨fun b => if H b then σ b else ρ' b, ⟨hI'.below, fun b o ho => ?_, fun b r hb => ?_⟩, τ', vs', ⟨fun b r e => ?_, fun i b r e => ?_, fun i j b r r' e1 e2 => ?_, zd3 (fun i o e => hO.nd i o (by rw [List.getElem?_append_left (List.getElem?_eq_some_iff.1 e).1]; exact e)) hO'.nd⟩, hle, hK⟩
  ·have hn : ¬ H b := fun ⟨i, q, h⟩ => by have := (hI.hid b o ho).1; rw [(hrow i b q h).1] at this; cases this
   have := hI'.hid b o (show w1.hid b = some o from by simp only [w1, if_neg hn]; exact ho)
   exact ⟨by simp only [if_neg hn]; exact this.1, this.2⟩
  ·by_cases hH : H b
   ·simp only [if_pos hH] at hb
    obtain ⟨cs, fr, hw, h1⟩ := hI.row b r hb
    exact ⟨cs, fr, by rw [(hH' b hH).2]; exact hw, h1⟩
   ·simp only [if_neg hH] at hb
    exact hI'.row b r hb
  ·have := hO'.base b r e
   have hn : ¬ H b := fun h => by rw [(hH' b h).1] at this; cases this
   simp only [if_neg hn]
   exact this
  ·rcases zbW e with ⟨_, e⟩ | ⟨_, e⟩
   ·have hH : H b := ⟨i, r, e⟩
    simp only [if_pos hH]
    refine ⟨(hrow i b r e).1, ?_⟩
    cases ht : τ' b with
    | none => rfl
    | some q => have := hO'.base b q ht; rw [(hH' b hH).1] at this; cases this
   ·obtain ⟨h1, h2⟩ := hO'.rowH _ b r e
    have hn : ¬ H b := fun h => by rw [(hH' b h).1] at h1; cases h1
    simp only [if_neg hn]
    exact ⟨h1, h2⟩
  ·rcases zbW e1 with ⟨hi, e1⟩ | ⟨hi, e1⟩ <;> rcases zbW e2 with ⟨hj, e2⟩ | ⟨hj, e2⟩
   ·exact hO.apartH i j b r r' e1.inl e2.inl
   ·have h1 := (hO'.rowH _ b r' e2).1; rw [(hH' b ⟨i, r, e1⟩).1] at h1; cases h1
   ·have h1 := (hO'.rowH _ b r e1).1; rw [(hH' b ⟨j, r', e2⟩).1] at h1; cases h1
   ·have := hO'.apartH _ _ b r r' e1 e2
    omega
def zj {α : Type} (T : Ty α) (ty : Nat) (τ : Hp) (v : Value) (l : List α) (o : Ob) : Prop :=
 (v = .slice none 0 0 ∧ l = [] ∧ o = []) ∨ ∃ b cap cells rest, v = .slice (some ⟨b, 0, none⟩) l.length cap ∧ l.length ≤ cap ∧ cap ≤ maxLen ∧ o = [(b, ⟨cells ++ rest, ty, cap * T.sz, true⟩)] ∧ Chunks T τ l cells
section
variable {α : Type} {T : Ty α} {ty : Nat} {τ τ' σ : Hp} {v : Value} {l : List α} {o : Ob} {os : List Ob}
theorem zj.nil (T : Ty α) (ty : Nat) (τ : Hp) : zj T ty τ (.slice none 0 0) [] [] := .inl ⟨rfl, rfl, rfl⟩
theorem zj.le (h : zj T ty τ v l o) (hle : Hp.le τ τ') : zj T ty τ' v l o := by
 rcases h with h | ⟨b, cap, cells, rest, h1, h2, h3, h4, h5⟩
 ·exact .inl h
 ·exact .inr ⟨b, cap, cells, rest, h1, h2, h3, h4, h5.mono hle⟩
theorem zj.form (h : zj T ty τ v l o) : ∃ A c, v = .slice A l.length c ∧ l.length ≤ c := by
 rcases h with ⟨rfl, rfl, _⟩ | ⟨b, cap, cells, rest, rfl, h2, _⟩
 ·exact ⟨none, 0, rfl, Nat.le_refl _⟩
 ·exact ⟨_, cap, rfl, h2⟩
theorem zj.x (h : zj T ty τ v l o) {i : Nat} (hO : Obs τ σ os) (hi : os[i]? = some o) : ∃ cells, zbE ty T.sz σ v l.length cells ∧ Chunks T τ l cells := by
 rcases h with ⟨rfl, rfl, rfl⟩ | ⟨b, cap, cells, rest, rfl, h2, h3, rfl, h5⟩
 ·exact ⟨[], ⟨by simp, .inl ⟨rfl, rfl⟩⟩, rfl⟩
 ·exact ⟨cells, ⟨h5.len, .inr ⟨b, cap, rest, rfl, h2, h3, (hO.row i b _ hi).1⟩⟩, h5⟩
theorem zj.share (h : zj T ty τ v l o) {i : Nat} (hO : Obs τ σ os) (hi : os[i]? = some o) : ∃ τ', Hp.le τ τ' ∧ RdT T τ' v l ∧ Obs τ' σ (os.set i []) := by
 rcases h with ⟨rfl, rfl, rfl⟩ | ⟨b, cap, cells, rest, rfl, h2, h3, rfl, h5⟩
 ·refine ⟨τ, Hp.le.refl _, RdT.nil T τ, ?_⟩
  have : os.set i [] = os := by
   apply List.ext_getElem?
   intro k
   rw [List.getElem?_set]
   split
   ·rename_i hk; subst hk; rw [if_pos (List.getElem?_eq_some_iff.1 hi).1, hi]
   ·rfl
  rw [this]
  exact hO
 ·obtain ⟨hle, hO'⟩ := hO.share hi
  refine ⟨_, hle, ⟨cells, ⟨_, cap, rfl, h2, h5.len, fun j u hu => ⟨_, rfl, ?_⟩⟩, h5.mono hle⟩, hO'⟩
  rw [zbl, Nat.zero_add, zeN]
  show (cells ++ rest)[j]? = some u
  rw [List.getElem?_append_left (List.getElem?_eq_some_iff.1 hu).1]
  exact hu
theorem zj.grow (h : zj T ty τ v l o) {i n : Nat} (hO : Obs τ σ os) (hi : os[i]? = some o) {σ' : Hp} {v' : Value} {cells' : List Value} {l' : List α} (hg : Grow σ v σ' v') (hx : zck ty T.sz σ' v' l'.length cells') (hC : Chunks T τ l' cells') :
  ∃ o', zj T ty τ v' l' o' ∧ Obs τ σ' (os.set i o') := by
 have hil := (List.getElem?_eq_some_iff.1 hi).1
 have hone : ∀ b, blk v = some b → ∃ q, o = [(b, q)] := fun b hb => by
  rcases h with ⟨rfl, rfl, rfl⟩ | ⟨c, cap, cells, rest, rfl, h2, h3, rfl, h5⟩
  ·cases hb
  ·injection hb with hb
   have hb : c = b := hb
   subst hb
   exact ⟨_, rfl⟩
 have off : ∀ (k b : Nat) (r : Row), k ≠ i → Has os k b r → blk v ≠ some b := fun k b r hk hb he => by
  obtain ⟨q, rfl⟩ := hone b he
  exact hk (hO.apartH k i b r q hb (.one hi))
 have offτ : ∀ (b : Nat) (r : Row), τ b = some r → blk v ≠ some b := fun b r hb he => by
  obtain ⟨q, rfl⟩ := hone b he
  rw [(hO.row i b q hi).2] at hb; cases hb
 have hbase : Hp.le τ σ' := fun b r hb => hg.1 b r (offτ b r hb) (hO.base b r hb)
 have hkeep : ∀ (k b : Nat) (r : Row), k ≠ i → Has os k b r → σ' b = some r ∧ τ b = none := fun k b r hk hb => ⟨hg.1 b r (off k b r hk hb) (hO.rowH k b r hb).1, (hO.rowH k b r hb).2⟩
 obtain ⟨hl, ⟨rfl, h2⟩ | ⟨b', cap, rfl, h2, h3, h4⟩⟩ := hx
 ·have hnil : l' = [] := List.eq_nil_of_length_eq_zero h2
  subst hnil
  refine ⟨[], zj.nil T ty τ, hbase, fun k b r e => ?_, fun k j b r r' e1 e2 => ?_, zbZ hO.nd .nil⟩
  ·rcases zbC e with ⟨_, e⟩ | ⟨hk, e⟩
   ·simp at e
   ·exact hkeep k b r hk e
  ·rcases zbC e1 with ⟨_, e1⟩ | ⟨_, e1⟩
   ·simp at e1
   ·rcases zbC e2 with ⟨_, e2⟩ | ⟨_, e2⟩
    ·simp at e2
    ·exact hO.apartH k j b r r' e1 e2
 ·refine ⟨[(b', ⟨cells', ty, cap * T.sz, true⟩)], .inr ⟨b', cap, cells', [], rfl, h2, h3, by rw [List.append_nil], hC⟩, hbase, fun k b r e => ?_, fun k j b r r' e1 e2 => ?_, zbZ hO.nd (zeF _)⟩
  ·rcases zbC e with ⟨_, e⟩ | ⟨hk, e⟩
   ·simp at e
    obtain ⟨rfl, rfl⟩ := e
    refine ⟨h4, ?_⟩
    cases ht : τ b with
    | none => rfl
    | some q =>
     rcases hg.2.1 with h5 | ⟨c, h5, h6⟩
     ·exact absurd h5.symm (offτ b q ht)
     ·injection h5 with h5
      have h5 : b = c := h5
      subst h5
      rw [hO.base b q ht] at h6; cases h6
   ·exact hkeep k b r hk e
  ·have new : ∀ (k : Nat) (r : Row), k ≠ i → Has os k b' r → False := fun k r hk e => by
    rcases hg.2.1 with h5 | ⟨c, h5, h6⟩
    ·exact off k b' r hk e h5.symm
    ·injection h5 with h5
     have h5 : b' = c := h5
     subst h5
     rw [(hO.rowH k b' r e).1] at h6; cases h6
   rcases zbC e1 with ⟨hk, g1⟩ | ⟨hk, g1⟩ <;> rcases zbC e2 with ⟨hj, g2⟩ | ⟨hj, g2⟩
   ·omega
   ·simp at g1
    obtain ⟨rfl, _⟩ := g1
    exact (new j r' hj g2).elim
   ·simp at g2
    obtain ⟨rfl, _⟩ := g2
    exact (new k r hk g1).elim
   ·exact hO.apartH k j b r r' g1 g2
end
def zn {α : Type} (l : List α) (i : Int) : Option α := if 0 ≤ i then l[i.toNat]? else none
def room (n : Nat) : Option Unit := if n ≤ 1099511627776 then some () else none
def zcK {α : Type} (l : List α) (lo hi : Int) : Option (List α) := if 0 ≤ lo ∧ lo ≤ hi ∧ hi ≤ l.length then some ((l.take hi.toNat).drop lo.toNat) else none
theorem zdd {α : Type} {l : List α} {i : Int} {x : α} (h : zn l i = some x) : 0 ≤ i ∧ l[i.toNat]? = some x := by
 unfold zn at h
 split at h
 ·exact ⟨by assumption, h⟩
 ·cases h
theorem zii {n : Nat} {u : Unit} (h : room n = some u) : n ≤ 1099511627776 := by
 unfold room at h
 split at h
 ·assumption
 ·cases h
theorem zjK {α : Type} {l m : List α} {lo hi : Int} (h : zcK l lo hi = some m) : 0 ≤ lo ∧ lo ≤ hi ∧ hi ≤ l.length ∧ m = (l.take hi.toNat).drop lo.toNat := by
 unfold zcK at h
 split at h
 ·rename_i hc; injection h with h; exact ⟨hc.1, hc.2.1, hc.2.2, h.symm⟩
 ·cases h
theorem zY {α : Type} {b : Bool} {A B : Option α} {r : α} (h : (if b = true then A else B) = some r) : (b = true ∧ A = some r) ∨ (b = false ∧ B = some r) := by
 cases b with
 | true => exact .inl ⟨rfl, h⟩
 | false => exact .inr ⟨rfl, h⟩
theorem bind_some {α β : Type} {a : Option α} {f : α → Option β} {r : β} (h : a.bind f = some r) : ∃ x, a = some x ∧ f x = some r := Option.bind_eq_some_iff.1 h
def sets : List (Nat × Value) → Env → Env
 | [], e => e
 | (k, v) :: r, e => fun n => if n = k then v else sets r e n
def agr : List (Nat × Value) → Env → Prop
 | [], _ => True
 | (k, v) :: r, e => e k = v ∧ agr r e
theorem zD : ∀ (L : List (Nat × Value)) (e : Env), agr L e → sets L e = e
 | [], e, _ => rfl
 | (k, v) :: r, e, h => by
  funext n
  simp only [sets]
  split
  ·rename_i hn; subst hn; exact h.1.symm
  ·rw [zD r e h.2]
def qv (o : AOp) (e : Env) : Option Value := match o with
 | .mv x => some (ev e x)
 | .pick c a b => match ev e c with
  | .bool t => some (if t = true then ev e a else ev e b)
  | _ => none
 | .bin op x y => binv op (ev e x) (ev e y)
 | .beq neg x y => match ev e x, ev e y with
  | .bool a, .bool b => some (.bool (if neg then !(a == b) else a == b))
  | _, _ => none
 | .aeq neg n x y => match ev e x, ev e y with
  | .agg xs, .agg ys => (zbc n xs.toList ys.toList).map fun b => .bool (if neg then !b else b)
  | _, _ => none
 | .snil neg x => match ev e x with
  | .slice A _ _ => some (.bool (if neg then !A.isNone else A.isNone))
  | _ => none
 | .pnil neg x => match ev e x with
  | .pointer A => some (.bool (if neg then !A.isNone else A.isNone))
  | _ => none
 | .inil neg x => (ifn (ev e x)).map fun b => .bool (if neg then !b else b)
 | .tas t z x => tasv t z (ev e x)
 | .un op x => unv op (ev e x)
 | .cint k x => match ev e x with
  | .int _ n => some (.int k (k.wrap n))
  | _ => none
 | .field agg off n x => match ev e x with
  | .agg cs => partv agg off n cs
  | _ => none
 | .ext i x => match ev e x with
  | .tuple vs => vs[i]?
  | _ => none
 | .mkif t x => some (.iface t (ev e x))
 | .mkfn fn first cap => some (.func fn (first.map (ev e)).toArray (cap.map (ev e)).toArray)
 | .build zero parts => (zbD zero (parts.map fun p => (p.1, p.2.1, ev e p.2.2))).map fun cs => .agg cs.toArray
 | .faddr off x => match ev e x with
  | .pointer (some a) => some (.pointer (some (a.add off)))
  | _ => none
 | .nilchk x => match zcU (ev e x) with
  | true => some (ev e x)
  | false => none
 | .lenS x => match ev e x with
  | .string s => some (.int .i64 s.size)
  | _ => none
 | .lenL x => match ev e x with
  | .slice _ n _ => some (.int .i64 n)
  | _ => none
 | .lenA n => some (.int .i64 n)
 | .aaddr len n x i => match ev e x, ev e i with
  | .pointer (some a), .int _ q => if 0 ≤ q ∧ q < len then some (.pointer (some (a.add (q.toNat * n)))) else none
  | _, _ => none
 | .capL x => match ev e x with
  | .slice _ _ c => some (.int .i64 c)
  | _ => none
 | .minmax mx x xs => match ev e x with
  | .int k a => (minmaxv mx k a (xs.map (ev e))).map (.int k)
  | _ => none
 | _ => none
theorem zi3 {P : Program} {w0 : Base} {o : AOp} {e : Env} {σ : Hp} {v : Value} {K : Value → Hp → Prop} (h : qv o e = some v) (k : K v σ) : xop P w0 o e σ K := by
 cases o <;> simp only [qv, reduceCtorEq] at h <;> unfold xop <;> dsimp only
 case mv => injection h with h; subst h; exact k
 case pick => split at h <;> first | (rename_i hh; (try rw [hh]); injection h with h; subst h; exact k) | cases h
 case bin => exact ⟨v, h, k⟩
 case beq => split at h <;> first | (rename_i h1 h2; (try rw [h1, h2]); injection h with h; subst h; exact k) | cases h
 case aeq =>
  split at h
  ·rename_i h1 h2
   rw [h1, h2]
   obtain ⟨b, h3, rfl⟩ := Option.map_eq_some_iff.1 h
   exact ⟨b, h3, k⟩
  ·cases h
 case snil => split at h <;> first | (rename_i hh; (try rw [hh]); injection h with h; subst h; exact k) | cases h
 case inil => obtain ⟨b, h3, rfl⟩ := Option.map_eq_some_iff.1 h; exact ⟨b, h3, k⟩
 case tas => exact ⟨v, h, k⟩
 case pnil => split at h <;> first | (rename_i hh; (try rw [hh]); injection h with h; subst h; exact k) | cases h
 case un => exact ⟨v, h, k⟩
 case cint => split at h <;> first | (rename_i hh; (try rw [hh]); injection h with h; subst h; exact k) | cases h
 case field => split at h <;> first | (rename_i hh; (try rw [hh]); exact ⟨v, h, k⟩) | cases h
 case ext => split at h <;> first | (rename_i hh; (try rw [hh]); exact ⟨v, h, k⟩) | cases h
 case mkif => injection h with h; subst h; exact k
 case mkfn => injection h with h; subst h; exact k
 case build =>
  obtain ⟨cs, h1, rfl⟩ := Option.map_eq_some_iff.1 h
  exact ⟨cs, h1, k⟩
 case faddr => split at h <;> first | (rename_i hh; (try rw [hh]); injection h with h; subst h; exact ⟨rfl, k⟩) | cases h
 case nilchk => split at h <;> first | (rename_i hh; injection h with h; subst h; exact ⟨hh, k⟩) | cases h
 case lenS => split at h <;> first | (rename_i hh; (try rw [hh]); injection h with h; subst h; exact k) | cases h
 case lenL => split at h <;> first | (rename_i hh; (try rw [hh]); injection h with h; subst h; exact k) | cases h
 case lenA => injection h with h; subst h; exact k
 case aaddr =>
  split at h
  ·rename_i h1 h2
   split at h
   ·rename_i hc
    injection h with h
    subst h
    (try rw [h1, h2])
    exact ⟨hc.1, hc.2, rfl, k⟩
   ·cases h
  ·cases h
 case capL => split at h <;> first | (rename_i hh; (try rw [hh]); injection h with h; subst h; exact k) | cases h
 case minmax =>
  split at h
  ·rename_i hh
   try rw [hh]
   obtain ⟨r, h1, rfl⟩ := Option.map_eq_some_iff.1 h
   exact ⟨r, h1, k⟩
  ·cases h
def zeR (cells : List Value) (off : Nat) (agg : Bool) (n : Nat) : Option Value := if agg then (if (cells.drop off).length < n then none else some (.agg ((cells.drop off).take n).toArray)) else cells[off]?
def qoj (os : List Ob) : List XJ → List Nat → Env → (List Nat → Env → Prop) → Prop
 | [], hs, e, K => K hs e
 | ⟨d, .load agg n x, []⟩ :: r, i :: hs, e, K => match ev e x with
  | .pointer (some a) => match os[i]? with
   | some [(b, row)] => (a.block = b ∧ a.spot = none) ∧ (match zeR row.cells a.off agg n with
    | some v => qoj os r hs (zm e d v) K
    | none => False)
   | _ => False
  | _ => False
 | ⟨d, op, []⟩ :: r, hs, e, K => match qv op e with
  | some v => qoj os r hs (zm e d v) K
  | none => False
 | _, _, _, _ => False
def dsts (l : List XJ) : List Nat := l.filterMap (·.d)
def msk (D : List Nat) (J e : Env) : Env := fun k => if D.contains k = true then J k else e k
def pk : XJ → Option (Nat × Opd × Opd × Opd)
 | ⟨some dp, .pick c a b, []⟩ => some (dp, c, a, b)
 | _ => none
theorem zjH {y : XJ} {q : Nat × Opd × Opd × Opd} (h : pk y = some q) : y = ⟨some q.1, .pick q.2.1 q.2.2.1 q.2.2.2, []⟩ := by
 unfold pk at h
 split at h
 ·injection h with h; subst h; rfl
 ·cases h
def gval (w p : Bool) (a b : Opd) (e1 : Env) : Option Bool := match w with
 | true => match b with
  | .c (.bool false) => match ev e1 a with
   | .bool x => some (p && x)
   | _ => none
  | _ => none
 | false => match a with
  | .c (.bool true) => match ev e1 b with
   | .bool x => some (p || x)
   | _ => none
  | _ => none
def qok (os : List Ob) : List XI → List Nat → Env → (Env → Prop) → Prop
 | [], _, e, K => K e
 | .s x :: r, hs, e, K => qoj os [x] hs e (fun hs' e' => qok os r hs' e' K)
 | .g t w gl :: .s y :: r, hs, e, K => match pk y with
  | some (dp, c, a, b) => (c = .t t ∧ (dsts gl).contains t = false) ∧ (match e t with
   | .bool p => qoj os gl hs e (fun hs' e1 => match gval w p a b e1 with
    | some x => ∀ J : Env, qok os r hs' (zm (msk (dsts gl) J e) (some dp) (.bool x)) K
    | none => False)
   | _ => False)
  | none => False
 | _, _, _, _ => False
theorem ziC {w p : Bool} {a b : Opd} {e1 er : Env} {x : Bool} (h : gval w p a b e1 = some x) (hr : p = w → er = e1) : (if p = true then ev er a else ev er b) = .bool x := by
 unfold gval at h
 cases w with
 | true =>
  simp only at h
  split at h
  ·split at h
   ·rename_i y hy
    injection h with h
    subst h
    cases p with
    | true => rw [if_pos rfl, hr rfl, hy]; rfl
    | false => rw [if_neg (by simp)]; rfl
   ·cases h
  ·cases h
 | false =>
  simp only at h
  split at h
  ·split at h
   ·rename_i y hy
    injection h with h
    subst h
    cases p with
    | true => rw [if_pos rfl]; rfl
    | false => rw [if_neg (by simp), hr rfl, hy]; rfl
   ·cases h
  ·cases h
theorem zi8 {σ : Hp} {b : Nat} {r : Row} (h : σ b = some r) {off n : Nat} (hn : ¬ (r.cells.drop off).length < n) : looks σ ⟨b, off, none⟩ 0 n = some ((r.cells.drop off).take n) := by
 have hl : ((r.cells.drop off).take n).length = n := by rw [List.length_take]; omega
 have := ze2 (σ := σ) (a := ⟨b, off, none⟩) ((r.cells.drop off).take n) 0 fun j u hu => by
  rw [zbl, Nat.zero_add]
  simp only [look, h, Option.isSome_none, Bool.false_eq_true, if_false, Option.bind_some]
  rw [List.getElem?_take] at hu
  split at hu
  ·rw [List.getElem?_drop] at hu; exact hu
  ·cases hu
 rw [hl] at this
 exact this
theorem zgS {σ : Hp} {b : Nat} {r : Row} {a : Addr} {agg : Bool} {n : Nat} {v : Value} (h : σ b = some r) (hb : a.block = b) (hs : a.spot = none) (hc : zeR r.cells a.off agg n = some v) : zbi σ a agg n = some v := by
 obtain ⟨ab, ao, as⟩ := a
 simp only at hb hs hc
 subst hb; subst hs
 unfold zeR at hc
 unfold zbi
 split at hc
 ·rename_i hg
  subst hg
  split at hc
  ·cases hc
  ·rename_i hn
   injection hc with hc
   subst hc
   rw [if_pos rfl, zi8 h hn]
   rfl
 ·rename_i hg
  rw [if_neg hg]
  simp only [look, h, Option.isSome_none, Bool.false_eq_true, if_false, Option.bind_some]
  exact hc
section
variable {P : Program} {w0 : Base} {τ σ : Hp} {os : List Ob}
theorem zfq (hO : Obs τ σ os) : ∀ (l : List XJ) (hs : List Nat) (e : Env) (K : List Nat → Env → Prop), qoj os l hs e K → ∃ hs' e1, K hs' e1 ∧ (∀ k, (dsts l).contains k = false → e1 k = e k) ∧ ∀ K' : Env → Hp → Prop, K' e1 σ → xjs P w0 l e σ K'
 | [], hs, e, K, h => ⟨hs, e, h, fun _ _ => rfl, fun K' h => h⟩
 | ⟨d, op, x :: st⟩ :: l, hs, e, K, h => by cases op <;> (unfold qoj at h; exact h.elim)
 | ⟨d, op, []⟩ :: l, hs, e, K, h => by
  have fr : ∀ (v : Value) (e1 : Env), (∀ k, (dsts l).contains k = false → e1 k = zm e d v k) → ∀ k, (dsts (⟨d, op, []⟩ :: l)).contains k = false → e1 k = e k := fun v e1 h1 k hk => by
   cases d with
   | none => exact h1 k hk
   | some d =>
    simp only [dsts, List.filterMap_cons, List.contains_cons, Bool.or_eq_false_iff] at hk
    rw [h1 k hk.2]
    have : k ≠ d := fun he => by have := hk.1; rw [he] at this; simp at this
    simp [zm, this]
  have gen : ∀ v hs', (∀ K' : Value → Hp → Prop, K' v σ → xop P w0 op e σ K') → qoj os l hs' (zm e d v) K → ∃ hs' e1, K hs' e1 ∧ (∀ k, (dsts (⟨d, op, []⟩ :: l)).contains k = false → e1 k = e k) ∧ ∀ K' : Env → Hp → Prop, K' e1 σ → xjs P w0 (⟨d, op, []⟩ :: l) e σ K' := fun v hs' h1 h2 => by
   obtain ⟨hs2, e1, k1, k2, k3⟩ := zfq hO l hs' _ K h2
   refine ⟨hs2, e1, k1, fr v e1 k2, fun K' hK' => ?_⟩
   rw [zje]
   exact h1 _ (k3 K' hK')
  cases op
  case load agg n x =>
   cases hs with
   | nil => unfold qoj at h; simp [qv] at h
   | cons i hs =>
    unfold qoj at h
    split at h
    ·rename_i a ha
     split at h
     ·rename_i b row hb
      obtain ⟨⟨h1, h2⟩, h3⟩ := h
      split at h3
      ·rename_i v hv
       refine gen v hs (fun K' hK' => ?_) h3
       unfold xop
       simp only [ha]
       exact ⟨v, by simp [zf9, zgS (hO.row i b row hb).1 h1 h2 hv], hK'⟩
      ·exact h3.elim
     ·exact h.elim
    ·exact h.elim
  all_goals
   unfold qoj at h
   split at h
   ·rename_i v hv; exact gen v hs (fun K' hK' => zi3 hv hK') h
   ·exact h.elim
theorem zgy : ∀ (l : List XJ) (e : Env) (k : Nat), (dsts l).contains k = false → undefs l e k = e k
 | [], e, k, _ => rfl
 | ⟨none, op, st⟩ :: l, e, k, h => zgy l e k h
 | ⟨some d, op, st⟩ :: l, e, k, h => by
  simp only [dsts, List.filterMap_cons, List.contains_cons, Bool.or_eq_false_iff] at h
  have := zgy l (zm e (some d) undef) k h.2
  simp only [undefs]
  rw [this]
  have : k ≠ d := fun he => by have := h.1; rw [he] at this; simp at this
  simp [zm, this]
theorem zgn : ∀ (l : List XJ) (hs : List Nat) (e : Env) (K : List Nat → Env → Prop), qoj os l hs e K → (l.all fun x => x.st.isEmpty) = true
 | [], _, _, _, _ => rfl
 | ⟨d, op, []⟩ :: l, hs, e, K, h => by
  have hr : (l.all fun x => x.st.isEmpty) = true := by
   cases op
   case load agg n x =>
    cases hs with
    | nil => unfold qoj at h; simp [qv] at h
    | cons i hs =>
     unfold qoj at h
     split at h
     ·split at h
      ·obtain ⟨_, h3⟩ := h
       split at h3
       ·exact zgn l hs _ K h3
       ·exact h3.elim
      ·exact h.elim
     ·exact h.elim
   all_goals
    unfold qoj at h
    split at h
    ·exact zgn l hs _ K h
    ·exact h.elim
  simp only [List.all_cons, hr, Bool.and_true]
  rfl
 | ⟨d, op, s :: st⟩ :: l, hs, e, K, h => by
  cases op <;> cases hs <;> unfold qoj at h <;> exact h.elim
theorem ziX {D : List Nat} {e e1 : Env} (h : ∀ k, D.contains k = false → e1 k = e k) : msk D e1 e = e1 := by
 funext k
 unfold msk
 cases hk : D.contains k with
 | true => rfl
 | false => simp [h k hk]
theorem zda (hO : Obs τ σ os) {r : List XI} {K' : Env → Hp → Prop} : ∀ (l : List XI) (hs : List Nat) (e : Env) (K : Env → Prop), qok os l hs e K → (∀ e', K e' → xis P w0 r e' σ K') → xis P w0 (l ++ r) e σ K'
 | [], hs, e, K, h, k => k e h
 | .s x :: l, hs, e, K, h, k => by
  unfold qok at h
  obtain ⟨hs', e1, h1, _, h3⟩ := zfq (P := P) (w0 := w0) hO [x] hs e _ h
  have := h3 (fun e' σ' => xis P w0 (l ++ r) e' σ' K') (zda hO l hs' e1 K h1 k)
  exact this
 | [.g t w gl], hs, e, K, h, k => by unfold qok at h; exact h.elim
 | .g t w gl :: .g _ _ _ :: l, hs, e, K, h, k => by unfold qok at h; exact h.elim
 | .g t w gl :: .s y :: l, hs, e, K, h, k => by
  unfold qok at h
  split at h
  ·rename_i dp c a b hy
   have hy := zjH hy
   subst hy
   obtain ⟨⟨rfl, ht⟩, h⟩ := h
   split at h
   ·rename_i p hp
    obtain ⟨hs', e1, h1, h2, h3⟩ := zfq (P := P) (w0 := w0) hO gl hs e _ h
    split at h1
    ·rename_i x hx
     have fin : ∀ er : Env, (∀ k, (dsts gl).contains k = false → er k = e k) → (p = w → er = e1) → xis P w0 ((.s ⟨some dp, .pick (.t t) a b, []⟩ :: l) ++ r) er σ K' := fun er hfr ha => by
      rw [List.cons_append, zb6]
      have htp : ev er (.t t) = .bool p := by show er t = _; rw [hfr t ht, hp]
      have := zda hO l hs' _ K (h1 er) k
      rw [ziX hfr] at this
      simp only [xop, htp]
      rw [ziC hx ha]
      exact this
     refine ⟨fun hb => h3 _ (fin e1 h2 fun _ => rfl), fun hb => ⟨zfs gl e σ (zgn gl hs e _ h), fin _ (zgy gl e) fun hpt => ?_⟩⟩
     rw [hp, hpt] at hb
     simp [isB] at hb
    ·exact h1.elim
   ·exact h.elim
  ·exact h.elim
variable {ops r : List XI} {b : zO} {Q : Exit → Env → Hp → Prop} {e : Env} {d : Option Nat}
theorem zZ (hO : Obs τ σ os) (n : Nat) (hs : List Nat) (L : List (Nat × Value)) (h : qok os (ops.take n) hs e (agr L)) (k : ∀ j, wpn P w0 (.seq (.reg (ops.drop n)) b) Q (sets L j) σ) : wpn P w0 (.seq (.reg ops) b) Q e σ := by
 show xis P w0 ops e σ (fun e' σ' => wpn P w0 b Q e' σ')
 rw [← List.take_append_drop n ops]
 refine zda hO _ hs e _ h fun e' he => ?_
 have := k e'
 rw [zD L e' he] at this
 exact this
theorem zi (hO : Obs τ σ os) (hs : List Nat) (L : List (Nat × Value)) (h : qok os ops hs e (agr L)) (k : ∀ j, wpn P w0 b Q (sets L j) σ) : wpn P w0 (.seq (.reg ops) b) Q e σ := by
 show xis P w0 ops e σ (fun e' σ' => wpn P w0 b Q e' σ')
 rw [← List.append_nil ops]
 refine zda hO _ hs e _ h fun e' he => ?_
 have := k e'
 rw [zD L e' he] at this
 exact this
def zcV : List Nat → Env → Env → Env
 | [], _, j => j
 | k :: r, e, j => fun n => if n = k then e k else zcV r e j n
def same : List Nat → Env → Env → Prop
 | [], _, _ => True
 | k :: r, e, f => f k = e k ∧ same r e f
def agk : List (Nat × Value) → List Nat → Env → Env → Prop
 | [], ks, e, f => same ks e f
 | (k, v) :: r, ks, e, f => f k = v ∧ agk r ks e f
theorem zhV : ∀ (ks : List Nat) (e f : Env), same ks e f → zcV ks e f = f
 | [], _, _, _ => rfl
 | k :: r, e, f, h => by
  funext n
  simp only [zcV]
  split
  ·rename_i hn; subst hn; exact h.1.symm
  ·rw [zhV r e f h.2]
theorem zfS : ∀ (L : List (Nat × Value)) (ks : List Nat) (e f : Env), agk L ks e f → sets L (zcV ks e f) = f
 | [], ks, e, f, h => zhV ks e f h
 | (k, v) :: r, ks, e, f, h => by
  funext n
  simp only [sets]
  split
  ·rename_i hn; subst hn; exact h.1.symm
  ·rw [zfS r ks e f h.2]
theorem zb (hO : Obs τ σ os) (n : Nat) (hs : List Nat) (L : List (Nat × Value)) (ks : List Nat) (h : qok os (ops.take n) hs e (agk L ks e)) (k : ∀ j, wpn P w0 (.seq (.reg (ops.drop n)) b) Q (sets L (zcV ks e j)) σ) : wpn P w0 (.seq (.reg ops) b) Q e σ := by
 show xis P w0 ops e σ (fun e' σ' => wpn P w0 b Q e' σ')
 rw [← List.take_append_drop n ops]
 refine zda hO _ hs e _ h fun e' he => ?_
 have := k e'
 rw [zfS L ks e e' he] at this
 exact this
theorem zc (hO : Obs τ σ os) (hs : List Nat) (L : List (Nat × Value)) (ks : List Nat) (h : qok os ops hs e (agk L ks e)) (k : ∀ j, wpn P w0 b Q (sets L (zcV ks e j)) σ) : wpn P w0 (.seq (.reg ops) b) Q e σ := by
 show xis P w0 ops e σ (fun e' σ' => wpn P w0 b Q e' σ')
 rw [← List.append_nil ops]
 refine zda hO _ hs e _ h fun e' he => ?_
 have := k e'
 rw [zfS L ks e e' he] at this
 exact this
theorem zbr (n : Nat) (J : Env → Hp → Prop) (h1 : wpn P w0 (.seq (.reg (ops.take n)) .skip) (fun x e' σ' => x = .normal ∧ J e' σ') e σ) (h2 : ∀ e' σ', J e' σ' → wpn P w0 (.seq (.reg (ops.drop n)) b) Q e' σ') : wpn P w0 (.seq (.reg ops) b) Q e σ := by
 have : ∀ (l m : List XI) (e : Env) (σ : Hp) (K : Env → Hp → Prop), xis P w0 l e σ (fun e' σ' => xis P w0 m e' σ' K) → xis P w0 (l ++ m) e σ K := by
  intro l
  induction l with
  | nil => intro m e σ K h; exact h
  | cons x l ih =>
   intro m e σ K h
   cases x with
   | s x => exact zcM h fun v σ' hv => ⟨hv.1, ih _ _ _ _ hv.2⟩
   | g t w gl => exact ⟨fun hb => zdG (fun e σ h => ih _ _ _ _ h) gl e σ (h.1 hb), fun hb => ⟨(h.2 hb).1, ih _ _ _ _ (h.2 hb).2⟩⟩
 show xis P w0 ops e σ (fun e' σ' => wpn P w0 b Q e' σ')
 rw [← List.take_append_drop n ops]
 exact this _ _ _ _ _ (zdf (fun e' σ' h => h2 e' σ' h.2) _ _ _ h1)
theorem zfW {a : zO} (J : Env → Hp → Prop) (h1 : wpn P w0 a (thn J Q) e σ) (h2 : ∀ e' σ', J e' σ' → wpn P w0 b Q e' σ') : wpn P w0 (.seq a b) Q e σ :=
 zbQ a _ _ e σ h1 fun x e' σ' h => by cases x <;> first | exact h2 e' σ' h | exact h
theorem z2 {c : zO} (I : Nat → Env → Hp → Prop) (n : Nat) (h0 : I n e σ) (h : ∀ n e σ, I n e σ → wpn P w0 c (thn (fun e' σ' => ∃ n', n' < n ∧ I n' e' σ') Q) e σ) : wpn P w0 (.loop c) Q e σ := ⟨I, ⟨n, h0⟩, h⟩
def At (σ : Hp) (a : Addr) (cs : List Value) : Prop := ∀ j u, cs[j]? = some u → look σ (a.add j) = some u
theorem add_zero (a : Addr) : a.add 0 = a := by simp [Addr.add]
theorem At.one {a : Addr} {cs : List Value} (h : At σ a cs) (j : Nat) {u : Value} (hu : cs[j]? = some u) : zbi σ (a.add j) false 1 = some u := by
 simp only [zbi, Bool.false_eq_true, if_false]
 exact h j u hu
theorem At.fst {a : Addr} {u : Value} {cs : List Value} (h : At σ a (u :: cs)) : zbi σ a false 1 = some u := by
 have := h.one 0 (u := u) rfl
 rwa [add_zero] at this
theorem At.all {a : Addr} {cs : List Value} (h : At σ a cs) {n : Nat} (hn : cs.length = n) : zbi σ a true n = some (.agg cs.toArray) := by
 subst hn
 have : looks σ a 0 cs.length = some cs := ze2 cs 0 fun j u hu => by rw [Nat.zero_add]; exact h j u hu
 simp [zbi, this]
theorem zF {α : Type} {T : Ty α} {ρ : Hp} {v : Value} {l : List α} {x i : Opd} {k : IntKind} {q : Int} {y : α} (h : RdT T ρ v l) (hle : Hp.le ρ σ) (hx : ev e x = v) (hi : ev e i = .int k q) (hg : zn l q = some y) (hs : 0 < T.sz)
  (kk : ∀ a cs, T.R ρ y cs → At ρ a cs → wpn P w0 (.seq (.reg r) b) Q (zm e d (.pointer (some a))) σ) : wpn P w0 (.seq (.reg (.s ⟨d, .idx T.sz x i, []⟩ :: r)) b) Q e σ :=
 zbu fun K hK => by
  obtain ⟨A, c, rfl, hc⟩ := h.form
  obtain ⟨h0, hg⟩ := zdd hg
  have hlt := (List.getElem?_eq_some_iff.1 hg).1
  obtain ⟨cs, hR, h1⟩ := h.get hg
  obtain ⟨a, rfl⟩ := Option.isSome_iff_exists.1 (h.has hlt hs)
  simp only [xop, hx, hi]
  refine ⟨h0, by omega, rfl, hK _ _ (kk _ cs hR fun j u hu => ?_)⟩
  obtain ⟨a', ha, hl⟩ := h1 j u hu
  injection ha with ha
  subst ha
  rw [zdl]
  exact hl
theorem zs {x : Opd} {a : Addr} {g : Bool} {n : Nat} {u : Value} (hp : ev e x = .pointer (some a)) (hl : zbi σ a g n = some u) (kk : wpn P w0 (.seq (.reg r) b) Q (zm e d u) σ) : wpn P w0 (.seq (.reg (.s ⟨d, .load g n x, []⟩ :: r)) b) Q e σ :=
 zbu fun K hK => by
  simp only [xop, hp]
  exact ⟨u, by simpa [zf9] using hl, hK _ _ kk⟩
theorem zc1 {f : FuncId} {args : List Opd} {as : Array Value} {hs vs : List Ob} {K : Value → Hp → List Ob → Prop} (hO : Obs τ σ (hs ++ vs)) (hC : Ctr P f as τ vs K) (ha : (args.map (ev e)).toArray = as)
  (k : ∀ v σ' τ' vs', Obs τ' σ' (hs ++ vs') → Hp.le τ τ' → K v τ' vs' → wpn P w0 (.seq (.reg r) b) Q (zm e d v) σ') : wpn P w0 (.seq (.reg (.s ⟨d, .call f args, []⟩ :: r)) b) Q e σ :=
 zbu fun KK hK => by
  subst ha
  exact (ACalls.fr hO hC).use fun v σ' ⟨τ', vs', h1, h2, h3⟩ => hK v σ' (k v σ' τ' vs' h1 h2 h3)
theorem zu {f : FuncId} {args : List Opd} {as : Array Value} {K : Value → Hp → List Ob → Prop} (hO : Obs τ σ os) (hC : Ctr P f as τ [] K) (ha : (args.map (ev e)).toArray = as)
  (k : ∀ v σ' τ' vs', Obs τ' σ' (os ++ vs') → Hp.le τ τ' → K v τ' vs' → wpn P w0 (.seq (.reg r) b) Q (zm e d v) σ') : wpn P w0 (.seq (.reg (.s ⟨d, .call f args, []⟩ :: r)) b) Q e σ :=
 zc1 (hs := os) (vs := []) (by rw [List.append_nil]; exact hO) hC ha k
theorem zeC {x : Opd} {f : FuncId} {first cap : Array Value} {args : List Opd} {as : Array Value} {K : Value → Hp → List Ob → Prop} (hx : ev e x = .func (.func f) first cap) (hok : okF P f = true) (hO : Obs τ σ os) (hC : Ctr P f as τ [] K) (ha : first ++ (args.map (ev e)).toArray ++ cap = as)
  (k : ∀ v σ' τ' vs', Obs τ' σ' (os ++ vs') → Hp.le τ τ' → K v τ' vs' → wpn P w0 (.seq (.reg r) b) Q (zm e d v) σ') : wpn P w0 (.seq (.reg (.s ⟨d, .callv x args, []⟩ :: r)) b) Q e σ :=
 zbu fun KK hK => by
  subst ha
  simp only [xop, hx]
  refine ⟨hok, (ACalls.fr (hs := os) (vs := []) (by rw [List.append_nil]; exact hO) hC).use fun v σ' ⟨τ', vs', h1, h2, h3⟩ => hK v σ' (k v σ' τ' vs' h1 h2 h3)⟩
theorem z6 (hO : Obs τ σ os) {ty : Nat} {cells : List Value} (k : ∀ bb σ', Obs τ σ' (os ++ [[(bb, ⟨cells, ty, cells.length, true⟩)]]) → wpn P w0 (.seq (.reg r) b) Q (zm e d (.pointer (some ⟨bb, 0, none⟩))) σ') : wpn P w0 (.seq (.reg (.s ⟨d, .alloc ty cells, []⟩ :: r)) b) Q e σ :=
 zbu fun K hK => fun bb h1 h2 => hK _ _ (k bb _ (hO.add h1 _))
theorem zb7 (hO : Obs τ σ os) {ty : Nat} {x : Opd} {cells : List Value} {n : Nat} (hx : (ev e x).cells.toList = cells) (hn : cells.length = n) (k : ∀ bb σ', Obs τ σ' (os ++ [[(bb, ⟨cells, ty, n, true⟩)]]) → wpn P w0 (.seq (.reg r) b) Q (zm e d (.pointer (some ⟨bb, 0, none⟩))) σ') : wpn P w0 (.seq (.reg (.s ⟨d, .box ty x, []⟩ :: r)) b) Q e σ :=
 zbu fun K hK => fun bb h1 h2 => by
  have hz : (ev e x).cells.size = n := by rw [← hn, ← hx, Array.length_toList]
  rw [hx, hz]
  exact hK _ _ (k bb _ (hO.add h1 _))
theorem zft : ∀ (vs : List Value) (σ : Hp) (bb off i : Nat) (cells : List Value) (ty size : Nat), off + i + vs.length ≤ cells.length →
  puts (σ.set bb ⟨cells, ty, size, true⟩) ⟨bb, off, none⟩ i vs = some (σ.set bb ⟨cells.take (off + i) ++ vs ++ cells.drop (off + i + vs.length), ty, size, true⟩)
 | [], σ, bb, off, i, cells, ty, size, _ => by simp [puts]
 | v :: vs, σ, bb, off, i, cells, ty, size, h => by
  simp only [List.length_cons] at h
  have : put1 (σ.set bb ⟨cells, ty, size, true⟩) ((⟨bb, off, none⟩ : Addr).add i) v = some (σ.set bb ⟨cells.set (off + i) v, ty, size, true⟩) := by
   rw [zbl]
   unfold put1
   simp only [Option.isSome_none, Bool.false_eq_true, if_false, Hp.set_eq]
   rw [if_pos (by simp; omega)]
   congr 1
   funext k
   simp only [Hp.set]
   split <;> rfl
  simp only [puts, this, Option.bind_some]
  rw [zft vs σ bb off (i + 1) _ ty size (by simp; omega)]
  congr 3
  have e1 : off + (i + 1) = off + i + 1 := by omega
  rw [e1, List.length_cons, List.take_set, List.drop_set]
  rw [if_pos (by omega)]
  have : List.take (off + i + 1) cells = List.take (off + i) cells ++ [cells[off + i]'(by omega)] := List.take_succ_eq_append_getElem (by omega)
  rw [this, List.set_append_right _ _ (by simp; omega)]
  simp only [List.length_take, Nat.min_eq_left (show off + i ≤ cells.length by omega), Nat.sub_self, List.set_cons_zero]
  rw [show off + i + 1 + vs.length = off + i + (vs.length + 1) from by omega]
  simp
theorem zU (hO : Obs τ σ os) {i bb ty size n off : Nat} {cells vs : List Value} {x y : Opd} (hi : os[i]? = some [(bb, ⟨cells, ty, size, true⟩)]) (hp : ev e x = .pointer (some ⟨bb, off, none⟩)) (hy : (ev e y).cells.toList = vs) (hn : vs.length = n) (h1 : vs.all one = true) (hoff : off + n ≤ cells.length)
  {cells' : List Value} (hc : cells.take off ++ vs ++ cells.drop (off + n) = cells')
  (k : ∀ σ', Obs τ σ' (os.set i [(bb, ⟨cells', ty, size, true⟩)]) → wpn P w0 (.seq (.reg r) b) Q (zm e d undef) σ') : wpn P w0 (.seq (.reg (.s ⟨d, .store n x y, []⟩ :: r)) b) Q e σ :=
 zbu fun K hK => by
  subst hc
  have hz : (ev e y).cells.size = n := by rw [← hn, ← hy, Array.length_toList]
  simp only [xop, hp]
  refine ⟨hz, by rw [hy]; exact h1, σ.set bb ⟨cells.take off ++ vs ++ cells.drop (off + n), ty, size, true⟩, ?_, hK _ _ (k _ (hO.put hi _))⟩
  rw [hy]
  show puts σ ⟨bb, off, none⟩ 0 vs = _
  have := zft vs σ bb off 0 cells ty size (by omega)
  rw [Hp.set_same (hO.row i bb _ hi).1] at this
  rw [this, Nat.add_zero, hn]
section
variable {α : Type} {T : Ty α} {v u : Value} {l m : List α} {o : Ob} {i ty bytes : Nat} {s x : Opd} {y : α} {zero : List Value} {d1 : Nat}
theorem zfJ {n bytes : Nat} {t : Unit} (h : room n = some t) (hb : bytes ≤ 128) : n * bytes ≤ 140737488355328 :=
 Nat.le_trans (Nat.mul_le_mul (zii h) hb) (by decide)
theorem zih (hO : Obs τ σ os) (hW : zj T ty τ v l o) (hi : os[i]? = some o) (hs : ev e s = v) (hs' : ∀ u, ev (zm e (some d1) u) s = v) {vs : List Value} (hv : (ev e x).cells.toList = vs) (hx : T.R τ y vs) (hz : zero.length = T.sz) (hlim : (l.length + 1) * bytes ≤ 140737488355328)
  (k : ∀ u v' σ' o', zj T ty τ v' (l ++ [y]) o' → Obs τ σ' (os.set i o') → wpn P w0 (.seq (.reg r) b) Q (zm (zm e (some d1) u) d v') σ') :
  wpn P w0 (.seq (.reg (.s ⟨some d1, .bslice ty 1 zero [(0, T.sz, x)], []⟩ :: .s ⟨d, .app ty T.sz bytes s (.t d1), []⟩ :: r)) b) Q e σ := by
 subst hv
 have hxl := T.len hx
 show xis P w0 _ e σ _
 rw [zb6, zg8]
 refine ⟨(ev e x).cells.toList, ?_, fun bb hb1 hb0 => ?_⟩
 ·simp only [List.map_cons, List.map_nil, zbD]
  rw [Array.length_toList] at hxl
  rw [if_pos ⟨hxl, by omega⟩]
  simp [hz]
 ·show xis P w0 (.s ⟨d, .app ty T.sz bytes s (.t d1), []⟩ :: r) _ _ _
  rw [zb6, zfl]
  have hO2 := hO.mono (Hp.le_set hb1 (r := ⟨(ev e x).cells.toList, ty, (ev e x).cells.toList.length, true⟩))
  obtain ⟨cells, hX, hC⟩ := hW.x hO2 hi
  refine ⟨l.length, cells, 1, (ev e x).cells.toList, by rw [hs']; exact hX, ?_, T.one hx, hlim, fun v' σ' hg hX' => ?_⟩
  ·have hd : ∀ v, ev (zm e (some d1) v) (.t d1) = v := fun v => by simp [ev, zm]
   rw [hd]
   refine ⟨_, 1, rfl, Nat.le_refl _, by simpa using hxl, fun j u hu => ⟨_, rfl, ?_⟩⟩
   rw [zbl, Nat.zero_add, zeN]
   exact hu
  ·rw [hs'] at hg
   obtain ⟨o', hW', hO'⟩ := hW.grow (l' := l ++ [y]) (n := 0) hO2 hi hg (by simpa using hX') (hC.append (Chunks.single hx))
   exact k _ v' σ' o' hW' hO'
theorem zbz (hO : Obs τ σ os) (hW : zj T ty τ v l o) (hi : os[i]? = some o) (hs : ev e s = v) (hs' : ∀ u, ev (zm e (some d1) u) s = v) {vs : List Value} (hv : (ev e x).cells.toList = vs) (hx : T.R τ y vs) (hz : zero.length = T.sz) {t : Unit} (hr : room (l.length + 1) = some t) (hb : bytes ≤ 128)
  (k : ∀ u v' σ' o', zj T ty τ v' (l ++ [y]) o' → Obs τ σ' (os.set i o') → wpn P w0 (.seq (.reg r) b) Q (zm (zm e (some d1) u) d v') σ') :
  wpn P w0 (.seq (.reg (.s ⟨some d1, .bslice ty 1 zero [(0, T.sz, x)], []⟩ :: .s ⟨d, .app ty T.sz bytes s (.t d1), []⟩ :: r)) b) Q e σ := zih hO hW hi hs hs' hv hx hz (zfJ hr hb) k
theorem zjQ (hO : Obs τ σ os) (hW : zj T ty τ v l o) (hi : os[i]? = some o) (hs : ev e s = v) (hx : ev e x = u) (hR : RdT T τ u m) (hlim : (l.length + m.length) * bytes ≤ 140737488355328)
  (k : ∀ v' σ' o', zj T ty τ v' (l ++ m) o' → Obs τ σ' (os.set i o') → wpn P w0 (.seq (.reg r) b) Q (zm e d v') σ') :
  wpn P w0 (.seq (.reg (.s ⟨d, .app ty T.sz bytes s x, []⟩ :: r)) b) Q e σ := by
 show xis P w0 _ e σ _
 rw [zb6, zfl]
 obtain ⟨cells, hX, hC⟩ := hW.x hO hi
 obtain ⟨ys, hR, hY⟩ := hR
 refine ⟨l.length, cells, m.length, ys, by rw [hs]; exact hX, by rw [hx]; exact hR.le hO.base, hY.one, hlim, fun v' σ' hg hX' => ?_⟩
 rw [hs] at hg
 obtain ⟨o', hW', hO'⟩ := hW.grow (l' := l ++ m) (n := 0) hO hi hg (by simpa using hX') (hC.append hY)
 exact k v' σ' o' hW' hO'
theorem zc3 (hO : Obs τ σ os) (hW : zj T ty τ v l o) (hi : os[i]? = some o) (hs : ev e s = v) (hx : ev e x = u) (hR : RdT T τ u m) {t : Unit} (hr : room (l.length + m.length) = some t) (hb : bytes ≤ 128)
  (k : ∀ v' σ' o', zj T ty τ v' (l ++ m) o' → Obs τ σ' (os.set i o') → wpn P w0 (.seq (.reg r) b) Q (zm e d v') σ') :
  wpn P w0 (.seq (.reg (.s ⟨d, .app ty T.sz bytes s x, []⟩ :: r)) b) Q e σ := zjQ hO hW hi hs hx hR (zfJ hr hb) k
theorem zjP (hf : T.Flat) (hO : Obs τ σ os) (hW : zj T ty τ v l o) (hi : os[i]? = some o) (hs : ev e s = v) (hx : ev e x = u) (hR : RdT T σ u m) {t : Unit} (hr : room (l.length + m.length) = some t) (hb : bytes ≤ 128)
  (k : ∀ v' σ' o', zj T ty τ v' (l ++ m) o' → Obs τ σ' (os.set i o') → wpn P w0 (.seq (.reg r) b) Q (zm e d v') σ') :
  wpn P w0 (.seq (.reg (.s ⟨d, .app ty T.sz bytes s x, []⟩ :: r)) b) Q e σ := by
 show xis P w0 _ e σ _
 rw [zb6, zfl]
 obtain ⟨cells, hX, hC⟩ := hW.x hO hi
 obtain ⟨ys, hR, hY⟩ := hR
 refine ⟨l.length, cells, m.length, ys, by rw [hs]; exact hX, by rw [hx]; exact hR, hY.one, zfJ hr hb, fun v' σ' hg hX' => ?_⟩
 rw [hs] at hg
 obtain ⟨o', hW', hO'⟩ := hW.grow (l' := l ++ m) (n := 0) hO hi hg (by simpa using hX') (hC.append (hY.flat hf))
 exact k v' σ' o' hW' hO'
theorem zbJ (hO : Obs τ σ os) {n : Nat} {zero : List Value} {parts : List (Nat × Nat × Opd)} {cs : List Value} (hf : zbD zero (parts.map fun p => (p.1, p.2.1, ev e p.2.2)) = some cs) (hC : Chunks T τ l cs) (hn : l.length = n) (hm : n ≤ 1000000)
  (k : ∀ v' σ' o', zj T ty τ v' l o' → Obs τ σ' (os ++ [o']) → wpn P w0 (.seq (.reg r) b) Q (zm e d v') σ') : wpn P w0 (.seq (.reg (.s ⟨d, .bslice ty n zero parts, []⟩ :: r)) b) Q e σ := by
 show xis P w0 _ e σ _
 rw [zb6, zg8]
 refine ⟨cs, hf, fun bb hb1 hb0 => k _ _ _ (.inr ⟨bb, n, cs, [], by rw [hn], by omega, by unfold maxLen; omega, by rw [List.append_nil], hC⟩) ?_⟩
 have := hO.add hb1 ⟨cs, ty, cs.length, true⟩
 rw [show n * T.sz = cs.length from by rw [hC.len, hn]]
 exact this
theorem zeV {lo hi : Option Opd} {p q : Int} (h : RdT T τ v l) (hx : ev e x = v) (hlo : zbf e 0 lo = some p) (hhi : zbf e l.length hi = some q) (hg : zcK l p q = some m)
  (k : ∀ u, RdT T τ u m → wpn P w0 (.seq (.reg r) b) Q (zm e d u) σ) : wpn P w0 (.seq (.reg (.s ⟨d, .slc T.sz x lo hi none, []⟩ :: r)) b) Q e σ :=
 zbu fun K hK => by
  obtain ⟨A, c, rfl, hc⟩ := h.form
  obtain ⟨h0, h1, h2, rfl⟩ := zjK hg
  simp only [xop, hx]
  refine ⟨p, q, c, rfl, hhi, hlo, h0, h1, by omega, by omega, hK _ _ (k _ ?_)⟩
  exact h.slc (by omega) (by omega)
end
end
theorem zN {P : Program} {f : FuncId} {fn : Func} {af : zH} {args : List Value} {τ : Hp} {vs : List Ob} {K : Value → Hp → List Ob → Prop} (hm : P.follows .mixedOrders = true) (hf : P.funcs[f]? = some fn) (hs : zI P fn = some af.fn) (ha : (af.body.ok && decide (args.length ≤ af.ntmps)) = true)
  (h : ∀ (w0 : Base) (σ : Hp), Obs τ σ vs → ∀ Q : Exit → Env → Hp → Prop, (∀ e σ' rs τ' vs', resvs e σ' af.results = some rs → Obs τ' σ' vs' → Hp.le τ τ' → K (zbN rs) τ' vs' → Q .ret e σ') → wpn P w0 af.body Q (zbX args) σ) : Ctr P f args.toArray τ vs K := fun w0 σ hO =>
 ziW hm hf hs ha fun Q hQ => h w0.np σ hO Q fun e σ' rs τ' vs' h1 h2 h3 h4 => hQ e σ' rs h1 ⟨τ', vs', h2, h3, h4⟩
def big : Nat := 18446744073709551616
def u8o (n : Int) : Option UInt8 := if 0 ≤ n ∧ n < 256 then some (UInt8.ofNat n.toNat) else none
theorem ziR {n : Int} {z : UInt8} (h : u8o n = some z) : n = (z.toNat : Int) := by
 unfold u8o at h
 split at h
 ·injection h with h
  subst h
  rw [UInt8.toNat_ofNat_of_lt' (show n.toNat < 256 by omega)]
  omega
 ·cases h
theorem u8R {τ : Hp} {n : Int} {z : UInt8} (h : u8o n = some z) : Ty.u8.R τ z [.int .u8 n] := by
 show _ = _
 rw [ziR h]
def zeK (k : IntKind) (a b : Int) : Int := k.wrap (BitVec.ofInt k.bits a &&& BitVec.ofInt k.bits b).toNat
def orI (k : IntKind) (a b : Int) : Int := k.wrap (BitVec.ofInt k.bits a ||| BitVec.ofInt k.bits b).toNat
def zgU (k : IntKind) (a b : Int) : Int := k.wrap (a * 2 ^ min b.toNat k.bits)
def zch (k : IntKind) (a b : Int) : Int := a.fdiv (2 ^ min b.toNat k.bits)
def zS (a b : Int) : Int := if b > a then b else a
def zW (a b : Int) : Int := if b < a then b else a
def zeO (k : IntKind) (a b : Int) : Option Int := if b < 0 then none else some (zgU k a b)
def zgv (k : IntKind) (a b : Int) : Option Int := if b < 0 then none else some (zch k a b)
def zcR (s : ByteArray) (lo hi : Int) : Option ByteArray := if 0 ≤ lo ∧ lo ≤ hi ∧ hi ≤ s.size then some (s.extract lo.toNat hi.toNat) else none
theorem zgO {k q : IntKind} {a b c : Int} (h : zeO k a b = some c) : binv .shl (.int k a) (.int q b) = some (.int k c) := by
 unfold zeO at h
 split at h
 ·cases h
 ·rename_i hb; injection h with h; subst h; simp [binv, zcE, shv, hb, zgU]
theorem zjB {k q : IntKind} {a b c : Int} (h : zgv k a b = some c) : binv .shr (.int k a) (.int q b) = some (.int k c) := by
 unfold zgv at h
 split at h
 ·cases h
 ·rename_i hb; injection h with h; subst h; simp [binv, zcE, shv, hb, zch]
theorem Obs.val {τ σ : Hp} {os : List Ob} (hO : Obs τ σ os) {i b off n : Nat} {r : Row} {agg : Bool} {v : Value} (hi : os[i]? = some [(b, r)]) (hc : zeR r.cells off agg n = some v) : zbi σ ⟨b, off, none⟩ agg n = some v :=
 zgS (hO.row i b r hi).1 rfl rfl hc
section
variable {e : Env} {σ : Hp}
theorem zc6 {n : Nat} {rs : List zbH} {l : List Value} (h : resvs e σ rs = some l) : resvs e σ (.t n :: rs) = some (e n :: l) := by simp [resvs, resv, h]
theorem zds {n k : Nat} {g : Bool} {a : Addr} {v : Value} {rs : List zbH} {l : List Value} (hp : e n = .pointer (some a)) (hv : zbi σ a g k = some v) (h : resvs e σ rs = some l) : resvs e σ (.c n g k :: rs) = some (v :: l) := by simp [resvs, resv, hp, hv, h]
end
section
variable {P : Program} {w0 : Base} {τ σ : Hp} {os : List Ob} {ops r : List XI} {b a : zO} {Q : Exit → Env → Hp → Prop} {e : Env} {d : Option Nat} {K : Env → Hp → Prop} {id k : Nat}
theorem zg (h : K e σ) : thn K Q .normal e σ := h
theorem zr (h : Q .ret e σ) : thn K Q .ret e σ := h
theorem z3 (h : Q (.exit k) e σ) : thn K Q (.exit k) e σ := h
theorem zM (h : Q .normal e σ) : inb id Q .normal e σ := h
theorem zE (h : Q .ret e σ) : inb id Q .ret e σ := h
theorem z1 (h : Q .normal e σ) : inb id Q (.exit id) e σ := by rw [zj0]; exact h
theorem zJ (h : Q .ret e σ) : wpn P w0 .ret Q e σ := h
theorem zx (h : wpn P w0 a (inb id (thn (fun e' σ' => wpn P w0 b Q e' σ') Q)) e σ) : wpn P w0 (.seq (.block id a) b) Q e σ := h
theorem zb4 (n : Nat) (L : List (Nat × Value)) (h1 : ∀ Q' : Exit → Env → Hp → Prop, (∀ e', agr L e' → Q' .normal e' σ) → wpn P w0 (.seq (.reg (ops.take n)) .skip) Q' e σ) (h2 : ∀ j, wpn P w0 (.seq (.reg (ops.drop n)) b) Q (sets L j) σ) : wpn P w0 (.seq (.reg ops) b) Q e σ :=
 zbr n (fun e' σ' => agr L e' ∧ σ' = σ) (h1 _ fun e' he => ⟨rfl, he, rfl⟩) fun e' σ' h => by
  obtain ⟨h3, rfl⟩ := h
  have := h2 e'
  rw [zD L e' h3] at this
  exact this
theorem zp {α : Type} {c : Opd} {x y : zO} {t : Bool} {A B : Option α} {rr : α} (hF : (if t = true then A else B) = some rr) (hb : ev e c = .bool t) (h1 : A = some rr → wpn P w0 (.seq x b) Q e σ) (h2 : B = some rr → wpn P w0 (.seq y b) Q e σ) : wpn P w0 (.seq (.cond c x y) b) Q e σ := by
 cases t with
 | true => rw [if_pos rfl] at hF; exact zbO hb (h1 hF)
 | false => rw [if_neg (fun h => nomatch h)] at hF; exact zbM hb (h2 hF)
theorem zq {c x y : Opd} {t : Bool} (hc : ev e c = .bool t) (h : wpn P w0 (.seq (.reg r) b) Q (zm e d (if t = true then ev e x else ev e y)) σ) : wpn P w0 (.seq (.reg (.s ⟨d, .pick c x y, []⟩ :: r)) b) Q e σ :=
 zbu fun K hK => by
  simp only [xop, hc]
  exact hK _ _ h
theorem zfB {op : BinOp} {x y : Opd} {v : Value} (hv : binv op (ev e x) (ev e y) = some v) (h : wpn P w0 (.seq (.reg r) b) Q (zm e d v) σ) : wpn P w0 (.seq (.reg (.s ⟨d, .bin op x y, []⟩ :: r)) b) Q e σ :=
 zbu fun K hK => ⟨v, hv, hK _ _ h⟩
end
theorem Chunks.set {α : Type} {T : Ty α} {τ : Hp} {y' : α} {cs' : List Value} (hR : T.R τ y' cs') : ∀ {l : List α} {cells : List Value} {i : Nat}, Chunks T τ l cells → i < l.length → Chunks T τ (l.set i y') (cells.take (i * T.sz) ++ cs' ++ cells.drop (i * T.sz + T.sz))
 | [], cells, i, h, hi => by simp at hi
 | y :: l, cells, 0, h, hi => by
  obtain ⟨c, r, rfl, h1, h2⟩ := h
  have hc := T.len h1
  refine ⟨cs', r, ?_, hR, h2⟩
  rw [Nat.zero_mul, Nat.zero_add, List.take_zero, List.nil_append, ← hc, List.drop_left]
 | y :: l, cells, i + 1, h, hi => by
  obtain ⟨c, r, rfl, h1, h2⟩ := h
  have hc := T.len h1
  refine ⟨c, _, ?_, h1, Chunks.set hR h2 (by simpa using hi)⟩
  have e1 : (i + 1) * T.sz = T.sz + i * T.sz := by rw [Nat.succ_mul, Nat.add_comm]
  rw [e1, ← hc, List.take_append, List.drop_append]
  rw [List.take_of_length_le (by omega), Nat.add_sub_cancel_left]
  rw [List.drop_of_length_le (by omega)]
  rw [show c.length + i * c.length + c.length - c.length = i * c.length + c.length from by omega]
  simp
def zcF (sz : Nat) (o : Ob) (a : Addr) (q : Int) : Prop := ∃ b r, o = [(b, r)] ∧ a = ⟨b, q.toNat * sz, none⟩
section
variable {P : Program} {w0 : Base} {τ σ : Hp} {os : List Ob} {r : List XI} {b : zO} {Q : Exit → Env → Hp → Prop} {e : Env} {d : Option Nat}
variable {α : Type} {T : Ty α} {v : Value} {l : List α} {o : Ob} {i ty : Nat}
theorem zbe {x ix : Opd} {k : IntKind} {q : Int} {y : α} (hO : Obs τ σ os) (hW : zj T ty τ v l o) (hi : os[i]? = some o) (hx : ev e x = v) (hix : ev e ix = .int k q) (hg : zn l q = some y) (hs : 0 < T.sz)
  (kk : ∀ a cs, T.R τ y cs → At σ a cs → zcF T.sz o a q → wpn P w0 (.seq (.reg r) b) Q (zm e d (.pointer (some a))) σ) : wpn P w0 (.seq (.reg (.s ⟨d, .idx T.sz x ix, []⟩ :: r)) b) Q e σ :=
 zbu fun K hK => by
  obtain ⟨h0, hg'⟩ := zdd hg
  have hlt := (List.getElem?_eq_some_iff.1 hg').1
  rcases hW with ⟨rfl, rfl, rfl⟩ | ⟨bb, cap, cells, rest, rfl, h2, h3, rfl, h5⟩
  ·simp at hlt
  ·obtain ⟨cs, hR, he⟩ := h5.get hg'
   simp only [xop, hx, hix]
   refine ⟨h0, by omega, rfl, ?_⟩
   refine hK _ _ (kk _ cs hR (fun j u hu => ?_) ⟨bb, _, rfl, by show Addr.add _ _ = _; rw [zbl, Nat.zero_add]⟩)
   obtain ⟨h6, _⟩ := hO.row i bb _ hi
   rw [zdl, zbl, Nat.zero_add]
   simp only [look, h6, Option.isSome_none, Bool.false_eq_true, if_false, Option.bind_some]
   rw [he, List.getElem?_take] at hu
   split at hu
   ·rw [List.getElem?_drop] at hu
    rw [List.getElem?_append_left (List.getElem?_eq_some_iff.1 hu).1]
    exact hu
   ·cases hu
theorem zdW {x y : Opd} {a : Addr} {q : Int} {off n : Nat} {z z' : α} {cs vs cs' : List Value} (hO : Obs τ σ os) (hW : zj T ty τ v l o) (hi : os[i]? = some o) (hp : ev e x = .pointer (some (a.add off))) (hin : zcF T.sz o a q) (hg : zn l q = some z) (hR : T.R τ z cs)
  (hAt : At σ a cs) (hy : (ev e y).cells.toList = vs) (hn : vs.length = n) (h1 : vs.all one = true) (hc : cs.take off ++ vs ++ cs.drop (off + n) = cs') (hoff : off + n ≤ T.sz) (hR' : T.R τ z' cs')
  (kk : ∀ σ' o', zj T ty τ v (l.set q.toNat z') o' → Obs τ σ' (os.set i o') → wpn P w0 (.seq (.reg r) b) Q (zm e d undef) σ') : wpn P w0 (.seq (.reg (.s ⟨d, .store n x y, []⟩ :: r)) b) Q e σ :=
 zbu fun K hK => by
  obtain ⟨h0, hg'⟩ := zdd hg
  have hlt := (List.getElem?_eq_some_iff.1 hg').1
  rcases hW with ⟨rfl, rfl, rfl⟩ | ⟨bb, cap, cells, rest, rfl, h2, h3, rfl, h5⟩
  ·simp at hlt
  ·obtain ⟨b', r', hb', rfl⟩ := hin
   injection hb' with hb' _
   injection hb' with hb1 hb2
   subst hb1; subst hb2
   have hcl := h5.len
   have hsz := T.len hR
   have hin2 : q.toNat * T.sz + T.sz ≤ cells.length := by rw [hcl, ← Nat.succ_mul]; exact Nat.mul_le_mul_right _ hlt
   obtain ⟨cs0, hR0, he⟩ := h5.get hg'
   obtain ⟨h6, _⟩ := hO.row i bb _ hi
   have hcs : (cells.drop (q.toNat * T.sz)).take T.sz = cs := by
    apply List.ext_getElem?
    intro j
    have hl0 : ((cells.drop (q.toNat * T.sz)).take T.sz).length = T.sz := by rw [List.length_take, List.length_drop]; omega
    cases hj : cs[j]? with
    | none =>
     have := List.getElem?_eq_none_iff.1 hj
     exact List.getElem?_eq_none (by omega)
    | some u =>
     have := hAt j u hj
     rw [zbl] at this
     simp only [look, h6, Option.isSome_none, Bool.false_eq_true, if_false, Option.bind_some] at this
     rw [List.getElem?_take, if_pos (by have := (List.getElem?_eq_some_iff.1 hj).1; omega), List.getElem?_drop]
     rw [List.getElem?_append_left (by have := (List.getElem?_eq_some_iff.1 hj).1; omega)] at this
     exact this
   have hz : (ev e y).cells.size = n := by rw [← hn, ← hy, Array.length_toList]
   rw [zbl] at hp
   simp only [xop, hp]
   have hput := zft vs σ bb (q.toNat * T.sz + off) 0 (cells ++ rest) ty (cap * T.sz) (by rw [List.length_append]; omega)
   rw [Hp.set_same h6] at hput
   refine ⟨hz, by rw [hy]; exact h1, _, by rw [hy]; exact hput, ?_⟩
   have hcells : (cells ++ rest).take (q.toNat * T.sz + off + 0) ++ vs ++ (cells ++ rest).drop (q.toNat * T.sz + off + 0 + vs.length) = cells.take (q.toNat * T.sz) ++ cs' ++ cells.drop (q.toNat * T.sz + T.sz) ++ rest := by
    rw [← hc, ← hcs, hn, Nat.add_zero, List.take_append_of_le_length (by omega), List.drop_append_of_le_length (by omega)]
    have e1 : List.take (q.toNat * T.sz + off) cells = List.take (q.toNat * T.sz) cells ++ List.take off (List.drop (q.toNat * T.sz) cells) := by rw [List.take_add]
    have e2 : List.drop (off + n) (List.take T.sz (List.drop (q.toNat * T.sz) cells)) = List.take (T.sz - (off + n)) (List.drop (q.toNat * T.sz + off + n) cells) := by
     rw [List.drop_take, List.drop_drop, Nat.add_assoc]
    have e3 : List.drop (q.toNat * T.sz + off + n) cells = List.take (T.sz - (off + n)) (List.drop (q.toNat * T.sz + off + n) cells) ++ List.drop (q.toNat * T.sz + T.sz) cells := by
     have := List.take_append_drop (T.sz - (off + n)) (List.drop (q.toNat * T.sz + off + n) cells)
     rw [List.drop_drop, show q.toNat * T.sz + off + n + (T.sz - (off + n)) = q.toNat * T.sz + T.sz from by omega] at this
     exact this.symm
    rw [e1, e2, List.take_take, Nat.min_eq_left (by omega)]
    conv => lhs; rw [e3]
    simp
   rw [hcells]
   have hlen : (l.set q.toNat z').length = l.length := List.length_set
   refine hK _ _ (kk _ _ (.inr ⟨bb, cap, _, rest, by rw [hlen], by rw [hlen]; exact h2, h3, rfl, h5.set hR' hlt⟩) (hO.put hi _))
end
theorem zj.len {α : Type} {T : Ty α} {ty : Nat} {τ : Hp} {A : Option Addr} {n c : Nat} {l : List α} {o : Ob} (h : zj T ty τ (.slice A n c) l o) : n = l.length := by
 obtain ⟨A', c', hv, _⟩ := h.form
 injection hv
theorem At.le {τ τ' : Hp} {a : Addr} {cs : List Value} (h : At τ a cs) (hle : Hp.le τ τ') : At τ' a cs := fun j u hu => by
 have := h j u hu
 unfold look at this ⊢
 split at this
 ·cases this
 ·rename_i hn
  rw [if_neg hn]
  obtain ⟨r, hr, hv⟩ := Option.bind_eq_some_iff.1 this
  rw [hle _ _ hr]
  exact hv
theorem Obs.shareV {τ σ : Hp} {os : List Ob} (h : Obs τ σ os) {i b : Nat} {cells : List Value} {ty n : Nat} {fl : Bool} (hi : os[i]? = some [(b, ⟨cells, ty, n, fl⟩)]) : ∃ τ', Hp.le τ τ' ∧ At τ' ⟨b, 0, none⟩ cells ∧ Obs τ' σ (os.set i []) := by
 obtain ⟨hle, hO'⟩ := h.share hi
 refine ⟨_, hle, fun j u hu => ?_, hO'⟩
 rw [zbl, Nat.zero_add, zeN]
 exact hu
section
variable {P : Program} {w0 : Base} {e : Env} {σ : Hp} {Q : Exit → Env → Hp → Prop} {b : zO} {r : List XI}
def zfP (st : List ASt) : zbb := .eff ⟨none, none, .mv (.c (.bool true))⟩ st .done
theorem z8 {d : Option Nat} {op : AOp} {st : List ASt} (h : wpn P w0 (.seq (.reg [.s ⟨d, op, []⟩]) (.seq (.parT (zfP st)) (.seq (.reg r) b))) Q e σ) : wpn P w0 (.seq (.reg (.s ⟨d, op, st⟩ :: r)) b) Q e σ := by
 show xis P w0 (.s ⟨d, op, st⟩ :: r) e σ (fun e' σ' => wpn P w0 b Q e' σ')
 rw [zhg]
 have h : xis P w0 [.s ⟨d, op, []⟩] e σ (fun e' σ' => wpn P w0 (.seq (.parT (zfP st)) (.seq (.reg r) b)) Q e' σ') := h
 rw [zb6] at h
 refine zcM h fun v σ' h => ?_
 have h : xstep P w0 ⟨none, none, .mv (.c (.bool true))⟩ (zm e d v) σ' (fun e' σ' => agains P w0 st e' σ' ∧ xtree P w0 .done e' σ' (fun e'' σ'' => wpn P w0 (.seq (.reg r) b) Q e'' σ'')) := h
 exact h
theorem z7 {st : List ASt} (ha : agains P w0 st e σ) (h : wpn P w0 b Q e σ) : wpn P w0 (.seq (.parT (zfP st)) b) Q e σ := ⟨ha, h⟩
theorem zT {x : Opd} {d n : Nat} {g : Bool} {a : Addr} {u : Value} (hx : ev e x = .pointer (some a)) (hl : zbi σ a g n = some u) (hd : u = e d) : again P w0 ⟨none, some d, .load g n x⟩ e σ := ⟨a, u, hx, hl, hd, rfl⟩
theorem zeZ (h : wpn P w0 b Q e σ) : wpn P w0 (.seq (.parT .done) b) Q e σ := h
theorem zhx {s t : zbb} (h1 : wpn P w0 (.seq (.parT s) b) Q e σ) (h2 : wpn P w0 (.seq (.parT t) b) Q e σ) : wpn P w0 (.seq (.parT (.both s t)) b) Q e σ := ⟨h1, h2⟩
theorem zhB {t : zbb} (h : wpn P w0 (.seq (.parT t) .skip) Q e σ) : wpn P w0 (.parT t) Q e σ := h
theorem zeU {d : Option Nat} {op : AOp} {k : zbb} (h : wpn P w0 (.seq (.reg [.s ⟨d, op, []⟩]) (.seq (.parT k) b)) Q e σ) : wpn P w0 (.seq (.parT (.quiet ⟨none, d, op⟩ k)) b) Q e σ := by
 have h : xis P w0 [.s ⟨d, op, []⟩] e σ (fun e' σ' => wpn P w0 (.seq (.parT k) b) Q e' σ') := h
 rw [zb6] at h
 exact h
theorem zbp {d : Option Nat} {op : AOp} {st : List ASt} {k : zbb} (h : wpn P w0 (.seq (.reg [.s ⟨d, op, st⟩]) (.seq (.parT k) b)) Q e σ) : wpn P w0 (.seq (.parT (.eff ⟨none, d, op⟩ st k)) b) Q e σ := by
 have h : xis P w0 [.s ⟨d, op, st⟩] e σ (fun e' σ' => wpn P w0 (.seq (.parT k) b) Q e' σ') := h
 rw [zhg] at h
 exact h
end
def Wt {H : Type} (P : Program) (t : TypeId) (d : DataW H) : Prop := ∀ n ∈ d.weights P t, n ≤ reachBytes
theorem Wt.each {H : Type} {P : Program} {ts : List TypeId} {ds : List (DataW H)} (h : ∀ n ∈ DataW.weightsEach P ts ds, n ≤ reachBytes) {j : Nat} {t : TypeId} {d : DataW H} (ht : ts[j]? = some t) (hd : ds[j]? = some d) : Wt P t d := fun n hn => h n (DataW.weights_mem_each ht hd n hn)
theorem Wt.row {H : Type} {P : Program} {ts : List TypeId} {ds : List (DataW H)} (h : (DataW.weightsEach P ts ds).all (· ≤ reachBytes) = true) (j : Nat) {t : TypeId} {d : DataW H} (ht : ts[j]? = some t) (hd : ds[j]? = some d) : Wt P t d :=
 Wt.each (fun n hn => by simpa using List.all_eq_true.1 h n hn) ht hd
theorem zgN {H : Type} {P : Program} {e : TypeId} : ∀ {ds : List (DataW H)} {d : DataW H}, d ∈ ds → ∀ n ∈ d.weights P e, n ∈ DataW.weightsAll P e ds
 | d0 :: ds, d, hd, n, hn => by
  rcases List.mem_cons.1 hd with rfl | hd
  ·simp only [DataW.weightsAll, List.mem_append]; exact .inl hn
  ·simp only [DataW.weightsAll, List.mem_append]; exact .inr (zgN hd n hn)
theorem Wt.elem {H : Type} {P : Program} {t e : TypeId} {elems spare : List (DataW H)} (hu : P.underlying t = some (.slice e)) (h : Wt P t (.slice elems spare)) {d : DataW H} (hd : d ∈ elems) : Wt P e d := fun n hn => h n (by
 simp only [DataW.weights, hu, List.mem_cons, List.mem_append]
 exact .inr (.inl (zgN hd n hn)))
theorem Wt.len {H : Type} {P : Program} {t e : TypeId} {elems spare : List (DataW H)} (hu : P.underlying t = some (.slice e)) (h : Wt P t (.slice elems spare)) (hb : Nat.ble 1 (P.bytesOf e) = true) : elems.length ≤ reachBytes := by
 have := h ((elems.length + spare.length) * P.bytesOf e) (by simp [DataW.weights, hu])
 have := Nat.le_trans (Nat.le_mul_of_pos_right (elems.length + spare.length) (Nat.le_of_ble_eq_true hb)) this
 omega
theorem Wt.field {H : Type} {P : Program} {t : TypeId} {fs : Array Field} {ds : List (DataW H)} (hu : P.underlying t = some (.struct fs)) (h : Wt P t (.agg ds)) {i : Nat} {f : Field} {d : DataW H} (hf : fs[i]? = some f) (hd : ds[i]? = some d) : Wt P f.type d :=
 Wt.each (ts := fs.toList.map (·.type)) (fun n hn => h n (by simp only [DataW.weights, hu]; exact hn)) (by simp [hf]) hd
def Opn {H α : Type} (enc : TypeId × Value → H) (P : Program) (W : World) (t : TypeId) (T : Ty α) (Q : α → Prop) : Prop :=
 ∀ (fuel : Nat) (cs : List Value) (x : DataW H × List MemPlace), DataW.trod enc P W 0 (fun _ => true) true fuel t cs = some x → Wt P t x.1 → ∃ a, T.R (foreign W) a cs ∧ Q a
section
variable {H α : Type} {enc : TypeId × Value → H} {P : Program} {W : World} {t e : TypeId} {T : Ty α} {Q Q' : α → Prop}
theorem zie (hu : P.underlying t = some (.int .u8)) : Opn enc P W t Ty.u8 (fun _ => True) := fun fuel cs x hx _ => by
 obtain ⟨n, rfl, _, hw⟩ := DataW.trod_int hu hx
 have hb := zij hw
 refine ⟨UInt8.ofNat n.toNat, ?_, trivial⟩
 show [Value.int .u8 n] = [.int .u8 ((UInt8.ofNat n.toNat).toNat : Nat)]
 rw [UInt8.toNat_ofNat_of_lt' (show n.toNat < 256 by omega)]
 congr 2
 omega
theorem zgc (hu : P.underlying t = some (.int .i64)) : Opn enc P W t (Ty.int .i64) (fun n => -9223372036854775808 ≤ n ∧ n ≤ 9223372036854775807) := fun fuel cs x hx _ => by
 obtain ⟨n, rfl, _, hw⟩ := DataW.trod_int hu hx
 exact ⟨n, rfl, wf_i64 hw⟩
theorem zd8 {fs : Array Field} {xs : List (DataW H × List MemPlace)} {n : Nat} {cs : List Value} (hxl : xs.length = fs.size)
  (hf : ∀ (i : Nat) (f : Field), fs[i]? = some f → DataW.trod enc P W 0 (fun _ => true) true n f.type ((cs.drop f.offset).take (P.cellsOf f.type)) = xs[i]?) (i : Nat) {f : Field} (hi : fs[i]? = some f) {k : Nat} (hk : P.cellsOf f.type = k)
  (hu : P.underlying t = some (.struct fs)) (hw : Wt P t (.agg (xs.map (·.1)))) (hT : Opn enc P W f.type T Q) : ∃ a, T.R (foreign W) a ((cs.drop f.offset).take k) ∧ Q a := by
 have h := hf i f hi
 have hlt : i < xs.length := by
  rw [hxl]
  exact (Array.getElem?_eq_some_iff.1 hi).1
 rw [List.getElem?_eq_getElem hlt, hk] at h
 exact hT _ _ _ h (hw.field hu hi (by simp [hlt]))
theorem zhL (hu : P.underlying t = some (.slice e)) (hk : P.cellsOf e = T.sz) (hb : Nat.ble 1 (P.bytesOf e) = true) (hT : Opn enc P W e T Q) : Opn enc P W t (Ty.slice T) (fun l => l.length ≤ reachBytes ∧ ∀ a ∈ l, Q a) := fun fuel cs x hx hw => by
 rcases DataW.trod_slice hu hx with ⟨rfl, _⟩ | ⟨a, len, cap, elems, rest, n, rfl, rfl, rfl, _, hl, hm, hlen, hel, _, _⟩
 ·exact ⟨[], ⟨_, rfl, RdT.nil T _⟩, Nat.zero_le _, fun _ h => (nomatch h)⟩
 ·have key : ∀ m, m ≤ len → ∃ l : List α, l.length = m ∧ (∀ a ∈ l, Q a) ∧ ∃ cells : List Value, cells.length = m * T.sz ∧ Chunks T (foreign W) l cells ∧ ∀ j u, cells[j]? = some u → look (foreign W) (a.add j) = some u := by
   intro m
   induction m with
   | zero => intro _; exact ⟨[], rfl, fun _ h => (nomatch h), [], by simp, rfl, fun j u h => by simp at h⟩
   | succ m ih =>
    intro hm1
    obtain ⟨l, h1, h2, cells, h3, h4, h5⟩ := ih (by omega)
    have he := hel m (by omega)
    rw [List.getElem?_eq_getElem (by omega)] at he
    obtain ⟨c, hc, hx2⟩ := Option.bind_eq_some_iff.1 he
    obtain ⟨y, hy, hq⟩ := hT _ _ _ hx2 (hw.elem hu (List.mem_map.2 ⟨_, List.getElem_mem _, rfl⟩))
    obtain ⟨_, hcl, hcc⟩ := World.cells?_some hc
    rw [hk] at hcl hcc
    refine ⟨l ++ [y], by simp [h1], fun z hz => ?_, cells ++ c, by rw [List.length_append, h3, hcl, Nat.succ_mul], ?_, fun j u hu => ?_⟩
    ·rcases List.mem_append.1 hz with hz | hz
     ·exact h2 z hz
     ·rw [List.mem_singleton.1 hz]; exact hq
    ·exact h4.append (Chunks.single hy)
    ·rw [List.getElem?_append] at hu
     split at hu
     ·exact h5 j u hu
     ·rename_i hj
      have hlt := (List.getElem?_eq_some_iff.1 hu).1
      have := hcc (j - cells.length) (by omega)
      rw [hu] at this
      have e2 : (a.add (m * T.sz)).add (j - cells.length) = a.add j := by
       have hj2 : m * T.sz ≤ j := by rw [← h3]; omega
       rw [h3, zdl, Nat.add_sub_cancel' hj2]
      rw [e2] at this
      exact zjp this
  obtain ⟨l, h1, h2, cells, h3, h4, h5⟩ := key len (Nat.le_refl _)
  subst h1
  exact ⟨l, ⟨_, rfl, cells, ⟨some a, cap, rfl, hl, h3, fun j u hu => ⟨a, rfl, h5 j u hu⟩⟩, h4⟩, by have := hw.len hu hb; rw [List.length_map] at this; omega, h2⟩
theorem Opn.slice_arg {Q' : List α → Prop} {v : Value} {d : DataW H} {ps : List MemPlace} (h : Opn enc P W t (Ty.slice T) Q') (hv : ∃ a len cap, v = .slice a len cap) (hd : DataW.Trod enc P W 0 (fun _ => true) true t v d ps) (hw : Wt P t d) : ∃ l, RdT T (foreign W) v l ∧ Q' l := by
 obtain ⟨fuel, hf⟩ := hd
 obtain ⟨a, len, cap, rfl⟩ := hv
 obtain ⟨l, ⟨v', hv', hr⟩, hq⟩ := h _ _ _ hf hw
 have : v' = .slice a len cap := by
  have h2 : [Value.slice a len cap] = [v'] := hv'
  injection h2 with h2
  exact h2.symm
 subst this
 exact ⟨l, hr, hq⟩
end
theorem zhe {P : Program} {w0 : Base} {f : FuncId} {fn : Func} {af : zH} {args : List Value} {σ : Hp} {K : Value → Hp → Prop} {Kp : List PanicEntry → Hp → Prop} (hm : P.follows .mixedOrders = true) (hf : P.funcs[f]? = some fn) (hs : zI P fn = some af.fn) (ha : (af.body.ok && decide (args.length ≤ af.ntmps)) = true)
  (h : ∀ Q : Exit → Env → Hp → Prop, (∀ e σ' vs, resvs e σ' af.results = some vs → K (zbN vs) σ' → Q .ret e σ' ∧ Q .normal e σ') → wpn P w0.np af.body Q (zbX args) σ) : ACalls P w0 f args.toArray σ K Kp := by
 simp only [Bool.and_eq_true, decide_eq_true_eq] at ha
 refine ACalls.repan (w1 := w0.np) ?_ rfl rfl
 refine zg1 hm hf hs ha.2 (zbY _ _ _ _ _ (zbA _ _ _ _ (fun _ _ _ h => h.elim) ha.1 (h (fun x e σ' => (x = .ret ∨ x = .normal) ∧ ∃ vs, resvs e σ' af.results = some vs ∧ K (zbN vs) σ') (fun e σ' vs h1 h2 => ⟨⟨.inl rfl, vs, h1, h2⟩, .inr rfl, vs, h1, h2⟩))) fun x e σ' hq => ?_)
 obtain ⟨rfl | rfl, h⟩ := hq
 ·exact h
 ·exact h
def zgG (P : Program) (u : Value) (m : String) (as : Array Value) (τ : Hp) (vs : List Ob) (K : Value → Hp → List Ob → Prop) : Prop :=
 ∃ t v f, u = .iface t v ∧ (∀ w, Sem.run P (method (P.types.size + Made.depth) t v m) w = .ok (f, v) w) ∧ okF P f = true ∧ Ctr P f (v :: as.toList).toArray τ vs K
section
variable {P : Program} {w0 : Base} {e : Env} {τ σ : Hp} {Q : Exit → Env → Hp → Prop} {b : zO} {r : List XI} {d : Option Nat} {os : List Ob}
theorem zjL {x : Opd} {m : String} {args : List Opd} {as : Array Value} {u : Value} {hs vs : List Ob} {K : Value → Hp → List Ob → Prop} (hx : ev e x = u) (hO : Obs τ σ (hs ++ vs)) (hC : zgG P u m as τ vs K) (ha : (args.map (ev e)).toArray = as)
  (k : ∀ v σ' τ' vs', Obs τ' σ' (hs ++ vs') → Hp.le τ τ' → K v τ' vs' → wpn P w0 (.seq (.reg r) b) Q (zm e d v) σ') : wpn P w0 (.seq (.reg (.s ⟨d, .inv x m args, []⟩ :: r)) b) Q e σ :=
 zbu fun KK hK => by
  subst ha
  obtain ⟨t, v, f, rfl, hm, hf, hC⟩ := hC
  show aop P w0 (.inv x m args) e σ KK w0.pan
  exact ⟨t, v, f, hx, hm, hf, (ACalls.fr hO hC).use fun v σ' ⟨τ', vs', h1, h2, h3⟩ => hK v σ' (k v σ' τ' vs' h1 h2 h3)⟩
theorem zgT {x : Opd} {m : String} {args : List Opd} {as : Array Value} {u : Value} {K : Value → Hp → List Ob → Prop} (hx : ev e x = u) (hO : Obs τ σ os) (hC : zgG P u m as τ [] K) (ha : (args.map (ev e)).toArray = as)
  (k : ∀ v σ' τ' vs', Obs τ' σ' (os ++ vs') → Hp.le τ τ' → K v τ' vs' → wpn P w0 (.seq (.reg r) b) Q (zm e d v) σ') : wpn P w0 (.seq (.reg (.s ⟨d, .inv x m args, []⟩ :: r)) b) Q e σ :=
 zjL (hs := os) (vs := []) hx (by rw [List.append_nil]; exact hO) hC ha k
end
section
variable {P : Program}
theorem zj6 {w0 : Base} {M : World → (Ending → World → Prop) → Prop} {τ σ : Hp} {hs vs : List Ob} {K : Value → Hp → List Ob → Prop} {w : World} (hM : ∀ w R R', (∀ e w', R e w' → R' e w') → M w R → M w R') (hO : Obs τ σ (hs ++ vs)) (hI : Inv w0 σ w)
  (hC : ∀ (w1 : Base) (ρ : Hp), w1.world = w0.world → (∀ b o, w0.hid b = some o → w1.hid b = some o) → Obs τ ρ vs → Inv w1 ρ w → M w (fun e w' => match e with
   | .returned v => ∃ ρ', Inv w1 ρ' w' ∧ ∃ τ' vs', Obs τ' ρ' vs' ∧ Hp.le τ τ' ∧ K v τ' vs'
   | .panicked ch => ∃ ρ', Inv w1 ρ' w' ∧ zbg ch ρ'
   | .outgrown => False)) :
  M w (fun e w' => match e with
   | .returned v => ∃ σ', Inv w0 σ' w' ∧ ∃ τ' vs', Obs τ' σ' (hs ++ vs') ∧ Hp.le τ τ' ∧ K v τ' vs'
   | .panicked ch => ∃ σ', Inv w0 σ' w' ∧ zbg ch σ'
   | .outgrown => False) := by
 classical
 have hrow : ∀ (i b : Nat) (r : Row), Has hs i b r → σ b = some r ∧ τ b = none := fun i b r e => hO.rowH i b r e.inl
 have vrow : ∀ (i b : Nat) (r : Row), Has vs i b r → Has (hs ++ vs) (hs.length + i) b r := fun i b r e => e.inr
 let H : Nat → Prop := fun b => ∃ (i : Nat) (r : Row), Has hs i b r
 let w1 : Base := { world := w0.world, hid := fun b => if H b then w.heap[b]? else w0.hid b }
 let ρ : Hp := fun b => if H b then none else σ b
 have hρ : Obs τ ρ vs := by
  refine ⟨fun b r e => ?_, fun i b r e => ?_, fun i j b r r' e1 e2 => ?_, fun i o e => hO.nd (hs.length + i) o (by rw [List.getElem?_append_right (by omega), Nat.add_sub_cancel_left]; exact e)⟩
  ·have hn : ¬ H b := fun ⟨i, q, h⟩ => by rw [(hrow i b q h).2] at e; cases e
   simp only [ρ, if_neg hn]
   exact hO.base b r e
  ·obtain ⟨h1, h2⟩ := hO.rowH _ b r (vrow i b r e)
   have hn : ¬ H b := fun ⟨k, q, h⟩ => by
    have hk := h.lt
    have := hO.apartH k (hs.length + i) b q r h.inl (vrow i b r e)
    omega
   exact ⟨by simp only [ρ, if_neg hn]; exact h1, h2⟩
  ·have := hO.apartH _ _ b r r' (vrow i b r e1) (vrow j b r' e2)
   omega
 have hI1 : Inv w1 ρ w := by
  refine ⟨hI.below, fun b o ho => ?_, fun b r hb => ?_⟩
  ·by_cases hH : H b
   ·simp only [w1, if_pos hH] at ho
    exact ⟨by simp only [ρ, if_pos hH], ho⟩
   ·simp only [w1, if_neg hH] at ho
    exact ⟨by simp only [ρ, if_neg hH]; exact (hI.hid b o ho).1, (hI.hid b o ho).2⟩
  ·by_cases hH : H b
   ·simp only [ρ, if_pos hH] at hb; cases hb
   ·simp only [ρ, if_neg hH] at hb
    exact hI.row b r hb
 have hhid : ∀ b o, w0.hid b = some o → w1.hid b = some o := fun b o ho => by
  have hn : ¬ H b := fun ⟨i, q, h⟩ => by have := (hI.hid b o ho).1; rw [(hrow i b q h).1] at this; cases this
  simp only [w1, if_neg hn]; exact ho
 refine hM _ _ _ (fun e w' he => ?_) (hC w1 ρ rfl hhid hρ hI1)
 cases e with
 | panicked ch => obtain ⟨_, _, h⟩ := he; exact h.elim
 | outgrown => exact he
 | returned v =>
  obtain ⟨ρ', hI', τ', vs', hO', hle, hK⟩ := he
  have hH' : ∀ b, H b → ρ' b = none ∧ w'.heap[b]? = w.heap[b]? := fun b hH => by
   obtain ⟨i, r, hi⟩ := hH
   obtain ⟨cs, fr, hw, _⟩ := hI.row b r (hrow i b r hi).1
   have := hI'.hid b _ (show w1.hid b = some _ from by simp only [w1, if_pos (show H b from ⟨i, r, hi⟩)]; exact hw)
   exact ⟨this.1, by rw [this.2, hw]⟩
  refine ⟨fun b => if H b then σ b else ρ' b, ⟨hI'.below, fun b o ho => ?_, fun b r hb => ?_⟩, τ', vs', ⟨fun b r e => ?_, fun i b r e => ?_, fun i j b r r' e1 e2 => ?_, zd3 (fun i o e => hO.nd i o (by rw [List.getElem?_append_left (List.getElem?_eq_some_iff.1 e).1]; exact e)) hO'.nd⟩, hle, hK⟩
  ·have hn : ¬ H b := fun ⟨i, q, h⟩ => by have := (hI.hid b o ho).1; rw [(hrow i b q h).1] at this; cases this
   have := hI'.hid b o (hhid b o ho)
   exact ⟨by simp only [if_neg hn]; exact this.1, this.2⟩
  ·by_cases hH : H b
   ·simp only [if_pos hH] at hb
    obtain ⟨cs, fr, hw, h1⟩ := hI.row b r hb
    exact ⟨cs, fr, by rw [(hH' b hH).2]; exact hw, h1⟩
   ·simp only [if_neg hH] at hb
    exact hI'.row b r hb
  ·have := hO'.base b r e
   have hn : ¬ H b := fun h => by rw [(hH' b h).1] at this; cases this
   simp only [if_neg hn]
   exact this
  ·rcases zbW e with ⟨_, e⟩ | ⟨_, e⟩
   ·have hH : H b := ⟨i, r, e⟩
    simp only [if_pos hH]
    refine ⟨(hrow i b r e).1, ?_⟩
    cases ht : τ' b with
    | none => rfl
    | some q => have := hO'.base b q ht; rw [(hH' b hH).1] at this; cases this
   ·obtain ⟨h1, h2⟩ := hO'.rowH _ b r e
    have hn : ¬ H b := fun h => by rw [(hH' b h).1] at h1; cases h1
    simp only [if_neg hn]
    exact ⟨h1, h2⟩
  ·rcases zbW e1 with ⟨hi, e1⟩ | ⟨hi, e1⟩ <;> rcases zbW e2 with ⟨hj, e2⟩ | ⟨hj, e2⟩
   ·exact hO.apartH i j b r r' e1.inl e2.inl
   ·have h1 := (hO'.rowH _ b r' e2).1; rw [(hH' b ⟨i, r, e1⟩).1] at h1; cases h1
   ·have h1 := (hO'.rowH _ b r e1).1; rw [(hH' b ⟨j, r', e2⟩).1] at h1; cases h1
   ·have := hO'.apartH _ _ b r r' e1 e2
    omega
def zco (rec : Loop) (as : Array Value) : Array Value := (rec.params.zip as).foldl (fun tmps (t, a) => tmps.setIfInBounds t a) rec.tmps
def YC (P : Program) (l : Nat) (rec : Loop) (as : Array Value) (τ : Hp) (vs : List Ob) (K : Value → Hp → List Ob → Prop) : Prop :=
 as.size = rec.params.size ∧ ∀ (w0 : Base) (ρ : Hp), w0.hid l = some (.loop rec) → w0.heap.size ≤ l → Obs τ ρ vs →
  zcY P w0 l rec.fn (zco rec as) rec.assign rec.body ρ (fun v ρ' => ∃ τ' vs', Obs τ' ρ' vs' ∧ Hp.le τ τ' ∧ K v τ' vs') zbg
theorem YC.fr {w0 : Base} {l : Nat} {rec : Loop} {as : Array Value} {τ σ : Hp} {hs vs : List Ob} {K : Value → Hp → List Ob → Prop} (hl : w0.hid l = some (.loop rec)) (hs0 : w0.heap.size ≤ l) (hO : Obs τ σ (hs ++ vs)) (hC : YC P l rec as τ vs K) :
  zcg P w0 l as σ (fun v σ' => ∃ τ' vs', Obs τ' σ' (hs ++ vs') ∧ Hp.le τ τ' ∧ K v τ' vs') zbg :=
 ⟨rec.fn, zco rec as, rec.assign, rec.body, fun w hI => run_yield (hI.hid l _ hl).2 hC.1, fun w hI =>
  zj6 (M := fun w R => RoundIn Fence.wide 0 P l rec.fn (zco rec as) rec.assign rec.body w R) (fun w R R' h hr => hr.mono h) hO hI fun w1 ρ hw hh hρ hI1 => hC.2 w1 ρ (hh l _ hl) (by rw [show w1.heap = w0.heap from congrArg (·.heap) hw]; exact hs0) hρ w hI1⟩
section
variable {w0 : Base} {e : Env} {τ σ : Hp} {Q : Exit → Env → Hp → Prop} {b : zO} {r : List XI} {d : Option Nat} {os : List Ob}
theorem zc2 {x : Opd} {args : List Opd} {as : Array Value} {l : Nat} {rec : Loop} {hs vs : List Ob} {K : Value → Hp → List Ob → Prop} (hx : ev e x = .func (.yield l) #[] #[]) (hl : w0.hid l = some (.loop rec)) (hs0 : w0.heap.size ≤ l) (hO : Obs τ σ (hs ++ vs)) (hC : YC P l rec as τ vs K) (ha : (args.map (ev e)).toArray = as)
  (k : ∀ v σ' τ' vs', Obs τ' σ' (hs ++ vs') → Hp.le τ τ' → K v τ' vs' → wpn P w0 (.seq (.reg r) b) Q (zm e d v) σ') : wpn P w0 (.seq (.reg (.s ⟨d, .callv x args, []⟩ :: r)) b) Q e σ :=
 zbu fun KK hK => by
  subst ha
  simp only [xop, hx, Array.empty_append]
  exact (YC.fr hl hs0 hO hC).mono (fun v σ' ⟨τ', vs', h1, h2, h3⟩ => hK v σ' (k v σ' τ' vs' h1 h2 h3)) (fun _ _ h => h.elim)
end
def Base.put (w0 : Base) (l : Nat) (o : Obj) : Base := { world := w0.world, hid := fun b => if b = l then some o else w0.hid b }
theorem Inv.putHid {w0 : Base} {σ : Hp} {w : World} {l : Nat} {o : Obj} (o' : Obj) (hI : Inv w0 σ w) (ho : w0.hid l = some o) (hs : w0.heap.size ≤ l) : Inv (w0.put l o') σ (w.putObj l o') := by
 obtain ⟨h1, h2⟩ := hI.hid l o ho
 have hlt := (Array.getElem?_eq_some_iff.1 h2).1
 have hbel : Below w0.heap.size w (w.putObj l o') := (Below.refl _ w).grown (grownBy_putObj' w l o') hI.base_le (fun k e => by cases e; exact hs)
 refine ⟨hI.below.trans hbel, fun b q hq => ?_, fun b r hb => ?_⟩
 ·simp only [Base.put] at hq
  by_cases hbl : b = l
  ·subst hbl
   rw [if_pos rfl] at hq
   injection hq with hq
   subst hq
   exact ⟨h1, World.putObj_heap_same hlt⟩
  ·rw [if_neg hbl] at hq
   obtain ⟨h3, h4⟩ := hI.hid b q hq
   exact ⟨h3, by rw [World.putObj_heap_other hbl]; exact h4⟩
 ·have hbl : b ≠ l := fun e => by subst e; rw [h1] at hb; cases hb
  obtain ⟨cs, fr, h3, h4⟩ := hI.row b r hb
  exact ⟨cs, fr, by rw [World.putObj_heap_other hbl]; exact h3, h4⟩
theorem Inv.rehid {w0 w1 : Base} {σ : Hp} {w : World} (hI : Inv w1 σ w) (hw : w1.world = w0.world) (hh : ∀ b o, w0.hid b = some o → w1.hid b = some o) : Inv w0 σ w := by
 obtain ⟨x0, y0⟩ := w0
 obtain ⟨x1, y1⟩ := w1
 simp only at hw hh
 subst hw
 exact ⟨hI.below, fun b o ho => hI.hid b o (hh b o ho), hI.row⟩
theorem zi5 (hm : P.follows .mixedOrders = true) {N l : Nat} {rec : Loop} {as : Array Value} {aas abd : zbq} (hst : rec.state = .ready) (hpe : rec.pending = none) (hs1 : slim P N rec.assign = some aas) (hs2 : slim P N rec.body = some abd) (hN : (zco rec as).size = N) (hsz : as.size = rec.params.size)
  {τ : Hp} {vs : List Ob} {K : Value → Hp → List Ob → Prop}
  (H : ∀ ρ, Obs τ ρ vs → ∀ w1 : Base, (∀ ch σ, w1.pan ch σ → False) → awp P w1 aas (fun x e1 σ1 => x = .normal ∧ ∀ w2 : Base, (∀ ch σ, w2.pan ch σ → False) → awp P w2 abd (fun x _ σ2 => x = .normal ∧ ∃ τ' vs', Obs τ' σ2 vs' ∧ Hp.le τ τ' ∧ K (.bool true) τ' vs') e1 σ1) (zR { tmps := zco rec as, defers := [] }) ρ) : YC P l rec as τ vs K := by
 refine ⟨hsz, fun w0 ρ hl hs0 hO w hI => roundIn_of_wpIn (F := Fence.wide) trivial ?_⟩
 show rec.assign.wpIn (Rf (some l)) 0 P _ _ w
 refine wpIn_mono (zcS (ro := some l) hm rec.assign aas _ _ w ρ hs1 hN rfl (hI.repan (w1 := w0.np) rfl rfl) (H ρ hO w0.np (fun _ _ h => h))) fun ex a1 u1 hq => ?_
 obtain ⟨hN1, hd1, hq⟩ := hq
 cases ex with
 | outgrown => exact hq.elim
 | goto _ => exact hq.elim
 | ret => obtain ⟨_, _, h, _⟩ := hq; cases h
 | exit _ => obtain ⟨_, _, h, _⟩ := hq; cases h
 | panic _ => obtain ⟨_, _, h, _⟩ := hq; cases h
 | normal =>
  obtain ⟨σ1, hI1, -, hb⟩ := hq
  have hl1 := (hI1.hid l _ hl).2
  refine ⟨_, run_beginRound hl1 hst, ?_⟩
  have hI2 := hI1.putHid (.loop { rec with state := .busy }) hl hs0
  refine wpIn_mono (zcS (ro := some l) hm rec.body abd _ a1 _ σ1 hs2 hN1 hd1.1 hI2 (hb _ (fun _ _ h => h))) fun ex a2 u2 hq => ?_
  obtain ⟨hN2, hd2, hq⟩ := hq
  cases ex with
  | outgrown => exact hq.elim
  | goto _ => exact hq.elim
  | ret => obtain ⟨_, _, h, _⟩ := hq; cases h
  | exit _ => obtain ⟨_, _, h, _⟩ := hq; cases h
  | panic _ => obtain ⟨_, _, h, _⟩ := hq; cases h
  | normal =>
   obtain ⟨σ2, hI3, -, τ', vs', h1, h2, h3⟩ := hq
   have hlb : (w0.put l (.loop { rec with state := .busy })).hid l = some (.loop { rec with state := .busy }) := by simp [Base.put]
   have hl3 := (hI3.hid l _ hlb).2
   refine ⟨_, _, run_endRound none hl3, σ2, ?_, τ', vs', h1, h2, h3⟩
   have hrec : ({ ({ rec with state := .busy } : Loop) with state := if (none : Option Code).isNone then .ready else .done, pending := none } : Loop) = rec := by
    cases rec
    simp only at hst hpe
    subst hst; subst hpe
    rfl
   rw [hrec]
   refine (hI3.putHid (.loop rec) hlb hs0).rehid rfl fun b o ho => ?_
   by_cases hbl : b = l
   ·subst hbl; rw [hl] at ho; simp only [Base.put, if_true]; exact ho
   ·simp only [Base.put, if_neg hbl]; exact ho
end
inductive zbo where
 | seq (a : zO) (b : zbo)
 | seqR (a : zbo) (b : zO)
 | block (id : Nat) (a : zbo)
 | range (g : Nat) (p : Nat) (as bd : zO)
inductive RA where
 | seq (a : zbq) (b : RA)
 | seqR (a : RA) (b : zbq)
 | block (id : Nat) (a : RA)
 | range (g : Nat) (p : Nat) (as bd : zbq)
def zbo.code : zbo → RA
 | .seq a b => .seq a.code b.code
 | .seqR a b => .seqR a.code b.code
 | .block id a => .block id a.code
 | .range g p a b => .range g p a.code b.code
def zbo.ok : zbo → Bool
 | .seq a b => a.ok && b.ok
 | .seqR a b => a.ok && b.ok
 | .block _ a => a.ok
 | .range _ _ a b => a.ok && b.ok
def zb5 (P : Program) (n : Nat) : Code → Option RA
 | .seq a b => match slim P n a with
  | some x => (zb5 P n b).map fun y => .seq x y
  | none => (zb5 P n a).bind fun x => (slim P n b).map fun y => .seqR x y
 | .block id c => (zb5 P n c).map fun x => .block id x
 | .rangeFunc (.tmp g) ps a b => if ps.size = 1 ∧ ps[0]?.any (fun p => decide (p < n)) = true then (slim P n a).bind fun x => (slim P n b).map fun y => .range g (ps[0]?.getD 0) x y else none
 | _ => none
section
variable {P : Program} {w0 : Base}
def zgk (P : Program) (w0 : Base) (g p : Nat) (as bd : zO) (Q : Exit → Env → Hp → Prop) (e : Env) (σ : Hp) : Prop :=
 ∃ gf cap K, e g = .func (.func gf) #[] cap ∧ okF P gf = true ∧
  (∀ (w1 : Base) (l : Nat) (rec : Loop), w1.hid l = some (.loop rec) → w1.heap.size ≤ l →
   (∀ (x : Value) (τ : Hp) (vs : List Ob) (KY : Value → Hp → List Ob → Prop),
    (∀ ρ, Obs τ ρ vs → ∀ w1 : Base, wpn P w1 as (fun x e1 σ1 => x = .normal ∧ ∀ w2 : Base, wpn P w2 bd (fun x _ σ2 => x = .normal ∧ ∃ τ' vs', Obs τ' σ2 vs' ∧ Hp.le τ τ' ∧ KY (.bool true) τ' vs') e1 σ1) (zm e (some p) x) ρ) → YC P l rec #[x] τ vs KY) →
   ACalls P w1 gf (#[.func (.yield l) #[] #[]] ++ cap) σ K zbg) ∧ ∀ v σ', K v σ' → Q .normal e σ'
def zbt (P : Program) (w0 : Base) : zbo → (Exit → Env → Hp → Prop) → Env → Hp → Prop
 | .seq a b, Q, e, σ => wpn P w0 a (thn (fun e' σ' => zbt P w0 b Q e' σ') Q) e σ
 | .seqR a b, Q, e, σ => zbt P w0 a (thn (fun e' σ' => ∀ w1 : Base, wpn P w1 b Q e' σ') Q) e σ
 | .block id a, Q, e, σ => zbt P w0 a (inb id Q) e σ
 | .range g p a b, Q, e, σ => zgk P w0 g p a b Q e σ
section
variable {Q : Exit → Env → Hp → Prop} {e : Env} {σ : Hp}
theorem zcq {a : zO} {b : zbo} (h : wpn P w0 a (thn (fun e' σ' => zbt P w0 b Q e' σ') Q) e σ) : zbt P w0 (.seq a b) Q e σ := h
theorem zhF {a : zbo} {b : zO} (h : zbt P w0 a (thn (fun e' σ' => ∀ w1 : Base, wpn P w1 b Q e' σ') Q) e σ) : zbt P w0 (.seqR a b) Q e σ := h
theorem zhf {id : Nat} {a : zbo} (h : zbt P w0 a (inb id Q) e σ) : zbt P w0 (.block id a) Q e σ := h
theorem zg6 {g p : Nat} {a b : zO} (h : zgk P w0 g p a b Q e σ) : zbt P w0 (.range g p a b) Q e σ := h
end
def zgM (N : Nat) (w0 : Base) (Q : Exit → Env → Hp → Prop) : Exit → Act → World → Prop := fun x a w => lft N (dsl []) w0 Q x a w ∨
 ∃ (D : Nat) (w2 : Base), w2.world = w0.world ∧ (∀ b o, w0.hid b = some o → w2.hid b = some o) ∧ w2.hid D = some (.deferred (some [])) ∧ w0.heap.size ≤ D ∧ w0.hid D = none ∧ lft N (dsl [{ target := .collected D, args := #[] }]) w2 Q x a w
theorem Inv.allocHid {σ : Hp} {w : World} (hI : Inv w0 σ w) (o : Obj) : Inv (w0.put w.heap.size o) σ (w.alloc o) := by
 refine ⟨hI.below.alloc hI.base_le _, fun b q hq => ?_, fun b r hb => ?_⟩
 ·simp only [Base.put] at hq
  by_cases hbl : b = w.heap.size
  ·subst hbl
   rw [if_pos rfl] at hq
   injection hq with hq
   subst hq
   refine ⟨?_, World.alloc_heap_new w _⟩
   cases hs : σ w.heap.size with
   | none => rfl
   | some r => have := hI.lt hs; omega
  ·rw [if_neg hbl] at hq
   obtain ⟨h3, h4⟩ := hI.hid b q hq
   have hlt := (Array.getElem?_eq_some_iff.1 h4).1
   exact ⟨h3, by rw [Below.heap_alloc _ _ _ hlt]; exact h4⟩
 ·obtain ⟨cs', fr, hw, r1⟩ := hI.row b r hb
  exact ⟨cs', fr, by rw [Below.heap_alloc _ _ _ (hI.lt hb)]; exact hw, r1⟩
theorem zi2 {f : FuncId} (hf : okF P f = true) (args : Array Value) (w : World) : (callFunc f args).run P w = .ok (.enter f args) w := by
 unfold callFunc
 rw [run_bind]
 show (Sem.run P (match P.funcs[f]? with | none => _ | some fn => _) w) = _
 unfold okF at hf
 cases hp : P.funcs[f]? with
 | none => rw [hp] at hf; cases hf
 | some fn =>
  rw [hp] at hf
  simp only [Bool.and_eq_true, Bool.not_eq_true', beq_eq_false_iff_ne, ne_eq] at hf
  dsimp only
  rw [if_neg (by simpa using hf.2), if_neg (by cases hb : fn.body <;> simp_all)]
  rfl
theorem zj3 (hm : P.follows .mixedOrders = true) {N g p : Nat} {ps : Array Tmp} {as bd : Code} {xa xb : zO} (hps : ps.size = 1) (hp : ps[0]?.getD 0 = p) (hpN : p < N) (hs1 : slim P N as = some xa.code) (hs2 : slim P N bd = some xb.code) (oka : xa.ok = true) (okb : xb.ok = true)
  {Q : Exit → Env → Hp → Prop} {a : Act} {w : World} {σ : Hp} (hN : a.tmps.size = N) (hd : a.defers = []) (hI : Inv w0 σ w) (h : zgk P w0 g p xa xb Q (zR a) σ) : (Code.rangeFunc (.tmp g) ps as bd).wpIn (Rf none) 0 P (zgM N w0 Q) a w := by
 obtain ⟨gf, cap, K, hg, hok, hcall, hQ⟩ := h
 have hg' : a.eval (.tmp g) = .func (.func gf) #[] cap := by rw [← zA a (.tmp g)]; exact hg
 obtain rfl : ps = #[p] := by
  apply Array.ext
  ·simpa using hps
  ·intro i h1 h2
   have h0 : i = 0 := by simp at h2; exact h2
   subst h0
   simp only [Array.getElem?_eq_getElem h1, Option.getD_some] at hp
   simpa using hp
 refine wpIn_rangeFunc fun fn _ => ?_
 obtain ⟨rec, hrec⟩ : ∃ rec : Loop, rec = { state := .ready, pending := none, fn, tmps := a.tmps, params := #[p], assign := as, body := bd, defers := w.heap.size } := ⟨_, rfl⟩
 obtain ⟨W1, hW1⟩ : ∃ W1, (w.alloc (.deferred (some []))).alloc (.loop rec) = W1 := ⟨_, rfl⟩
 have hsz1 : (w.alloc (.deferred (some []))).heap.size = w.heap.size + 1 := World.size_alloc _ _
 have hI1 : Inv ((w0.put w.heap.size (.deferred (some []))).put (w.heap.size + 1) (.loop rec)) σ W1 := by
  have := (hI.allocHid (.deferred (some []))).allocHid (.loop rec)
  rw [hsz1, hW1] at this
  exact this
 have hl1 : ((w0.put w.heap.size (.deferred (some []))).put (w.heap.size + 1) (.loop rec)).hid (w.heap.size + 1) = some (.loop rec) := by simp [Base.put]
 refine ⟨w.heap.size + 1, [{ target := .collected w.heap.size, args := #[] }], W1, { target := .fn (.func gf) cap, args := #[.func (.yield (w.heap.size + 1)) #[] #[]] }, W1, gf, #[.func (.yield (w.heap.size + 1)) #[] #[]] ++ cap, W1, ?_, ?_, ?_, ?_, fun h => (by cases h), ?_⟩
 ·rw [← hW1, hrec]; exact run_enterLoop_outer _ _ _ _ _
 ·simp only [resolve, hg']
  simp [go_sem]
 ·intro f' _; trivial
 ·simp [invoke, go_sem, zi2 hok]
 ·show CallsIn Fence.wide (0 - 1) P gf _ W1 _
  refine callsIn_wide.2 ((hcall _ (w.heap.size + 1) rec hl1 (by show w0.heap.size ≤ _; have := hI.base_le; omega) ?_ W1 hI1).mono fun e w3 he => ?_)
  ·intro x τ vs KY H
   have hT : zco rec #[x] = a.tmps.setIfInBounds p x := by rw [hrec]; simp [zco]
   refine zi5 hm (rec := rec) (by rw [hrec]) (by rw [hrec]) (N := N) (aas := xa.code) (abd := xb.code) (by rw [hrec]; exact hs1) (by rw [hrec]; exact hs2) (by rw [hT]; simpa using hN) (by rw [hrec]; rfl) fun ρ hO w1 => ?_
   have hE : zR { tmps := zco rec #[x], defers := [] } = zm (zR a) (some p) x := by
    rw [hT]
    exact zgi (a := a) (d := some p) (v := x) hN (by simpa using hpN)
   rw [hE]
   refine fun hn1 => zbY _ _ _ _ _ (zbA _ _ _ _ (fun ch σ' _ h => (hn1 ch σ' h).elim) oka (H ρ hO w1)) fun y e1 σ1 hy => ⟨hy.1, fun w2 hn2 => zbA _ _ _ _ (fun ch σ' _ h => (hn2 ch σ' h).elim) okb (hy.2 w2)⟩
  ·cases e with
   | outgrown => exact he.elim
   | panicked ch => obtain ⟨_, _, h⟩ := he; exact h.elim
   | returned v =>
    obtain ⟨σ3, hI3, hk⟩ := he
    have hl3 := (hI3.hid _ _ hl1).2
    have hle := hI.base_le
    obtain ⟨o4, h4⟩ : ∃ o4, (Instr.endLoop (w.heap.size + 1)).run P w3 = .ok none (w3.putObj (w.heap.size + 1) o4) := ⟨_, by have := run_endLoop (P := P) hl3 (by rw [hrec]; simp); rw [show rec.pending = none by rw [hrec]] at this; exact this⟩
    refine ⟨_, _, h4, .inr ?_⟩
    have hI4 := hI3.putHid o4 hl1 (by show w0.heap.size ≤ _; omega)
    have hn : ∀ b o, w0.hid b = some o → b < w.heap.size := fun b o ho => (Array.getElem?_eq_some_iff.1 (hI.hid b o ho).2).1
    refine ⟨w.heap.size, ((w0.put w.heap.size (.deferred (some []))).put (w.heap.size + 1) (.loop rec)).put (w.heap.size + 1) o4, rfl, fun b o ho => ?_, ?_, hle, ?_, hN, dsok (by rw [hd]; rfl), σ3, hI4, hQ v σ3 hk⟩
    ·have := hn b o ho
     simp only [Base.put, if_neg (show b ≠ w.heap.size + 1 by omega), if_neg (show b ≠ w.heap.size by omega)]
     exact ho
    ·simp [Base.put]
    ·cases hh : w0.hid w.heap.size with
     | none => rfl
     | some o => have := hn _ _ hh; omega
theorem zex (hm : P.follows .mixedOrders = true) (hnp : ∀ ch σ, w0.pan ch σ → False) {N : Nat} : ∀ (x : zbo) (c : Code) (Q : Exit → Env → Hp → Prop) (a : Act) (w : World) (σ : Hp), zb5 P N c = some x.code → x.ok = true → a.tmps.size = N → a.defers = [] → Inv w0 σ w → zbt P w0 x Q (zR a) σ → c.wpIn (Rf none) 0 P (zgM N w0 Q) a w
 | .seq xa xb, c, Q, a, w, σ, h, ho, hN, hd, hI, hK => by
  simp only [zbo.ok, Bool.and_eq_true] at ho
  unfold zb5 at h
  split at h
  ·rename_i ca cb
   split at h
   ·rename_i y hy
    obtain ⟨z, hz, h⟩ := Option.map_eq_some_iff.1 h
    injection h with h1 h2
    subst h1; subst h2
    refine wpIn_seq (wpIn_mono (zcS (ro := none) hm ca _ _ a w σ hy hN hd hI (zbA _ _ _ _ (fun ch σ' _ h => (hnp ch σ' h).elim) ho.1 hK)) fun ex a' w' hq => ?_)
    cases ex with
    | normal =>
     obtain ⟨hN', hd', σ', hI', hq⟩ := hq
     exact zex hm hnp xb cb Q a' w' σ' hz ho.2 hN' hd'.1 hI' hq
    | outgrown => exact hq.2.2.elim
    | goto l => exact hq.2.2.elim
    | exit id => exact .inl hq
    | ret => exact .inl hq
    | panic ch => exact .inl hq
   ·obtain ⟨_, _, h⟩ := Option.bind_eq_some_iff.1 h
    obtain ⟨_, _, h⟩ := Option.map_eq_some_iff.1 h
    cases h
  ·obtain ⟨_, _, h⟩ := Option.map_eq_some_iff.1 h
   cases h
  ·split at h
   ·obtain ⟨_, _, h⟩ := Option.bind_eq_some_iff.1 h
    obtain ⟨_, _, h⟩ := Option.map_eq_some_iff.1 h
    cases h
   ·cases h
  ·cases h
 | .seqR xa xb, c, Q, a, w, σ, h, ho, hN, hd, hI, hK => by
  simp only [zbo.ok, Bool.and_eq_true] at ho
  unfold zb5 at h
  split at h
  ·rename_i ca cb
   split at h
   ·obtain ⟨_, _, h⟩ := Option.map_eq_some_iff.1 h
    cases h
   ·obtain ⟨y, hy, h⟩ := Option.bind_eq_some_iff.1 h
    obtain ⟨z, hz, h⟩ := Option.map_eq_some_iff.1 h
    injection h with h1 h2
    subst h1; subst h2
    refine wpIn_seq (wpIn_mono (zex hm hnp xa ca _ a w σ hy ho.1 hN hd hI hK) fun ex a' w' hq => ?_)
    rcases hq with hq | ⟨D, w2, e1, e2, e3, e4, e5, hq⟩
    ·cases ex with
     | normal =>
      obtain ⟨hN', hd', σ', hI', hq⟩ := hq
      exact wpIn_mono (zcS (ro := none) hm cb _ _ a' w' σ' hz hN' hd'.1 hI' (zbA _ _ _ _ (fun ch σ' _ h => (hnp ch σ' h).elim) ho.2 (hq w0))) fun _ _ _ h => .inl h
     | outgrown => exact hq.2.2.elim
     | goto l => exact hq.2.2.elim
     | exit id => exact .inl hq
     | ret => exact .inl hq
     | panic ch => exact .inl hq
    ·cases ex with
     | normal =>
      obtain ⟨hN', hd', σ', hI', hq⟩ := hq
      exact wpIn_mono (zcS (ro := none) hm cb _ _ a' w' σ' hz hN' hd'.1 (hI'.repan (w1 := w2.np) rfl rfl) (zbA _ _ _ _ (fun _ _ _ h => h.elim) ho.2 (hq w2.np))) fun _ _ _ h => .inr ⟨D, w2.np, e1, e2, e3, e4, e5, h⟩
     | outgrown => exact hq.2.2.elim
     | goto l => exact hq.2.2.elim
     | exit id => exact .inr ⟨D, w2, e1, e2, e3, e4, e5, hq⟩
     | ret => exact .inr ⟨D, w2, e1, e2, e3, e4, e5, hq⟩
     | panic ch => exact .inr ⟨D, w2, e1, e2, e3, e4, e5, hq⟩
  ·obtain ⟨_, _, h⟩ := Option.map_eq_some_iff.1 h
   cases h
  ·split at h
   ·obtain ⟨_, _, h⟩ := Option.bind_eq_some_iff.1 h
    obtain ⟨_, _, h⟩ := Option.map_eq_some_iff.1 h
    cases h
   ·cases h
  ·cases h
 | .block id xa, c, Q, a, w, σ, h, ho, hN, hd, hI, hK => by
  simp only [zbo.ok] at ho
  unfold zb5 at h
  split at h
  ·split at h
   ·obtain ⟨_, _, h⟩ := Option.map_eq_some_iff.1 h
    cases h
   ·obtain ⟨_, _, h⟩ := Option.bind_eq_some_iff.1 h
    obtain ⟨_, _, h⟩ := Option.map_eq_some_iff.1 h
    cases h
  ·rename_i id' ca
   obtain ⟨y, hy, h⟩ := Option.map_eq_some_iff.1 h
   injection h with h1 h2
   subst h1; subst h2
   refine wpIn_block (wpIn_mono (zex hm hnp xa ca _ a w σ hy ho hN hd hI hK) fun ex a' w' hq => ?_)
   have fin : ∀ (ds : Ds) (w2 : Base), lft N ds w2 (inb id' Q) ex a' w' → ∀ R : Exit → Act → World → Prop, (∀ x a w, lft N ds w2 Q x a w → R x a w) → Exit.inBlock id' R ex a' w' := by
    intro ds w2 hq R hR
    obtain ⟨hN', hd', hq⟩ := hq
    cases ex with
    | exit k =>
     obtain ⟨σ', hI', hq⟩ := hq
     simp only [inb] at hq
     simp only [Exit.inBlock]
     split
     ·rename_i hk
      rw [if_pos hk] at hq
      exact hR _ _ _ ⟨hN', hd', σ', hI', hq⟩
     ·rename_i hk
      rw [if_neg hk] at hq
      exact hR _ _ _ ⟨hN', hd', σ', hI', hq⟩
    | normal => exact hR .normal _ _ ⟨hN', hd', hq⟩
    | outgrown => exact hq.elim
    | goto l => exact hq.elim
    | ret => exact hR .ret _ _ ⟨hN', hd', hq⟩
    | panic ch => exact hR (.panic ch) _ _ ⟨hN', hd', hq⟩
   rcases hq with hq | ⟨D, w2, e1, e2, e3, e4, e5, hq⟩
   ·exact fin _ _ hq _ fun _ _ _ h => .inl h
   ·exact fin _ _ hq _ fun _ _ _ h => .inr ⟨D, w2, e1, e2, e3, e4, e5, h⟩
  ·split at h
   ·obtain ⟨_, _, h⟩ := Option.bind_eq_some_iff.1 h
    obtain ⟨_, _, h⟩ := Option.map_eq_some_iff.1 h
    cases h
   ·cases h
  ·cases h
 | .range g p xa xb, c, Q, a, w, σ, h, ho, hN, hd, hI, hK => by
  simp only [zbo.ok, Bool.and_eq_true] at ho
  unfold zb5 at h
  split at h
  ·split at h
   ·obtain ⟨_, _, h⟩ := Option.map_eq_some_iff.1 h
    cases h
   ·obtain ⟨_, _, h⟩ := Option.bind_eq_some_iff.1 h
    obtain ⟨_, _, h⟩ := Option.map_eq_some_iff.1 h
    cases h
  ·obtain ⟨_, _, h⟩ := Option.map_eq_some_iff.1 h
   cases h
  ·rename_i g' ps ca cb
   split at h
   ·rename_i hps
    obtain ⟨y, hy, h⟩ := Option.bind_eq_some_iff.1 h
    obtain ⟨z, hz, h⟩ := Option.map_eq_some_iff.1 h
    injection h with h1 h2 h3 h4
    subst h1; subst h3; subst h4
    refine zj3 hm hps.1 h2 ?_ hy hz ho.1 ho.2 hN hd hI hK
    have h5 := hps.2
    rw [← h2]
    cases hq : ps[0]? with
    | none => rw [hq] at h5; cases h5
    | some q => rw [hq] at h5; simpa using h5
   ·cases h
  ·cases h
structure zd6 where
 ntmps : Nat
 results : List zbH
 body : zbo
structure RAF where
 ntmps : Nat
 results : List zbH
 body : RA
def zd6.fn (f : zd6) : RAF := ⟨f.ntmps, f.results, f.body.code⟩
def zeA (P : Program) (fn : Func) : Option RAF := fn.body.bind fun c => (zb5 P fn.ntmps c).bind fun ac => (fn.results.toList.mapM (zfe P)).map fun rs => ⟨fn.ntmps, rs, ac⟩
theorem zjz {f : FuncId} {fn : Func} {af : zd6} {args : List Value} {σ : Hp} {K : Value → Hp → Prop} (hm : P.follows .mixedOrders = true) (hf : P.funcs[f]? = some fn) (hs : zeA P fn = some af.fn) (ha : (af.body.ok && decide (args.length ≤ af.ntmps)) = true)
  (h : ∀ Q : Exit → Env → Hp → Prop, (∀ e σ' vs, resvs e σ' af.results = some vs → K (zbN vs) σ' → Q .ret e σ') → zbt P w0.np af.body Q (zbX args) σ) : ACalls P w0 f args.toArray σ K zbg := by
 simp only [Bool.and_eq_true, decide_eq_true_eq] at ha
 refine ACalls.repan (w1 := w0.np) ?_ rfl rfl
 intro w hI
 unfold zeA at hs
 obtain ⟨c, hc, hs⟩ := Option.bind_eq_some_iff.1 hs
 obtain ⟨ac, hac, hs⟩ := Option.bind_eq_some_iff.1 hs
 obtain ⟨rs, hrs, hs⟩ := Option.map_eq_some_iff.1 hs
 injection hs with e1 e2 e3
 subst e2; subst e3
 have hlen : args.length ≤ fn.ntmps := by rw [e1]; exact ha.2
 have he : zR { tmps := args.toArray ++ Array.replicate (fn.ntmps - args.toArray.size) undef, defers := [] } = zbX args := by
  funext k
  simp only [zR, zbX, Array.getD_eq_getD_getElem?, List.getD_eq_getElem?_getD, Array.getElem?_append, List.size_toArray, Array.getElem?_replicate]
  by_cases hk : k < args.length
  ·simp [hk]
  ·simp only [hk, if_false, List.getElem?_eq_none (show args.length ≤ k from by omega)]
   split <;> rfl
 have hQ := h (fun x e σ' => x = .ret ∧ ∃ vs, resvs e σ' af.results = some vs ∧ K (zbN vs) σ') (fun e σ' vs h1 h2 => ⟨rfl, vs, h1, h2⟩)
 refine (callsIn_wide (n := 0)).1 (callsIn_of_wp_marks (F := Rf none) hf hc trivial (wpIn_mono (zex hm (fun _ _ h => h) af.body c _ _ w σ hac ha.1 (by simp; omega) rfl hI (he ▸ hQ)) fun ex a' w' hq => ?_))
 rcases hq with hq | ⟨D, w2, e1, e2, e3, e4, e5, hq⟩
 ·obtain ⟨hN', hd', hq⟩ := hq
  cases ex with
  | outgrown => exact hq.elim
  | goto l => exact hq.elim
  | normal => obtain ⟨_, _, h, _⟩ := hq; cases h
  | exit _ => obtain ⟨_, _, h, _⟩ := hq; cases h
  | panic _ => obtain ⟨_, _, h, _⟩ := hq; cases h
  | ret =>
   obtain ⟨σ', hI', -, vs, hvs, hk⟩ := hq
   show LeavesInM (Rf none) 0 P fn a'.tmps _ a'.defers .returning w'
   rw [hd'.1]
   exact ⟨_, zeH hI' hrs hvs, σ', hI', hk⟩
 ·obtain ⟨hN', hd', hq⟩ := hq
  cases ex with
  | outgrown => exact hq.elim
  | goto l => exact hq.elim
  | normal => obtain ⟨_, _, h, _⟩ := hq; cases h
  | exit _ => obtain ⟨_, _, h, _⟩ := hq; cases h
  | panic _ => obtain ⟨_, _, h, _⟩ := hq; cases h
  | ret =>
   obtain ⟨σ', hI', -, vs, hvs, hk⟩ := hq
   show LeavesInM (Rf none) 0 P fn a'.tmps _ a'.defers .returning w'
   rw [hd'.1]
   have hD := (hI'.hid D _ e3).2
   have hI2 := hI'.putHid (.deferred none) e3 (by rw [show w2.heap = w0.heap from congrArg (·.heap) e1]; exact e4)
   refine ⟨by simp, .inl ⟨D, _, rfl, run_takeDeferred hD, ?_⟩⟩
   refine ⟨_, zeH hI2 hrs hvs, σ', ?_, hk⟩
   refine hI2.rehid e1 fun b o ho => ?_
   have hb : b ≠ D := fun e => by subst e; rw [e5] at ho; cases ho
   simp only [Base.put, if_neg hb]
   exact e2 b o ho
theorem zht {f : FuncId} {fn : Func} {af : zd6} {args : List Value} {τ : Hp} {vs : List Ob} {K : Value → Hp → List Ob → Prop} (hm : P.follows .mixedOrders = true) (hf : P.funcs[f]? = some fn) (hs : zeA P fn = some af.fn) (ha : (af.body.ok && decide (args.length ≤ af.ntmps)) = true)
  (h : ∀ (w0 : Base) (σ : Hp), Obs τ σ vs → ∀ Q : Exit → Env → Hp → Prop, (∀ e σ' rs τ' vs', resvs e σ' af.results = some rs → Obs τ' σ' vs' → Hp.le τ τ' → K (zbN rs) τ' vs' → Q .ret e σ') → zbt P w0 af.body Q (zbX args) σ) : Ctr P f args.toArray τ vs K := fun w0 σ hO =>
 zjz hm hf hs ha fun Q hQ => h w0.np σ hO Q fun e σ' rs τ' vs' h1 h2 h3 h4 => hQ e σ' rs h1 ⟨τ', vs', h2, h3, h4⟩
end
section
variable {τ σ : Hp} {os : List Ob} {α : Type} {T : Ty α} {l : List α} {o : Ob} {i ty ln c n : Nat} {A : Option Addr} {q : Int} {y : α}
theorem zj.at_ (hO : Obs τ σ os) (hW : zj T ty τ (.slice A ln c) l o) (hi : os[i]? = some o) (hg : zn l q = some y) (hn : T.sz = n) : ∃ a cs, A.map (fun x => x.add (q.toNat * n)) = some a ∧ T.R τ y cs ∧ At σ a cs ∧ zcF T.sz o a q := by
 subst hn
 obtain ⟨h0, hg'⟩ := zdd hg
 have hlt := (List.getElem?_eq_some_iff.1 hg').1
 rcases hW with ⟨hv, rfl, rfl⟩ | ⟨bb, cap, cells, rest, hv, h2, h3, rfl, h5⟩
 ·simp at hlt
 ·injection hv with hv1 hv2 hv3
  subst hv1
  obtain ⟨cs, hR, he⟩ := h5.get hg'
  refine ⟨_, cs, rfl, hR, fun j u hu => ?_, ⟨bb, _, rfl, by show Addr.add _ _ = _; rw [zbl, Nat.zero_add]⟩⟩
  obtain ⟨h6, _⟩ := hO.row i bb _ hi
  rw [zdl, zbl, Nat.zero_add]
  simp only [look, h6, Option.isSome_none, Bool.false_eq_true, if_false, Option.bind_some]
  rw [he, List.getElem?_take] at hu
  split at hu
  ·rw [List.getElem?_drop] at hu
   rw [List.getElem?_append_left (List.getElem?_eq_some_iff.1 hu).1]
   exact hu
  ·cases hu
theorem zj.ptr {a : Addr} (hW : zj T ty τ (.slice A ln c) l o) (h : zcF T.sz o a q) (hn : T.sz = n) : some a = A.map (fun x => x.add (q.toNat * n)) := by
 subst hn
 obtain ⟨b, r, ho, rfl⟩ := h
 rcases hW with ⟨hv, rfl, rfl⟩ | ⟨bb, cap, cells, rest, hv, h2, h3, rfl, h5⟩
 ·cases ho
 ·injection hv with hv1 hv2 hv3
  subst hv1
  injection ho with ho
  injection ho with ho1 ho2
  subst ho1
  simp [Addr.add]
end
section
variable {α β : Type} {T : Ty α} {T2 : Ty β} {ty : Nat} {l : List α} {l2 : List β} {v : Value} {P : Program} {f : FuncId} {τ : Hp}
def Hp.with (τ : Hp) (o : Ob) : Hp := fun b => match o.find? (fun p => p.1 == b) with
 | some p => some p.2
 | none => τ b
open Classical in
noncomputable def Hp.out (τ : Hp) (o : Ob) : Hp := fun b => if ∃ r, (b, r) ∈ o then none else τ b
theorem Hp.with_mem {τ : Hp} : ∀ {o : Ob} {b : Nat} {r : Row}, (o.Pairwise fun x y => x.1 ≠ y.1) → (b, r) ∈ o → τ.with o b = some r
 | [], b, r, _, h => by simp at h
 | (c, q) :: o, b, r, hp, h => by
  rw [List.pairwise_cons] at hp
  unfold Hp.with
  rw [List.find?_cons]
  by_cases hc : c = b
  ·rcases List.mem_cons.1 h with h | h
   ·injection h with h1 h2
    subst h2
    have : (c == b) = true := by simpa using hc
    rw [this]
   ·exact absurd hc (hp.1 (b, r) h)
  ·rcases List.mem_cons.1 h with h | h
   ·injection h with h1 h2
    exact absurd h1.symm hc
   ·have : (c == b) = false := by simpa using hc
    rw [this]
    exact Hp.with_mem hp.2 h
theorem Hp.with_not {τ : Hp} {o : Ob} {b : Nat} (h : ∀ r, (b, r) ∉ o) : τ.with o b = τ b := by
 unfold Hp.with
 cases hf : o.find? (fun p => p.1 == b) with
 | none => rfl
 | some p =>
  have h1 := List.mem_of_find?_eq_some hf
  have h2 := List.find?_some hf
  have h2 : p.1 = b := by simpa using h2
  subst h2
  exact absurd h1 (h p.2)
theorem Hp.with_one {τ : Hp} {b : Nat} {r : Row} : τ.with [(b, r)] = τ.set b r := by
 funext c
 by_cases hc : c = b
 ·subst hc
  rw [Hp.set_eq, Hp.with_mem (zeF _) (List.mem_singleton.2 rfl)]
 ·rw [Hp.set_ne _ _ hc, Hp.with_not (fun q h => hc (by have := List.mem_singleton.1 h; injection this))]
theorem Obs.give {τ σ : Hp} {os : List Ob} {i : Nat} {o : Ob} (h : Obs τ σ os) (hi : os[i]? = some o) : Hp.le τ (τ.with o) ∧ Obs (τ.with o) σ (os.set i []) := by
 have hno : ∀ (b : Nat) (r r' : Row), τ b = some r → (b, r') ∉ o := fun b r r' e hm => by rw [(h.rowH i b r' ⟨o, hi, hm⟩).2] at e; cases e
 have key : ∀ (k c : Nat) (q : Row), Has (os.set i []) k c q → k ≠ i ∧ Has os k c q := fun k c q e => by
  rcases zbC e with ⟨_, e⟩ | e
  ·simp at e
  ·exact e
 refine ⟨fun b r e => ?_, fun c q e => ?_, fun k c q e => ?_, fun k l c q q' e1 e2 => h.apartH k l c q q' (key _ _ _ e1).2 (key _ _ _ e2).2, zbZ h.nd .nil⟩
 ·rw [Hp.with_not (fun r' => hno b r r' e)]
  exact e
 ·by_cases hc : ∃ r, (c, r) ∈ o
  ·obtain ⟨r, hr⟩ := hc
   rw [Hp.with_mem (h.nd i o hi) hr] at e
   injection e with e
   subst e
   exact (h.rowH i c r ⟨o, hi, hr⟩).1
  ·rw [Hp.with_not (fun r hr => hc ⟨r, hr⟩)] at e
   exact h.base c q e
 ·obtain ⟨hk, e⟩ := key k c q e
  obtain ⟨h1, h2⟩ := h.rowH k c q e
  refine ⟨h1, ?_⟩
  rw [Hp.with_not (fun r hr => hk (h.apartH k i c q r e ⟨o, hi, hr⟩))]
  exact h2
theorem Obs.tl {τ σ : Hp} {os : List Ob} {o : Ob} (h : Obs τ σ (o :: os)) : Obs τ σ os := by
 have up : ∀ {k c q}, Has os k c q → Has (o :: os) (k + 1) c q := fun {k c q} ⟨o', h1, h2⟩ => ⟨o', by simpa using h1, h2⟩
 exact ⟨h.base, fun k c q e => h.rowH _ c q (up e), fun k l c q q' e1 e2 => Nat.succ.inj (h.apartH _ _ c q q' (up e1) (up e2)), fun k o' e => h.nd (k + 1) o' (by simpa using e)⟩
theorem Obs.back {τ σ τ' σ' : Hp} {vs vs' : List Ob} {o : Ob} (h : Obs τ σ (o :: vs)) (hle : Hp.le (τ.with o) τ') (h' : Obs τ' σ' vs') : Hp.le τ (τ'.out o) ∧ Obs (τ'.out o) σ' (o :: vs') := by
 have hin : ∀ {c r}, (c, r) ∈ o → τ' c = some r := fun hm => hle _ _ (Hp.with_mem (h.nd 0 o rfl) hm)
 have out_le : ∀ c q, τ'.out o c = some q → τ' c = some q := fun c q e => by
  unfold Hp.out at e
  split at e
  ·cases e
  ·exact e
 have tlH : ∀ {k c q}, Has (o :: vs') (k + 1) c q → Has vs' k c q := fun {k c q} ⟨o', h1, h2⟩ => ⟨o', by simpa using h1, h2⟩
 have hdH : ∀ {c q}, Has (o :: vs') 0 c q → (c, q) ∈ o := fun {c q} ⟨o', h1, h2⟩ => by simp at h1; subst h1; exact h2
 have key : ∀ {k c q r}, Has vs' k c q → (c, r) ∈ o → False := fun {k c q r} e hm => by
  have := (h'.rowH k c q e).2
  rw [hin hm] at this
  cases this
 refine ⟨fun c q e => ?_, fun c q e => h'.base c q (out_le c q e), fun k c q e => ?_, fun k l c q q' e1 e2 => ?_, fun k o' e => ?_⟩
 ·have hn : ¬ ∃ r, (c, r) ∈ o := fun ⟨r, hr⟩ => by rw [(h.rowH 0 c r ⟨o, rfl, hr⟩).2] at e; cases e
  unfold Hp.out
  rw [if_neg hn]
  exact hle c q (by rw [Hp.with_not (fun r hr => hn ⟨r, hr⟩)]; exact e)
 ·match k with
  | 0 =>
   have hm := hdH e
   exact ⟨h'.base _ _ (hin hm), by unfold Hp.out; rw [if_pos ⟨q, hm⟩]⟩
  | k + 1 =>
   obtain ⟨h1, h2⟩ := h'.rowH k c q (tlH e)
   refine ⟨h1, ?_⟩
   unfold Hp.out
   split
   ·rfl
   ·exact h2
 ·match k, l with
  | 0, 0 => rfl
  | k + 1, l + 1 => exact congrArg Nat.succ (h'.apartH k l c q q' (tlH e1) (tlH e2))
  | 0, l + 1 => exact (key (tlH e2) (hdH e1)).elim
  | k + 1, 0 => exact (key (tlH e1) (hdH e2)).elim
 ·match k with
  | 0 => exact h.nd 0 o' e
  | k + 1 => exact h'.nd k o' (by simpa using e)
theorem zj.rdW {o : Ob} (hW : zj T ty τ v l o) {i : Nat} {os : List Ob} {σ : Hp} (hO : Obs τ σ os) (hi : os[i]? = some o) : RdT T (τ.with o) v l := by
 obtain ⟨h1, h2⟩ := hO.give hi
 rcases hW with ⟨rfl, rfl, _⟩ | ⟨b', cap, cells, rest, rfl, h3, h4, rfl, h5⟩
 ·exact RdT.nil _ _
 ·rw [Hp.with_one] at h1 ⊢
  refine ⟨cells, ⟨_, cap, rfl, h3, h5.len, fun j u hu => ⟨_, rfl, ?_⟩⟩, h5.mono h1⟩
  rw [zbl, Nat.zero_add, zeN]
  show (cells ++ rest)[j]? = some u
  rw [List.getElem?_append_left (List.getElem?_eq_some_iff.1 hu).1]
  exact hu
theorem Ctr.lendX {args : Array Value} {o : Ob} {vs : List Ob} {K K' : Value → Hp → List Ob → Prop} (hf : ∀ v τ1 τ2 vs, K v τ1 vs → K' v τ2 vs) (hC : ∀ {τ1 σ}, Obs τ σ (o :: vs) → τ1 = τ.with o → Hp.le τ τ1 → Ctr P f args τ1 vs K) :
  Ctr P f args τ (o :: vs) (fun v τ' vs' => ∃ vs0, vs' = o :: vs0 ∧ K' v τ' vs0) := by
 intro w0 ρ hO
 obtain ⟨h1, hO1⟩ := hO.give (i := 0) rfl
 refine (hC hO rfl h1 w0 ρ hO1.tl).mono ?_ fun _ _ h => h
 rintro v' σ' ⟨τ', vs', hO', hle, hk⟩
 obtain ⟨h2, h3⟩ := hO.back hle hO'
 exact ⟨_, _, h3, h2, vs', rfl, hf _ _ _ _ hk⟩
theorem Ctr.lendG {args : Array Value} {o : Ob} {vs : List Ob} {K : Value → Hp → List Ob → Prop} (hW : zj T ty τ v l o) (hf : ∀ v τ1 τ2 vs, K v τ1 vs → K v τ2 vs) (hC : ∀ τ1, Hp.le τ τ1 → RdT T τ1 v l → Ctr P f args τ1 vs K) :
  Ctr P f args τ (o :: vs) (fun v τ' vs' => ∃ vs0, vs' = o :: vs0 ∧ K v τ' vs0) :=
 .lendX hf fun {τ1 σ} hO h hl => hC τ1 hl (by subst h; exact hW.rdW hO (i := 0) rfl)
theorem zhS {o : Ob} {K : Value → Hp → List Ob → Prop} (hf : ∀ v τ1 τ2 vs, K v τ1 vs → K v τ2 vs) : ∀ v τ1 τ2 vs', (fun v (τ' : Hp) vs' => ∃ vs0, vs' = o :: vs0 ∧ K v τ' vs0) v τ1 vs' → (fun v (τ' : Hp) vs' => ∃ vs0, vs' = o :: vs0 ∧ K v τ' vs0) v τ2 vs' := fun v τ1 τ2 vs' ⟨vs0, h1, h2⟩ => ⟨vs0, h1, hf v τ1 τ2 vs0 h2⟩
end
section
variable {P : Program} {w0 : Base} {τ σ : Hp} {os : List Ob} {r : List XI} {b : zO} {Q : Exit → Env → Hp → Prop} {e : Env} {d : Option Nat}
variable {α : Type} {T : Ty α} {v : Value} {l : List α} {o : Ob} {i ty : Nat}
theorem zj.again {a : Addr} {q : Int} {y : α} (hO : Obs τ σ os) (hW : zj T ty τ v l o) (hi : os[i]? = some o) (hin : zcF T.sz o a q) (hg : zn l q = some y) : ∃ cs, T.R τ y cs ∧ At σ a cs := by
 obtain ⟨A, c, rfl, -⟩ := hW.form
 obtain ⟨a', cs, h1, h2, h3, -⟩ := zj.at_ hO hW hi hg rfl
 have h4 := zj.ptr hW hin rfl
 rw [h1] at h4
 injection h4 with h4
 subst h4
 exact ⟨cs, h2, h3⟩
end
section
variable {τ σ : Hp} {os : List Ob} {i j : Nat} {o o' o1 o2 : Ob}
theorem Obs.re (h : Obs τ σ os) (hi : os[i]? = some o) (hp : o.Perm o') : Obs τ σ (os.set i o') := by
 have key : ∀ {k c q}, Has (os.set i o') k c q → Has os k c q := fun {k c q} e => by
  rcases zbC e with ⟨rfl, g⟩ | ⟨_, g⟩
  ·exact ⟨o, hi, hp.mem_iff.2 g⟩
  ·exact g
 exact ⟨h.base, fun k c q e => h.rowH k c q (key e), fun k l c q q' e1 e2 => h.apartH k l c q q' (key e1) (key e2), zbZ h.nd ((hp.pairwise_iff (fun hxy => fun e => hxy e.symm)).1 (h.nd i o hi))⟩
theorem Obs.split (h : Obs τ σ os) (hi : os[i]? = some (o1 ++ o2)) : Obs τ σ (os.set i o1 ++ [o2]) := by
 have hn := h.nd i _ hi
 rw [List.pairwise_append] at hn
 have hil := (List.getElem?_eq_some_iff.1 hi).1
 have key : ∀ {k c q}, Has (os.set i o1 ++ [o2]) k c q → (k < os.length ∧ Has os k c q ∧ (k = i → (c, q) ∈ o1)) ∨ (k = os.length ∧ (c, q) ∈ o2) := fun {k c q} e => by
  rcases zbW e with ⟨hk, e⟩ | ⟨hk, e⟩
  ·rw [List.length_set] at hk
   rcases zbC e with ⟨rfl, g⟩ | ⟨hne, g⟩
   ·exact .inl ⟨hk, ⟨_, hi, List.mem_append_left _ g⟩, fun _ => g⟩
   ·exact .inl ⟨hk, g, fun h => absurd h hne⟩
  ·obtain ⟨h0, e⟩ := zeB e
   rw [List.length_set] at hk h0
   exact .inr ⟨by omega, e⟩
 refine ⟨h.base, fun k c q e => ?_, fun k l c q q' e1 e2 => ?_, zd3 (zbZ h.nd hn.1) (zfp hn.2.1)⟩
 ·rcases key e with ⟨_, e, _⟩ | ⟨_, e⟩
  ·exact h.rowH k c q e
  ·exact h.rowH i c q ⟨_, hi, List.mem_append_right _ e⟩
 ·rcases key e1 with ⟨hk, g1, f1⟩ | ⟨hk, g1⟩ <;> rcases key e2 with ⟨hl, g2, f2⟩ | ⟨hl, g2⟩
  ·exact h.apartH k l c q q' g1 g2
  ·have := h.apartH k i c q q' g1 ⟨_, hi, List.mem_append_right _ g2⟩
   exact absurd rfl (hn.2.2 (c, q) (f1 this) (c, q') g2)
  ·have := h.apartH l i c q' q g2 ⟨_, hi, List.mem_append_right _ g1⟩
   exact absurd rfl (hn.2.2 (c, q') (f2 this) (c, q) g1)
  ·omega
theorem Obs.glue (h : Obs τ σ os) (hi : os[i]? = some o1) (hj : os[j]? = some o2) (hij : i ≠ j) : Obs τ σ ((os.set i (o1 ++ o2)).set j []) := by
 have key : ∀ {k c q}, Has ((os.set i (o1 ++ o2)).set j []) k c q → k ≠ j ∧ (Has os k c q ∨ (k = i ∧ (c, q) ∈ o2)) := fun {k c q} e => by
  rcases zbC e with ⟨_, e⟩ | ⟨hk, e⟩
  ·simp at e
  ·refine ⟨hk, ?_⟩
   rcases zbC e with ⟨rfl, g⟩ | ⟨_, g⟩
   ·rcases List.mem_append.1 g with g | g
    ·exact .inl ⟨_, hi, g⟩
    ·exact .inr ⟨rfl, g⟩
   ·exact .inl g
 refine ⟨h.base, fun k c q e => ?_, fun k l c q q' e1 e2 => ?_, zbZ (zbZ h.nd (List.pairwise_append.2 ⟨h.nd i _ hi, h.nd j _ hj, fun x hx y hy e => ?_⟩)) .nil⟩
 ·rcases (key e).2 with e | ⟨_, e⟩
  ·exact h.rowH k c q e
  ·exact h.rowH j c q ⟨_, hj, e⟩
 ·obtain ⟨hk, g1⟩ := key e1
  obtain ⟨hl, g2⟩ := key e2
  rcases g1 with g1 | ⟨rfl, g1⟩ <;> rcases g2 with g2 | ⟨rfl, g2⟩
  ·exact h.apartH k l c q q' g1 g2
  ·exact absurd (h.apartH k j c q q' g1 ⟨_, hj, g2⟩) hk
  ·exact absurd (h.apartH l j c q' q g2 ⟨_, hj, g1⟩) hl
  ·rfl
 ·obtain ⟨c, q⟩ := x
  obtain ⟨c', q'⟩ := y
  have e : c = c' := e
  subst e
  exact hij (h.apartH i j c q q' ⟨_, hi, hx⟩ ⟨_, hj, hy⟩)
end
theorem zj.rdAt {α : Type} {T : Ty α} {ty : Nat} {τ τ' : Hp} {v : Value} {l : List α} {o : Ob} (hW : zj T ty τ v l o) (hle : Hp.le τ τ') (hr : ∀ (c : Nat) (r : Row), (c, r) ∈ o → τ' c = some r) : RdT T τ' v l := by
 rcases hW with ⟨rfl, rfl, _⟩ | ⟨b', cap, cells, rest, rfl, h3, h4, rfl, h5⟩
 ·exact RdT.nil _ _
 ·refine ⟨cells, ⟨_, cap, rfl, h3, h5.len, fun j u hu => ⟨_, rfl, ?_⟩⟩, h5.mono hle⟩
  rw [zbl, Nat.zero_add]
  simp only [look, hr _ _ (List.mem_singleton.2 rfl), Option.isSome_none, Bool.false_eq_true, if_false, Option.bind_some]
  rw [List.getElem?_append_left (List.getElem?_eq_some_iff.1 hu).1]
  exact hu
structure NTy (α β : Type) where
 T : Ty β
 ty : Nat
 E : Hp → α → β → Ob → Prop
 Tf : Ty α
 mono : ∀ {τ τ' : Hp} {y : α} {b : β} {o : Ob}, E τ y b o → Hp.le τ τ' → E τ' y b o
 sh : ∀ {τ τ' : Hp} {y : α} {b : β} {o : Ob} {cs : List Value}, E τ y b o → T.R τ b cs → Hp.le τ τ' → (∀ (c : Nat) (r : Row), (c, r) ∈ o → τ' c = some r) → Tf.R τ' y cs
 szf : Tf.sz = T.sz
section
variable {α β : Type} {N : NTy α β} {τ τ' σ : Hp} {v v' : Value} {l : List α} {o o' : Ob} {os : List Ob} {i : Nat} {y : α} {q : Int}
def z9 (N : NTy α β) (τ : Hp) : List β → List α → List Ob → Prop
 | [], [], [] => True
 | b :: lv, y :: l, x :: bs => N.E τ y b x ∧ z9 N τ lv l bs
 | _, _, _ => False
def zv (N : NTy α β) (τ : Hp) (v : Value) (l : List α) (o : Ob) : Prop := ∃ lv oo bs, zj N.T N.ty τ v lv oo ∧ z9 N τ lv l bs ∧ o = oo ++ List.flatten bs
theorem z9.le (hle : Hp.le τ τ') : ∀ {lv : List β} {l : List α} {bs : List Ob}, z9 N τ lv l bs → z9 N τ' lv l bs
 | [], [], [], h => trivial
 | b :: lv, y :: l, x :: bs, h => ⟨N.mono h.1 hle, z9.le hle h.2⟩
 | [], [], _ :: _, h => h.elim
 | [], _ :: _, _, h => h.elim
 | _ :: _, [], _, h => h.elim
 | _ :: _, _ :: _, [], h => h.elim
theorem z9.len : ∀ {lv : List β} {l : List α} {bs : List Ob}, z9 N τ lv l bs → lv.length = l.length
 | [], [], [], h => rfl
 | b :: lv, y :: l, x :: bs, h => by have := z9.len h.2; simp [this]
 | [], [], _ :: _, h => h.elim
 | [], _ :: _, _, h => h.elim
 | _ :: _, [], _, h => h.elim
 | _ :: _, _ :: _, [], h => h.elim
theorem zv.le (h : zv N τ v l o) (hle : Hp.le τ τ') : zv N τ' v l o := by
 obtain ⟨lv, oo, bs, h1, h2, h3⟩ := h
 exact ⟨lv, oo, bs, h1.le hle, h2.le hle, h3⟩
theorem zv.nil (N : NTy α β) (τ : Hp) : zv N τ (.slice none 0 0) [] [] := ⟨[], [], [], zj.nil _ _ _, trivial, rfl⟩
theorem zv.form (h : zv N τ v l o) : ∃ A c, v = .slice A l.length c ∧ l.length ≤ c := by
 obtain ⟨lv, oo, bs, h1, h2, _⟩ := h
 obtain ⟨A, c, h3, h4⟩ := h1.form
 rw [h2.len] at h3 h4
 exact ⟨A, c, h3, h4⟩
theorem z9.snoc {b : β} {x : Ob} (hx : N.E τ y b x) : ∀ {lv : List β} {l : List α} {bs : List Ob}, z9 N τ lv l bs → z9 N τ (lv ++ [b]) (l ++ [y]) (bs ++ [x])
 | [], [], [], h => ⟨hx, trivial⟩
 | b :: lv, y :: l, x :: bs, h => ⟨h.1, z9.snoc hx h.2⟩
 | [], [], _ :: _, h => h.elim
 | [], _ :: _, _, h => h.elim
 | _ :: _, [], _, h => h.elim
 | _ :: _, _ :: _, [], h => h.elim
theorem z9.chunks (hle : Hp.le τ τ') : ∀ {lv : List β} {l : List α} {bs : List Ob} {cs : List Value}, z9 N τ lv l bs → Chunks N.T τ lv cs → (∀ (c : Nat) (r : Row), (c, r) ∈ List.flatten bs → τ' c = some r) → Chunks N.Tf τ' l cs
 | [], [], [], cs, h, hC, hr => hC
 | b :: lv, y :: l, x :: bs, cs, h, hC, hr => by
  obtain ⟨c, r, rfl, h1, h2⟩ := hC
  exact ⟨c, r, rfl, N.sh h.1 h1 hle fun c r hm => hr c r (by simp [hm]), z9.chunks hle h.2 h2 fun c r hm => hr c r (by rw [List.flatten_cons]; exact List.mem_append_right _ hm)⟩
 | [], [], _ :: _, _, h, _, _ => h.elim
 | [], _ :: _, _, _, h, _, _ => h.elim
 | _ :: _, [], _, _, h, _, _ => h.elim
 | _ :: _, _ :: _, [], _, h, _, _ => h.elim
theorem zv.rdAt (h : zv N τ v l o) (hle : Hp.le τ τ') (hr : ∀ (c : Nat) (r : Row), (c, r) ∈ o → τ' c = some r) : RdT N.Tf τ' v l := by
 obtain ⟨lv, oo, bs, h1, h2, rfl⟩ := h
 obtain ⟨cells, h3, h4⟩ : ∃ cells, Rd τ' v N.T.sz lv.length cells ∧ Chunks N.T τ lv cells := by
  rcases h1 with ⟨rfl, rfl, _⟩ | ⟨b', cap, cells, rest, rfl, h3, h4, rfl, h5⟩
  ·obtain ⟨cells, g1, g2⟩ := RdT.nil N.T τ'
   have g2 : cells = [] := g2
   subst g2
   exact ⟨[], g1, rfl⟩
  ·refine ⟨cells, ⟨_, cap, rfl, h3, h5.len, fun j u hu => ⟨_, rfl, ?_⟩⟩, h5⟩
   rw [zbl, Nat.zero_add]
   simp only [look, hr _ _ (List.mem_append_left _ (List.mem_singleton.2 rfl)), Option.isSome_none, Bool.false_eq_true, if_false, Option.bind_some]
   rw [List.getElem?_append_left (List.getElem?_eq_some_iff.1 hu).1]
   exact hu
 rw [h2.len, ← N.szf] at h3
 exact ⟨cells, h3, h2.chunks hle h4 fun c r hm => hr c r (List.mem_append_right _ hm)⟩
theorem zv.rd (h : zv N τ v l o) (hO : Obs τ σ os) (hi : os[i]? = some o) : RdT N.Tf σ v l := h.rdAt hO.base fun c r hm => (hO.rowH i c r ⟨o, hi, hm⟩).1
theorem zv.rdW (h : zv N τ v l o) (hO : Obs τ σ os) (hi : os[i]? = some o) : RdT N.Tf (τ.with o) v l := h.rdAt (hO.give hi).1 fun c r hm => Hp.with_mem (hO.nd i o hi) hm
theorem zv.share (h : zv N τ v l o) (hO : Obs τ σ os) (hi : os[i]? = some o) : ∃ τ', Hp.le τ τ' ∧ RdT N.Tf τ' v l ∧ Obs τ' σ (os.set i []) := ⟨_, (hO.give hi).1, h.rdW hO hi, (hO.give hi).2⟩
def NCl (N : NTy α β) (τ : Hp) (l : List α) (lv : List β) (q : Int) (ors : Ob) : Prop :=
 ∃ pre post : List Ob, ors = pre.flatten ++ post.flatten ∧ ∀ (τ' : Hp) (y' : α) (b' : β) (x' : Ob), Hp.le τ τ' → N.E τ' y' b' x' → z9 N τ' (lv.set q.toNat b') (l.set q.toNat y') (pre ++ x' :: post)
theorem NCl.le {lv : List β} {ors : Ob} (h : NCl N τ l lv q ors) (hle : Hp.le τ τ') : NCl N τ' l lv q ors := by
 obtain ⟨pre, post, h1, h2⟩ := h
 exact ⟨pre, post, h1, fun τ2 y' b' x' h3 h4 => h2 τ2 y' b' x' (hle.trans h3) h4⟩
theorem z9.get : ∀ {lv : List β} {l : List α} {bs : List Ob} (k : Nat), z9 N τ lv l bs → l[k]? = some y → ∃ b x pre post, lv[k]? = some b ∧ N.E τ y b x ∧ bs = pre ++ x :: post ∧
  ∀ (τ' : Hp) (y' : α) (b' : β) (x' : Ob), Hp.le τ τ' → N.E τ' y' b' x' → z9 N τ' (lv.set k b') (l.set k y') (pre ++ x' :: post)
 | b :: lv, y0 :: l, x :: bs, 0, h, hk => by
  have hk : y0 = y := by simpa using hk
  subst hk
  exact ⟨b, x, [], bs, rfl, h.1, rfl, fun τ' y' b' x' hle hE => ⟨hE, h.2.le hle⟩⟩
 | b :: lv, y0 :: l, x :: bs, k + 1, h, hk => by
  obtain ⟨b1, x1, pre, post, h1, h2, h3, h4⟩ := z9.get k h.2 (by simpa using hk)
  exact ⟨b1, x1, x :: pre, post, by simpa using h1, h2, by rw [h3]; rfl, fun τ' y' b' x' hle hE => ⟨N.mono h.1 hle, h4 τ' y' b' x' hle hE⟩⟩
 | [], [], [], k, h, hk => by simp at hk
 | [], [], _ :: _, _, h, _ => h.elim
 | [], _ :: _, _, _, h, _ => h.elim
 | _ :: _, [], _, _, h, _ => h.elim
 | _ :: _, _ :: _, [], _, h, _ => h.elim
theorem zv.open_ (h : zv N τ v l o) (hO : Obs τ σ os) (hi : os[i]? = some o) (hg : zn l q = some y) :
  ∃ lv oo ox ors b, zj N.T N.ty τ v lv oo ∧ zn lv q = some b ∧ N.E τ y b ox ∧ NCl N τ l lv q ors ∧ (oo ++ (ox ++ ors)).Perm o ∧ Obs τ σ (os.set i oo ++ [ox, ors]) := by
 obtain ⟨lv, oo, bs, h1, h2, rfl⟩ := h
 obtain ⟨h0, hg'⟩ := zdd hg
 obtain ⟨b, x, pre, post, h3, h4, rfl, h5⟩ := h2.get _ hg'
 have hp : (oo ++ (pre ++ x :: post).flatten).Perm (oo ++ (x ++ (pre.flatten ++ post.flatten))) := by
  refine List.Perm.append_left oo ?_
  rw [List.flatten_append, List.flatten_cons, ← List.append_assoc, ← List.append_assoc]
  exact List.Perm.append_right _ List.perm_append_comm
 have hil := (List.getElem?_eq_some_iff.1 hi).1
 have hO1 := (hO.re hi hp).split (i := i) (List.getElem?_set_self hil)
 rw [List.set_set] at hO1
 have hO2 := hO1.split (i := os.length) (o1 := x) (o2 := pre.flatten ++ post.flatten) (by rw [List.getElem?_append_right (by simp), List.length_set, Nat.sub_self]; rfl)
 rw [List.set_append_right _ _ (by simp), List.length_set, Nat.sub_self, List.append_assoc] at hO2
 exact ⟨lv, oo, x, _, b, h1, by unfold zn; rw [if_pos h0]; exact h3, h4, ⟨pre, post, rfl, h5⟩, hp.symm, hO2⟩
theorem set_same {β : Type} {lv : List β} {q : Int} {b : β} (h : zn lv q = some b) : lv.set q.toNat b = lv := by
 obtain ⟨_, h⟩ := zdd h
 obtain ⟨hk, rfl⟩ := List.getElem?_eq_some_iff.1 h
 exact List.set_getElem_self hk
theorem NCl.close {lv : List β} {ors oo ox : Ob} {y' : α} {b' : β} {j k : Nat} (h : NCl N τ l lv q ors) (hW : zj N.T N.ty τ v (lv.set q.toNat b') oo) (hE : N.E τ y' b' ox) (hO : Obs τ σ os) (hi : os[i]? = some oo) (hj : os[j]? = some ox) (hk : os[k]? = some ors) (hij : i ≠ j) (hik : i ≠ k) (hjk : j ≠ k) :
  ∃ o, zv N τ v (l.set q.toNat y') o ∧ Obs τ σ (((os.set i o).set j []).set k []) := by
 obtain ⟨pre, post, rfl, h1⟩ := h
 have hil := (List.getElem?_eq_some_iff.1 hi).1
 have hO1 := hO.glue hi hj hij
 have hO2 := hO1.glue (i := i) (j := k) (o1 := oo ++ ox) (o2 := pre.flatten ++ post.flatten) (by rw [List.getElem?_set_ne (Ne.symm hij)]; exact List.getElem?_set_self hil) (by rw [List.getElem?_set_ne hjk, List.getElem?_set_ne hik]; exact hk) hik
 have hp : (oo ++ ox ++ (pre.flatten ++ post.flatten)).Perm (oo ++ (pre ++ ox :: post).flatten) := by
  rw [List.append_assoc]
  refine List.Perm.append_left oo ?_
  rw [List.flatten_append, List.flatten_cons, ← List.append_assoc, ← List.append_assoc]
  exact List.Perm.append_right _ List.perm_append_comm
 have hO3 := hO2.re (i := i) (o := oo ++ ox ++ (pre.flatten ++ post.flatten)) (by rw [List.getElem?_set_ne (Ne.symm hik)]; exact List.getElem?_set_self (by simpa using hil)) hp
 refine ⟨_, ⟨_, oo, _, hW, h1 τ y' b' ox (Hp.le.refl _) hE, rfl⟩, ?_⟩
 rw [List.set_comm _ _ (Ne.symm hik), List.set_set, List.set_comm _ _ (Ne.symm hij), List.set_set] at hO3
 exact hO3
theorem NCl.close0 {lv : List β} {ors oo ox : Ob} {y' : α} {b : β} {j k : Nat} (h : NCl N τ l lv q ors) (hgl : zn lv q = some b) (hW : zj N.T N.ty τ v lv oo) (hE : N.E τ y' b ox) (hO : Obs τ σ os) (hi : os[i]? = some oo) (hj : os[j]? = some ox) (hk : os[k]? = some ors) (hij : i ≠ j) (hik : i ≠ k) (hjk : j ≠ k) :
  ∃ o, zv N τ v (l.set q.toNat y') o ∧ Obs τ σ (((os.set i o).set j []).set k []) := h.close (by rw [set_same hgl]; exact hW) hE hO hi hj hk hij hik hjk
theorem Obs.back3 {oo ox ors : Ob} {i j k : Nat} (hO : Obs τ σ os) (hi : os[i]? = some oo) (hj : os[j]? = some ox) (hk : os[k]? = some ors) (hij : i ≠ j) (hik : i ≠ k) (hjk : j ≠ k) (hp : (oo ++ (ox ++ ors)).Perm o) : Obs τ σ (((os.set i o).set j []).set k []) := by
 have hil := (List.getElem?_eq_some_iff.1 hi).1
 have hO1 := hO.glue hi hj hij
 have hO2 := hO1.glue (i := i) (j := k) (o1 := oo ++ ox) (o2 := ors) (by rw [List.getElem?_set_ne (Ne.symm hij)]; exact List.getElem?_set_self hil) (by rw [List.getElem?_set_ne hjk, List.getElem?_set_ne hik]; exact hk) hik
 have hO3 := hO2.re (i := i) (o := oo ++ ox ++ ors) (o' := o) (by rw [List.getElem?_set_ne (Ne.symm hik)]; exact List.getElem?_set_self (by simpa using hil)) (by rw [List.append_assoc]; exact hp)
 rw [List.set_comm _ _ (Ne.symm hik), List.set_set, List.set_comm _ _ (Ne.symm hij), List.set_set] at hO3
 exact hO3
theorem zv.len {A : Option Addr} {n c : Nat} (h : zv N τ (.slice A n c) l o) : n = l.length := by
 obtain ⟨A', c', hv, _⟩ := h.form
 injection hv
theorem Ctr.lendN {P : Program} {f : FuncId} {args : Array Value} {vs : List Ob} {K : Value → Hp → List Ob → Prop} (hW : zv N τ v l o) (hf : ∀ v τ1 τ2 vs, K v τ1 vs → K v τ2 vs) (hC : ∀ τ1, Hp.le τ τ1 → RdT N.Tf τ1 v l → Ctr P f args τ1 vs K) :
  Ctr P f args τ (o :: vs) (fun v τ' vs' => ∃ vs0, vs' = o :: vs0 ∧ K v τ' vs0) :=
 .lendX hf fun {τ1 σ} hO h hl => hC τ1 hl (by subst h; exact hW.rdW hO (i := 0) rfl)
end
section
variable {P : Program} {w0 : Base} {τ σ : Hp} {os : List Ob} {r : List XI} {b : zO} {Q : Exit → Env → Hp → Prop} {e : Env} {d : Option Nat}
variable {α β : Type} {N : NTy α β} {v : Value} {l : List α} {o ox : Ob} {i j bytes : Nat} {s x : Opd} {y : α} {bv : β} {zero : List Value} {d1 : Nat}
theorem zgd (hO : Obs τ σ os) (hW : zv N τ v l o) (hi : os[i]? = some o) (hj : os[j]? = some ox) (hij : i ≠ j) (hs : ev e s = v) (hs' : ∀ u, ev (zm e (some d1) u) s = v) {vs : List Value} (hv : (ev e x).cells.toList = vs) (hx : N.T.R τ bv vs) (hE : N.E τ y bv ox) (hz : zero.length = N.T.sz) {t : Unit} (hr : room (l.length + 1) = some t) (hb : bytes ≤ 128)
  (k : ∀ u v' σ' o', zv N τ v' (l ++ [y]) o' → Obs τ σ' ((os.set i o').set j []) → wpn P w0 (.seq (.reg r) b) Q (zm (zm e (some d1) u) d v') σ') :
  wpn P w0 (.seq (.reg (.s ⟨some d1, .bslice N.ty 1 zero [(0, N.T.sz, x)], []⟩ :: .s ⟨d, .app N.ty N.T.sz bytes s (.t d1), []⟩ :: r)) b) Q e σ := by
 obtain ⟨lv, oo, bs, h1, h2, rfl⟩ := hW
 have hil := (List.getElem?_eq_some_iff.1 hi).1
 have hjl := (List.getElem?_eq_some_iff.1 hj).1
 have hO1 := hO.split hi
 refine zbz hO1 h1 (i := i) (by rw [List.getElem?_append_left (by simpa using hil)]; exact List.getElem?_set_self hil) hs hs' hv hx hz (by rw [h2.len]; exact hr) hb fun u v' σ' o' hW' hO' => ?_
 rw [List.set_append_left _ _ (by simpa using hil), List.set_set] at hO'
 have hO2 := hO'.glue (i := i) (j := os.length) (o1 := o') (o2 := bs.flatten) (by rw [List.getElem?_append_left (by simpa using hil)]; exact List.getElem?_set_self hil) (by rw [List.getElem?_append_right (by simp), List.length_set, Nat.sub_self]; rfl) (by omega)
 rw [List.set_append_left _ _ (by simpa using hil), List.set_set, List.set_append_right _ _ (by simp), List.length_set, Nat.sub_self] at hO2
 have hO3 := hO2.glue (i := i) (j := j) (o1 := o' ++ bs.flatten) (o2 := ox) (by rw [List.getElem?_append_left (by simpa using hil)]; exact List.getElem?_set_self hil) (by rw [List.getElem?_append_left (by simpa using hjl), List.getElem?_set_ne hij]; exact hj) hij
 rw [List.set_append_left _ _ (by simpa using hil), List.set_set, List.set_append_left _ _ (by simpa using hjl)] at hO3
 have hO4 : Obs τ σ' ((os.set i (o' ++ bs.flatten ++ ox)).set j []) := by
  refine ⟨hO3.base, fun k c q e => hO3.rowH k c q e.inl, fun k l c q q' e1 e2 => hO3.apartH k l c q q' e1.inl e2.inl, fun k o e => hO3.nd k o ?_⟩
  rw [List.getElem?_append_left (List.getElem?_eq_some_iff.1 e).1]
  exact e
 refine k u v' σ' _ ⟨_, o', _, hW', h2.snoc hE, ?_⟩ hO4
 rw [List.flatten_append, List.append_assoc]
 simp
theorem zee {γ : Type} {T : Ty γ} {ty : Nat} {x y : Opd} {a : Addr} {q : Int} {off n : Nat} {l : List γ} {z z' : γ} {vs cs cs' : List Value} (hO : Obs τ σ os) (hW : zj T ty τ v l o) (hi : os[i]? = some o) (hp : ev e x = .pointer (some (a.add off))) (hin : zcF T.sz o a q) (hg : zn l q = some z)
  (hd : ∀ cs0, T.R τ z cs0 → cs0 = cs) (hy : (ev e y).cells.toList = vs) (hn : vs.length = n) (h1 : vs.all one = true) (hc : cs.take off ++ vs ++ cs.drop (off + n) = cs') (hoff : off + n ≤ T.sz) (hR' : T.R τ z' cs')
  (kk : ∀ σ' o', zj T ty τ v (l.set q.toNat z') o' → Obs τ σ' (os.set i o') → wpn P w0 (.seq (.reg r) b) Q (zm e d undef) σ') : wpn P w0 (.seq (.reg (.s ⟨d, .store n x y, []⟩ :: r)) b) Q e σ := by
 obtain ⟨cs0, hR, hAt⟩ := hW.again hO hi hin hg
 have := hd cs0 hR
 subst this
 exact zdW hO hW hi hp hin hg hR hAt hy hn h1 hc hoff hR' kk
theorem z9.append {τ : Hp} {lv2 : List β} {m : List α} {bs2 : List Ob} (h2 : z9 N τ lv2 m bs2) : ∀ {lv : List β} {l : List α} {bs : List Ob}, z9 N τ lv l bs → z9 N τ (lv ++ lv2) (l ++ m) (bs ++ bs2)
 | [], [], [], h => h2
 | b :: lv, y :: l, x :: bs, h => ⟨h.1, z9.append h2 h.2⟩
 | [], [], _ :: _, h => h.elim
 | [], _ :: _, _, h => h.elim
 | _ :: _, [], _, h => h.elim
 | _ :: _, _ :: _, [], h => h.elim
theorem zv.one {o : Ob} (hW : zj N.T N.ty τ v [bv] o) (hE : N.E τ y bv ox) : zv N τ v [y] (o ++ ox) := ⟨[bv], o, [ox], hW, ⟨hE, trivial⟩, by simp⟩
theorem zhI {m : List α} {o2 : Ob} {u : Value} (hf : N.T.Flat) (hO : Obs τ σ os) (hW : zv N τ v l o) (hi : os[i]? = some o) (hV : zv N τ u m o2) (hj : os[j]? = some o2) (hij : i ≠ j) (hs : ev e s = v) (hx : ev e x = u) {t : Unit} (hr : room (l.length + m.length) = some t) (hb : bytes ≤ 128)
  (k : ∀ v' σ' o', zv N τ v' (l ++ m) o' → Obs τ σ' ((os.set i o').set j []) → wpn P w0 (.seq (.reg r) b) Q (zm e d v') σ') :
  wpn P w0 (.seq (.reg (.s ⟨d, .app N.ty N.T.sz bytes s x, []⟩ :: r)) b) Q e σ := by
 obtain ⟨lv, oo, bs, h1, h2, rfl⟩ := hW
 obtain ⟨lv2, oo2, bs2, g1, g2, rfl⟩ := hV
 have hil := (List.getElem?_eq_some_iff.1 hi).1
 have hjl := (List.getElem?_eq_some_iff.1 hj).1
 have hR : RdT N.T σ u lv2 := g1.rdAt hO.base fun c r hm => (hO.rowH j c r ⟨_, hj, List.mem_append_left _ hm⟩).1
 have hO0 := hO.re hj (List.perm_append_comm (l₁ := oo2) (l₂ := bs2.flatten))
 have hO1 := hO0.split (i := i) (o1 := oo) (o2 := bs.flatten) (by rw [List.getElem?_set_ne (Ne.symm hij)]; exact hi)
 have hO2 := hO1.split (i := j) (o1 := bs2.flatten) (o2 := oo2) (by rw [List.getElem?_append_left (by simpa using hjl), List.getElem?_set_ne hij]; exact List.getElem?_set_self hjl)
 rw [List.set_append_left _ _ (by simpa using hjl), List.set_comm _ _ hij, List.set_set, List.append_assoc] at hO2
 refine zjP hf hO2 h1 (i := i) (by rw [List.getElem?_append_left (by simpa using hil)]; exact List.getElem?_set_self (by simpa using hil)) hs hx hR (by rw [h2.len, g2.len]; exact hr) hb fun v' σ' o' hW' hO' => ?_
 rw [List.set_append_left _ _ (by simpa using hil), List.set_set] at hO'
 have hO3 := hO'.glue (i := i) (j := os.length) (o1 := o') (o2 := bs.flatten) (by rw [List.getElem?_append_left (by simpa using hil)]; exact List.getElem?_set_self (by simpa using hil)) (by rw [List.getElem?_append_right (by simp)]; simp) (by omega)
 rw [List.set_append_left _ _ (by simpa using hil), List.set_set] at hO3
 have hO4 := hO3.glue (i := i) (j := j) (o1 := o' ++ bs.flatten) (o2 := bs2.flatten) (by rw [List.set_append_right _ _ (by simp), List.getElem?_append_left (by simpa using hil)]; exact List.getElem?_set_self (by simpa using hil)) (by rw [List.set_append_right _ _ (by simp), List.getElem?_append_left (by simpa using hjl), List.getElem?_set_ne hij]; exact List.getElem?_set_self hjl) hij
 rw [List.set_append_right _ _ (by simp), List.set_append_left _ _ (by simpa using hil), List.set_set, List.set_append_left _ _ (by simpa using hjl), List.set_comm _ _ hij, List.set_set, List.set_comm _ _ (Ne.symm hij)] at hO4
 have hO5 : Obs τ σ' ((os.set i (o' ++ bs.flatten ++ bs2.flatten)).set j []) := by
  refine ⟨hO4.base, fun k c q e => hO4.rowH k c q e.inl, fun k l c q q' e1 e2 => hO4.apartH k l c q q' e1.inl e2.inl, fun k o e => hO4.nd k o ?_⟩
  rw [List.getElem?_append_left (List.getElem?_eq_some_iff.1 e).1]
  exact e
 refine k v' σ' _ ⟨_, o', _, hW', z9.append g2 h2, ?_⟩ hO5
 rw [List.flatten_append, List.append_assoc]
theorem zj.atN {γ : Type} {T : Ty γ} {ty : Nat} {a : Addr} {q : Int} {l : List γ} {z : γ} {cs : List Value} (hO : Obs τ σ os) (hW : zj T ty τ v l o) (hi : os[i]? = some o) (hin : zcF T.sz o a q) (hg : zn l q = some z) (hd : ∀ cs0, T.R τ z cs0 → cs0 = cs) : At σ a cs := by
 obtain ⟨cs0, hR, hAt⟩ := hW.again hO hi hin hg
 have := hd cs0 hR
 subst this
 exact hAt
end
theorem zka {α β γ : Type} : ∀ (_ : α) (_ : β) (_ : γ), False → False := fun _ _ _ h => h
abbrev zkA (d k : Nat) : XI := .s ⟨some d, .mv (.t k), []⟩
abbrev zkB (d : Nat) (o : AOp) : XI := .s ⟨some d, o, []⟩
abbrev zkC (o : AOp) : XI := .s ⟨none, o, []⟩
abbrev zkD (d k : Nat) : XJ := ⟨some d, .mv (.t k), []⟩
abbrev zkE (d : Nat) (o : AOp) : XJ := ⟨some d, o, []⟩
abbrev zkF (d k : Nat) : XI := .s ⟨some d, .load false 1 (.t k), []⟩
abbrev zkG (k : IntKind) (n : Int) : Opd := .c (.int k n)
abbrev zkH (d k : Nat) : XI := .s ⟨some d, .nilchk (.t k), []⟩
abbrev zkI (d q k : Nat) : XI := .s ⟨some d, .faddr q (.t k), []⟩
abbrev zkJ (d q k : Nat) : XI := .s ⟨some d, .ext q (.t k), []⟩
abbrev zkK (d : Nat) (b : BinOp) (x y : Opd) : XI := .s ⟨some d, .bin b x y, []⟩
theorem zkv {a b : Bool} (h : a = b) : isB (.bool a) false = isB (.bool b) false := h ▸ rfl
theorem zkw {a b : Bool} (h : a = b) : isB (.bool a) true = isB (.bool b) true := h ▸ rfl
theorem zkx0 {τ σ : Hp} (h : Obs τ σ []) : Obs τ σ [] := h
theorem zkx1 {τ σ : Hp} {a0 : Ob} (h : Obs τ σ [a0]) : Obs τ σ [a0] := h
theorem zkx2 {τ σ : Hp} {a0 a1 : Ob} (h : Obs τ σ [a0, a1]) : Obs τ σ [a0, a1] := h
theorem zkx3 {τ σ : Hp} {a0 a1 a2 : Ob} (h : Obs τ σ [a0, a1, a2]) : Obs τ σ [a0, a1, a2] := h
theorem zkx4 {τ σ : Hp} {a0 a1 a2 a3 : Ob} (h : Obs τ σ [a0, a1, a2, a3]) : Obs τ σ [a0, a1, a2, a3] := h
theorem zkx5 {τ σ : Hp} {a0 a1 a2 a3 a4 : Ob} (h : Obs τ σ [a0, a1, a2, a3, a4]) : Obs τ σ [a0, a1, a2, a3, a4] := h
theorem zkx6 {τ σ : Hp} {a0 a1 a2 a3 a4 a5 : Ob} (h : Obs τ σ [a0, a1, a2, a3, a4, a5]) : Obs τ σ [a0, a1, a2, a3, a4, a5] := h
theorem zkx7 {τ σ : Hp} {a0 a1 a2 a3 a4 a5 a6 : Ob} (h : Obs τ σ [a0, a1, a2, a3, a4, a5, a6]) : Obs τ σ [a0, a1, a2, a3, a4, a5, a6] := h
theorem zkx8 {τ σ : Hp} {a0 a1 a2 a3 a4 a5 a6 a7 : Ob} (h : Obs τ σ [a0, a1, a2, a3, a4, a5, a6, a7]) : Obs τ σ [a0, a1, a2, a3, a4, a5, a6, a7] := h
theorem zkx9 {τ σ : Hp} {a0 a1 a2 a3 a4 a5 a6 a7 a8 : Ob} (h : Obs τ σ [a0, a1, a2, a3, a4, a5, a6, a7, a8]) : Obs τ σ [a0, a1, a2, a3, a4, a5, a6, a7, a8] := h
theorem zkx10 {τ σ : Hp} {a0 a1 a2 a3 a4 a5 a6 a7 a8 a9 : Ob} (h : Obs τ σ [a0, a1, a2, a3, a4, a5, a6, a7, a8, a9]) : Obs τ σ [a0, a1, a2, a3, a4, a5, a6, a7, a8, a9] := h
theorem zkx11 {τ σ : Hp} {a0 a1 a2 a3 a4 a5 a6 a7 a8 a9 a10 : Ob} (h : Obs τ σ [a0, a1, a2, a3, a4, a5, a6, a7, a8, a9, a10]) : Obs τ σ [a0, a1, a2, a3, a4, a5, a6, a7, a8, a9, a10] := h
theorem zkx12 {τ σ : Hp} {a0 a1 a2 a3 a4 a5 a6 a7 a8 a9 a10 a11 : Ob} (h : Obs τ σ [a0, a1, a2, a3, a4, a5, a6, a7, a8, a9, a10, a11]) : Obs τ σ [a0, a1, a2, a3, a4, a5, a6, a7, a8, a9, a10, a11] := h
end Go.Ab
