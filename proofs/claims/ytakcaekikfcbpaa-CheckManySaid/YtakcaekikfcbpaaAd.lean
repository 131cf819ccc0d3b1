import Derived.Test.YtakcaekikfcbpaaAb
import Derived.ChangeSlices
import Derived.ChangeArms
import Derived.SizedLaws
import Derived.RangeFuncLeaves
import Derived.RangeFuncKeeps
import Derived.DefersIn
import Derived.RecoverIn
namespace Go.Ab
open Go.RowKit
set_option linter.unusedVariables false
set_option linter.unusedSimpArgs false
theorem zkw {x : Int} (h : -9223372036854775808 ≤ x ∧ x ≤ 9223372036854775807) : IntKind.i64.wrap x = x := by
 show (if (true && decide (x % 18446744073709551616 ≥ 9223372036854775808)) = true then x % 18446744073709551616 - 18446744073709551616 else x % 18446744073709551616) = x
 split <;> rename_i h1 <;> simp at h1 <;> omega
theorem znL (x : Int) : IntKind.u8.wrap x = x % 256 := by
 show (if (false && decide (x % 256 ≥ 128)) = true then x % 256 - 256 else x % 256) = _
 simp
def Ty.Flat {α : Type} (T : Ty α) : Prop := ∀ σ σ' x cs, T.R σ x cs → T.R σ' x cs
theorem Chunks.flat {α : Type} {T : Ty α} (hf : T.Flat) {σ σ' : Hp} : ∀ {l : List α} {cs : List Value}, Chunks T σ l cs → Chunks T σ' l cs
 | [], cs, h => h
 | x :: l, cs, h => by
  obtain ⟨c, r, rfl, h1, h2⟩ := h
  exact ⟨c, r, rfl, hf _ _ _ _ h1, Chunks.flat hf h2⟩
theorem Ty.sc_flat {α : Type} (f : α → Value) (h : ∀ x, Ab.one (f x) = true) : (Ty.sc f h).Flat := fun _ _ _ _ h => h
theorem RdT.empty {α : Type} {T : Ty α} {σ : Hp} {A : Option Addr} {n c : Nat} {l : List α} (h : RdT T σ (.slice A n c) l) (hs : 0 < T.sz) (hA : A.isNone = true) : l = [] := by
 cases l with
 | nil => rfl
 | cons x l =>
  have := h.has (i := 0) (by simp) hs
  cases A <;> simp at hA this
section
variable {P : Program} {w0 : Base}
theorem zeL {K K' : Env → Hp → Prop} (hk : ∀ e σ, K e σ → K' e σ) : ∀ (l : List XI) (e : Env) (σ : Hp), xis P w0 l e σ K → xis P w0 l e σ K'
 | [], e, σ, h => hk _ _ h
 | .s x :: r, e, σ, h => zd9 h fun v σ' hv => ⟨hv.1, zeL hk r _ _ hv.2⟩
 | .g t b l :: r, e, σ, h => ⟨fun hb => zfk (fun e σ h => zeL hk r e σ h) l e σ (h.1 hb), fun hb => ⟨(h.2 hb).1, zeL hk r _ _ (h.2 hb).2⟩⟩
theorem ziF {s : ASt} {e : Env} {σ : Hp} {K K' : Env → Hp → Prop} (h : xstep P w0 s e σ K) (hk : ∀ e σ, K e σ → K' e σ) : xstep P w0 s e σ K' := by
 unfold xstep at h ⊢
 split at h
 ·exact zd9 h fun v σ' hv => hk _ _ hv
 ·exact ⟨fun hb => zd9 (h.1 hb) fun v σ' hv => hk _ _ hv, fun hb => hk _ _ (h.2 hb)⟩
theorem ze8 {K K' : Env → Hp → Prop} (hk : ∀ e σ, K e σ → K' e σ) : ∀ (t : zbB) (e : Env) (σ : Hp), xtree P w0 t e σ K → xtree P w0 t e σ K'
 | .done, e, σ, h => hk _ _ h
 | .top, e, σ, h => trivial
 | .quiet s k, e, σ, h => ziF h fun e σ h => ze8 hk k e σ h
 | .eff s st k, e, σ, h => ziF h fun e σ h => ⟨h.1, ze8 hk k e σ h.2⟩
 | .both a b, e, σ, h => ⟨ze8 hk a e σ h.1, ze8 hk b e σ h.2⟩
theorem zc6 : ∀ (c : zU) (Q Q' : Exit → Env → Hp → Prop) (e : Env) (σ : Hp), wpn P w0 c Q e σ → (∀ x e σ, Q x e σ → Q' x e σ) → wpn P w0 c Q' e σ
 | .skip, Q, Q', e, σ, h, hq => hq _ _ _ h
 | .reg l, Q, Q', e, σ, h, hq => zeL (fun e σ h => hq _ _ _ h) l e σ h
 | .par l, Q, Q', e, σ, h, hq => zeL (fun e σ h => hq _ _ _ h) l e σ h
 | .parT t, Q, Q', e, σ, h, hq => ze8 (fun e σ h => hq _ _ _ h) t e σ h
 | .seq a b, Q, Q', e, σ, h, hq => zc6 a _ _ e σ h fun x e σ h => by
  cases x with
  | normal => exact zc6 b Q Q' e σ h hq
  | _ => exact hq _ _ _ h
 | .cond c a b, Q, Q', e, σ, h, hq => by
  obtain ⟨t, h1, h2, h3⟩ := h
  exact ⟨t, h1, fun ht => zc6 a Q Q' e σ (h2 ht) hq, fun ht => zc6 b Q Q' e σ (h3 ht) hq⟩
 | .block id c, Q, Q', e, σ, h, hq => zc6 c _ _ e σ h fun x e σ h => by
  cases x with
  | exit k =>
   simp only [inb] at h ⊢
   split
   ·rename_i hk; rw [if_pos hk] at h; exact hq _ _ _ h
   ·rename_i hk; rw [if_neg hk] at h; exact hq _ _ _ h
  | _ => exact hq _ _ _ h
 | .loop c, Q, Q', e, σ, h, hq => by
  obtain ⟨I, h1, h2⟩ := h
  exact ⟨I, h1, fun n e σ hI => zc6 c _ _ e σ (h2 n e σ hI) fun x e σ h => by
   cases x with
   | normal => exact h
   | _ => exact hq _ _ _ h⟩
 | .exit id, Q, Q', e, σ, h, hq => hq _ _ _ h
 | .ret, Q, Q', e, σ, h, hq => hq _ _ _ h
theorem zn {a b c : zU} {Q : Exit → Env → Hp → Prop} {e : Env} {σ : Hp} (h : wpn P w0 (.seq a (.seq b c)) Q e σ) : wpn P w0 (.seq (.seq a b) c) Q e σ :=
 zc6 a _ _ e σ h fun x e σ h => by
  cases x with
  | normal => exact zc6 b _ _ e σ h fun x e σ h => by cases x <;> exact h
  | _ => exact h
section
variable {b : zU} {Q : Exit → Env → Hp → Prop} {e : Env} {σ : Hp} {d : Option Nat} {op : AOp} {r : List XI}
theorem zcj (h : ∀ K : Value → Hp → Prop, (∀ v σ', wpn P w0 (.seq (.reg r) b) Q (zp e d v) σ' → K v σ') → xop P w0 op e σ K) : wpn P w0 (.seq (.reg (.s ⟨d, op, []⟩ :: r)) b) Q e σ := by
 show xis P w0 (.s ⟨d, op, []⟩ :: r) e σ (fun e' σ' => wpn P w0 b Q e' σ')
 rw [zdh]
 exact h _ fun _ _ h => h
theorem ze (h : wpn P w0 b Q e σ) : wpn P w0 (.seq (.reg []) b) Q e σ := h
theorem zcQ {l : List XI} (h : wpn P w0 (.seq (.reg l) b) Q e σ) : wpn P w0 (.seq (.par l) b) Q e σ := h
theorem zbi {l : List XI} (h : wpn P w0 (.seq (.reg l) .skip) Q e σ) : wpn P w0 (.reg l) Q e σ := h
theorem zgE {l : List XI} (h : wpn P w0 (.seq (.reg l) .skip) Q e σ) : wpn P w0 (.par l) Q e σ := h
theorem zjE : ∀ (l : List XJ) (e : Env) (σ : Hp) (K : Env → Hp → Prop), xis P w0 (l.map (fun x => .s ⟨x.d, x.op, x.st⟩) ++ r) e σ K → xjs P w0 l e σ (fun e' σ' => xis P w0 r e' σ' K)
 | [], e, σ, K, h => h
 | x :: l, e, σ, K, h => zd9 h fun v σ' hv => ⟨hv.1, zjE l _ _ _ hv.2⟩
theorem zbA {t : Nat} {w : Bool} {l : List XJ} (hb : isB (e t) w = true) (h : wpn P w0 (.seq (.reg (l.map (fun x => .s ⟨x.d, x.op, x.st⟩) ++ r)) b) Q e σ) : wpn P w0 (.seq (.reg (.g t w l :: r)) b) Q e σ :=
 ⟨fun _ => zjE l e σ _ h, (fun h0 => by rw [hb] at h0; cases h0)⟩
theorem zbI {t : Nat} {w : Bool} {l : List XJ} (hb : isB (e t) w = false) (h : wpn P w0 (.seq (.reg r) b) Q (undefs l e) σ) (hst : (l.all fun x => x.st.isEmpty) = true := by decide) : wpn P w0 (.seq (.reg (.g t w l :: r)) b) Q e σ :=
 ⟨(fun h0 => by rw [hb] at h0; cases h0), fun _ => ⟨zhI l e σ hst, h⟩⟩
theorem zf6 {c : Opd} {x y : zU} (hb : ev e c = .bool true) (h : wpn P w0 (.seq x b) Q e σ) : wpn P w0 (.seq (.cond c x y) b) Q e σ := ⟨true, hb, fun _ => h, fun h0 => nomatch h0⟩
theorem zfl {c : Opd} {x y : zU} (hb : ev e c = .bool false) (h : wpn P w0 (.seq y b) Q e σ) : wpn P w0 (.seq (.cond c x y) b) Q e σ := ⟨false, hb, (fun h0 => nomatch h0), fun _ => h⟩
theorem zh (h : Q .normal e σ) : wpn P w0 .skip Q e σ := h
theorem zN (h : wpn P w0 b Q e σ) : wpn P w0 (.seq .skip b) Q e σ := h
theorem zbH (h : Q .ret e σ) : wpn P w0 (.seq .ret b) Q e σ := h
theorem zb9 {id : Nat} (h : Q (.exit id) e σ) : wpn P w0 (.seq (.exit id) b) Q e σ := h
theorem zbz {c : Opd} {x y : zU} (h : wpn P w0 (.seq (.cond c x y) .skip) Q e σ) : wpn P w0 (.cond c x y) Q e σ := by
 obtain ⟨t, h1, h2, h3⟩ := h
 have hq : ∀ x : zU, wpn P w0 x (thn (fun e' σ' => wpn P w0 .skip Q e' σ') Q) e σ → wpn P w0 x Q e σ := fun x h => zc6 x _ _ e σ h fun x e σ h => by cases x <;> exact h
 exact ⟨t, h1, fun ht => hq _ (h2 ht), fun ht => hq _ (h3 ht)⟩
theorem zmc {id : Nat} {c : zU} (h : wpn P w0 (.seq (.block id c) .skip) Q e σ) : wpn P w0 (.block id c) Q e σ :=
 zc6 (.block id c) _ _ e σ h fun x e σ h => by cases x <;> exact h
end
end
section
variable {P : Program} {w0 : Base} {b : zU} {Q : Exit → Env → Hp → Prop} {e : Env} {σ : Hp} {d : Option Nat} {r : List XI}
theorem zhT {ty len : Nat} {cells : List Value} {parts : List (Nat × Nat × Opd)} {K : Value → Hp → Prop} : xop P w0 (.bslice ty len cells parts) e σ K = aop P w0 (.bslice ty len cells parts) e σ K w0.pan := rfl
theorem zhS {ty n bytes : Nat} {s x : Opd} {K : Value → Hp → Prop} : xop P w0 (.app ty n bytes s x) e σ K = aop P w0 (.app ty n bytes s x) e σ K w0.pan := rfl
theorem RdT.slc {α : Type} {T : Ty α} {σ : Hp} {A : Option Addr} {n c : Nat} {l : List α} (h : RdT T σ (.slice A n c) l) {lo hi : Nat} (h1 : lo ≤ hi) (h2 : hi ≤ l.length) : RdT T σ (.slice (if c = lo then A else A.map (·.add (lo * T.sz))) (hi - lo) (c - lo)) ((l.take hi).drop lo) := by
 obtain ⟨A', c', hv, hc⟩ := h.form
 injection hv with hA hn hc'
 subst hA; subst hn; subst hc'
 have hC := h
 obtain ⟨cells, hR, hK⟩ := h
 obtain ⟨A', c', hv, g1, g2, g3⟩ := hR
 injection hv with hA _ hc'
 subst hA; subst hc'
 have hlen : ((l.take hi).drop lo).length = hi - lo := by simp; omega
 refine ⟨_, ⟨_, c - lo, by rw [hlen], by rw [hlen]; omega, ?_, ?_⟩, (hK.take hi).drop lo⟩
 ·exact ((hK.take hi).drop lo).len
 ·intro j u hu
  have hz := ((hK.take hi).drop lo).len
  rw [hlen] at hz
  have hj : j < (hi - lo) * T.sz := by rw [← hz]; exact (List.getElem?_eq_some_iff.1 hu).1
  have hne : ¬ c = lo := fun he => by
   rw [show hi - lo = 0 from by omega, Nat.zero_mul] at hj; omega
  rw [List.getElem?_drop, List.getElem?_take] at hu
  split at hu
  ·obtain ⟨a, rfl, hl⟩ := g3 _ _ hu
   refine ⟨_, by rw [if_neg hne]; rfl, ?_⟩
   rw [zfG]; exact hl
  ·cases hu
end
def foreign (W : World) : Hp := fun b => match W.heap[b]? with
 | some (.cells cs ty _) => some ⟨cs.toList, ty, cs.size, false⟩
 | _ => none
theorem Inv.start (W : World) : Inv (base W) (foreign W) W := by
 refine ⟨Below.refl _ _, fun b o h => (nomatch h), fun b r hb => ?_⟩
 unfold foreign at hb
 split at hb
 ·rename_i cs ty fr hw
  injection hb with hb
  subst hb
  exact ⟨cs, fr, hw, rfl, List.prefix_refl _, fun h => by cases h⟩
 ·cases hb
theorem ACalls.row {P : Program} {W : World} {f : FuncId} {args : Array Value} {K : Value → Hp → Prop} (h : ACalls P (base W) f args (foreign W) K zct) : Calls P f args W fun e W' => ∃ v, e = .returned v ∧ Below W.heap.size W W' ∧ ∃ σ', K v σ' :=
 (h W (Inv.start W)).mono fun e w' he => by
  cases e with
  | returned v => obtain ⟨σ', hI, hk⟩ := he; exact ⟨v, rfl, hI.below, σ', hk⟩
  | panicked ch => obtain ⟨σ', hI, hk⟩ := he; exact hk.elim
  | outgrown => exact he.elim
theorem wf_u8 {n : Int} (h : (Lit.int .u8 n).wf = true) : 0 ≤ n ∧ n < 256 := by
 simp [Lit.wf, IntKind.min, IntKind.max, IntKind.signed, IntKind.bits] at h
 omega
abbrev Ob := Option (Nat × Row)
structure Obs (τ σ : Hp) (os : List Ob) : Prop where
 base : Hp.le τ σ
 row : ∀ (i b : Nat) (r : Row), os[i]? = some (some (b, r)) → σ b = some r ∧ τ b = none
 apart : ∀ (i j b : Nat) (r r' : Row), os[i]? = some (some (b, r)) → os[j]? = some (some (b, r')) → i = j
section
variable {τ σ σ' : Hp} {os : List Ob}
theorem Obs.nil (σ : Hp) : Obs σ σ [] := ⟨Hp.le.refl σ, fun i b r h => by simp at h, fun i j b r r' h => by simp at h⟩
theorem Obs.mono (h : Obs τ σ os) (hle : Hp.le σ σ') : Obs τ σ' os := ⟨h.base.trans hle, fun i b r e => ⟨hle _ _ (h.row i b r e).1, (h.row i b r e).2⟩, h.apart⟩
theorem Obs.add (h : Obs τ σ os) {b : Nat} (hb : σ b = none) (r : Row) : Obs τ (σ.set b r) (os ++ [some (b, r)]) := by
 have hne : ∀ {k q}, σ k = some q → k ≠ b := fun h he => by subst he; rw [hb] at h; cases h
 refine ⟨h.base.trans (Hp.le_set hb), fun i c q e => ?_, fun i j c q q' e1 e2 => ?_⟩
 ·rw [List.getElem?_append] at e
  split at e
  ·obtain ⟨h1, h2⟩ := h.row i c q e
   exact ⟨by rw [Hp.set_ne _ _ (hne h1)]; exact h1, h2⟩
  ·cases hi : i - os.length with
   | zero =>
    rw [hi] at e
    simp at e
    obtain ⟨rfl, rfl⟩ := e
    refine ⟨Hp.set_eq _ _ _, ?_⟩
    cases hτ : τ b with
    | none => rfl
    | some x => exact absurd rfl (hne (h.base _ _ hτ))
   | succ k => rw [hi] at e; simp at e
 ·have key : ∀ (i : Nat) (q : Row), (os ++ [some (b, r)])[i]? = some (some (c, q)) → (i < os.length ∧ os[i]? = some (some (c, q))) ∨ (i = os.length ∧ c = b) := fun i q e => by
   rw [List.getElem?_append] at e
   split at e
   ·rename_i hi; exact .inl ⟨hi, e⟩
   ·rename_i hi
    cases hi' : i - os.length with
    | zero =>
     rw [hi'] at e
     simp at e
     exact .inr ⟨by omega, e.1.symm⟩
    | succ k => rw [hi'] at e; simp at e
  rcases key i q e1 with ⟨hi, k1⟩ | ⟨hi, k1⟩ <;> rcases key j q' e2 with ⟨hj, k2⟩ | ⟨hj, k2⟩
  ·exact h.apart i j c q q' k1 k2
  ·exact absurd k2 (hne (h.row _ _ _ k1).1)
  ·exact absurd k1 (hne (h.row _ _ _ k2).1)
  ·omega
theorem Obs.no (h : Obs τ σ os) : Obs τ σ (os ++ [none]) := by
 have key : ∀ (i c : Nat) (q : Row), (os ++ [none])[i]? = some (some (c, q)) → os[i]? = some (some (c, q)) := fun i c q e => by
  rw [List.getElem?_append] at e
  split at e
  ·exact e
  ·cases hi' : i - os.length with
   | zero => rw [hi'] at e; simp at e
   | succ k => rw [hi'] at e; simp at e
 exact ⟨h.base, fun i c q e => h.row i c q (key i c q e), fun i j c q q' e1 e2 => h.apart i j c q q' (key _ _ _ e1) (key _ _ _ e2)⟩
theorem Obs.sel (h : Obs τ σ os) (is : List Nat) (hn : is.Nodup := by decide) : Obs τ σ (is.map fun i => os.getD i none) := by
 have key : ∀ (i c : Nat) (q : Row), (is.map fun i => os.getD i none)[i]? = some (some (c, q)) → ∃ k, is[i]? = some k ∧ os[k]? = some (some (c, q)) := fun i c q e => by
  rw [List.getElem?_map] at e
  obtain ⟨k, hk, e⟩ := Option.map_eq_some_iff.1 e
  refine ⟨k, hk, ?_⟩
  rw [List.getD_eq_getElem?_getD] at e
  cases ho : os[k]? with
  | none => rw [ho] at e; cases e
  | some x => rw [ho] at e; simp at e; rw [e]
 refine ⟨h.base, fun i c q e => ?_, fun i j c q q' e1 e2 => ?_⟩
 ·obtain ⟨k, _, hk⟩ := key i c q e
  exact h.row k c q hk
 ·obtain ⟨k1, a1, h1⟩ := key i c q e1
  obtain ⟨k2, a2, h2⟩ := key j c q' e2
  have := h.apart k1 k2 c q q' h1 h2
  subst this
  exact (List.getElem?_inj (List.getElem?_eq_some_iff.1 a1).1 hn).1 (a1.trans a2.symm)
theorem Obs.put (h : Obs τ σ os) {i b : Nat} {r : Row} (hi : os[i]? = some (some (b, r))) (r' : Row) : Obs τ (σ.set b r') (os.set i (some (b, r'))) := by
 have hil := (List.getElem?_eq_some_iff.1 hi).1
 have key : ∀ (k c : Nat) (q : Row), (os.set i (some (b, r')))[k]? = some (some (c, q)) → (k = i ∧ c = b ∧ q = r') ∨ (k ≠ i ∧ os[k]? = some (some (c, q))) := fun k c q e => by
  rw [List.getElem?_set] at e
  split at e
  ·rename_i hk
   subst hk
   simp at e
   exact .inl ⟨rfl, e.1.symm, e.2.symm⟩
  ·rename_i hk
   exact .inr ⟨fun h => hk h.symm, e⟩
 refine ⟨fun c q e => ?_, fun k c q e => ?_, fun k l c q q' e1 e2 => ?_⟩
 ·rw [Hp.set_ne _ _ (fun he => by subst he; rw [(h.row _ _ _ hi).2] at e; cases e)]
  exact h.base c q e
 ·rcases key k c q e with ⟨rfl, rfl, rfl⟩ | ⟨hk, e3⟩
  ·exact ⟨Hp.set_eq _ _ _, (h.row _ _ _ hi).2⟩
  ·obtain ⟨h1, h2⟩ := h.row k c q e3
   refine ⟨?_, h2⟩
   rw [Hp.set_ne _ _ (fun he => by subst he; exact hk (h.apart k i c q r e3 hi))]
   exact h1
 ·rcases key k c q e1 with ⟨rfl, rfl, rfl⟩ | ⟨hk, e3⟩ <;> rcases key l c q' e2 with ⟨rfl, h5, rfl⟩ | ⟨hl, e4⟩
  ·rfl
  ·exact absurd (h.apart _ _ _ _ _ hi e4) (fun he => hl he.symm)
  ·subst h5; exact absurd (h.apart _ _ _ _ _ e3 hi) hk
  ·exact h.apart _ _ _ _ _ e3 e4
theorem Obs.share (h : Obs τ σ os) {i b : Nat} {r : Row} (hi : os[i]? = some (some (b, r))) : Hp.le τ (τ.set b r) ∧ Obs (τ.set b r) σ (os.set i none) := by
 obtain ⟨hs, ht⟩ := h.row _ _ _ hi
 have key : ∀ (k c : Nat) (q : Row), (os.set i none)[k]? = some (some (c, q)) → k ≠ i ∧ os[k]? = some (some (c, q)) := fun k c q e => by
  rw [List.getElem?_set] at e
  split at e
  ·split at e <;> simp at e
  ·rename_i hk; exact ⟨fun h => hk h.symm, e⟩
 refine ⟨Hp.le_set ht, fun c q e => ?_, fun k c q e => ?_, fun k l c q q' e1 e2 => h.apart k l c q q' (key _ _ _ e1).2 (key _ _ _ e2).2⟩
 ·by_cases hc : c = b
  ·subst hc
   rw [Hp.set_eq] at e
   injection e with e
   subst e
   exact hs
  ·rw [Hp.set_ne _ _ hc] at e
   exact h.base c q e
 ·obtain ⟨hk, e⟩ := key k c q e
  obtain ⟨h1, h2⟩ := h.row k c q e
  refine ⟨h1, ?_⟩
  rw [Hp.set_ne _ _ (fun he => by subst he; exact hk (h.apart k i c q r e hi))]
  exact h2
end
def Ctr (P : Program) (f : FuncId) (args : Array Value) (τ : Hp) (vs : List Ob) (K : Value → Hp → List Ob → Prop) : Prop :=
 ∀ (w0 : Base) (ρ : Hp), Obs τ ρ vs → ACalls P w0 f args ρ (fun v ρ' => ∃ τ' vs', Obs τ' ρ' vs' ∧ Hp.le τ τ' ∧ K v τ' vs') zct
theorem ACalls.fr {P : Program} {w0 : Base} {f : FuncId} {args : Array Value} {τ σ : Hp} {hs vs : List Ob} {K : Value → Hp → List Ob → Prop} (hO : Obs τ σ (hs ++ vs)) (hC : Ctr P f args τ vs K) :
  ACalls P w0 f args σ (fun v σ' => ∃ τ' vs', Obs τ' σ' (hs ++ vs') ∧ Hp.le τ τ' ∧ K v τ' vs') zct := by
 intro w hI
 classical
 have hrow : ∀ (i b : Nat) (r : Row), hs[i]? = some (some (b, r)) → σ b = some r ∧ τ b = none := fun i b r e => hO.row i b r (by rw [List.getElem?_append_left (List.getElem?_eq_some_iff.1 e).1]; exact e)
 have vrow : ∀ (i b : Nat) (r : Row), vs[i]? = some (some (b, r)) → (hs ++ vs)[hs.length + i]? = some (some (b, r)) := fun i b r e => by rw [List.getElem?_append_right (by omega), Nat.add_sub_cancel_left]; exact e
 let H : Nat → Prop := fun b => ∃ (i : Nat) (r : Row), hs[i]? = some (some (b, r))
 let w1 : Base := { world := w0.world, hid := fun b => if H b then w.heap[b]? else w0.hid b }
 let ρ : Hp := fun b => if H b then none else σ b
 have hρ : Obs τ ρ vs := by
  refine ⟨fun b r e => ?_, fun i b r e => ?_, fun i j b r r' e1 e2 => ?_⟩
  ·have hn : ¬ H b := fun ⟨i, q, h⟩ => by rw [(hrow i b q h).2] at e; cases e
   simp only [ρ, if_neg hn]
   exact hO.base b r e
  ·obtain ⟨h1, h2⟩ := hO.row _ b r (vrow i b r e)
   have hn : ¬ H b := fun ⟨k, q, h⟩ => by
    have hk := (List.getElem?_eq_some_iff.1 h).1
    have := hO.apart k (hs.length + i) b q r (by rw [List.getElem?_append_left hk]; exact h) (vrow i b r e)
    omega
   exact ⟨by simp only [ρ, if_neg hn]; exact h1, h2⟩
  ·have := hO.apart _ _ b r r' (vrow i b r e1) (vrow j b r' e2)
   omega
 have hI1 : Inv w1 ρ w := by
  refine ⟨hI.below, fun b o ho => ?_, fun b r hb => ?_⟩
  ·by_cases hH : H b
   ·simp only [w1, if_pos hH] at ho
    exact ⟨by simp only [ρ, if_pos hH], ho⟩
   ·simp only [w1, if_neg hH] at ho
    exact ⟨by simp only [ρ, if_neg hH]; exact (hI.hid b o ho).1, (hI.hid b o ho).2⟩
  ·by_cases hH : H b
   ·simp only [ρ, if_pos hH] at hb; cases hb
   ·simp only [ρ, if_neg hH] at hb
    exact hI.row b r hb
 refine (hC w1 ρ hρ w hI1).mono fun e w' he => ?_
 cases e with
 | panicked ch => obtain ⟨_, _, h⟩ := he; exact h.elim
 | outgrown => exact he
 | returned v =>
  obtain ⟨ρ', hI', τ', vs', hO', hle, hK⟩ := he
  have hH' : ∀ b, H b → ρ' b = none ∧ w'.heap[b]? = w.heap[b]? := fun b hH => by
   obtain ⟨i, r, hi⟩ := hH
   obtain ⟨cs, fr, hw, _⟩ := hI.row b r (hrow i b r hi).1
   have := hI'.hid b _ (show w1.hid b = some _ from by simp only [w1, if_pos (show H b from ⟨i, r, hi⟩)]; exact hw)
   exact ⟨this.1, by rw [this.2, hw]⟩
  refine ⟨fun b => if H b then σ b else ρ' b, ⟨hI'.below, fun b o ho => ?_, fun b r hb => ?_⟩, τ', vs', ⟨fun b r e => ?_, fun i b r e => ?_, fun i j b r r' e1 e2 => ?_⟩, hle, hK⟩
  ·have hn : ¬ H b := fun ⟨i, q, h⟩ => by have := (hI.hid b o ho).1; rw [(hrow i b q h).1] at this; cases this
   have := hI'.hid b o (show w1.hid b = some o from by simp only [w1, if_neg hn]; exact ho)
   exact ⟨by simp only [if_neg hn]; exact this.1, this.2⟩
  ·by_cases hH : H b
   ·simp only [if_pos hH] at hb
    obtain ⟨cs, fr, hw, h1⟩ := hI.row b r hb
    exact ⟨cs, fr, by rw [(hH' b hH).2]; exact hw, h1⟩
   ·simp only [if_neg hH] at hb
    exact hI'.row b r hb
  ·have := hO'.base b r e
   have hn : ¬ H b := fun h => by rw [(hH' b h).1] at this; cases this
   simp only [if_neg hn]
   exact this
  ·rw [List.getElem?_append] at e
   split at e
   ·have hH : H b := ⟨i, r, e⟩
    simp only [if_pos hH]
    refine ⟨(hrow i b r e).1, ?_⟩
    cases ht : τ' b with
    | none => rfl
    | some q => have := hO'.base b q ht; rw [(hH' b hH).1] at this; cases this
   ·obtain ⟨h1, h2⟩ := hO'.row _ b r e
    have hn : ¬ H b := fun h => by rw [(hH' b h).1] at h1; cases h1
    simp only [if_neg hn]
    exact ⟨h1, h2⟩
  ·rw [List.getElem?_append] at e1 e2
   split at e1 <;> split at e2
   ·rename_i hi hj
    exact hO.apart i j b r r' (by rw [List.getElem?_append_left hi]; exact e1) (by rw [List.getElem?_append_left hj]; exact e2)
   ·have h1 := (hO'.row _ b r' e2).1; rw [(hH' b ⟨i, r, e1⟩).1] at h1; cases h1
   ·have h1 := (hO'.row _ b r e1).1; rw [(hH' b ⟨j, r', e2⟩).1] at h1; cases h1
   ·have := hO'.apart _ _ b r r' e1 e2
    omega
def za {α : Type} (T : Ty α) (ty : Nat) (τ : Hp) (v : Value) (l : List α) (o : Ob) : Prop :=
 (v = .slice none 0 0 ∧ l = [] ∧ o = none) ∨ ∃ b cap cells rest, v = .slice (some ⟨b, 0, none⟩) l.length cap ∧ l.length ≤ cap ∧ cap ≤ maxLen ∧ o = some (b, ⟨cells ++ rest, ty, cap * T.sz, true⟩) ∧ Chunks T τ l cells
section
variable {α : Type} {T : Ty α} {ty : Nat} {τ τ' σ : Hp} {v : Value} {l : List α} {o : Ob} {os : List Ob}
theorem za.nil (T : Ty α) (ty : Nat) (τ : Hp) : za T ty τ (.slice none 0 0) [] none := .inl ⟨rfl, rfl, rfl⟩
theorem za.le (h : za T ty τ v l o) (hle : Hp.le τ τ') : za T ty τ' v l o := by
 rcases h with h | ⟨b, cap, cells, rest, h1, h2, h3, h4, h5⟩
 ·exact .inl h
 ·exact .inr ⟨b, cap, cells, rest, h1, h2, h3, h4, h5.mono hle⟩
theorem za.form (h : za T ty τ v l o) : ∃ A c, v = .slice A l.length c ∧ l.length ≤ c := by
 rcases h with ⟨rfl, rfl, _⟩ | ⟨b, cap, cells, rest, rfl, h2, _⟩
 ·exact ⟨none, 0, rfl, Nat.le_refl _⟩
 ·exact ⟨_, cap, rfl, h2⟩
theorem za.rd (h : za T ty τ v l o) {i : Nat} (hO : Obs τ σ os) (hi : os[i]? = some o) : RdT T σ v l := by
 rcases h with ⟨rfl, rfl, rfl⟩ | ⟨b, cap, cells, rest, rfl, h2, h3, rfl, h5⟩
 ·exact RdT.nil T σ
 ·obtain ⟨h1, _⟩ := hO.row i b _ hi
  refine ⟨cells, ⟨_, cap, rfl, h2, h5.len, fun j u hu => ⟨_, rfl, ?_⟩⟩, h5.mono hO.base⟩
  rw [zb7, Nat.zero_add]
  simp only [look, h1, Option.isSome_none, Bool.false_eq_true, if_false, Option.bind_some]
  rw [List.getElem?_append_left (List.getElem?_eq_some_iff.1 hu).1]
  exact hu
theorem za.x (h : za T ty τ v l o) {i : Nat} (hO : Obs τ σ os) (hi : os[i]? = some o) : ∃ cells, zc0 ty T.sz σ v l.length cells ∧ Chunks T τ l cells := by
 rcases h with ⟨rfl, rfl, rfl⟩ | ⟨b, cap, cells, rest, rfl, h2, h3, rfl, h5⟩
 ·exact ⟨[], ⟨by simp, .inl ⟨rfl, rfl⟩⟩, rfl⟩
 ·exact ⟨cells, ⟨h5.len, .inr ⟨b, cap, rest, rfl, h2, h3, (hO.row i b _ hi).1⟩⟩, h5⟩
theorem za.share (h : za T ty τ v l o) {i : Nat} (hO : Obs τ σ os) (hi : os[i]? = some o) : ∃ τ', Hp.le τ τ' ∧ RdT T τ' v l ∧ Obs τ' σ (os.set i none) := by
 rcases h with ⟨rfl, rfl, rfl⟩ | ⟨b, cap, cells, rest, rfl, h2, h3, rfl, h5⟩
 ·refine ⟨τ, Hp.le.refl _, RdT.nil T τ, ?_⟩
  have : os.set i none = os := by
   apply List.ext_getElem?
   intro k
   rw [List.getElem?_set]
   split
   ·rename_i hk; subst hk; rw [if_pos (List.getElem?_eq_some_iff.1 hi).1, hi]
   ·rfl
  rw [this]
  exact hO
 ·obtain ⟨hle, hO'⟩ := hO.share hi
  refine ⟨_, hle, ⟨cells, ⟨_, cap, rfl, h2, h5.len, fun j u hu => ⟨_, rfl, ?_⟩⟩, h5.mono hle⟩, hO'⟩
  rw [zb7, Nat.zero_add, zgi]
  show (cells ++ rest)[j]? = some u
  rw [List.getElem?_append_left (List.getElem?_eq_some_iff.1 hu).1]
  exact hu
theorem za.blk_eq (h : za T ty τ v l o) : blk v = o.map (·.1) := by
 rcases h with ⟨rfl, rfl, rfl⟩ | ⟨b, cap, cells, rest, rfl, h2, h3, rfl, h5⟩ <;> rfl
theorem za.grow (h : za T ty τ v l o) {i n : Nat} (hO : Obs τ σ os) (hi : os[i]? = some o) {σ' : Hp} {v' : Value} {cells' : List Value} {l' : List α} (hg : Grow σ v σ' v') (hx : zdD ty T.sz σ' v' l'.length cells') (hC : Chunks T τ l' cells') :
  ∃ o', za T ty τ v' l' o' ∧ Obs τ σ' (os.set i o') := by
 have hil := (List.getElem?_eq_some_iff.1 hi).1
 have hbv := h.blk_eq
 have off : ∀ (k b : Nat) (r : Row), k ≠ i → os[k]? = some (some (b, r)) → blk v ≠ some b := fun k b r hk hb he => by
  rw [hbv] at he
  cases o with
  | none => cases he
  | some p =>
   obtain ⟨c, q⟩ := p
   simp at he
   subst he
   exact hk (hO.apart k i c r q hb hi)
 have offτ : ∀ (b : Nat) (r : Row), τ b = some r → blk v ≠ some b := fun b r hb he => by
  rw [hbv] at he
  cases o with
  | none => cases he
  | some p =>
   obtain ⟨c, q⟩ := p
   simp at he
   subst he
   rw [(hO.row i c q hi).2] at hb; cases hb
 have hbase : Hp.le τ σ' := fun b r hb => hg.1 b r (offτ b r hb) (hO.base b r hb)
 have hkeep : ∀ (k b : Nat) (r : Row), k ≠ i → os[k]? = some (some (b, r)) → σ' b = some r ∧ τ b = none := fun k b r hk hb => ⟨hg.1 b r (off k b r hk hb) (hO.row k b r hb).1, (hO.row k b r hb).2⟩
 obtain ⟨hl, ⟨rfl, h2⟩ | ⟨b', cap, rfl, h2, h3, h4⟩⟩ := hx
 ·have hnil : l' = [] := List.eq_nil_of_length_eq_zero h2
  subst hnil
  refine ⟨none, za.nil T ty τ, hbase, fun k b r e => ?_, fun k j b r r' e1 e2 => ?_⟩
  ·rw [List.getElem?_set] at e
   split at e
   ·simp at e
   ·rename_i hk; exact hkeep k b r (fun h => hk h.symm) e
  ·rw [List.getElem?_set] at e1 e2
   split at e1
   ·simp at e1
   ·split at e2
    ·simp at e2
    ·exact hO.apart k j b r r' e1 e2
 ·refine ⟨some (b', ⟨cells', ty, cap * T.sz, true⟩), .inr ⟨b', cap, cells', [], rfl, h2, h3, by rw [List.append_nil], hC⟩, hbase, fun k b r e => ?_, fun k j b r r' e1 e2 => ?_⟩
  ·rw [List.getElem?_set] at e
   split at e
   ·simp at e
    obtain ⟨rfl, rfl⟩ := e
    refine ⟨h4, ?_⟩
    cases ht : τ b' with
    | none => rfl
    | some q =>
     rcases hg.2.1 with h5 | ⟨c, h5, h6⟩
     ·exact absurd h5.symm (offτ b' q ht)
     ·injection h5 with h5
      have h5 : b' = c := h5
      subst h5
      rw [hO.base b' q ht] at h6; cases h6
   ·rename_i hk; exact hkeep k b r (fun h => hk h.symm) e
  ·have new : ∀ (k : Nat) (r : Row), k ≠ i → os[k]? = some (some (b', r)) → False := fun k r hk e => by
    rcases hg.2.1 with h5 | ⟨c, h5, h6⟩
    ·exact off k b' r hk e h5.symm
    ·injection h5 with h5
     have h5 : b' = c := h5
     subst h5
     rw [(hO.row k b' r e).1] at h6; cases h6
   rw [List.getElem?_set] at e1 e2
   split at e1 <;> split at e2
   ·omega
   ·rename_i hk hj
    simp at e1
    obtain ⟨rfl, _⟩ := e1
    exact (new j r' (fun h => hj h.symm) e2).elim
   ·rename_i hk hj
    simp at e2
    obtain ⟨rfl, _⟩ := e2
    exact (new k r (fun h => hk h.symm) e1).elim
   ·exact hO.apart k j b r r' e1 e2
end
theorem za.cut {α : Type} {T : Ty α} {ty : Nat} {τ : Hp} {A : Option Addr} {n c : Nat} {l : List α} {o : Ob} (h : za T ty τ (.slice A n c) l o) {k : Nat} (hk : k ≤ l.length) : za T ty τ (.slice A k c) (l.take k) o := by
 rcases h with ⟨hv, rfl, rfl⟩ | ⟨b, cap, cells, rest, hv, h2, h3, rfl, h5⟩
 ·injection hv with h1 h2 h3
  subst h1; subst h2; subst h3
  have : k = 0 := by simpa using hk
  subst this
  exact .inl ⟨rfl, by simp, rfl⟩
 ·injection hv with h1 h6 h7
  subst h1; subst h7
  have hl : (l.take k).length = k := by rw [List.length_take]; omega
  refine .inr ⟨b, c, cells.take (k * T.sz), cells.drop (k * T.sz) ++ rest, by rw [hl], by omega, h3, ?_, h5.take k⟩
  rw [← List.append_assoc, List.take_append_drop]
def zL {α : Type} (l : List α) (i : Int) : Option α := if 0 ≤ i then l[i.toNat]? else none
def room (n : Nat) : Option Unit := if n ≤ 1099511627776 then some () else none
def zdV {α : Type} (l : List α) (lo hi : Int) : Option (List α) := if 0 ≤ lo ∧ lo ≤ hi ∧ hi ≤ l.length then some ((l.take hi.toNat).drop lo.toNat) else none
theorem zgJ {α : Type} {l : List α} {i : Int} {x : α} (h : zL l i = some x) : 0 ≤ i ∧ l[i.toNat]? = some x := by
 unfold zL at h
 split at h
 ·exact ⟨by assumption, h⟩
 ·cases h
theorem zjn {n : Nat} {u : Unit} (h : room n = some u) : n ≤ 1099511627776 := by
 unfold room at h
 split at h
 ·assumption
 ·cases h
theorem zko {α : Type} {l m : List α} {lo hi : Int} (h : zdV l lo hi = some m) : 0 ≤ lo ∧ lo ≤ hi ∧ hi ≤ l.length ∧ m = (l.take hi.toNat).drop lo.toNat := by
 unfold zdV at h
 split at h
 ·rename_i hc; injection h with h; exact ⟨hc.1, hc.2.1, hc.2.2, h.symm⟩
 ·cases h
theorem zb8 {α : Type} {b : Bool} {A B : Option α} {r : α} (h : (if b = true then A else B) = some r) : (b = true ∧ A = some r) ∨ (b = false ∧ B = some r) := by
 cases b with
 | true => exact .inl ⟨rfl, h⟩
 | false => exact .inr ⟨rfl, h⟩
theorem bind_some {α β : Type} {a : Option α} {f : α → Option β} {r : β} (h : a.bind f = some r) : ∃ x, a = some x ∧ f x = some r := Option.bind_eq_some_iff.1 h
def sets : List (Nat × Value) → Env → Env
 | [], e => e
 | (k, v) :: r, e => fun n => if n = k then v else sets r e n
def agr : List (Nat × Value) → Env → Prop
 | [], _ => True
 | (k, v) :: r, e => e k = v ∧ agr r e
theorem zW : ∀ (L : List (Nat × Value)) (e : Env), agr L e → sets L e = e
 | [], e, _ => rfl
 | (k, v) :: r, e, h => by
  funext n
  simp only [sets]
  split
  ·rename_i hn; subst hn; exact h.1.symm
  ·rw [zW r e h.2]
def qv (o : AOp) (e : Env) : Option Value := match o with
 | .mv x => some (ev e x)
 | .pick c a b => match ev e c with
  | .bool t => some (if t = true then ev e a else ev e b)
  | _ => none
 | .bin op x y => binv op (ev e x) (ev e y)
 | .beq neg x y => match ev e x, ev e y with
  | .bool a, .bool b => some (.bool (if neg then !(a == b) else a == b))
  | _, _ => none
 | .aeq neg n x y => match ev e x, ev e y with
  | .agg xs, .agg ys => (zbN n xs.toList ys.toList).map fun b => .bool (if neg then !b else b)
  | _, _ => none
 | .snil neg x => match ev e x with
  | .slice A _ _ => some (.bool (if neg then !A.isNone else A.isNone))
  | _ => none
 | .pnil neg x => match ev e x with
  | .pointer A => some (.bool (if neg then !A.isNone else A.isNone))
  | _ => none
 | .inil neg x => (ifn (ev e x)).map fun b => .bool (if neg then !b else b)
 | .tas t z x => tasv t z (ev e x)
 | .un op x => unv op (ev e x)
 | .cint k x => match ev e x with
  | .int _ n => some (.int k (k.wrap n))
  | _ => none
 | .field agg off n x => match ev e x with
  | .agg cs => partv agg off n cs
  | _ => none
 | .ext i x => match ev e x with
  | .tuple vs => vs[i]?
  | _ => none
 | .mkif t x => some (.iface t (ev e x))
 | .mkfn fn first cap => some (.func fn (first.map (ev e)).toArray (cap.map (ev e)).toArray)
 | .build zero parts => (zcO zero (parts.map fun p => (p.1, p.2.1, ev e p.2.2))).map fun cs => .agg cs.toArray
 | .faddr off x => match ev e x with
  | .pointer (some a) => some (.pointer (some (a.add off)))
  | _ => none
 | .nilchk x => match zer (ev e x) with
  | true => some (ev e x)
  | false => none
 | .lenS x => match ev e x with
  | .string s => some (.int .i64 s.size)
  | _ => none
 | .lenL x => match ev e x with
  | .slice _ n _ => some (.int .i64 n)
  | _ => none
 | .lenA n => some (.int .i64 n)
 | .aaddr len n x i => match ev e x, ev e i with
  | .pointer (some a), .int _ q => if 0 ≤ q ∧ q < len then some (.pointer (some (a.add (q.toNat * n)))) else none
  | _, _ => none
 | .capL x => match ev e x with
  | .slice _ _ c => some (.int .i64 c)
  | _ => none
 | .minmax mx x xs => match ev e x with
  | .int k a => (minmaxv mx k a (xs.map (ev e))).map (.int k)
  | _ => none
 | _ => none
theorem zmA {P : Program} {w0 : Base} {o : AOp} {e : Env} {σ : Hp} {v : Value} {K : Value → Hp → Prop} (h : qv o e = some v) (k : K v σ) : xop P w0 o e σ K := by
 cases o <;> simp only [qv, reduceCtorEq] at h <;> unfold xop <;> dsimp only
 case mv => injection h with h; subst h; exact k
 case pick => split at h <;> first | (rename_i hh; (try rw [hh]); injection h with h; subst h; exact k) | cases h
 case bin => exact ⟨v, h, k⟩
 case beq => split at h <;> first | (rename_i h1 h2; (try rw [h1, h2]); injection h with h; subst h; exact k) | cases h
 case aeq =>
  split at h
  ·rename_i h1 h2
   rw [h1, h2]
   obtain ⟨b, h3, rfl⟩ := Option.map_eq_some_iff.1 h
   exact ⟨b, h3, k⟩
  ·cases h
 case snil => split at h <;> first | (rename_i hh; (try rw [hh]); injection h with h; subst h; exact k) | cases h
 case inil => obtain ⟨b, h3, rfl⟩ := Option.map_eq_some_iff.1 h; exact ⟨b, h3, k⟩
 case tas => exact ⟨v, h, k⟩
 case pnil => split at h <;> first | (rename_i hh; (try rw [hh]); injection h with h; subst h; exact k) | cases h
 case un => exact ⟨v, h, k⟩
 case cint => split at h <;> first | (rename_i hh; (try rw [hh]); injection h with h; subst h; exact k) | cases h
 case field => split at h <;> first | (rename_i hh; (try rw [hh]); exact ⟨v, h, k⟩) | cases h
 case ext => split at h <;> first | (rename_i hh; (try rw [hh]); exact ⟨v, h, k⟩) | cases h
 case mkif => injection h with h; subst h; exact k
 case mkfn => injection h with h; subst h; exact k
 case build =>
  obtain ⟨cs, h1, rfl⟩ := Option.map_eq_some_iff.1 h
  exact ⟨cs, h1, k⟩
 case faddr => split at h <;> first | (rename_i hh; (try rw [hh]); injection h with h; subst h; exact ⟨rfl, k⟩) | cases h
 case nilchk => split at h <;> first | (rename_i hh; injection h with h; subst h; exact ⟨hh, k⟩) | cases h
 case lenS => split at h <;> first | (rename_i hh; (try rw [hh]); injection h with h; subst h; exact k) | cases h
 case lenL => split at h <;> first | (rename_i hh; (try rw [hh]); injection h with h; subst h; exact k) | cases h
 case lenA => injection h with h; subst h; exact k
 case aaddr =>
  split at h
  ·rename_i h1 h2
   split at h
   ·rename_i hc
    injection h with h
    subst h
    (try rw [h1, h2])
    exact ⟨hc.1, hc.2, rfl, k⟩
   ·cases h
  ·cases h
 case capL => split at h <;> first | (rename_i hh; (try rw [hh]); injection h with h; subst h; exact k) | cases h
 case minmax =>
  split at h
  ·rename_i hh
   try rw [hh]
   obtain ⟨r, h1, rfl⟩ := Option.map_eq_some_iff.1 h
   exact ⟨r, h1, k⟩
  ·cases h
def zgd (cells : List Value) (off : Nat) (agg : Bool) (n : Nat) : Option Value := if agg then (if (cells.drop off).length < n then none else some (.agg ((cells.drop off).take n).toArray)) else cells[off]?
def qoj (os : List Ob) : List XJ → List Nat → Env → (List Nat → Env → Prop) → Prop
 | [], hs, e, K => K hs e
 | ⟨d, .load agg n x, []⟩ :: r, i :: hs, e, K => match ev e x with
  | .pointer (some a) => match os[i]? with
   | some (some (b, row)) => (a.block = b ∧ a.spot = none) ∧ (match zgd row.cells a.off agg n with
    | some v => qoj os r hs (zp e d v) K
    | none => False)
   | _ => False
  | _ => False
 | ⟨d, op, []⟩ :: r, hs, e, K => match qv op e with
  | some v => qoj os r hs (zp e d v) K
  | none => False
 | _, _, _, _ => False
def dsts (l : List XJ) : List Nat := l.filterMap (·.d)
def msk (D : List Nat) (J e : Env) : Env := fun k => if D.contains k = true then J k else e k
def pk : XJ → Option (Nat × Opd × Opd × Opd)
 | ⟨some dp, .pick c a b, []⟩ => some (dp, c, a, b)
 | _ => none
theorem zkZ {y : XJ} {q : Nat × Opd × Opd × Opd} (h : pk y = some q) : y = ⟨some q.1, .pick q.2.1 q.2.2.1 q.2.2.2, []⟩ := by
 unfold pk at h
 split at h
 ·injection h with h; subst h; rfl
 ·cases h
def gval (w p : Bool) (a b : Opd) (e1 : Env) : Option Bool := match w with
 | true => match b with
  | .c (.bool false) => match ev e1 a with
   | .bool x => some (p && x)
   | _ => none
  | _ => none
 | false => match a with
  | .c (.bool true) => match ev e1 b with
   | .bool x => some (p || x)
   | _ => none
  | _ => none
def qok (os : List Ob) : List XI → List Nat → Env → (Env → Prop) → Prop
 | [], _, e, K => K e
 | .s x :: r, hs, e, K => qoj os [x] hs e (fun hs' e' => qok os r hs' e' K)
 | .g t w gl :: .s y :: r, hs, e, K => match pk y with
  | some (dp, c, a, b) => (c = .t t ∧ (dsts gl).contains t = false) ∧ (match e t with
   | .bool p => qoj os gl hs e (fun hs' e1 => match gval w p a b e1 with
    | some x => ∀ J : Env, qok os r hs' (zp (msk (dsts gl) J e) (some dp) (.bool x)) K
    | none => False)
   | _ => False)
  | none => False
 | _, _, _, _ => False
theorem zlM {w p : Bool} {a b : Opd} {e1 er : Env} {x : Bool} (h : gval w p a b e1 = some x) (hr : p = w → er = e1) : (if p = true then ev er a else ev er b) = .bool x := by
 unfold gval at h
 cases w with
 | true =>
  simp only at h
  split at h
  ·split at h
   ·rename_i y hy
    injection h with h
    subst h
    cases p with
    | true => rw [if_pos rfl, hr rfl, hy]; rfl
    | false => rw [if_neg (by simp)]; rfl
   ·cases h
  ·cases h
 | false =>
  simp only at h
  split at h
  ·split at h
   ·rename_i y hy
    injection h with h
    subst h
    cases p with
    | true => rw [if_pos rfl]; rfl
    | false => rw [if_neg (by simp), hr rfl, hy]; rfl
   ·cases h
  ·cases h
theorem zl2 {σ : Hp} {b : Nat} {r : Row} (h : σ b = some r) {off n : Nat} (hn : ¬ (r.cells.drop off).length < n) : looks σ ⟨b, off, none⟩ 0 n = some ((r.cells.drop off).take n) := by
 have hl : ((r.cells.drop off).take n).length = n := by rw [List.length_take]; omega
 have := zgm (σ := σ) (a := ⟨b, off, none⟩) ((r.cells.drop off).take n) 0 fun j u hu => by
  rw [zb7, Nat.zero_add]
  simp only [look, h, Option.isSome_none, Bool.false_eq_true, if_false, Option.bind_some]
  rw [List.getElem?_take] at hu
  split at hu
  ·rw [List.getElem?_drop] at hu; exact hu
  ·cases hu
 rw [hl] at this
 exact this
theorem ziQ {σ : Hp} {b : Nat} {r : Row} {a : Addr} {agg : Bool} {n : Nat} {v : Value} (h : σ b = some r) (hb : a.block = b) (hs : a.spot = none) (hc : zgd r.cells a.off agg n = some v) : zbZ σ a agg n = some v := by
 obtain ⟨ab, ao, as⟩ := a
 simp only at hb hs hc
 subst hb; subst hs
 unfold zgd at hc
 unfold zbZ
 split at hc
 ·rename_i hg
  subst hg
  split at hc
  ·cases hc
  ·rename_i hn
   injection hc with hc
   subst hc
   rw [if_pos rfl, zl2 h hn]
   rfl
 ·rename_i hg
  rw [if_neg hg]
  simp only [look, h, Option.isSome_none, Bool.false_eq_true, if_false, Option.bind_some]
  exact hc
section
variable {P : Program} {w0 : Base} {τ σ : Hp} {os : List Ob}
theorem zg5 (hO : Obs τ σ os) : ∀ (l : List XJ) (hs : List Nat) (e : Env) (K : List Nat → Env → Prop), qoj os l hs e K → ∃ hs' e1, K hs' e1 ∧ (∀ k, (dsts l).contains k = false → e1 k = e k) ∧ ∀ K' : Env → Hp → Prop, K' e1 σ → xjs P w0 l e σ K'
 | [], hs, e, K, h => ⟨hs, e, h, fun _ _ => rfl, fun K' h => h⟩
 | ⟨d, op, x :: st⟩ :: l, hs, e, K, h => by cases op <;> (unfold qoj at h; exact h.elim)
 | ⟨d, op, []⟩ :: l, hs, e, K, h => by
  have fr : ∀ (v : Value) (e1 : Env), (∀ k, (dsts l).contains k = false → e1 k = zp e d v k) → ∀ k, (dsts (⟨d, op, []⟩ :: l)).contains k = false → e1 k = e k := fun v e1 h1 k hk => by
   cases d with
   | none => exact h1 k hk
   | some d =>
    simp only [dsts, List.filterMap_cons, List.contains_cons, Bool.or_eq_false_iff] at hk
    rw [h1 k hk.2]
    have : k ≠ d := fun he => by have := hk.1; rw [he] at this; simp at this
    simp [zp, this]
  have gen : ∀ v hs', (∀ K' : Value → Hp → Prop, K' v σ → xop P w0 op e σ K') → qoj os l hs' (zp e d v) K → ∃ hs' e1, K hs' e1 ∧ (∀ k, (dsts (⟨d, op, []⟩ :: l)).contains k = false → e1 k = e k) ∧ ∀ K' : Env → Hp → Prop, K' e1 σ → xjs P w0 (⟨d, op, []⟩ :: l) e σ K' := fun v hs' h1 h2 => by
   obtain ⟨hs2, e1, k1, k2, k3⟩ := zg5 hO l hs' _ K h2
   refine ⟨hs2, e1, k1, fr v e1 k2, fun K' hK' => ?_⟩
   rw [zlQ]
   exact h1 _ (k3 K' hK')
  cases op
  case load agg n x =>
   cases hs with
   | nil => unfold qoj at h; simp [qv] at h
   | cons i hs =>
    unfold qoj at h
    split at h
    ·rename_i a ha
     split at h
     ·rename_i b row hb
      obtain ⟨⟨h1, h2⟩, h3⟩ := h
      split at h3
      ·rename_i v hv
       refine gen v hs (fun K' hK' => ?_) h3
       unfold xop
       simp only [ha]
       exact ⟨v, by simp [zg8, ziQ (hO.row i b row hb).1 h1 h2 hv], hK'⟩
      ·exact h3.elim
     ·exact h.elim
    ·exact h.elim
  all_goals
   unfold qoj at h
   split at h
   ·rename_i v hv; exact gen v hs (fun K' hK' => zmA hv hK') h
   ·exact h.elim
theorem zg6 : ∀ (l : List XJ) (e : Env) (k : Nat), (dsts l).contains k = false → undefs l e k = e k
 | [], e, k, _ => rfl
 | ⟨none, op, st⟩ :: l, e, k, h => zg6 l e k h
 | ⟨some d, op, st⟩ :: l, e, k, h => by
  simp only [dsts, List.filterMap_cons, List.contains_cons, Bool.or_eq_false_iff] at h
  have := zg6 l (zp e (some d) undef) k h.2
  simp only [undefs]
  rw [this]
  have : k ≠ d := fun he => by have := h.1; rw [he] at this; simp at this
  simp [zp, this]
theorem zhj : ∀ (l : List XJ) (hs : List Nat) (e : Env) (K : List Nat → Env → Prop), qoj os l hs e K → (l.all fun x => x.st.isEmpty) = true
 | [], _, _, _, _ => rfl
 | ⟨d, op, []⟩ :: l, hs, e, K, h => by
  have hr : (l.all fun x => x.st.isEmpty) = true := by
   cases op
   case load agg n x =>
    cases hs with
    | nil => unfold qoj at h; simp [qv] at h
    | cons i hs =>
     unfold qoj at h
     split at h
     ·split at h
      ·obtain ⟨_, h3⟩ := h
       split at h3
       ·exact zhj l hs _ K h3
       ·exact h3.elim
      ·exact h.elim
     ·exact h.elim
   all_goals
    unfold qoj at h
    split at h
    ·exact zhj l hs _ K h
    ·exact h.elim
  simp only [List.all_cons, hr, Bool.and_true]
  rfl
 | ⟨d, op, s :: st⟩ :: l, hs, e, K, h => by
  cases op <;> cases hs <;> unfold qoj at h <;> exact h.elim
theorem zkF {D : List Nat} {e e1 : Env} (h : ∀ k, D.contains k = false → e1 k = e k) : msk D e1 e = e1 := by
 funext k
 unfold msk
 cases hk : D.contains k with
 | true => rfl
 | false => simp [h k hk]
theorem zeI (hO : Obs τ σ os) {r : List XI} {K' : Env → Hp → Prop} : ∀ (l : List XI) (hs : List Nat) (e : Env) (K : Env → Prop), qok os l hs e K → (∀ e', K e' → xis P w0 r e' σ K') → xis P w0 (l ++ r) e σ K'
 | [], hs, e, K, h, k => k e h
 | .s x :: l, hs, e, K, h, k => by
  unfold qok at h
  obtain ⟨hs', e1, h1, _, h3⟩ := zg5 (P := P) (w0 := w0) hO [x] hs e _ h
  have := h3 (fun e' σ' => xis P w0 (l ++ r) e' σ' K') (zeI hO l hs' e1 K h1 k)
  exact this
 | [.g t w gl], hs, e, K, h, k => by unfold qok at h; exact h.elim
 | .g t w gl :: .g _ _ _ :: l, hs, e, K, h, k => by unfold qok at h; exact h.elim
 | .g t w gl :: .s y :: l, hs, e, K, h, k => by
  unfold qok at h
  split at h
  ·rename_i dp c a b hy
   have hy := zkZ hy
   subst hy
   obtain ⟨⟨rfl, ht⟩, h⟩ := h
   split at h
   ·rename_i p hp
    obtain ⟨hs', e1, h1, h2, h3⟩ := zg5 (P := P) (w0 := w0) hO gl hs e _ h
    split at h1
    ·rename_i x hx
     have fin : ∀ er : Env, (∀ k, (dsts gl).contains k = false → er k = e k) → (p = w → er = e1) → xis P w0 ((.s ⟨some dp, .pick (.t t) a b, []⟩ :: l) ++ r) er σ K' := fun er hfr ha => by
      rw [List.cons_append, zdh]
      have htp : ev er (.t t) = .bool p := by show er t = _; rw [hfr t ht, hp]
      have := zeI hO l hs' _ K (h1 er) k
      rw [zkF hfr] at this
      simp only [xop, htp]
      rw [zlM hx ha]
      exact this
     refine ⟨fun hb => h3 _ (fin e1 h2 fun _ => rfl), fun hb => ⟨zhI gl e σ (zhj gl hs e _ h), fin _ (zg6 gl e) fun hpt => ?_⟩⟩
     rw [hp, hpt] at hb
     simp [isB] at hb
    ·exact h1.elim
   ·exact h.elim
  ·exact h.elim
variable {ops r : List XI} {b : zU} {Q : Exit → Env → Hp → Prop} {e : Env} {d : Option Nat}
theorem zM (hO : Obs τ σ os) (n : Nat) (hs : List Nat) (L : List (Nat × Value)) (h : qok os (ops.take n) hs e (agr L)) (k : ∀ j, wpn P w0 (.seq (.reg (ops.drop n)) b) Q (sets L j) σ) : wpn P w0 (.seq (.reg ops) b) Q e σ := by
 show xis P w0 ops e σ (fun e' σ' => wpn P w0 b Q e' σ')
 rw [← List.take_append_drop n ops]
 refine zeI hO _ hs e _ h fun e' he => ?_
 have := k e'
 rw [zW L e' he] at this
 exact this
theorem zD (hO : Obs τ σ os) (hs : List Nat) (L : List (Nat × Value)) (h : qok os ops hs e (agr L)) (k : ∀ j, wpn P w0 b Q (sets L j) σ) : wpn P w0 (.seq (.reg ops) b) Q e σ := by
 show xis P w0 ops e σ (fun e' σ' => wpn P w0 b Q e' σ')
 rw [← List.append_nil ops]
 refine zeI hO _ hs e _ h fun e' he => ?_
 have := k e'
 rw [zW L e' he] at this
 exact this
def zeW : List Nat → Env → Env → Env
 | [], _, j => j
 | k :: r, e, j => fun n => if n = k then e k else zeW r e j n
def same : List Nat → Env → Env → Prop
 | [], _, _ => True
 | k :: r, e, f => f k = e k ∧ same r e f
def agk : List (Nat × Value) → List Nat → Env → Env → Prop
 | [], ks, e, f => same ks e f
 | (k, v) :: r, ks, e, f => f k = v ∧ agk r ks e f
theorem zjQ : ∀ (ks : List Nat) (e f : Env), same ks e f → zeW ks e f = f
 | [], _, _, _ => rfl
 | k :: r, e, f, h => by
  funext n
  simp only [zeW]
  split
  ·rename_i hn; subst hn; exact h.1.symm
  ·rw [zjQ r e f h.2]
theorem zhU : ∀ (L : List (Nat × Value)) (ks : List Nat) (e f : Env), agk L ks e f → sets L (zeW ks e f) = f
 | [], ks, e, f, h => zjQ ks e f h
 | (k, v) :: r, ks, e, f, h => by
  funext n
  simp only [sets]
  split
  ·rename_i hn; subst hn; exact h.1.symm
  ·rw [zhU r ks e f h.2]
theorem zg (hO : Obs τ σ os) (n : Nat) (hs : List Nat) (L : List (Nat × Value)) (ks : List Nat) (h : qok os (ops.take n) hs e (agk L ks e)) (k : ∀ j, wpn P w0 (.seq (.reg (ops.drop n)) b) Q (sets L (zeW ks e j)) σ) : wpn P w0 (.seq (.reg ops) b) Q e σ := by
 show xis P w0 ops e σ (fun e' σ' => wpn P w0 b Q e' σ')
 rw [← List.take_append_drop n ops]
 refine zeI hO _ hs e _ h fun e' he => ?_
 have := k e'
 rw [zhU L ks e e' he] at this
 exact this
theorem zd (hO : Obs τ σ os) (hs : List Nat) (L : List (Nat × Value)) (ks : List Nat) (h : qok os ops hs e (agk L ks e)) (k : ∀ j, wpn P w0 b Q (sets L (zeW ks e j)) σ) : wpn P w0 (.seq (.reg ops) b) Q e σ := by
 show xis P w0 ops e σ (fun e' σ' => wpn P w0 b Q e' σ')
 rw [← List.append_nil ops]
 refine zeI hO _ hs e _ h fun e' he => ?_
 have := k e'
 rw [zhU L ks e e' he] at this
 exact this
theorem zcW (n : Nat) (J : Env → Hp → Prop) (h1 : wpn P w0 (.seq (.reg (ops.take n)) .skip) (fun x e' σ' => x = .normal ∧ J e' σ') e σ) (h2 : ∀ e' σ', J e' σ' → wpn P w0 (.seq (.reg (ops.drop n)) b) Q e' σ') : wpn P w0 (.seq (.reg ops) b) Q e σ := by
 have : ∀ (l m : List XI) (e : Env) (σ : Hp) (K : Env → Hp → Prop), xis P w0 l e σ (fun e' σ' => xis P w0 m e' σ' K) → xis P w0 (l ++ m) e σ K := by
  intro l
  induction l with
  | nil => intro m e σ K h; exact h
  | cons x l ih =>
   intro m e σ K h
   cases x with
   | s x => exact zd9 h fun v σ' hv => ⟨hv.1, ih _ _ _ _ hv.2⟩
   | g t w gl => exact ⟨fun hb => zfk (fun e σ h => ih _ _ _ _ h) gl e σ (h.1 hb), fun hb => ⟨(h.2 hb).1, ih _ _ _ _ (h.2 hb).2⟩⟩
 show xis P w0 ops e σ (fun e' σ' => wpn P w0 b Q e' σ')
 rw [← List.take_append_drop n ops]
 exact this _ _ _ _ _ (zeL (fun e' σ' h => h2 e' σ' h.2) _ _ _ h1)
theorem zcL {a : zU} (J : Env → Hp → Prop) (h1 : wpn P w0 a (thn J Q) e σ) (h2 : ∀ e' σ', J e' σ' → wpn P w0 b Q e' σ') : wpn P w0 (.seq a b) Q e σ :=
 zc6 a _ _ e σ h1 fun x e' σ' h => by cases x <;> first | exact h2 e' σ' h | exact h
theorem zfQ {a : zU} {id : Nat} (J : Env → Hp → Prop) (h1 : wpn P w0 a (inb id (thn J Q)) e σ) (h2 : ∀ e' σ', J e' σ' → wpn P w0 b Q e' σ') : wpn P w0 (.seq (.block id a) b) Q e σ :=
 zcL J h1 h2
theorem zcg {c : zU} (I : Nat → Env → Hp → Prop) (n : Nat) (h0 : I n e σ) (h : ∀ n e σ, I n e σ → wpn P w0 c (thn (fun e' σ' => ∃ n', n' < n ∧ I n' e' σ') Q) e σ) : wpn P w0 (.loop c) Q e σ := ⟨I, ⟨n, h0⟩, h⟩
def At (σ : Hp) (a : Addr) (cs : List Value) : Prop := ∀ j u, cs[j]? = some u → look σ (a.add j) = some u
theorem add_zero (a : Addr) : a.add 0 = a := by simp [Addr.add]
theorem At.one {a : Addr} {cs : List Value} (h : At σ a cs) (j : Nat) {u : Value} (hu : cs[j]? = some u) : zbZ σ (a.add j) false 1 = some u := by
 simp only [zbZ, Bool.false_eq_true, if_false]
 exact h j u hu
theorem At.fst {a : Addr} {u : Value} {cs : List Value} (h : At σ a (u :: cs)) : zbZ σ a false 1 = some u := by
 have := h.one 0 (u := u) rfl
 rwa [add_zero] at this
theorem At.all {a : Addr} {cs : List Value} (h : At σ a cs) {n : Nat} (hn : cs.length = n) : zbZ σ a true n = some (.agg cs.toArray) := by
 subst hn
 have : looks σ a 0 cs.length = some cs := zgm cs 0 fun j u hu => by rw [Nat.zero_add]; exact h j u hu
 simp [zbZ, this]
theorem zbG {α : Type} {T : Ty α} {ρ : Hp} {v : Value} {l : List α} {x i : Opd} {k : IntKind} {q : Int} {y : α} (h : RdT T ρ v l) (hle : Hp.le ρ σ) (hx : ev e x = v) (hi : ev e i = .int k q) (hg : zL l q = some y) (hs : 0 < T.sz)
  (kk : ∀ a cs, T.R ρ y cs → At ρ a cs → wpn P w0 (.seq (.reg r) b) Q (zp e d (.pointer (some a))) σ) : wpn P w0 (.seq (.reg (.s ⟨d, .idx T.sz x i, []⟩ :: r)) b) Q e σ :=
 zcj fun K hK => by
  obtain ⟨A, c, rfl, hc⟩ := h.form
  obtain ⟨h0, hg⟩ := zgJ hg
  have hlt := (List.getElem?_eq_some_iff.1 hg).1
  obtain ⟨cs, hR, h1⟩ := h.get hg
  obtain ⟨a, rfl⟩ := Option.isSome_iff_exists.1 (h.has hlt hs)
  simp only [xop, hx, hi]
  refine ⟨h0, by omega, rfl, hK _ _ (kk _ cs hR fun j u hu => ?_)⟩
  obtain ⟨a', ha, hl⟩ := h1 j u hu
  injection ha with ha
  subst ha
  rw [zfG]
  exact hl
theorem zbh {x : Opd} {a : Addr} {g : Bool} {n : Nat} {u : Value} (hp : ev e x = .pointer (some a)) (hl : zbZ σ a g n = some u) (kk : wpn P w0 (.seq (.reg r) b) Q (zp e d u) σ) : wpn P w0 (.seq (.reg (.s ⟨d, .load g n x, []⟩ :: r)) b) Q e σ :=
 zcj fun K hK => by
  simp only [xop, hp]
  exact ⟨u, by simpa [zg8] using hl, hK _ _ kk⟩
theorem zb1 {f : FuncId} {args : List Opd} {as : Array Value} {hs vs : List Ob} {K : Value → Hp → List Ob → Prop} (hO : Obs τ σ (hs ++ vs)) (hC : Ctr P f as τ vs K) (ha : (args.map (ev e)).toArray = as)
  (k : ∀ v σ' τ' vs', Obs τ' σ' (hs ++ vs') → Hp.le τ τ' → K v τ' vs' → wpn P w0 (.seq (.reg r) b) Q (zp e d v) σ') : wpn P w0 (.seq (.reg (.s ⟨d, .call f args, []⟩ :: r)) b) Q e σ :=
 zcj fun KK hK => by
  subst ha
  exact (ACalls.fr hO hC).use fun v σ' ⟨τ', vs', h1, h2, h3⟩ => hK v σ' (k v σ' τ' vs' h1 h2 h3)
theorem z3 {f : FuncId} {args : List Opd} {as : Array Value} {K : Value → Hp → List Ob → Prop} (hO : Obs τ σ os) (hC : Ctr P f as τ [] K) (ha : (args.map (ev e)).toArray = as)
  (k : ∀ v σ' τ' vs', Obs τ' σ' (os ++ vs') → Hp.le τ τ' → K v τ' vs' → wpn P w0 (.seq (.reg r) b) Q (zp e d v) σ') : wpn P w0 (.seq (.reg (.s ⟨d, .call f args, []⟩ :: r)) b) Q e σ :=
 zb1 (hs := os) (vs := []) (by rw [List.append_nil]; exact hO) hC ha k
theorem ze1 {x : Opd} {f : FuncId} {first cap : Array Value} {args : List Opd} {as : Array Value} {K : Value → Hp → List Ob → Prop} (hx : ev e x = .func (.func f) first cap) (hok : okF P f = true) (hO : Obs τ σ os) (hC : Ctr P f as τ [] K) (ha : first ++ (args.map (ev e)).toArray ++ cap = as)
  (k : ∀ v σ' τ' vs', Obs τ' σ' (os ++ vs') → Hp.le τ τ' → K v τ' vs' → wpn P w0 (.seq (.reg r) b) Q (zp e d v) σ') : wpn P w0 (.seq (.reg (.s ⟨d, .callv x args, []⟩ :: r)) b) Q e σ :=
 zcj fun KK hK => by
  subst ha
  simp only [xop, hx]
  refine ⟨hok, (ACalls.fr (hs := os) (vs := []) (by rw [List.append_nil]; exact hO) hC).use fun v σ' ⟨τ', vs', h1, h2, h3⟩ => hK v σ' (k v σ' τ' vs' h1 h2 h3)⟩
theorem zbm (hO : Obs τ σ os) {ty : Nat} {cells : List Value} (k : ∀ bb σ', Obs τ σ' (os ++ [some (bb, ⟨cells, ty, cells.length, true⟩)]) → wpn P w0 (.seq (.reg r) b) Q (zp e d (.pointer (some ⟨bb, 0, none⟩))) σ') : wpn P w0 (.seq (.reg (.s ⟨d, .alloc ty cells, []⟩ :: r)) b) Q e σ :=
 zcj fun K hK => fun bb h1 h2 => hK _ _ (k bb _ (hO.add h1 _))
theorem zbJ (hO : Obs τ σ os) {ty : Nat} {x : Opd} {cells : List Value} {n : Nat} (hx : (ev e x).cells.toList = cells) (hn : cells.length = n) (k : ∀ bb σ', Obs τ σ' (os ++ [some (bb, ⟨cells, ty, n, true⟩)]) → wpn P w0 (.seq (.reg r) b) Q (zp e d (.pointer (some ⟨bb, 0, none⟩))) σ') : wpn P w0 (.seq (.reg (.s ⟨d, .box ty x, []⟩ :: r)) b) Q e σ :=
 zcj fun K hK => fun bb h1 h2 => by
  have hz : (ev e x).cells.size = n := by rw [← hn, ← hx, Array.length_toList]
  rw [hx, hz]
  exact hK _ _ (k bb _ (hO.add h1 _))
theorem zhR : ∀ (vs : List Value) (σ : Hp) (bb off i : Nat) (cells : List Value) (ty size : Nat), off + i + vs.length ≤ cells.length →
  puts (σ.set bb ⟨cells, ty, size, true⟩) ⟨bb, off, none⟩ i vs = some (σ.set bb ⟨cells.take (off + i) ++ vs ++ cells.drop (off + i + vs.length), ty, size, true⟩)
 | [], σ, bb, off, i, cells, ty, size, _ => by simp [puts]
 | v :: vs, σ, bb, off, i, cells, ty, size, h => by
  simp only [List.length_cons] at h
  have : put1 (σ.set bb ⟨cells, ty, size, true⟩) ((⟨bb, off, none⟩ : Addr).add i) v = some (σ.set bb ⟨cells.set (off + i) v, ty, size, true⟩) := by
   rw [zb7]
   unfold put1
   simp only [Option.isSome_none, Bool.false_eq_true, if_false, Hp.set_eq]
   rw [if_pos (by simp; omega)]
   congr 1
   funext k
   simp only [Hp.set]
   split <;> rfl
  simp only [puts, this, Option.bind_some]
  rw [zhR vs σ bb off (i + 1) _ ty size (by simp; omega)]
  congr 3
  have e1 : off + (i + 1) = off + i + 1 := by omega
  rw [e1, List.length_cons, List.take_set, List.drop_set]
  rw [if_pos (by omega)]
  have : List.take (off + i + 1) cells = List.take (off + i) cells ++ [cells[off + i]'(by omega)] := List.take_succ_eq_append_getElem (by omega)
  rw [this, List.set_append_right _ _ (by simp; omega)]
  simp only [List.length_take, Nat.min_eq_left (show off + i ≤ cells.length by omega), Nat.sub_self, List.set_cons_zero]
  rw [show off + i + 1 + vs.length = off + i + (vs.length + 1) from by omega]
  simp
theorem zu (hO : Obs τ σ os) {i bb ty size n off : Nat} {cells vs : List Value} {x y : Opd} (hi : os[i]? = some (some (bb, ⟨cells, ty, size, true⟩))) (hp : ev e x = .pointer (some ⟨bb, off, none⟩)) (hy : (ev e y).cells.toList = vs) (hn : vs.length = n) (h1 : vs.all one = true) (hoff : off + n ≤ cells.length)
  {cells' : List Value} (hc : cells.take off ++ vs ++ cells.drop (off + n) = cells')
  (k : ∀ σ', Obs τ σ' (os.set i (some (bb, ⟨cells', ty, size, true⟩))) → wpn P w0 (.seq (.reg r) b) Q (zp e d undef) σ') : wpn P w0 (.seq (.reg (.s ⟨d, .store n x y, []⟩ :: r)) b) Q e σ :=
 zcj fun K hK => by
  subst hc
  have hz : (ev e y).cells.size = n := by rw [← hn, ← hy, Array.length_toList]
  simp only [xop, hp]
  refine ⟨hz, by rw [hy]; exact h1, σ.set bb ⟨cells.take off ++ vs ++ cells.drop (off + n), ty, size, true⟩, ?_, hK _ _ (k _ (hO.put hi _))⟩
  rw [hy]
  show puts σ ⟨bb, off, none⟩ 0 vs = _
  have := zhR vs σ bb off 0 cells ty size (by omega)
  rw [Hp.set_same (hO.row i bb _ hi).1] at this
  rw [this, Nat.add_zero, hn]
section
variable {α : Type} {T : Ty α} {v u : Value} {l m : List α} {o : Ob} {i ty bytes : Nat} {s x : Opd} {y : α} {zero : List Value} {d1 : Nat}
theorem ziz {n bytes : Nat} {t : Unit} (h : room n = some t) (hb : bytes ≤ 128) : n * bytes ≤ 140737488355328 :=
 Nat.le_trans (Nat.mul_le_mul (zjn h) hb) (by decide)
theorem zjq {n bytes : Nat} {t : Unit} (h : room (2 * n) = some t) (hb : bytes ≤ 256) : n * bytes ≤ 140737488355328 :=
 Nat.le_trans (Nat.mul_le_mul (show n ≤ 549755813888 by have := zjn h; omega) hb) (by decide)
theorem zjK (hO : Obs τ σ os) (hW : za T ty τ v l o) (hi : os[i]? = some o) (hs : ev e s = v) (hs' : ∀ u, ev (zp e (some d1) u) s = v) {vs : List Value} (hv : (ev e x).cells.toList = vs) (hx : T.R τ y vs) (hz : zero.length = T.sz) (hlim : (l.length + 1) * bytes ≤ 140737488355328)
  (k : ∀ u v' σ' o', za T ty τ v' (l ++ [y]) o' → Obs τ σ' (os.set i o') → wpn P w0 (.seq (.reg r) b) Q (zp (zp e (some d1) u) d v') σ') :
  wpn P w0 (.seq (.reg (.s ⟨some d1, .bslice ty 1 zero [(0, T.sz, x)], []⟩ :: .s ⟨d, .app ty T.sz bytes s (.t d1), []⟩ :: r)) b) Q e σ := by
 subst hv
 have hxl := T.len hx
 show xis P w0 _ e σ _
 rw [zdh, zhT]
 refine ⟨(ev e x).cells.toList, ?_, fun bb hb1 hb0 => ?_⟩
 ·simp only [List.map_cons, List.map_nil, zcO]
  rw [Array.length_toList] at hxl
  rw [if_pos ⟨hxl, by omega⟩]
  simp [hz]
 ·show xis P w0 (.s ⟨d, .app ty T.sz bytes s (.t d1), []⟩ :: r) _ _ _
  rw [zdh, zhS]
  have hO2 := hO.mono (Hp.le_set hb1 (r := ⟨(ev e x).cells.toList, ty, (ev e x).cells.toList.length, true⟩))
  obtain ⟨cells, hX, hC⟩ := hW.x hO2 hi
  refine ⟨l.length, cells, 1, (ev e x).cells.toList, by rw [hs']; exact hX, ?_, T.one hx, hlim, fun v' σ' hg hX' => ?_⟩
  ·have hd : ∀ v, ev (zp e (some d1) v) (.t d1) = v := fun v => by simp [ev, zp]
   rw [hd]
   refine ⟨_, 1, rfl, Nat.le_refl _, by simpa using hxl, fun j u hu => ⟨_, rfl, ?_⟩⟩
   rw [zb7, Nat.zero_add, zgi]
   exact hu
  ·rw [hs'] at hg
   obtain ⟨o', hW', hO'⟩ := hW.grow (l' := l ++ [y]) (n := 0) hO2 hi hg (by simpa using hX') (hC.append (Chunks.single hx))
   exact k _ v' σ' o' hW' hO'
theorem zdt (hO : Obs τ σ os) (hW : za T ty τ v l o) (hi : os[i]? = some o) (hs : ev e s = v) (hs' : ∀ u, ev (zp e (some d1) u) s = v) {vs : List Value} (hv : (ev e x).cells.toList = vs) (hx : T.R τ y vs) (hz : zero.length = T.sz) {t : Unit} (hr : room (l.length + 1) = some t) (hb : bytes ≤ 128)
  (k : ∀ u v' σ' o', za T ty τ v' (l ++ [y]) o' → Obs τ σ' (os.set i o') → wpn P w0 (.seq (.reg r) b) Q (zp (zp e (some d1) u) d v') σ') :
  wpn P w0 (.seq (.reg (.s ⟨some d1, .bslice ty 1 zero [(0, T.sz, x)], []⟩ :: .s ⟨d, .app ty T.sz bytes s (.t d1), []⟩ :: r)) b) Q e σ := zjK hO hW hi hs hs' hv hx hz (ziz hr hb) k
theorem zlh (hO : Obs τ σ os) (hW : za T ty τ v l o) (hi : os[i]? = some o) (hs : ev e s = v) (hs' : ∀ u, ev (zp e (some d1) u) s = v) {vs : List Value} (hv : (ev e x).cells.toList = vs) (hx : T.R τ y vs) (hz : zero.length = T.sz) {t : Unit} (hr : room (2 * (l.length + 1)) = some t) (hb : bytes ≤ 256)
  (k : ∀ u v' σ' o', za T ty τ v' (l ++ [y]) o' → Obs τ σ' (os.set i o') → wpn P w0 (.seq (.reg r) b) Q (zp (zp e (some d1) u) d v') σ') :
  wpn P w0 (.seq (.reg (.s ⟨some d1, .bslice ty 1 zero [(0, T.sz, x)], []⟩ :: .s ⟨d, .app ty T.sz bytes s (.t d1), []⟩ :: r)) b) Q e σ := zjK hO hW hi hs hs' hv hx hz (zjq hr hb) k
theorem zkk (hO : Obs τ σ os) (hW : za T ty τ v l o) (hi : os[i]? = some o) (hs : ev e s = v) (hx : ev e x = u) (hR : RdT T τ u m) (hlim : (l.length + m.length) * bytes ≤ 140737488355328)
  (k : ∀ v' σ' o', za T ty τ v' (l ++ m) o' → Obs τ σ' (os.set i o') → wpn P w0 (.seq (.reg r) b) Q (zp e d v') σ') :
  wpn P w0 (.seq (.reg (.s ⟨d, .app ty T.sz bytes s x, []⟩ :: r)) b) Q e σ := by
 show xis P w0 _ e σ _
 rw [zdh, zhS]
 obtain ⟨cells, hX, hC⟩ := hW.x hO hi
 obtain ⟨ys, hR, hY⟩ := hR
 refine ⟨l.length, cells, m.length, ys, by rw [hs]; exact hX, by rw [hx]; exact hR.le hO.base, hY.one, hlim, fun v' σ' hg hX' => ?_⟩
 rw [hs] at hg
 obtain ⟨o', hW', hO'⟩ := hW.grow (l' := l ++ m) (n := 0) hO hi hg (by simpa using hX') (hC.append hY)
 exact k v' σ' o' hW' hO'
theorem zeY (hO : Obs τ σ os) (hW : za T ty τ v l o) (hi : os[i]? = some o) (hs : ev e s = v) (hx : ev e x = u) (hR : RdT T τ u m) {t : Unit} (hr : room (l.length + m.length) = some t) (hb : bytes ≤ 128)
  (k : ∀ v' σ' o', za T ty τ v' (l ++ m) o' → Obs τ σ' (os.set i o') → wpn P w0 (.seq (.reg r) b) Q (zp e d v') σ') :
  wpn P w0 (.seq (.reg (.s ⟨d, .app ty T.sz bytes s x, []⟩ :: r)) b) Q e σ := zkk hO hW hi hs hx hR (ziz hr hb) k
theorem zdk (hO : Obs τ σ os) (hW : za T ty τ v l o) (hi : os[i]? = some o) (hs : ev e s = v) (hx : ev e x = u) (hR : RdT T τ u m) {t : Unit} (hr : room (2 * (l.length + m.length)) = some t) (hb : bytes ≤ 256)
  (k : ∀ v' σ' o', za T ty τ v' (l ++ m) o' → Obs τ σ' (os.set i o') → wpn P w0 (.seq (.reg r) b) Q (zp e d v') σ') :
  wpn P w0 (.seq (.reg (.s ⟨d, .app ty T.sz bytes s x, []⟩ :: r)) b) Q e σ := zkk hO hW hi hs hx hR (zjq hr hb) k
theorem zly (hf : T.Flat) (hO : Obs τ σ os) (hW : za T ty τ v l o) (hi : os[i]? = some o) (hs : ev e s = v) (hx : ev e x = u) (hR : RdT T σ u m) {t : Unit} (hr : room (l.length + m.length) = some t) (hb : bytes ≤ 128)
  (k : ∀ v' σ' o', za T ty τ v' (l ++ m) o' → Obs τ σ' (os.set i o') → wpn P w0 (.seq (.reg r) b) Q (zp e d v') σ') :
  wpn P w0 (.seq (.reg (.s ⟨d, .app ty T.sz bytes s x, []⟩ :: r)) b) Q e σ := by
 show xis P w0 _ e σ _
 rw [zdh, zhS]
 obtain ⟨cells, hX, hC⟩ := hW.x hO hi
 obtain ⟨ys, hR, hY⟩ := hR
 refine ⟨l.length, cells, m.length, ys, by rw [hs]; exact hX, by rw [hx]; exact hR, hY.one, ziz hr hb, fun v' σ' hg hX' => ?_⟩
 rw [hs] at hg
 obtain ⟨o', hW', hO'⟩ := hW.grow (l' := l ++ m) (n := 0) hO hi hg (by simpa using hX') (hC.append (hY.flat hf))
 exact k v' σ' o' hW' hO'
theorem z5 (hO : Obs τ σ os) {n : Nat} {zero : List Value} {parts : List (Nat × Nat × Opd)} {cs : List Value} (hf : zcO zero (parts.map fun p => (p.1, p.2.1, ev e p.2.2)) = some cs) (hC : Chunks T τ l cs) (hn : l.length = n) (hm : n ≤ 1000000)
  (k : ∀ v' σ' o', za T ty τ v' l o' → Obs τ σ' (os ++ [o']) → wpn P w0 (.seq (.reg r) b) Q (zp e d v') σ') : wpn P w0 (.seq (.reg (.s ⟨d, .bslice ty n zero parts, []⟩ :: r)) b) Q e σ := by
 show xis P w0 _ e σ _
 rw [zdh, zhT]
 refine ⟨cs, hf, fun bb hb1 hb0 => k _ _ _ (.inr ⟨bb, n, cs, [], by rw [hn], by omega, by unfold maxLen; omega, by rw [List.append_nil], hC⟩) ?_⟩
 have := hO.add hb1 ⟨cs, ty, cs.length, true⟩
 rw [show n * T.sz = cs.length from by rw [hC.len, hn]]
 exact this
theorem znl {lo hi : Option Opd} {p q : Int} (h : RdT T τ v l) (hx : ev e x = v) (hlo : zbK e 0 lo = some p) (hhi : zbK e l.length hi = some q) (hg : zdV l p q = some m)
  (k : ∀ u, RdT T τ u m → wpn P w0 (.seq (.reg r) b) Q (zp e d u) σ) : wpn P w0 (.seq (.reg (.s ⟨d, .slc T.sz x lo hi none, []⟩ :: r)) b) Q e σ :=
 zcj fun K hK => by
  obtain ⟨A, c, rfl, hc⟩ := h.form
  obtain ⟨h0, h1, h2, rfl⟩ := zko hg
  simp only [xop, hx]
  refine ⟨p, q, c, rfl, hhi, hlo, h0, h1, by omega, by omega, hK _ _ (k _ ?_)⟩
  exact h.slc (by omega) (by omega)
end
theorem zdW {x : Opd} {v : Value} {l : List UInt8} (h : RdT Ty.u8 σ v l) (hx : ev e x = v) (k : wpn P w0 (.seq (.reg r) b) Q (zp e d (.string ⟨l.toArray⟩)) σ) : wpn P w0 (.seq (.reg (.s ⟨d, .tostr x, []⟩ :: r)) b) Q e σ :=
 zcj fun K hK => by
  obtain ⟨cs, hR, hC⟩ := h
  have : ∀ (l : List UInt8) (cs : List Value), Chunks Ty.u8 σ l cs → cs = l.map fun b => .int .u8 b.toNat := by
   intro l
   induction l with
   | nil => intro cs h; exact h
   | cons x l ih =>
    intro cs h
    obtain ⟨c, q, rfl, h1, h2⟩ := h
    have h1 : c = [.int .u8 x.toNat] := h1
    rw [h1, ih q h2]
    rfl
  rw [this l cs hC] at hR
  exact ⟨l.length, l, by rw [hx]; exact hR, hK _ _ k⟩
end
theorem zbp {P : Program} {f : FuncId} {fn : Func} {af : zT} {args : List Value} {τ : Hp} {vs : List Ob} {K : Value → Hp → List Ob → Prop} (hm : P.follows .mixedOrders = true) (hf : P.funcs[f]? = some fn) (hs : zS P fn = some af.fn) (ha : (af.body.ok && decide (args.length ≤ af.ntmps)) = true)
  (h : ∀ (w0 : Base) (σ : Hp), Obs τ σ vs → ∀ Q : Exit → Env → Hp → Prop, (∀ e σ' rs τ' vs', resvs e σ' af.results = some rs → Obs τ' σ' vs' → Hp.le τ τ' → K (zch rs) τ' vs' → Q .ret e σ') → wpn P w0 af.body Q (zbV args) σ) : Ctr P f args.toArray τ vs K := fun w0 σ hO =>
 znJ hm hf hs ha fun Q hQ => h w0.np σ hO Q fun e σ' rs τ' vs' h1 h2 h3 h4 => hQ e σ' rs h1 ⟨τ', vs', h2, h3, h4⟩
def big : Nat := 18446744073709551616
def u8o (n : Int) : Option UInt8 := if 0 ≤ n ∧ n < 256 then some (UInt8.ofNat n.toNat) else none
theorem zdn {n : Int} {z : UInt8} (h : u8o n = some z) : n = (z.toNat : Int) := by
 unfold u8o at h
 split at h
 ·injection h with h
  subst h
  rw [UInt8.toNat_ofNat_of_lt' (show n.toNat < 256 by omega)]
  omega
 ·cases h
theorem u8R {τ : Hp} {n : Int} {z : UInt8} (h : u8o n = some z) : Ty.u8.R τ z [.int .u8 n] := by
 show _ = _
 rw [zdn h]
def z9 (x y : ByteArray) : Bool := x.toList == y.toList
def zfH (x y : ByteArray) : Option ByteArray := if ((x.size + y.size : Nat) : Int) > IntKind.i64.max then none else some (x ++ y)
def zeF (s : ByteArray) (lo hi : Int) : Option ByteArray := if 0 ≤ lo ∧ lo ≤ hi ∧ hi ≤ s.size then some (s.extract lo.toNat hi.toNat) else none
theorem zdQ {a b c : ByteArray} (h : zfH a b = some c) : binv .add (.string a) (.string b) = some (.string c) := by
 unfold zfH at h
 split at h
 ·cases h
 ·rename_i hb; injection h with h; subst h; simp only [binv, sbin]; rw [if_neg hb]
theorem za.nil0 {α : Type} {T : Ty α} {ty : Nat} {τ σ : Hp} {os : List Ob} (h : Obs τ σ os) : za T ty τ (.slice none 0 0) [] none := za.nil T ty τ
theorem Obs.val {τ σ : Hp} {os : List Ob} (hO : Obs τ σ os) {i b off n : Nat} {r : Row} {agg : Bool} {v : Value} (hi : os[i]? = some (some (b, r))) (hc : zgd r.cells off agg n = some v) : zbZ σ ⟨b, off, none⟩ agg n = some v :=
 ziQ (hO.row i b r hi).1 rfl rfl hc
section
variable {e : Env} {σ : Hp}
theorem zco {n : Nat} {rs : List zcv} {l : List Value} (h : resvs e σ rs = some l) : resvs e σ (.t n :: rs) = some (e n :: l) := by simp [resvs, resv, h]
theorem zbY {n k : Nat} {g : Bool} {a : Addr} {v : Value} {rs : List zcv} {l : List Value} (hp : e n = .pointer (some a)) (hv : zbZ σ a g k = some v) (h : resvs e σ rs = some l) : resvs e σ (.c n g k :: rs) = some (v :: l) := by simp [resvs, resv, hp, hv, h]
end
section
variable {P : Program} {w0 : Base} {τ σ : Hp} {os : List Ob} {ops r : List XI} {b a : zU} {Q : Exit → Env → Hp → Prop} {e : Env} {d : Option Nat} {K : Env → Hp → Prop} {id k : Nat}
theorem zi (h : K e σ) : thn K Q .normal e σ := h
theorem zbw (h : Q .ret e σ) : thn K Q .ret e σ := h
theorem zbR (h : Q (.exit k) e σ) : thn K Q (.exit k) e σ := h
theorem zX (h : Q .normal e σ) : inb id Q .normal e σ := h
theorem zbE (h : Q .ret e σ) : inb id Q .ret e σ := h
theorem zbX (h : Q .normal e σ) : inb id Q (.exit id) e σ := by rw [zl5]; exact h
theorem zbb (h : Q .ret e σ) : wpn P w0 .ret Q e σ := h
theorem zbr (h : wpn P w0 a (inb id (thn (fun e' σ' => wpn P w0 b Q e' σ') Q)) e σ) : wpn P w0 (.seq (.block id a) b) Q e σ := h
theorem zgy (n : Nat) (L : List (Nat × Value)) (h1 : ∀ Q' : Exit → Env → Hp → Prop, (∀ e', agr L e' → Q' .normal e' σ) → wpn P w0 (.seq (.reg (ops.take n)) .skip) Q' e σ) (h2 : ∀ j, wpn P w0 (.seq (.reg (ops.drop n)) b) Q (sets L j) σ) : wpn P w0 (.seq (.reg ops) b) Q e σ :=
 zcW n (fun e' σ' => agr L e' ∧ σ' = σ) (h1 _ fun e' he => ⟨rfl, he, rfl⟩) fun e' σ' h => by
  obtain ⟨h3, rfl⟩ := h
  have := h2 e'
  rw [zW L e' h3] at this
  exact this
theorem zz {α : Type} {c : Opd} {x y : zU} {t : Bool} {A B : Option α} {rr : α} (hF : (if t = true then A else B) = some rr) (hb : ev e c = .bool t) (h1 : A = some rr → wpn P w0 (.seq x b) Q e σ) (h2 : B = some rr → wpn P w0 (.seq y b) Q e σ) : wpn P w0 (.seq (.cond c x y) b) Q e σ := by
 cases t with
 | true => rw [if_pos rfl] at hF; exact zf6 hb (h1 hF)
 | false => rw [if_neg (fun h => nomatch h)] at hF; exact zfl hb (h2 hF)
theorem zbf {c x y : Opd} {t : Bool} (hc : ev e c = .bool t) (h : wpn P w0 (.seq (.reg r) b) Q (zp e d (if t = true then ev e x else ev e y)) σ) : wpn P w0 (.seq (.reg (.s ⟨d, .pick c x y, []⟩ :: r)) b) Q e σ :=
 zcj fun K hK => by
  simp only [xop, hc]
  exact hK _ _ h
theorem zdI {op : BinOp} {x y : Opd} {v : Value} (hv : binv op (ev e x) (ev e y) = some v) (h : wpn P w0 (.seq (.reg r) b) Q (zp e d v) σ) : wpn P w0 (.seq (.reg (.s ⟨d, .bin op x y, []⟩ :: r)) b) Q e σ :=
 zcj fun K hK => ⟨v, hv, hK _ _ h⟩
theorem zgX {x : Opd} {lo hi : Option Opd} {s y : ByteArray} {p q : Int} (hx : ev e x = .string s) (hlo : zbK e 0 lo = some p) (hhi : zbK e s.size hi = some q) (hg : zeF s p q = some y) (h : wpn P w0 (.seq (.reg r) b) Q (zp e d (.string y)) σ) : wpn P w0 (.seq (.reg (.s ⟨d, .slcS x lo hi, []⟩ :: r)) b) Q e σ :=
 zcj fun K hK => by
  unfold zeF at hg
  split at hg
  ·rename_i h0
   injection hg with hg
   subst hg
   simp only [xop, hx]
   exact ⟨p, q, hhi, hlo, h0.1, h0.2.1, h0.2.2, hK _ _ h⟩
  ·cases hg
end
theorem Chunks.set {α : Type} {T : Ty α} {τ : Hp} {y' : α} {cs' : List Value} (hR : T.R τ y' cs') : ∀ {l : List α} {cells : List Value} {i : Nat}, Chunks T τ l cells → i < l.length → Chunks T τ (l.set i y') (cells.take (i * T.sz) ++ cs' ++ cells.drop (i * T.sz + T.sz))
 | [], cells, i, h, hi => by simp at hi
 | y :: l, cells, 0, h, hi => by
  obtain ⟨c, r, rfl, h1, h2⟩ := h
  have hc := T.len h1
  refine ⟨cs', r, ?_, hR, h2⟩
  rw [Nat.zero_mul, Nat.zero_add, List.take_zero, List.nil_append, ← hc, List.drop_left]
 | y :: l, cells, i + 1, h, hi => by
  obtain ⟨c, r, rfl, h1, h2⟩ := h
  have hc := T.len h1
  refine ⟨c, _, ?_, h1, Chunks.set hR h2 (by simpa using hi)⟩
  have e1 : (i + 1) * T.sz = T.sz + i * T.sz := by rw [Nat.succ_mul, Nat.add_comm]
  rw [e1, ← hc, List.take_append, List.drop_append]
  rw [List.take_of_length_le (by omega), Nat.add_sub_cancel_left]
  rw [List.drop_of_length_le (by omega)]
  rw [show c.length + i * c.length + c.length - c.length = i * c.length + c.length from by omega]
  simp
def zd8 (sz : Nat) (o : Ob) (a : Addr) (q : Int) : Prop := ∃ b r, o = some (b, r) ∧ a = ⟨b, q.toNat * sz, none⟩
section
variable {P : Program} {w0 : Base} {τ σ : Hp} {os : List Ob} {r : List XI} {b : zU} {Q : Exit → Env → Hp → Prop} {e : Env} {d : Option Nat}
variable {α : Type} {T : Ty α} {v : Value} {l : List α} {o : Ob} {i ty : Nat}
theorem zdg {x ix : Opd} {k : IntKind} {q : Int} {y : α} (hO : Obs τ σ os) (hW : za T ty τ v l o) (hi : os[i]? = some o) (hx : ev e x = v) (hix : ev e ix = .int k q) (hg : zL l q = some y) (hs : 0 < T.sz)
  (kk : ∀ a cs, T.R τ y cs → At σ a cs → zd8 T.sz o a q → wpn P w0 (.seq (.reg r) b) Q (zp e d (.pointer (some a))) σ) : wpn P w0 (.seq (.reg (.s ⟨d, .idx T.sz x ix, []⟩ :: r)) b) Q e σ :=
 zcj fun K hK => by
  obtain ⟨h0, hg'⟩ := zgJ hg
  have hlt := (List.getElem?_eq_some_iff.1 hg').1
  rcases hW with ⟨rfl, rfl, rfl⟩ | ⟨bb, cap, cells, rest, rfl, h2, h3, rfl, h5⟩
  ·simp at hlt
  ·obtain ⟨cs, hR, he⟩ := h5.get hg'
   simp only [xop, hx, hix]
   refine ⟨h0, by omega, rfl, ?_⟩
   refine hK _ _ (kk _ cs hR (fun j u hu => ?_) ⟨bb, _, rfl, by show Addr.add _ _ = _; rw [zb7, Nat.zero_add]⟩)
   obtain ⟨h6, _⟩ := hO.row i bb _ hi
   rw [zfG, zb7, Nat.zero_add]
   simp only [look, h6, Option.isSome_none, Bool.false_eq_true, if_false, Option.bind_some]
   rw [he, List.getElem?_take] at hu
   split at hu
   ·rw [List.getElem?_drop] at hu
    rw [List.getElem?_append_left (List.getElem?_eq_some_iff.1 hu).1]
    exact hu
   ·cases hu
theorem zlO {x y : Opd} {a : Addr} {q : Int} {off n : Nat} {z z' : α} {cs vs cs' : List Value} (hO : Obs τ σ os) (hW : za T ty τ v l o) (hi : os[i]? = some o) (hp : ev e x = .pointer (some (a.add off))) (hin : zd8 T.sz o a q) (hg : zL l q = some z) (hR : T.R τ z cs)
  (hAt : At σ a cs) (hy : (ev e y).cells.toList = vs) (hn : vs.length = n) (h1 : vs.all one = true) (hc : cs.take off ++ vs ++ cs.drop (off + n) = cs') (hoff : off + n ≤ T.sz) (hR' : T.R τ z' cs')
  (kk : ∀ σ' o', za T ty τ v (l.set q.toNat z') o' → Obs τ σ' (os.set i o') → wpn P w0 (.seq (.reg r) b) Q (zp e d undef) σ') : wpn P w0 (.seq (.reg (.s ⟨d, .store n x y, []⟩ :: r)) b) Q e σ :=
 zcj fun K hK => by
  obtain ⟨h0, hg'⟩ := zgJ hg
  have hlt := (List.getElem?_eq_some_iff.1 hg').1
  rcases hW with ⟨rfl, rfl, rfl⟩ | ⟨bb, cap, cells, rest, rfl, h2, h3, rfl, h5⟩
  ·simp at hlt
  ·obtain ⟨b', r', hb', rfl⟩ := hin
   injection hb' with hb'
   injection hb' with hb1 hb2
   subst hb1; subst hb2
   have hcl := h5.len
   have hsz := T.len hR
   have hin2 : q.toNat * T.sz + T.sz ≤ cells.length := by rw [hcl, ← Nat.succ_mul]; exact Nat.mul_le_mul_right _ hlt
   obtain ⟨cs0, hR0, he⟩ := h5.get hg'
   obtain ⟨h6, _⟩ := hO.row i bb _ hi
   have hcs : (cells.drop (q.toNat * T.sz)).take T.sz = cs := by
    apply List.ext_getElem?
    intro j
    have hl0 : ((cells.drop (q.toNat * T.sz)).take T.sz).length = T.sz := by rw [List.length_take, List.length_drop]; omega
    cases hj : cs[j]? with
    | none =>
     have := List.getElem?_eq_none_iff.1 hj
     exact List.getElem?_eq_none (by omega)
    | some u =>
     have := hAt j u hj
     rw [zb7] at this
     simp only [look, h6, Option.isSome_none, Bool.false_eq_true, if_false, Option.bind_some] at this
     rw [List.getElem?_take, if_pos (by have := (List.getElem?_eq_some_iff.1 hj).1; omega), List.getElem?_drop]
     rw [List.getElem?_append_left (by have := (List.getElem?_eq_some_iff.1 hj).1; omega)] at this
     exact this
   have hz : (ev e y).cells.size = n := by rw [← hn, ← hy, Array.length_toList]
   rw [zb7] at hp
   simp only [xop, hp]
   have hput := zhR vs σ bb (q.toNat * T.sz + off) 0 (cells ++ rest) ty (cap * T.sz) (by rw [List.length_append]; omega)
   rw [Hp.set_same h6] at hput
   refine ⟨hz, by rw [hy]; exact h1, _, by rw [hy]; exact hput, ?_⟩
   have hcells : (cells ++ rest).take (q.toNat * T.sz + off + 0) ++ vs ++ (cells ++ rest).drop (q.toNat * T.sz + off + 0 + vs.length) = cells.take (q.toNat * T.sz) ++ cs' ++ cells.drop (q.toNat * T.sz + T.sz) ++ rest := by
    rw [← hc, ← hcs, hn, Nat.add_zero, List.take_append_of_le_length (by omega), List.drop_append_of_le_length (by omega)]
    have e1 : List.take (q.toNat * T.sz + off) cells = List.take (q.toNat * T.sz) cells ++ List.take off (List.drop (q.toNat * T.sz) cells) := by rw [List.take_add]
    have e2 : List.drop (off + n) (List.take T.sz (List.drop (q.toNat * T.sz) cells)) = List.take (T.sz - (off + n)) (List.drop (q.toNat * T.sz + off + n) cells) := by
     rw [List.drop_take, List.drop_drop, Nat.add_assoc]
    have e3 : List.drop (q.toNat * T.sz + off + n) cells = List.take (T.sz - (off + n)) (List.drop (q.toNat * T.sz + off + n) cells) ++ List.drop (q.toNat * T.sz + T.sz) cells := by
     have := List.take_append_drop (T.sz - (off + n)) (List.drop (q.toNat * T.sz + off + n) cells)
     rw [List.drop_drop, show q.toNat * T.sz + off + n + (T.sz - (off + n)) = q.toNat * T.sz + T.sz from by omega] at this
     exact this.symm
    rw [e1, e2, List.take_take, Nat.min_eq_left (by omega)]
    conv => lhs; rw [e3]
    simp
   rw [hcells]
   have hlen : (l.set q.toNat z').length = l.length := List.length_set
   refine hK _ _ (kk _ _ (.inr ⟨bb, cap, _, rest, by rw [hlen], by rw [hlen]; exact h2, h3, rfl, h5.set hR' hlt⟩) (hO.put hi _))
end
section
variable {P : Program} {w0 : Base} {τ σ : Hp} {os : List Ob} {r : List XI} {b : zU} {Q : Exit → Env → Hp → Prop} {e : Env} {d : Option Nat}
variable {α : Type} {T : Ty α} {v : Value} {l : List α} {o : Ob} {i ty : Nat}
theorem zmS {x : Opd} {hi : Option Opd} {A : Option Addr} {n c : Nat} {q : Int} {y : List α} (hW : za T ty τ (.slice A n c) l o) (hx : ev e x = .slice A n c) (hhi : zbK e n hi = some q) (hg : zdV l 0 q = some y)
  (kk : za T ty τ (.slice A y.length c) y o → wpn P w0 (.seq (.reg r) b) Q (zp e d (.slice A y.length c)) σ) : wpn P w0 (.seq (.reg (.s ⟨d, .slc T.sz x none hi none, []⟩ :: r)) b) Q e σ :=
 zcj fun K hK => by
  obtain ⟨_, h0, h1, rfl⟩ := zko hg
  obtain ⟨A', c', hv, hle⟩ := hW.form
  injection hv with hA hn hc
  subst hn; subst hc
  simp only [xop, hx]
  refine ⟨0, q, c, rfl, hhi, rfl, Int.le_refl _, h0, by omega, by omega, ?_⟩
  have e1 : (if (c : Int).toNat = (0 : Int).toNat then A else A.map (·.add ((0 : Int).toNat * T.sz))) = A := by
   split
   ·rfl
   ·cases A
    ·rfl
    ·simp [Addr.add]
  have e2 : (List.drop (0 : Int).toNat (List.take q.toNat l)) = List.take q.toNat l := by simp
  have e3 : (List.take q.toNat l).length = q.toNat := by rw [List.length_take]; omega
  rw [e1]
  rw [e2, e3] at kk
  exact hK _ _ (kk (hW.cut (by omega)))
end
theorem za.len {α : Type} {T : Ty α} {ty : Nat} {τ : Hp} {A : Option Addr} {n c : Nat} {l : List α} {o : Ob} (h : za T ty τ (.slice A n c) l o) : n = l.length := by
 obtain ⟨A', c', hv, _⟩ := h.form
 injection hv
theorem At.le {τ τ' : Hp} {a : Addr} {cs : List Value} (h : At τ a cs) (hle : Hp.le τ τ') : At τ' a cs := fun j u hu => by
 have := h j u hu
 unfold look at this ⊢
 split at this
 ·cases this
 ·rename_i hn
  rw [if_neg hn]
  obtain ⟨r, hr, hv⟩ := Option.bind_eq_some_iff.1 this
  rw [hle _ _ hr]
  exact hv
theorem Obs.shareV {τ σ : Hp} {os : List Ob} (h : Obs τ σ os) {i b : Nat} {cells : List Value} {ty n : Nat} {fl : Bool} (hi : os[i]? = some (some (b, ⟨cells, ty, n, fl⟩))) : ∃ τ', Hp.le τ τ' ∧ At τ' ⟨b, 0, none⟩ cells ∧ Obs τ' σ (os.set i none) := by
 obtain ⟨hle, hO'⟩ := h.share hi
 refine ⟨_, hle, fun j u hu => ?_, hO'⟩
 rw [zb7, Nat.zero_add, zgi]
 exact hu
section
variable {P : Program} {w0 : Base} {e : Env} {σ : Hp} {Q : Exit → Env → Hp → Prop} {b : zU} {r : List XI}
def ziq (st : List ASt) : zbB := .eff ⟨none, none, .mv (.c (.bool true))⟩ st .done
theorem zbt {d : Option Nat} {op : AOp} {st : List ASt} (h : wpn P w0 (.seq (.reg [.s ⟨d, op, []⟩]) (.seq (.parT (ziq st)) (.seq (.reg r) b))) Q e σ) : wpn P w0 (.seq (.reg (.s ⟨d, op, st⟩ :: r)) b) Q e σ := by
 show xis P w0 (.s ⟨d, op, st⟩ :: r) e σ (fun e' σ' => wpn P w0 b Q e' σ')
 rw [zjH]
 have h : xis P w0 [.s ⟨d, op, []⟩] e σ (fun e' σ' => wpn P w0 (.seq (.parT (ziq st)) (.seq (.reg r) b)) Q e' σ') := h
 rw [zdh] at h
 refine zd9 h fun v σ' h => ?_
 have h : xstep P w0 ⟨none, none, .mv (.c (.bool true))⟩ (zp e d v) σ' (fun e' σ' => agains P w0 st e' σ' ∧ xtree P w0 .done e' σ' (fun e'' σ'' => wpn P w0 (.seq (.reg r) b) Q e'' σ'')) := h
 exact h
theorem zbs {st : List ASt} (ha : agains P w0 st e σ) (h : wpn P w0 b Q e σ) : wpn P w0 (.seq (.parT (ziq st)) b) Q e σ := ⟨ha, h⟩
theorem zA {x : Opd} {d n : Nat} {g : Bool} {a : Addr} {u : Value} (hx : ev e x = .pointer (some a)) (hl : zbZ σ a g n = some u) (hd : u = e d) : again P w0 ⟨none, some d, .load g n x⟩ e σ := ⟨a, u, hx, hl, hd, rfl⟩
theorem zcV (h : wpn P w0 b Q e σ) : wpn P w0 (.seq (.parT .done) b) Q e σ := h
theorem zdC {s t : zbB} (h1 : wpn P w0 (.seq (.parT s) b) Q e σ) (h2 : wpn P w0 (.seq (.parT t) b) Q e σ) : wpn P w0 (.seq (.parT (.both s t)) b) Q e σ := ⟨h1, h2⟩
theorem zih {t : zbB} (h : wpn P w0 (.seq (.parT t) .skip) Q e σ) : wpn P w0 (.parT t) Q e σ := h
theorem zF {d : Option Nat} {op : AOp} {k : zbB} (h : wpn P w0 (.seq (.reg [.s ⟨d, op, []⟩]) (.seq (.parT k) b)) Q e σ) : wpn P w0 (.seq (.parT (.quiet ⟨none, d, op⟩ k)) b) Q e σ := by
 have h : xis P w0 [.s ⟨d, op, []⟩] e σ (fun e' σ' => wpn P w0 (.seq (.parT k) b) Q e' σ') := h
 rw [zdh] at h
 exact h
theorem zbc {d : Option Nat} {op : AOp} {st : List ASt} {k : zbB} (h : wpn P w0 (.seq (.reg [.s ⟨d, op, st⟩]) (.seq (.parT k) b)) Q e σ) : wpn P w0 (.seq (.parT (.eff ⟨none, d, op⟩ st k)) b) Q e σ := by
 have h : xis P w0 [.s ⟨d, op, st⟩] e σ (fun e' σ' => wpn P w0 (.seq (.parT k) b) Q e' σ') := h
 rw [zjH] at h
 exact h
end
section
variable {P : Program}
theorem zns {w0 : Base} {M : World → (Ending → World → Prop) → Prop} {τ σ : Hp} {hs vs : List Ob} {K : Value → Hp → List Ob → Prop} {w : World} (hM : ∀ w R R', (∀ e w', R e w' → R' e w') → M w R → M w R') (hO : Obs τ σ (hs ++ vs)) (hI : Inv w0 σ w)
  (hC : ∀ (w1 : Base) (ρ : Hp), w1.world = w0.world → (∀ b o, w0.hid b = some o → w1.hid b = some o) → Obs τ ρ vs → Inv w1 ρ w → M w (fun e w' => match e with
   | .returned v => ∃ ρ', Inv w1 ρ' w' ∧ ∃ τ' vs', Obs τ' ρ' vs' ∧ Hp.le τ τ' ∧ K v τ' vs'
   | .panicked ch => ∃ ρ', Inv w1 ρ' w' ∧ zct ch ρ'
   | .outgrown => False)) :
  M w (fun e w' => match e with
   | .returned v => ∃ σ', Inv w0 σ' w' ∧ ∃ τ' vs', Obs τ' σ' (hs ++ vs') ∧ Hp.le τ τ' ∧ K v τ' vs'
   | .panicked ch => ∃ σ', Inv w0 σ' w' ∧ zct ch σ'
   | .outgrown => False) := by
 classical
 have hrow : ∀ (i b : Nat) (r : Row), hs[i]? = some (some (b, r)) → σ b = some r ∧ τ b = none := fun i b r e => hO.row i b r (by rw [List.getElem?_append_left (List.getElem?_eq_some_iff.1 e).1]; exact e)
 have vrow : ∀ (i b : Nat) (r : Row), vs[i]? = some (some (b, r)) → (hs ++ vs)[hs.length + i]? = some (some (b, r)) := fun i b r e => by rw [List.getElem?_append_right (by omega), Nat.add_sub_cancel_left]; exact e
 let H : Nat → Prop := fun b => ∃ (i : Nat) (r : Row), hs[i]? = some (some (b, r))
 let w1 : Base := { world := w0.world, hid := fun b => if H b then w.heap[b]? else w0.hid b }
 let ρ : Hp := fun b => if H b then none else σ b
 have hρ : Obs τ ρ vs := by
  refine ⟨fun b r e => ?_, fun i b r e => ?_, fun i j b r r' e1 e2 => ?_⟩
  ·have hn : ¬ H b := fun ⟨i, q, h⟩ => by rw [(hrow i b q h).2] at e; cases e
   simp only [ρ, if_neg hn]
   exact hO.base b r e
  ·obtain ⟨h1, h2⟩ := hO.row _ b r (vrow i b r e)
   have hn : ¬ H b := fun ⟨k, q, h⟩ => by
    have hk := (List.getElem?_eq_some_iff.1 h).1
    have := hO.apart k (hs.length + i) b q r (by rw [List.getElem?_append_left hk]; exact h) (vrow i b r e)
    omega
   exact ⟨by simp only [ρ, if_neg hn]; exact h1, h2⟩
  ·have := hO.apart _ _ b r r' (vrow i b r e1) (vrow j b r' e2)
   omega
 have hI1 : Inv w1 ρ w := by
  refine ⟨hI.below, fun b o ho => ?_, fun b r hb => ?_⟩
  ·by_cases hH : H b
   ·simp only [w1, if_pos hH] at ho
    exact ⟨by simp only [ρ, if_pos hH], ho⟩
   ·simp only [w1, if_neg hH] at ho
    exact ⟨by simp only [ρ, if_neg hH]; exact (hI.hid b o ho).1, (hI.hid b o ho).2⟩
  ·by_cases hH : H b
   ·simp only [ρ, if_pos hH] at hb; cases hb
   ·simp only [ρ, if_neg hH] at hb
    exact hI.row b r hb
 have hhid : ∀ b o, w0.hid b = some o → w1.hid b = some o := fun b o ho => by
  have hn : ¬ H b := fun ⟨i, q, h⟩ => by have := (hI.hid b o ho).1; rw [(hrow i b q h).1] at this; cases this
  simp only [w1, if_neg hn]; exact ho
 refine hM _ _ _ (fun e w' he => ?_) (hC w1 ρ rfl hhid hρ hI1)
 cases e with
 | panicked ch => obtain ⟨_, _, h⟩ := he; exact h.elim
 | outgrown => exact he
 | returned v =>
  obtain ⟨ρ', hI', τ', vs', hO', hle, hK⟩ := he
  have hH' : ∀ b, H b → ρ' b = none ∧ w'.heap[b]? = w.heap[b]? := fun b hH => by
   obtain ⟨i, r, hi⟩ := hH
   obtain ⟨cs, fr, hw, _⟩ := hI.row b r (hrow i b r hi).1
   have := hI'.hid b _ (show w1.hid b = some _ from by simp only [w1, if_pos (show H b from ⟨i, r, hi⟩)]; exact hw)
   exact ⟨this.1, by rw [this.2, hw]⟩
  refine ⟨fun b => if H b then σ b else ρ' b, ⟨hI'.below, fun b o ho => ?_, fun b r hb => ?_⟩, τ', vs', ⟨fun b r e => ?_, fun i b r e => ?_, fun i j b r r' e1 e2 => ?_⟩, hle, hK⟩
  ·have hn : ¬ H b := fun ⟨i, q, h⟩ => by have := (hI.hid b o ho).1; rw [(hrow i b q h).1] at this; cases this
   have := hI'.hid b o (hhid b o ho)
   exact ⟨by simp only [if_neg hn]; exact this.1, this.2⟩
  ·by_cases hH : H b
   ·simp only [if_pos hH] at hb
    obtain ⟨cs, fr, hw, h1⟩ := hI.row b r hb
    exact ⟨cs, fr, by rw [(hH' b hH).2]; exact hw, h1⟩
   ·simp only [if_neg hH] at hb
    exact hI'.row b r hb
  ·have := hO'.base b r e
   have hn : ¬ H b := fun h => by rw [(hH' b h).1] at this; cases this
   simp only [if_neg hn]
   exact this
  ·rw [List.getElem?_append] at e
   split at e
   ·have hH : H b := ⟨i, r, e⟩
    simp only [if_pos hH]
    refine ⟨(hrow i b r e).1, ?_⟩
    cases ht : τ' b with
    | none => rfl
    | some q => have := hO'.base b q ht; rw [(hH' b hH).1] at this; cases this
   ·obtain ⟨h1, h2⟩ := hO'.row _ b r e
    have hn : ¬ H b := fun h => by rw [(hH' b h).1] at h1; cases h1
    simp only [if_neg hn]
    exact ⟨h1, h2⟩
  ·rw [List.getElem?_append] at e1 e2
   split at e1 <;> split at e2
   ·exact hO.apart i j b r r' (by rw [List.getElem?_append_left (by assumption)]; exact e1) (by rw [List.getElem?_append_left (by assumption)]; exact e2)
   ·have := (hO'.row _ b r' e2).1
    rw [(hH' b ⟨i, r, e1⟩).1] at this
    cases this
   ·have := (hO'.row _ b r e1).1
    rw [(hH' b ⟨j, r', e2⟩).1] at this
    cases this
   ·have := hO'.apart _ _ b r r' e1 e2
    omega
end
inductive RA where
 | seq (a : zbF) (b : RA)
 | seqR (a : RA) (b : zbF)
 | block (id : Nat) (a : RA)
 | range (g : Nat) (p : Nat) (as bd : zbF)
def zhF (P : Program) (n : Nat) : Code → Option RA
 | .seq a b => match slim P n a with
  | some x => (zhF P n b).map fun y => .seq x y
  | none => (zhF P n a).bind fun x => (slim P n b).map fun y => .seqR x y
 | .block id c => (zhF P n c).map fun x => .block id x
 | .rangeFunc (.tmp g) ps a b => if ps.size = 1 ∧ ps[0]?.any (fun p => decide (p < n)) = true then (slim P n a).bind fun x => (slim P n b).map fun y => .range g (ps[0]?.getD 0) x y else none
 | _ => none
section
variable {P : Program} {w0 : Base}
theorem znz {f : FuncId} (hf : okF P f = true) (args : Array Value) (w : World) : (callFunc f args).run P w = .ok (.enter f args) w := by
 unfold callFunc
 rw [run_bind]
 show (Sem.run P (match P.funcs[f]? with | none => _ | some fn => _) w) = _
 unfold okF at hf
 cases hp : P.funcs[f]? with
 | none => rw [hp] at hf; cases hf
 | some fn =>
  rw [hp] at hf
  simp only [Bool.and_eq_true, Bool.not_eq_true', beq_eq_false_iff_ne, ne_eq] at hf
  dsimp only
  rw [if_neg (by simpa using hf.2), if_neg (by cases hb : fn.body <;> simp_all)]
  rfl
end
def zC {ε α β : Type} (o : Option (Except ε α)) (fe : ε → Option β) (f : α → Option β) : Option β := match o with
 | none => none
 | some (.error x) => fe x
 | some (.ok a) => f a
theorem zP {ε α β : Type} {o : Option (Except ε α)} {fe : ε → Option β} {f : α → Option β} {r : β} (h : zC o fe f = some r) : (∃ x, o = some (.error x) ∧ fe x = some r) ∨ ∃ a, o = some (.ok a) ∧ f a = some r := by
 unfold zC at h
 split at h
 ·cases h
 ·exact .inl ⟨_, rfl, h⟩
 ·exact .inr ⟨_, rfl, h⟩
def zbu (P : Program) (f : FuncId) (args : Array Value) (τ : Hp) (vs : List Ob) (K : Value → Hp → List Ob → Prop) (Kp : List PanicEntry → Hp → List Ob → Prop) : Prop :=
 ∀ (w0 : Base) (ρ : Hp), Obs τ ρ vs → ACalls P w0 f args ρ (fun v ρ' => ∃ τ' vs', Obs τ' ρ' vs' ∧ Hp.le τ τ' ∧ K v τ' vs') (fun ch ρ' => ∃ τ' vs', Obs τ' ρ' vs' ∧ Hp.le τ τ' ∧ Kp ch τ' vs')
theorem zbu.np {P : Program} {f : FuncId} {args : Array Value} {τ : Hp} {vs : List Ob} {K : Value → Hp → List Ob → Prop} {Kp : List PanicEntry → Hp → List Ob → Prop} (h : zbu P f args τ vs K Kp) (hp : ∀ ch τ' vs', Hp.le τ τ' → Kp ch τ' vs' → False) : Ctr P f args τ vs K := fun w0 ρ hO => (h w0 ρ hO).mono (fun _ _ h => h) fun ch σ' ⟨τ', vs', _, h2, h3⟩ => (hp ch τ' vs' h2 h3).elim
theorem ACalls.frP {P : Program} {w0 : Base} {f : FuncId} {args : Array Value} {τ σ : Hp} {hs vs : List Ob} {K : Value → Hp → List Ob → Prop} {Kp : List PanicEntry → Hp → List Ob → Prop} (hO : Obs τ σ (hs ++ vs)) (hC : zbu P f args τ vs K Kp) :
  ACalls P w0 f args σ (fun v σ' => ∃ τ' vs', Obs τ' σ' (hs ++ vs') ∧ Hp.le τ τ' ∧ K v τ' vs') (fun ch σ' => ∃ τ' vs', Obs τ' σ' (hs ++ vs') ∧ Hp.le τ τ' ∧ Kp ch τ' vs') := by
 intro w hI
 classical
 have hrow : ∀ (i b : Nat) (r : Row), hs[i]? = some (some (b, r)) → σ b = some r ∧ τ b = none := fun i b r e => hO.row i b r (by rw [List.getElem?_append_left (List.getElem?_eq_some_iff.1 e).1]; exact e)
 have vrow : ∀ (i b : Nat) (r : Row), vs[i]? = some (some (b, r)) → (hs ++ vs)[hs.length + i]? = some (some (b, r)) := fun i b r e => by rw [List.getElem?_append_right (by omega), Nat.add_sub_cancel_left]; exact e
 let H : Nat → Prop := fun b => ∃ (i : Nat) (r : Row), hs[i]? = some (some (b, r))
 let w1 : Base := { world := w0.world, hid := fun b => if H b then w.heap[b]? else w0.hid b }
 let ρ : Hp := fun b => if H b then none else σ b
 have hρ : Obs τ ρ vs := by
  refine ⟨fun b r e => ?_, fun i b r e => ?_, fun i j b r r' e1 e2 => ?_⟩
  ·have hn : ¬ H b := fun ⟨i, q, h⟩ => by rw [(hrow i b q h).2] at e; cases e
   simp only [ρ, if_neg hn]
   exact hO.base b r e
  ·obtain ⟨h1, h2⟩ := hO.row _ b r (vrow i b r e)
   have hn : ¬ H b := fun ⟨k, q, h⟩ => by
    have hk := (List.getElem?_eq_some_iff.1 h).1
    have := hO.apart k (hs.length + i) b q r (by rw [List.getElem?_append_left hk]; exact h) (vrow i b r e)
    omega
   exact ⟨by simp only [ρ, if_neg hn]; exact h1, h2⟩
  ·have := hO.apart _ _ b r r' (vrow i b r e1) (vrow j b r' e2)
   omega
 have hI1 : Inv w1 ρ w := by
  refine ⟨hI.below, fun b o ho => ?_, fun b r hb => ?_⟩
  ·by_cases hH : H b
   ·simp only [w1, if_pos hH] at ho
    exact ⟨by simp only [ρ, if_pos hH], ho⟩
   ·simp only [w1, if_neg hH] at ho
    exact ⟨by simp only [ρ, if_neg hH]; exact (hI.hid b o ho).1, (hI.hid b o ho).2⟩
  ·by_cases hH : H b
   ·simp only [ρ, if_pos hH] at hb; cases hb
   ·simp only [ρ, if_neg hH] at hb
    exact hI.row b r hb
 have back : ∀ (ρ' τ' : Hp) (vs' : List Ob) (w' : World), Inv w1 ρ' w' → Obs τ' ρ' vs' → ∃ σ', Inv w0 σ' w' ∧ Obs τ' σ' (hs ++ vs') := by
  intro ρ' τ' vs' w' hI' hO'
  have hH' : ∀ b, H b → ρ' b = none ∧ w'.heap[b]? = w.heap[b]? := fun b hH => by
   obtain ⟨i, r, hi⟩ := hH
   obtain ⟨cs, fr, hw, _⟩ := hI.row b r (hrow i b r hi).1
   have := hI'.hid b _ (show w1.hid b = some _ from by simp only [w1, if_pos (show H b from ⟨i, r, hi⟩)]; exact hw)
   exact ⟨this.1, by rw [this.2, hw]⟩
  refine ⟨fun b => if H b then σ b else ρ' b, ⟨hI'.below, fun b o ho => ?_, fun b r hb => ?_⟩, ⟨fun b r e => ?_, fun i b r e => ?_, fun i j b r r' e1 e2 => ?_⟩⟩
  ·have hn : ¬ H b := fun ⟨i, q, h⟩ => by have := (hI.hid b o ho).1; rw [(hrow i b q h).1] at this; cases this
   have := hI'.hid b o (show w1.hid b = some o from by simp only [w1, if_neg hn]; exact ho)
   exact ⟨by simp only [if_neg hn]; exact this.1, this.2⟩
  ·by_cases hH : H b
   ·simp only [if_pos hH] at hb
    obtain ⟨cs, fr, hw, h1⟩ := hI.row b r hb
    exact ⟨cs, fr, by rw [(hH' b hH).2]; exact hw, h1⟩
   ·simp only [if_neg hH] at hb
    exact hI'.row b r hb
  ·have := hO'.base b r e
   have hn : ¬ H b := fun h => by rw [(hH' b h).1] at this; cases this
   simp only [if_neg hn]
   exact this
  ·rw [List.getElem?_append] at e
   split at e
   ·have hH : H b := ⟨i, r, e⟩
    simp only [if_pos hH]
    refine ⟨(hrow i b r e).1, ?_⟩
    cases ht : τ' b with
    | none => rfl
    | some q => have := hO'.base b q ht; rw [(hH' b hH).1] at this; cases this
   ·obtain ⟨h1, h2⟩ := hO'.row _ b r e
    have hn : ¬ H b := fun h => by rw [(hH' b h).1] at h1; cases h1
    simp only [if_neg hn]
    exact ⟨h1, h2⟩
  ·rw [List.getElem?_append] at e1 e2
   split at e1 <;> split at e2
   ·rename_i hi hj
    exact hO.apart i j b r r' (by rw [List.getElem?_append_left hi]; exact e1) (by rw [List.getElem?_append_left hj]; exact e2)
   ·have h1 := (hO'.row _ b r' e2).1; rw [(hH' b ⟨i, r, e1⟩).1] at h1; cases h1
   ·have h1 := (hO'.row _ b r e1).1; rw [(hH' b ⟨j, r', e2⟩).1] at h1; cases h1
   ·have := hO'.apart _ _ b r r' e1 e2
    omega
 refine (hC w1 ρ hρ w hI1).mono fun e w' he => ?_
 cases e with
 | panicked ch =>
  obtain ⟨ρ', hI', τ', vs', hO', hle, hK⟩ := he
  obtain ⟨σ', h1, h2⟩ := back ρ' τ' vs' w' hI' hO'
  exact ⟨σ', h1, τ', vs', h2, hle, hK⟩
 | outgrown => exact he
 | returned v =>
  obtain ⟨ρ', hI', τ', vs', hO', hle, hK⟩ := he
  obtain ⟨σ', h1, h2⟩ := back ρ' τ' vs' w' hI' hO'
  exact ⟨σ', h1, τ', vs', h2, hle, hK⟩
section
variable {P : Program} {w0 : Base} {e : Env} {τ σ : Hp} {Q : Exit → Env → Hp → Prop} {b : zU} {r : List XI} {d : Option Nat} {os : List Ob}
theorem zg2 {f : FuncId} {args : List Opd} {as : Array Value} {hs vs : List Ob} {K : Value → Hp → List Ob → Prop} {Kp : List PanicEntry → Hp → List Ob → Prop} (hO : Obs τ σ (hs ++ vs)) (hC : zbu P f as τ vs K Kp) (ha : (args.map (ev e)).toArray = as)
  (kp : ∀ ch σ' τ' vs', Obs τ' σ' (hs ++ vs') → Hp.le τ τ' → Kp ch τ' vs' → w0.pan ch σ')
  (k : ∀ v σ' τ' vs', Obs τ' σ' (hs ++ vs') → Hp.le τ τ' → K v τ' vs' → wpn P w0 (.seq (.reg r) b) Q (zp e d v) σ') : wpn P w0 (.seq (.reg (.s ⟨d, .call f args, []⟩ :: r)) b) Q e σ :=
 zcj fun KK hK => by
  subst ha
  exact (ACalls.frP hO hC).mono (fun v σ' ⟨τ', vs', h1, h2, h3⟩ => hK v σ' (k v σ' τ' vs' h1 h2 h3)) (fun ch σ' ⟨τ', vs', h1, h2, h3⟩ => kp ch σ' τ' vs' h1 h2 h3)
theorem ziI {f : FuncId} {args : List Opd} {as : Array Value} {K : Value → Hp → List Ob → Prop} {Kp : List PanicEntry → Hp → List Ob → Prop} (hO : Obs τ σ os) (hC : zbu P f as τ [] K Kp) (ha : (args.map (ev e)).toArray = as)
  (kp : ∀ ch σ' τ' vs', Obs τ' σ' (os ++ vs') → Hp.le τ τ' → Kp ch τ' vs' → w0.pan ch σ')
  (k : ∀ v σ' τ' vs', Obs τ' σ' (os ++ vs') → Hp.le τ τ' → K v τ' vs' → wpn P w0 (.seq (.reg r) b) Q (zp e d v) σ') : wpn P w0 (.seq (.reg (.s ⟨d, .call f args, []⟩ :: r)) b) Q e σ :=
 zg2 (hs := os) (vs := []) (by rw [List.append_nil]; exact hO) hC ha kp k
theorem zbo {f : FuncId} {args : List Opd} {as : Array Value} {hs vs : List Ob} {K : Value → Hp → List Ob → Prop} {Kp : List PanicEntry → Hp → List Ob → Prop} (hO : Obs τ σ (hs ++ vs)) (hC : zbu P f as τ vs K Kp) (hn : ∀ v τ' vs', K v τ' vs' → False) (ha : (args.map (ev e)).toArray = as)
  (kp : ∀ ch σ' τ' vs', Obs τ' σ' (hs ++ vs') → Hp.le τ τ' → Kp ch τ' vs' → w0.pan ch σ') : wpn P w0 (.seq (.reg (.s ⟨d, .call f args, []⟩ :: r)) b) Q e σ :=
 zg2 hO hC ha kp fun v σ' τ' vs' _ _ h => (hn v τ' vs' h).elim
theorem zbM {f : FuncId} {args : List Opd} {as : Array Value} {K : Value → Hp → List Ob → Prop} {Kp : List PanicEntry → Hp → List Ob → Prop} (hO : Obs τ σ os) (hC : zbu P f as τ [] K Kp) (hn : ∀ v τ' vs', K v τ' vs' → False) (ha : (args.map (ev e)).toArray = as)
  (kp : ∀ ch σ' τ' vs', Obs τ' σ' (os ++ vs') → Hp.le τ τ' → Kp ch τ' vs' → w0.pan ch σ') : wpn P w0 (.seq (.reg (.s ⟨d, .call f args, []⟩ :: r)) b) Q e σ :=
 ziI hO hC ha kp fun v σ' τ' vs' _ _ h => (hn v τ' vs' h).elim
theorem zbn {f : FuncId} {args : List Opd} {as : Array Value} {hs vs : List Ob} {K : Value → Hp → List Ob → Prop} {Kp : List PanicEntry → Hp → List Ob → Prop} (hO : Obs τ σ (hs ++ vs)) (hC : zbu P f as τ vs K Kp) (hn : ∀ ch τ' vs', Kp ch τ' vs' → False) (ha : (args.map (ev e)).toArray = as)
  (k : ∀ v σ' τ' vs', Obs τ' σ' (hs ++ vs') → Hp.le τ τ' → K v τ' vs' → wpn P w0 (.seq (.reg r) b) Q (zp e d v) σ') : wpn P w0 (.seq (.reg (.s ⟨d, .call f args, []⟩ :: r)) b) Q e σ :=
 zg2 hO hC ha (fun ch σ' τ' vs' _ _ h => (hn ch τ' vs' h).elim) k
theorem zbO {f : FuncId} {args : List Opd} {as : Array Value} {K : Value → Hp → List Ob → Prop} {Kp : List PanicEntry → Hp → List Ob → Prop} (hO : Obs τ σ os) (hC : zbu P f as τ [] K Kp) (hn : ∀ ch τ' vs', Kp ch τ' vs' → False) (ha : (args.map (ev e)).toArray = as)
  (k : ∀ v σ' τ' vs', Obs τ' σ' (os ++ vs') → Hp.le τ τ' → K v τ' vs' → wpn P w0 (.seq (.reg r) b) Q (zp e d v) σ') : wpn P w0 (.seq (.reg (.s ⟨d, .call f args, []⟩ :: r)) b) Q e σ :=
 ziI hO hC ha (fun ch σ' τ' vs' _ _ h => (hn ch τ' vs' h).elim) k
theorem zlD {x : Opd} {t : TypeId} {v : Value} (hx : ev e x = .iface t v) (h : w0.pan [{ v := .iface t v, recovered := false }] σ) : wpn P w0 (.seq (.reg (.s ⟨d, .pan x, []⟩ :: r)) b) Q e σ :=
 zcj fun KK hK => ⟨t, v, hx, h⟩
end
theorem zcz {P : Program} {f : FuncId} {fn : Func} {af : zT} {args : List Value} {τ : Hp} {vs : List Ob} {K : Value → Hp → List Ob → Prop} {Kp : List PanicEntry → Hp → List Ob → Prop} (hm : P.follows .mixedOrders = true) (hf : P.funcs[f]? = some fn) (hs : zS P fn = some af.fn) (ha : (af.body.ok && decide (args.length ≤ af.ntmps)) = true)
  (h : ∀ (w0 : Base) (σ : Hp), (∀ ch σ' τ' vs', Obs τ' σ' vs' → Hp.le τ τ' → Kp ch τ' vs' → w0.pan ch σ') → Obs τ σ vs → ∀ Q : Exit → Env → Hp → Prop, (∀ e σ' rs τ' vs', resvs e σ' af.results = some rs → Obs τ' σ' vs' → Hp.le τ τ' → K (zch rs) τ' vs' → Q .ret e σ' ∧ Q .normal e σ') → wpn P w0 af.body Q (zbV args) σ) : zbu P f args.toArray τ vs K Kp := fun w0 σ hO => by
 simp only [Bool.and_eq_true, decide_eq_true_eq] at ha
 let w1 : Base := { world := w0.world, hid := w0.hid, pan := fun ch ρ' => ∃ τ' vs', Obs τ' ρ' vs' ∧ Hp.le τ τ' ∧ Kp ch τ' vs' }
 refine ACalls.repan (w1 := w1) ?_ rfl rfl
 refine ziG hm hf hs ha.2 (zc7 _ _ _ _ _ (zcK af.body (fun x e σ' => ((x = .ret ∨ x = .normal) ∧ ∃ vs, resvs e σ' af.results = some vs ∧ ∃ τ' vs', Obs τ' σ' vs' ∧ Hp.le τ τ' ∧ K (zch vs) τ' vs') ∨ ∃ ch, x = .panic ch ∧ w1.pan ch σ') _ _ (fun ch σ' e' h => .inr ⟨ch, rfl, h⟩) ha.1 (h w1 σ (fun ch σ' τ' vs' h1 h2 h3 => ⟨τ', vs', h1, h2, h3⟩) hO _ (fun e σ' rs τ' vs' h1 h2 h3 h4 => ⟨.inl ⟨.inl rfl, rs, h1, τ', vs', h2, h3, h4⟩, .inl ⟨.inr rfl, rs, h1, τ', vs', h2, h3, h4⟩⟩))) fun x e σ' hq => ?_)
 rcases hq with ⟨hx, vs, h1, h2⟩ | ⟨ch, rfl, h1⟩
 ·rcases hx with rfl | rfl
  ·exact ⟨vs, h1, h2⟩
  ·exact ⟨vs, h1, h2⟩
 ·exact h1
def zb3 (P : Program) (w0 : Base) (g : FuncId) (args : Array Value) (u : FrameMode) (σ : Hp) (K : FrameMode → Hp → Prop) : Prop :=
 ∀ w, Inv w0 σ w → CallsDIn (Rf none) 0 P g args u w fun e u' w' => match e with
  | .returned _ => ∃ σ', Inv w0 σ' w' ∧ K u' σ'
  | _ => False
inductive DA where
 | pre (a : zbF) (k : DA)
 | dfr (d : Nat) (g : FuncId) (cs : List Opd) (body : zbF)
def zcF (J : List Nat) : Code → Bool
 | .region _ ops _ => ops.toList.all fun o => match o.dst with | some d => !J.contains d | none => true
 | .seq a b => zcF J a && zcF J b
 | .cond _ a b => zcF J a && zcF J b
 | .block _ c => zcF J c
 | .loop c => zcF J c
 | .scope c => zcF J c
 | _ => true
theorem zdM {J : List Nat} {fx : Nat → Option Value} (hfx : ∀ d, ¬ d ∈ J → fx d = none) : ∀ c : Code, zcF J c = true → Code.free fx c
 | .region _ ops _, h => fun i o ho d hd => by
  simp only [zcF, List.all_eq_true] at h
  have := h o (by
   rw [← Array.getElem?_toList] at ho
   exact List.mem_of_getElem? ho)
  rw [hd] at this
  exact hfx d (by simpa using this)
 | .seq a b, h => by simp only [zcF, Bool.and_eq_true] at h; exact ⟨zdM hfx a h.1, zdM hfx b h.2⟩
 | .cond _ a b, h => by simp only [zcF, Bool.and_eq_true] at h; exact ⟨zdM hfx a h.1, zdM hfx b h.2⟩
 | .block _ c, h => zdM hfx c h
 | .loop c, h => zdM hfx c h
 | .scope c, h => zdM hfx c h
 | .skip, _ => trivial
 | .exit _, _ => trivial
 | .ret, _ => trivial
 | .rangeFunc .., _ => trivial
 | .label _, _ => trivial
 | .goto _, _ => trivial
 | .refuse _, _ => trivial
def zlz (P : Program) (N : Nat) (ops : Array Oper) : Option (Nat × FuncId × List Operand) := match ops.toList with
 | [⟨some d, .makeFunc (.func g) first caps, _, _, _, none⟩, ⟨none, .defer ⟨.value (.tmp d'), args, _⟩, _, _, _, none⟩] => if first.size = 0 ∧ args.size = 0 ∧ d' = d ∧ okF P g = true ∧ d < N then some (d, g, caps.toList) else none
 | _ => none
def zjN (P : Program) (N : Nat) (J : List Nat) : Code → Option DA
 | .seq (.region id ops false) c => match zlz P N ops with
  | some (d, g, cs) => (req (zcF J c)).bind fun _ => (slim P N c).map fun b => .dfr d g (cs.map zv) b
  | none => (slim P N (.region id ops false)).bind fun x => (zjN P N J c).map fun k => .pre x k
 | .seq a b => (slim P N a).bind fun x => (zjN P N J b).map fun k => .pre x k
 | _ => none
section
variable (P : Program) (w0 : Base) (J : List Nat)
def znp : DA → (Exit → Env → Hp → Prop) → Env → Hp → Prop
 | .pre a k, Q, e, σ => awp P w0 a (thn (fun e' σ' => znp k Q e' σ') Q) e σ
 | .dfr d g cs b, Q, e, σ => awp P w0 b (fun x e' σ' => (∀ j ∈ J, e' j = zp e (some d) (.func (.func g) #[] (cs.map (ev e)).toArray) j) → match x with
  | .normal => zb3 P w0 g (cs.map (ev e)).toArray .returning σ' fun u' σ'' => settle u' = .returning ∧ Q .ret e' σ''
  | .ret => zb3 P w0 g (cs.map (ev e)).toArray .returning σ' fun u' σ'' => settle u' = .returning ∧ Q .ret e' σ''
  | .panic ch => zb3 P w0 g (cs.map (ev e)).toArray (.panicking ch) σ' fun u' σ'' => settle u' = .returning ∧ Q .ret e' σ''
  | _ => False) (zp e (some d) (.func (.func g) #[] (cs.map (ev e)).toArray)) σ
end
section
variable {P : Program} {w0 : Base} {J : List Nat} {N : Nat}
theorem zku {fn : Func} {a : Act} {rs : List zcv} {K : Value → Hp → Prop} {Kp : List PanicEntry → Hp → Prop} {σ : Hp} {w : World} (hrs : fn.results.toList.mapM (zea P) = some rs) (hI : Inv w0 σ w) (h : ∃ vs, resvs (zK a) σ rs = some vs ∧ K (zch vs) σ) :
  LeavesIn (Rf none) 0 P fn a.tmps (fun e w' => match e with
   | .returned v => ∃ σ', Inv w0 σ' w' ∧ K v σ'
   | .panicked ch => ∃ σ', Inv w0 σ' w' ∧ Kp ch σ'
   | .outgrown => False) [] .returning w := by
 obtain ⟨vs, h1, h2⟩ := h
 exact ⟨zch vs, zd5 hI hrs h1, σ, hI, h2⟩
end
section
variable {P : Program} (W : World) (H : Nat → Option Obj) (p q : List PanicEntry → Hp → Prop)
theorem zh1 : Inv ⟨W, H, p⟩ = Inv ⟨W, H, q⟩ := by
 funext σ w
 exact propext ⟨fun h => h.repan rfl rfl, fun h => h.repan rfl rfl⟩
theorem zlp : ACalls P ⟨W, H, p⟩ = ACalls P ⟨W, H, q⟩ := by
 funext f args σ K Kp
 unfold ACalls
 rw [zh1 W H p q]
theorem zmt : zdz P ⟨W, H, p⟩ = zdz P ⟨W, H, q⟩ := by
 funext l f tmps as bd σ K Kp
 unfold zdz
 rw [zh1 W H p q]
theorem zle : zde P ⟨W, H, p⟩ = zde P ⟨W, H, q⟩ := by
 funext l args σ K Kp
 unfold zde
 rw [zh1 W H p q, zmt W H p q]
theorem zkv : aop P ⟨W, H, p⟩ = aop P ⟨W, H, q⟩ := by
 funext o e σ K Kp
 cases o <;> simp only [aop, zlp W H p q, zle W H p q, Base.heap]
theorem zhY : step P ⟨W, H, p⟩ = step P ⟨W, H, q⟩ := by
 funext s e σ K Kp
 unfold step
 rw [zkv W H p q]
theorem zgn : ∀ (l : List ASt) (e : Env) (σ : Hp) (K : Env → Hp → Prop) (Kp : List PanicEntry → Hp → Prop), aops P ⟨W, H, p⟩ l e σ K Kp = aops P ⟨W, H, q⟩ l e σ K Kp
 | [], _, _, _, _ => rfl
 | s :: r, e, σ, K, Kp => by
  simp only [aops, zhY W H p q, zgn r]
theorem zmK : again P ⟨W, H, p⟩ = again P ⟨W, H, q⟩ := by
 funext s e σ
 unfold again
 rw [zkv W H p q]
theorem zj1 : ∀ (l : List ASt) (e : Env) (σ : Hp), agains P ⟨W, H, p⟩ l e σ = agains P ⟨W, H, q⟩ l e σ
 | [], _, _ => rfl
 | s :: r, e, σ => by simp only [agains, zmK W H p q, zj1 r]
theorem zfp : ∀ (t : zbB) (e : Env) (σ : Hp) (K : Env → Hp → Prop) (Kp : List PanicEntry → Hp → Prop), atree P ⟨W, H, p⟩ t e σ K Kp = atree P ⟨W, H, q⟩ t e σ K Kp
 | .done, _, _, _, _ => rfl
 | .top, _, _, _, _ => rfl
 | .quiet s k, e, σ, K, Kp => by simp only [atree, zhY W H p q, zfp k]
 | .eff s st k, e, σ, K, Kp => by simp only [atree, zhY W H p q, zj1 W H p q, zfp k]
 | .both a b, e, σ, K, Kp => by simp only [atree, zfp a, zfp b]
theorem zdG : ∀ (c : zbF) (Q : Exit → Env → Hp → Prop) (e : Env) (σ : Hp), awp P ⟨W, H, p⟩ c Q e σ = awp P ⟨W, H, q⟩ c Q e σ
 | .skip, _, _, _ => rfl
 | .reg ops, Q, e, σ => zgn W H p q _ _ _ _ _
 | .par t, Q, e, σ => zfp W H p q _ _ _ _ _
 | .seq a b, Q, e, σ => by simp only [awp, zdG a, zdG b]
 | .cond c a b, Q, e, σ => by simp only [awp, zdG a, zdG b]
 | .block id c, Q, e, σ => by simp only [awp, zdG c]
 | .loop c, Q, e, σ => by simp only [awp, zdG c]
 | .exit id, _, _, _ => rfl
 | .ret, _, _, _ => rfl
end
def recov : FrameMode → Value × FrameMode
 | .panicking ({ v, recovered := false, goexit := false } :: older) => (v, .panicking ({ v, recovered := true } :: older))
 | u => (.nilIface, u)
def zhc (N : Nat) (ops : Array Oper) : Option (Nat × Nat) := match ops.toList with
 | [⟨some d, .call ⟨.builtin .recover, _, _⟩, _, _, _, none⟩, ⟨some x, .assign (.tmp d'), _, _, _, none⟩] => if d' = d ∧ d < N ∧ x < N then some (d, x) else none
 | [⟨some d, .call ⟨.builtin .recover, _, _⟩, _, _, _, none⟩] => if d < N then some (d, d) else none
 | _ => none
structure zgw where
 ntmps : Nat
 d : Nat
 x : Nat
 body : zU
structure SAF where
 ntmps : Nat
 d : Nat
 x : Nat
 body : zbF
def zgw.fn (f : zgw) : SAF := ⟨f.ntmps, f.d, f.x, f.body.code⟩
def zhJ (P : Program) (fn : Func) : Option SAF := match fn.body with
 | some (.seq (.region _ ops false) c) => (req fn.results.isEmpty).bind fun _ => (zhc fn.ntmps ops).bind fun p => (slim P fn.ntmps c).map fun b => ⟨fn.ntmps, p.1, p.2, b⟩
 | _ => none
theorem znQ {N : Nat} {ops : Array Oper} {d x : Nat} (h : zhc N ops = some (d, x)) : (∃ as ts t1 p1 a1 t2 p2 a2, ops.toList = [⟨some d, .call ⟨.builtin .recover, as, ts⟩, t1, p1, a1, none⟩, ⟨some x, .assign (.tmp d), t2, p2, a2, none⟩] ∧ d < N ∧ x < N) ∨ ∃ as ts t1 p1 a1, ops.toList = [⟨some d, .call ⟨.builtin .recover, as, ts⟩, t1, p1, a1, none⟩] ∧ d < N ∧ x = d := by
 unfold zhc at h
 split at h
 ·rename_i d1 as ts t1 p1 a1 x1 d' t2 p2 a2 hops
  split at h
  ·rename_i hc
   obtain ⟨rfl, c2, c3⟩ := hc
   injection h with h
   injection h with h1 h2
   subst h1; subst h2
   exact .inl ⟨as, ts, t1, p1, a1, t2, p2, a2, hops, c2, c3⟩
  ·cases h
 ·rename_i d1 as ts t1 p1 a1 hops
  split at h
  ·rename_i hc
   injection h with h
   injection h with h1 h2
   subst h1
   exact .inr ⟨as, ts, t1, p1, a1, hops, hc, h2.symm⟩
  ·cases h
 ·cases h
theorem zka (c₀ : Frame) (cs : List Frame) : (recoverD (c₀ :: cs) = none ∧ recov c₀.mode = (.nilIface, c₀.mode)) ∨ ∃ v u, recoverD (c₀ :: cs) = some (v, { c₀ with mode := u } :: cs) ∧ recov c₀.mode = (v, u) := by
 simp only [recoverD]
 split
 ·rename_i v older hm
  right
  exact ⟨v, _, rfl, by rw [hm]; rfl⟩
 ·rename_i hm
  left
  refine ⟨rfl, ?_⟩
  unfold recov
  split
  ·rename_i v older hm'
   exact absurd hm' (hm v older)
  ·rfl
theorem ziW {P : Program} {w0 : Base} {g : FuncId} {fn : Func} {af : zgw} {args : List Value} {u : FrameMode} {σ : Hp} {K : FrameMode → Hp → Prop} (hm : P.follows .mixedOrders = true) (hf : P.funcs[g]? = some fn) (hs : zhJ P fn = some af.fn) (ha : (af.body.ok && decide (args.length ≤ af.ntmps)) = true)
  (h : wpn P w0.np af.body (fun x e' σ' => (x = .ret ∨ x = .normal) ∧ K (recov u).2 σ') (zp (zp (zbV args) (some af.d) (recov u).1) (some af.x) (recov u).1) σ) : zb3 P w0 g args.toArray u σ K := by
 simp only [Bool.and_eq_true, decide_eq_true_eq] at ha
 intro w hI
 unfold zhJ at hs
 split at hs
 ·rename_i id ops c hb
  obtain ⟨hres, hs⟩ := zeT hs
  obtain ⟨⟨d, x⟩, hrec, hs⟩ := Option.bind_eq_some_iff.1 hs
  obtain ⟨ac, hac, hs⟩ := Option.map_eq_some_iff.1 hs
  injection hs with e1 e2 e3 e4
  simp only at e2 e3
  have hrec := znQ hrec
  have hdN : d < fn.ntmps := by rcases hrec with ⟨_, _, _, _, _, _, _, _, _, h, _⟩ | ⟨_, _, _, _, _, _, h, _⟩ <;> exact h
  have hlen : args.length ≤ fn.ntmps := by rw [e1]; exact ha.2
  have he : zK { tmps := args.toArray ++ Array.replicate (fn.ntmps - args.toArray.size) undef, defers := [] } = zbV args := by
   funext k
   simp only [zK, zbV, Array.getD_eq_getD_getElem?, List.getD_eq_getElem?_getD, Array.getElem?_append, List.size_toArray, Array.getElem?_replicate]
   by_cases hk : k < args.length
   ·simp [hk]
   ·simp only [hk, if_false, List.getElem?_eq_none (show args.length ≤ k from by omega)]
    split <;> rfl
  obtain ⟨a0, ha0⟩ : ∃ a0 : Act, a0 = { tmps := args.toArray ++ Array.replicate (fn.ntmps - args.toArray.size) undef, defers := [] } := ⟨_, rfl⟩
  have hN0 : a0.tmps.size = fn.ntmps := by rw [ha0]; simp; omega
  have hd0 : a0.defers = [] := by rw [ha0]
  rw [← ha0] at he
  refine callsDIn_of_wpSIn hf hb trivial fun c₀ cs hu => ?_
  rw [← ha0]
  have fin : ∀ (v : Value) (u' : FrameMode), recov u = (v, u') → ∀ b2 : Act, b2.tmps.size = fn.ntmps → b2.defers = [] → zK b2 = zp (zp (zbV args) (some d) v) (some x) v → c.wpSIn (Rf none) 0 P (bodyPostS P fn c₀ cs fun e u' w' => match e with
    | .returned _ => ∃ σ', Inv w0 σ' w' ∧ K u' σ'
    | _ => False) b2 ({ c₀ with mode := u' } :: cs) w := by
   intro v u' hru b2 hN2 hd2 hE2
   refine wpSIn_of_wpIn rfl ?_
   have hw : awp P w0.np ac (fun y e' σ' => (y = .ret ∨ y = .normal) ∧ K u' σ') (zK b2) σ := by
    rw [hru, ← e2, ← e3] at h
    rw [hE2, e4]
    exact zcK (w0 := w0.np) af.body _ _ σ (fun _ _ _ (hh : False) => hh.elim) ha.1 h
   refine wpIn_mono (zfV (w0 := w0.np) (ro := none) hm c ac _ _ w σ hac hN2 hd2 (hI.repan rfl rfl) hw) fun ex a' w' hq => ?_
   obtain ⟨hN', hd', hq⟩ := hq
   have hre : fn.results = #[] := Array.isEmpty_iff.1 hres
   cases ex with
   | normal => obtain ⟨σ', hI', _, hk⟩ := hq; exact ⟨hd'.1, u', rfl, _, zd5 (ars := []) (vs := []) hI' (by rw [hre]; rfl) rfl, σ', hI'.repan rfl rfl, hk⟩
   | ret => obtain ⟨σ', hI', _, hk⟩ := hq; exact ⟨hd'.1, u', rfl, _, zd5 (ars := []) (vs := []) hI' (by rw [hre]; rfl) rfl, σ', hI'.repan rfl rfl, hk⟩
   | panic ch => obtain ⟨_, _, hx, _⟩ := hq; rcases hx with hx | hx <;> cases hx
   | exit id => obtain ⟨_, _, hx, _⟩ := hq; rcases hx with hx | hx <;> cases hx
   | goto l => exact hq.elim
   | outgrown => exact hq.elim
  have hN1 : ∀ v, (a0.put (some d) v).tmps.size = fn.ntmps := fun v => by rw [zii]; exact hN0
  have hD1 : ∀ v, (a0.put (some d) v).defers = [] := fun v => by rw [ziB]; exact hd0
  have hE1 : ∀ v, zK (a0.put (some d) v) = zp (zbV args) (some d) v := fun v => by rw [zgq hN0 (by simpa using hdN), he]
  refine wpSIn_seq (wpSIn_region ?_)
  rcases hrec with ⟨as, ts, t1, p1, a1, t2, p2, a2, hops, _, hxN⟩ | ⟨as, ts, t1, p1, a1, hops, _, hxd⟩
  ·have go : ∀ (v : Value) (u' : FrameMode), recov u = (v, u') → wpOpsSIn (Rf none) 0 P ops (Exit.thenS (c.wpSIn (Rf none) 0 P (bodyPostS P fn c₀ cs fun e u' w' => match e with
     | .returned _ => ∃ σ', Inv w0 σ' w' ∧ K u' σ'
     | _ => False)) (bodyPostS P fn c₀ cs fun e u' w' => match e with
     | .returned _ => ∃ σ', Inv w0 σ' w' ∧ K u' σ'
     | _ => False)) [1] (a0.put (some d) v) ({ c₀ with mode := u' } :: cs) w := by
    intro v u' hru
    have h1 : ops[1]? = some ⟨some x, .assign (.tmp d), t2, p2, a2, none⟩ := by rw [← Array.getElem?_toList, hops]; rfl
    simp only [wpOpsSIn, h1]
    refine ⟨fun _ _ => trivial, ?_⟩
    rw [if_pos (zfz rfl)]
    have hev : (a0.put (some d) v).eval (.tmp d) = v := by
     rw [← zR (a0.put (some d) v) (.tmp d)]
     show zK (a0.put (some d) v) d = v
     rw [hE1, zmz]
    have hrun : (execOp (a0.put (some d) v).eval (⟨some x, .assign (.tmp d), t2, p2, a2, none⟩ : Oper)).run P w = .ok (.value v) w := by
     simp only [execOp, hev]
     rfl
    rw [hrun]
    exact fin v u' hru _ (by rw [zii]; exact hN1 v) (by rw [ziB]; exact hD1 v) (by rw [zgq (N := fn.ntmps) (hN1 v) (by simpa using hxN), hE1])
   have hsz : ops.size = 2 := by rw [← Array.length_toList, hops]; rfl
   rw [hsz]
   show wpOpsSIn (Rf none) 0 P ops _ [0, 1] a0 (c₀ :: cs) w
   have h0 : ops[0]? = some ⟨some d, .call ⟨.builtin .recover, as, ts⟩, t1, p1, a1, none⟩ := by rw [← Array.getElem?_toList, hops]; rfl
   rw [wpOpsSIn]
   simp only [h0]
   refine ⟨fun _ _ => trivial, ?_⟩
   rw [if_pos (zfz rfl)]
   have hrun : (execOp a0.eval (⟨some d, .call ⟨.builtin .recover, as, ts⟩, t1, p1, a1, none⟩ : Oper)).run P w = .ok .recover w := by
    simp [execOp, resolve, invoke, go_sem]
   rw [hrun]
   dsimp only
   rcases zka c₀ cs with ⟨h1, h2⟩ | ⟨v, u', h1, h2⟩
   ·rw [h1]
    rw [hu] at h2
    have := go .nilIface c₀.mode (by rw [hu]; exact h2)
    exact this
   ·rw [h1]
    rw [hu] at h2
    exact go v u' h2
  ·have hx : ∀ v : Value, zp (zbV args) (some d) v = zp (zp (zbV args) (some d) v) (some x) v := fun v => by
    subst hxd
    funext n
    simp only [zp]
    split <;> rfl
   have hsz : ops.size = 1 := by rw [← Array.length_toList, hops]; rfl
   rw [hsz]
   show wpOpsSIn (Rf none) 0 P ops _ [0] a0 (c₀ :: cs) w
   have h0 : ops[0]? = some ⟨some d, .call ⟨.builtin .recover, as, ts⟩, t1, p1, a1, none⟩ := by rw [← Array.getElem?_toList, hops]; rfl
   rw [wpOpsSIn]
   simp only [h0]
   refine ⟨fun _ _ => trivial, ?_⟩
   rw [if_pos (zfz rfl)]
   have hrun : (execOp a0.eval (⟨some d, .call ⟨.builtin .recover, as, ts⟩, t1, p1, a1, none⟩ : Oper)).run P w = .ok .recover w := by
    simp [execOp, resolve, invoke, go_sem]
   rw [hrun]
   dsimp only
   rcases zka c₀ cs with ⟨h1, h2⟩ | ⟨v, u', h1, h2⟩
   ·rw [h1]
    rw [hu] at h2
    exact fin .nilIface c₀.mode (by rw [hu]; exact h2) _ (hN1 _) (hD1 _) (by rw [hE1, ← hx])
   ·rw [h1]
    rw [hu] at h2
    exact fin v u' h2 _ (hN1 _) (hD1 _) (by rw [hE1, ← hx])
 ·cases hs
section
variable {τ σ : Hp} {os : List Ob} {α : Type} {T : Ty α} {l : List α} {o : Ob} {i ty ln c n : Nat} {A : Option Addr} {q : Int} {y : α}
theorem za.at_ (hO : Obs τ σ os) (hW : za T ty τ (.slice A ln c) l o) (hi : os[i]? = some o) (hg : zL l q = some y) (hn : T.sz = n) : ∃ a cs, A.map (fun x => x.add (q.toNat * n)) = some a ∧ T.R τ y cs ∧ At σ a cs ∧ zd8 T.sz o a q := by
 subst hn
 obtain ⟨h0, hg'⟩ := zgJ hg
 have hlt := (List.getElem?_eq_some_iff.1 hg').1
 rcases hW with ⟨hv, rfl, rfl⟩ | ⟨bb, cap, cells, rest, hv, h2, h3, rfl, h5⟩
 ·simp at hlt
 ·injection hv with hv1 hv2 hv3
  subst hv1
  obtain ⟨cs, hR, he⟩ := h5.get hg'
  refine ⟨_, cs, rfl, hR, fun j u hu => ?_, ⟨bb, _, rfl, by show Addr.add _ _ = _; rw [zb7, Nat.zero_add]⟩⟩
  obtain ⟨h6, _⟩ := hO.row i bb _ hi
  rw [zfG, zb7, Nat.zero_add]
  simp only [look, h6, Option.isSome_none, Bool.false_eq_true, if_false, Option.bind_some]
  rw [he, List.getElem?_take] at hu
  split at hu
  ·rw [List.getElem?_drop] at hu
   rw [List.getElem?_append_left (List.getElem?_eq_some_iff.1 hu).1]
   exact hu
  ·cases hu
theorem za.ptr {a : Addr} (hW : za T ty τ (.slice A ln c) l o) (h : zd8 T.sz o a q) (hn : T.sz = n) : some a = A.map (fun x => x.add (q.toNat * n)) := by
 subst hn
 obtain ⟨b, r, ho, rfl⟩ := h
 rcases hW with ⟨hv, rfl, rfl⟩ | ⟨bb, cap, cells, rest, hv, h2, h3, rfl, h5⟩
 ·cases ho
 ·injection hv with hv1 hv2 hv3
  subst hv1
  injection ho with ho
  injection ho with ho1 ho2
  subst ho1
  simp [Addr.add]
end
theorem zmO (k : IntKind) : (Ty.int k).Flat := Ty.sc_flat _ _
section
variable {α β : Type} {T : Ty α} {T2 : Ty β} {ty : Nat} {l : List α} {l2 : List β} {v : Value} {P : Program} {f : FuncId} {τ : Hp}
theorem za.flat {T : Ty α} (hT : T.Flat) {σ σ' : Hp} {o : Ob} (h : za T ty σ v l o) : za T ty σ' v l o := by
 rcases h with h | ⟨b, cap, cells, rest, h1, h2, h3, h4, h5⟩
 ·exact .inl h
 ·exact .inr ⟨b, cap, cells, rest, h1, h2, h3, h4, h5.flat hT⟩
theorem Ctr.lend {b : Nat} {r : Row} {rr : List α} (hT : T.Flat) (hR : RdT T2 (τ.set b r) v l2)
  (hC : ∀ τ1, RdT T2 τ1 v l2 → Ctr P f #[v] τ1 [] (fun v τ' vs' => ∃ (v0 : Value) (o0 : Ob), v = v0 ∧ vs' = [o0] ∧ za T ty τ' v0 rr o0)) :
  Ctr P f #[v] τ [some (b, r)] (fun v τ' vs' => ∃ (v0 : Value) (o0 : Ob), v = v0 ∧ vs' = [o0, some (b, r)] ∧ za T ty τ' v0 rr o0) := by
 intro w0 ρ hO
 obtain ⟨h1, hO1⟩ := hO.share (i := 0) rfl
 have hb : τ b = none := (hO.row 0 b r rfl).2
 have hO2 : Obs (τ.set b r) ρ [] := hO1.sel [] (by decide)
 refine (hC _ hR w0 ρ hO2).mono ?_ fun _ _ h => h
 rintro v' σ' ⟨τ', vs', hO', hle, v0, o0, rfl, rfl, hw⟩
 have hbr : τ' b = some r := hle b r (Hp.set_eq ..)
 refine ⟨fun c => if c = b then none else τ' c, _, ?_, ?_, v', o0, rfl, rfl, hw.flat hT⟩
 ·have row1 : ∀ {i c q}, [o0, some (b, r)][i]? = some (some (c, q)) → (i = 0 ∧ o0 = some (c, q)) ∨ (i = 1 ∧ b = c ∧ r = q) := fun {i c q} e => by
   match i with
   | 0 =>
    injection e with e
    exact .inl ⟨rfl, e⟩
   | 1 =>
    injection e with e
    injection e with e
    injection e with e1 e2
    exact .inr ⟨rfl, e1, e2⟩
   | i + 2 => cases e
  have key : ∀ {c q q'}, o0 = some (c, q) → b = c → r = q' → False := fun {c q q'} e1 e2 e3 => by
   subst e2
   have := (hO'.row 0 _ q (by rw [e1]; rfl)).2
   rw [hbr] at this
   cases this
  refine ⟨fun c q e => ?_, fun i c q e => ?_, fun i j c q q' e1 e2 => ?_⟩
  ·split at e
   ·cases e
   ·exact hO'.base c q e
  ·rcases row1 e with ⟨_, e⟩ | ⟨_, rfl, rfl⟩
   ·obtain ⟨h3, h4⟩ := hO'.row 0 c q (by rw [e]; rfl)
    refine ⟨h3, ?_⟩
    split
    ·rfl
    ·exact h4
   ·exact ⟨hO'.base _ _ hbr, if_pos rfl⟩
  ·rcases row1 e1 with ⟨a1, b1⟩ | ⟨a1, b1, c1⟩ <;> rcases row1 e2 with ⟨a2, b2⟩ | ⟨a2, b2, c2⟩
   ·rw [a1, a2]
   ·exact (key b1 b2 c2).elim
   ·exact (key b2 b1 c1).elim
   ·rw [a1, a2]
 ·intro c q e
  have hcb : c ≠ b := fun h => by subst h; rw [hb] at e; cases e
  simp only [if_neg hcb]
  exact hle c q (by rw [Hp.set_ne _ _ hcb]; exact e)
theorem za.rdSet {b : Nat} {r : Row} (hW : za T ty τ v l (some (b, r))) (hb : τ b = none) : RdT T (τ.set b r) v l := by
 rcases hW with ⟨_, _, h⟩ | ⟨b', cap, cells, rest, h1, h2, h3, h4, h5⟩
 ·cases h
 ·injection h4 with h4
  injection h4 with h4 h6
  subst h4; subst h6; subst h1
  refine ⟨cells, ⟨_, cap, rfl, h2, h5.len, fun j u hu => ⟨_, rfl, ?_⟩⟩, h5.mono (Hp.le_set hb)⟩
  rw [zb7, Nat.zero_add, zgi]
  show (cells ++ rest)[j]? = some u
  rw [List.getElem?_append_left (List.getElem?_eq_some_iff.1 hu).1]
  exact hu
theorem Ctr.lendO {o : Ob} {rr : List α} (hT : T.Flat) (hW : za T ty τ v l o)
  (hC : ∀ τ1, RdT T τ1 v l → Ctr P f #[v] τ1 [] (fun v τ' vs' => ∃ (v0 : Value) (o0 : Ob), v = v0 ∧ vs' = [o0] ∧ za T ty τ' v0 rr o0)) :
  Ctr P f #[v] τ [o] (fun v τ' vs' => ∃ (v0 : Value) (o0 : Ob), v = v0 ∧ vs' = [o0, o] ∧ za T ty τ' v0 rr o0) := by
 match o, hW with
 | none, hW => 
  rcases hW with ⟨rfl, rfl, _⟩ | ⟨_, _, _, _, _, _, _, h, _⟩
  ·intro w0 ρ hO
   refine (hC τ (RdT.nil _ _) w0 ρ (hO.sel [] (by decide))).mono ?_ fun _ _ h => h
   rintro v' σ' ⟨τ', vs', hO', hle, v0, o0, rfl, rfl, hw⟩
   exact ⟨τ', _, hO'.no, hle, v', o0, rfl, rfl, hw⟩
  ·cases h
 | some (b, r), hW =>
  intro w0 ρ hO
  exact Ctr.lend hT (hW.rdSet (hO.row 0 b r rfl).2) hC w0 ρ hO
theorem Ctr.lendG {args : Array Value} {o : Ob} {vs : List Ob} {K : Value → Hp → List Ob → Prop} (hW : za T ty τ v l o) (hf : ∀ v τ1 τ2 vs, K v τ1 vs → K v τ2 vs) (hC : ∀ τ1, Hp.le τ τ1 → RdT T τ1 v l → Ctr P f args τ1 vs K) :
  Ctr P f args τ (o :: vs) (fun v τ' vs' => ∃ vs0, vs' = o :: vs0 ∧ K v τ' vs0) := by
 intro w0 ρ hO
 match o, hW, hO with
 | none, hW, hO =>
  rcases hW with ⟨rfl, rfl, _⟩ | ⟨_, _, _, _, _, _, _, h, _⟩
  ·have hO2 : Obs τ ρ vs := ⟨hO.base, fun i b r e => hO.row (i + 1) b r e, fun i j b r r' e1 e2 => Nat.succ.inj (hO.apart (i + 1) (j + 1) b r r' e1 e2)⟩
   refine (hC τ (Hp.le.refl _) (RdT.nil _ _) w0 ρ hO2).mono ?_ fun _ _ h => h
   rintro v' σ' ⟨τ', vs', hO', hle, hk⟩
   refine ⟨τ', none :: vs', ⟨hO'.base, fun i b r e => ?_, fun i j b r r' e1 e2 => ?_⟩, hle, vs', rfl, hk⟩
   ·match i with
    | 0 => injection e with e; cases e
    | i + 1 => exact hO'.row i b r e
   ·match i, j with
    | 0, _ => injection e1 with e1; cases e1
    | _ + 1, 0 => injection e2 with e2; cases e2
    | i + 1, j + 1 => exact congrArg Nat.succ (hO'.apart i j b r r' e1 e2)
  ·cases h
 | some (b, r), hW, hO =>
  have hb : τ b = none := (hO.row 0 b r rfl).2
  obtain ⟨h1, hO1⟩ := hO.share (i := 0) rfl
  have hO2 : Obs (τ.set b r) ρ vs := ⟨hO1.base, fun i c q e => hO1.row (i + 1) c q e, fun i j c q q' e1 e2 => Nat.succ.inj (hO1.apart (i + 1) (j + 1) c q q' e1 e2)⟩
  refine (hC _ h1 (hW.rdSet hb) w0 ρ hO2).mono ?_ fun _ _ h => h
  rintro v' σ' ⟨τ', vs', hO', hle, hk⟩
  have hbr : τ' b = some r := hle b r (Hp.set_eq ..)
  have key : ∀ {i c q}, vs'[i]? = some (some (c, q)) → c = b → False := fun {i c q} e1 e2 => by
   subst e2
   have := (hO'.row i _ q e1).2
   rw [hbr] at this
   cases this
  refine ⟨fun c => if c = b then none else τ' c, some (b, r) :: vs', ⟨fun c q e => ?_, fun i c q e => ?_, fun i j c q q' e1 e2 => ?_⟩, fun c q e => ?_, vs', rfl, hf _ τ' _ _ hk⟩
  ·split at e
   ·cases e
   ·exact hO'.base c q e
  ·match i with
   | 0 =>
    injection e with e
    injection e with e
    injection e with e1 e2
    subst e1; subst e2
    exact ⟨hO'.base _ _ hbr, if_pos rfl⟩
   | i + 1 =>
    obtain ⟨h3, h4⟩ := hO'.row i c q e
    refine ⟨h3, ?_⟩
    split
    ·rfl
    ·exact h4
  ·match i, j with
   | 0, 0 => rfl
   | i + 1, j + 1 => exact congrArg Nat.succ (hO'.apart i j c q q' e1 e2)
   | 0, j + 1 =>
    injection e1 with e1
    injection e1 with e1
    injection e1 with e1 e3
    exact (key (i := j) e2 e1.symm).elim
   | i + 1, 0 =>
    injection e2 with e2
    injection e2 with e2
    injection e2 with e2 e3
    exact (key (i := i) e1 e2.symm).elim
  ·have hcb : c ≠ b := fun h => by subst h; rw [hb] at e; cases e
   simp only [if_neg hcb]
   exact hle c q (by rw [Hp.set_ne _ _ hcb]; exact e)
theorem zkH {o : Ob} {K : Value → Hp → List Ob → Prop} (hf : ∀ v τ1 τ2 vs, K v τ1 vs → K v τ2 vs) : ∀ v τ1 τ2 vs', (fun v (τ' : Hp) vs' => ∃ vs0, vs' = o :: vs0 ∧ K v τ' vs0) v τ1 vs' → (fun v (τ' : Hp) vs' => ∃ vs0, vs' = o :: vs0 ∧ K v τ' vs0) v τ2 vs' := fun v τ1 τ2 vs' ⟨vs0, h1, h2⟩ => ⟨vs0, h1, hf v τ1 τ2 vs0 h2⟩
end
section
variable {α : Type}
def Sub (T T' : Ty α) : Prop := T.sz = T'.sz ∧ ∀ σ x cs, T.R σ x cs → T'.R σ x cs
theorem Sub.chunks {T T' : Ty α} (h : Sub T T') {σ : Hp} : ∀ {l : List α} {cs : List Value}, Chunks T σ l cs → Chunks T' σ l cs
 | [], cs, hc => hc
 | x :: l, cs, hc => by
  obtain ⟨c, r, rfl, h1, h2⟩ := hc
  exact ⟨c, r, rfl, h.2 _ _ _ h1, Sub.chunks h h2⟩
theorem Sub.rd {T T' : Ty α} (h : Sub T T') {σ : Hp} {v : Value} {l : List α} (hr : RdT T σ v l) : RdT T' σ v l := by
 obtain ⟨cs, h1, h2⟩ := hr
 exact ⟨cs, h.1 ▸ h1, h.chunks h2⟩
def Ty.no (α : Type) (n : Nat) : Ty α where
 sz := n
 R := fun _ _ _ => False
 len := fun h => h.elim
 one := fun h => h.elim
 mono := fun _ h => h.elim
def Ty.lv (F : Ty α → Ty α) (n : Nat) : Nat → Ty α
 | 0 => Ty.no α n
 | k + 1 => F (Ty.lv F n k)
structure Lvl (F : Ty α → Ty α) (n : Nat) : Prop where
 sz : ∀ T, (F T).sz = n
 mono : ∀ T T', Sub T T' → Sub (F T) (F T')
variable {F : Ty α → Ty α} {n : Nat} (hL : Lvl F n)
include hL
theorem zgH : ∀ k, (Ty.lv F n k).sz = n
 | 0 => rfl
 | k + 1 => hL.sz _
theorem zf8 : ∀ {k m : Nat}, k ≤ m → Sub (Ty.lv F n k) (Ty.lv F n m)
 | 0, m, _ => ⟨(zgH hL m).symm, fun _ _ _ h => h.elim⟩
 | k + 1, 0, h => absurd h (by omega)
 | k + 1, m + 1, h => hL.mono _ _ (zf8 (by omega))
omit hL in
def Ty.fix (F : Ty α → Ty α) (n : Nat) (hL : Lvl F n) : Ty α where
 sz := n
 R := fun σ x cs => ∃ k, (Ty.lv F n k).R σ x cs
 len := fun ⟨k, h⟩ => by rw [Ty.len _ h]; exact zgH hL k
 one := fun ⟨k, h⟩ => Ty.one _ h
 mono := fun hle ⟨k, h⟩ => ⟨k, Ty.mono _ hle h⟩
theorem zk0 (k : Nat) : Sub (Ty.lv F n k) (Ty.fix F n hL) := ⟨zgH hL k, fun _ _ _ h => ⟨k, h⟩⟩
theorem zkx {σ : Hp} {x : α} {cs : List Value} (h : (Ty.fix F n hL).R σ x cs) : (F (Ty.fix F n hL)).R σ x cs := by
 obtain ⟨k, h⟩ := h
 cases k with
 | zero => exact h.elim
 | succ k => exact (hL.mono _ _ (zk0 hL k)).2 _ _ _ h
theorem zjv {σ : Hp} : ∀ {l : List α} {cs : List Value}, Chunks (Ty.fix F n hL) σ l cs → ∃ k, Chunks (Ty.lv F n k) σ l cs
 | [], cs, hc => ⟨0, hc⟩
 | x :: l, cs, hc => by
  obtain ⟨c, r, rfl, ⟨k, h1⟩, h2⟩ := hc
  obtain ⟨m, h2⟩ := zjv h2
  exact ⟨max k m, c, r, rfl, (zf8 hL (Nat.le_max_left k m)).2 _ _ _ h1, (zf8 hL (Nat.le_max_right k m)).chunks h2⟩
theorem zeH {σ : Hp} {v : Value} {l : List α} (hr : RdT (Ty.fix F n hL) σ v l) : ∃ k, ∀ m, k ≤ m → RdT (Ty.lv F n m) σ v l := by
 obtain ⟨cs, h1, h2⟩ := hr
 obtain ⟨k, h2⟩ := zjv hL h2
 refine ⟨k, fun m hm => ⟨cs, ?_, (zf8 hL hm).chunks h2⟩⟩
 rw [zgH hL]
 exact h1
end
theorem At.part {σ : Hp} {a : Addr} {cs ds : List Value} {off n : Nat} (h : At σ a cs) (hd : (cs.drop off).take n = ds) (hn : ds.length = n) : zbZ σ (a.add off) true n = some (.agg ds.toArray) := by
 refine At.all (cs := ds) (fun j u hu => ?_) hn
 rw [zfG]
 refine h (off + j) u ?_
 rw [← hd, List.getElem?_take] at hu
 split at hu
 ·rwa [List.getElem?_drop] at hu
 ·cases hu
section
variable {P : Program} {w0 : Base} {τ σ : Hp} {os : List Ob} {r : List XI} {b : zU} {Q : Exit → Env → Hp → Prop} {e : Env} {d : Option Nat}
variable {α : Type} {T : Ty α} {v : Value} {l : List α} {o : Ob} {i ty : Nat}
theorem za.again {a : Addr} {q : Int} {y : α} (hO : Obs τ σ os) (hW : za T ty τ v l o) (hi : os[i]? = some o) (hin : zd8 T.sz o a q) (hg : zL l q = some y) : ∃ cs, T.R τ y cs ∧ At σ a cs := by
 obtain ⟨A, c, rfl, -⟩ := hW.form
 obtain ⟨a', cs, h1, h2, h3, -⟩ := za.at_ hO hW hi hg rfl
 have h4 := za.ptr hW hin rfl
 rw [h1] at h4
 injection h4 with h4
 subst h4
 exact ⟨cs, h2, h3⟩
theorem zjL {x y : Opd} {a : Addr} {q : Int} {z z' : α} {vs : List Value} (hO : Obs τ σ os) (hW : za T ty τ v l o) (hi : os[i]? = some o) (hp : ev e x = .pointer (some a)) (hin : zd8 T.sz o a q) (hg : zL l q = some z)
  (hy : (ev e y).cells.toList = vs) (h1 : vs.all one = true) (hR' : T.R τ z' vs)
  (kk : ∀ σ' o', za T ty τ v (l.set q.toNat z') o' → Obs τ σ' (os.set i o') → wpn P w0 (.seq (.reg r) b) Q (zp e d undef) σ') : wpn P w0 (.seq (.reg (.s ⟨d, .store T.sz x y, []⟩ :: r)) b) Q e σ := by
 obtain ⟨cs, hR, hAt⟩ := hW.again hO hi hin hg
 have hl := T.len hR
 have hv := T.len hR'
 exact zlO (off := 0) hO hW hi (by rw [add_zero]; exact hp) hin hg hR hAt hy hv h1 (by rw [List.take_zero, List.nil_append, Nat.zero_add, List.drop_of_length_le (by omega), List.append_nil]) (by omega) hR' kk
end
def zit (o : Ob) (a : Addr) (cs : List Value) : Prop := ∃ b r, o = some (b, r) ∧ a.block = b ∧ a.spot = none ∧ ∀ (j : Nat) (u : Value), cs[j]? = some u → r.cells[a.off + j]? = some u
theorem At.rowIs {τ σ : Hp} {os : List Ob} {o : Ob} {i n : Nat} {q : Int} {a : Addr} {cs : List Value} (hO : Obs τ σ os) (hi : os[i]? = some o) (hin : zd8 n o a q) (m : At σ a cs) : zit o a cs := by
 obtain ⟨b, r, rfl, rfl⟩ := hin
 refine ⟨b, r, rfl, rfl, rfl, fun j u hu => ?_⟩
 have h := m j u hu
 rw [zb7] at h
 simp only [look, (hO.row i b r hi).1, Option.isSome_none, Bool.false_eq_true, if_false, Option.bind_some] at h
 exact h
theorem zit.at {τ σ : Hp} {os : List Ob} {o : Ob} {i : Nat} {a : Addr} {cs : List Value} (h : zit o a cs) (hO : Obs τ σ os) (hi : os[i]? = some o) : At σ a cs := by
 obtain ⟨b, r, rfl, hb, hs, h⟩ := h
 intro j u hu
 obtain ⟨bl, off, sp⟩ := a
 dsimp only at hb hs
 subst hb; subst hs
 rw [zb7]
 simp only [look, (hO.row i bl r hi).1, Option.isSome_none, Bool.false_eq_true, if_false, Option.bind_some]
 exact h j u hu
section
variable (P : Program) (w0 : Base)
def zbD : zbF → (Exit → Env → Hp → Prop) → Env → Hp → Prop
 | .skip, Q, e, σ => Q .normal e σ
 | .reg ops, Q, e, σ => aops P w0 ops e σ (fun e' σ' => Q .normal e' σ') (fun ch σ' => ∀ e' : Env, (∀ j : Nat, (∀ s ∈ ops, s.dst ≠ some j) → e' j = e j) → Q (.panic ch) e' σ')
 | .par t, Q, e, σ => atree P w0 t e σ (fun e' σ' => Q .normal e' σ') (fun ch σ' => ∀ e', Q (.panic ch) e' σ')
 | .seq a b, Q, e, σ => zbD a (thn (fun e' σ' => zbD b Q e' σ') Q) e σ
 | .cond c a b, Q, e, σ => ∃ t, ev e c = .bool t ∧ (t = true → zbD a Q e σ) ∧ (t = false → zbD b Q e σ)
 | .block id c, Q, e, σ => zbD c (inb id Q) e σ
 | .loop c, Q, e, σ => ∃ I : Nat → Env → Hp → Prop, (∃ n, I n e σ) ∧ ∀ n e σ, I n e σ → zbD c (thn (fun e' σ' => ∃ n', n' < n ∧ I n' e' σ') Q) e σ
 | .exit id, Q, e, σ => Q (.exit id) e σ
 | .ret, Q, e, σ => Q .ret e σ
end
section
variable {P : Program} {w0 : Base} {N : Nat}
theorem zeh : ∀ (c : zbF) (Q : Exit → Env → Hp → Prop) (e : Env) (σ : Hp), awp P w0 c Q e σ → zbD P w0 c Q e σ
 | .skip, Q, e, σ, h => h
 | .reg ops, Q, e, σ, h => zeG (fun _ _ h => h) (fun ch σ' (h : ∀ e', Q (.panic ch) e' σ') e' _ => h e') ops e σ h
 | .par t, Q, e, σ, h => h
 | .seq a b, Q, e, σ, h => zeh a _ e σ (zc7 a _ _ e σ h fun x e σ h => by
   cases x with
   | normal => exact zeh b Q e σ h
   | _ => exact h)
 | .cond c a b, Q, e, σ, ⟨t, h1, h2, h3⟩ => ⟨t, h1, fun ht => zeh a Q e σ (h2 ht), fun ht => zeh b Q e σ (h3 ht)⟩
 | .block id c, Q, e, σ, h => zeh c _ e σ h
 | .loop c, Q, e, σ, ⟨I, h1, h2⟩ => ⟨I, h1, fun n e σ h => zeh c _ e σ (h2 n e σ h)⟩
 | .exit id, Q, e, σ, h => h
 | .ret, Q, e, σ, h => h
end
section
variable {P : Program} {w0 : Base} {N : Nat} {ds : Ds} {ro : Option Nat}
theorem zkA {ops : Array Oper} : ∀ (l : List Oper) (ls : List ASt), l.mapM (zcX P N ops) = some ls → ∀ o ∈ l, ∃ s ∈ ls, s.dst = o.dst
 | [], ls, h, o, ho => by cases ho
 | x :: l, ls, h, o, ho => by
  rw [List.mapM_cons] at h
  obtain ⟨s, hs, h⟩ := Option.bind_eq_some_iff.1 h
  obtain ⟨r, hr, h⟩ := Option.bind_eq_some_iff.1 h
  injection h with h
  subst h
  rcases List.mem_cons.1 ho with rfl | ho
  ·exact ⟨s, List.mem_cons_self .., (zhP hs).2.2.1⟩
  ·obtain ⟨s', h1, h2⟩ := zkA l r hr o ho
   exact ⟨s', List.mem_cons_of_mem _ h1, h2⟩
theorem zdP (hm : P.follows .mixedOrders = true) : ∀ (c : Code) (ac : zbF) (Q : Exit → Env → Hp → Prop) (a : Act) (w : World) (σ : Hp), slim P N c = some ac → Code.free ds.fx c → a.tmps.size = N → ds.ok a → Inv w0 σ w → zbD P w0 ac Q (zK a) σ → c.wpIn (Rf ro) 0 P (lft N ds w0 Q) a w
 | .skip, ac, Q, a, w, σ, h, hf, hN, hd, hI, hK => by
  injection h with h; subst h
  exact wpIn_skip ⟨hN, hd, σ, hI, hK⟩
 | .region id ops draw, ac, Q, a, w, σ, h, hf, hN, hd, hI, hK => by
  have h0 := h
  unfold slim at h
  obtain ⟨l, hl, h⟩ := Option.bind_eq_some_iff.1 h
  split at h
  ·obtain ⟨hok, rfl⟩ := zcI h
   exact zds hm (.region id ops draw) _ Q a w σ h0 hf hN hd hI hK
  ·rename_i hdr
   injection h with h; subst h
   have : draw = false := by simpa using hdr
   subst this
   let ds2 : Ds := { ds := ds.ds, fx := fun j => if ∃ s ∈ l, s.dst = some j then none else some (zK a j) }
   have hd2 : ds2.ok a := ⟨hd.1, fun j u hj => by
    simp only [ds2] at hj
    split at hj
    ·cases hj
    ·injection hj⟩
   have back : ∀ a' : Act, ds2.ok a' → ds.ok a' ∧ ∀ j, (∀ s ∈ l, s.dst ≠ some j) → zK a' j = zK a j := fun a' h => by
    have ag : ∀ j, (∀ s ∈ l, s.dst ≠ some j) → zK a' j = zK a j := fun j hj => h.2 j _ (by
     simp only [ds2]
     rw [if_neg]
     rintro ⟨s, h1, h2⟩
     exact hj s h1 h2)
    refine ⟨⟨h.1, fun j u hj => ?_⟩, ag⟩
    rw [← hd.2 j u hj]
    refine ag j fun s hs hsj => ?_
    -- a slot that is fixed is not written
    have key : ∀ (os : List Oper) (ss : List ASt), os.mapM (zcX P N ops) = some ss → (∀ o ∈ os, ∀ d, o.dst = some d → ds.fx d = none) → ∀ s ∈ ss, s.dst ≠ some j := by
     intro os
     induction os with
     | nil => intro ss h _ s hs; simp at h; subst h; cases hs
     | cons o os ih =>
      intro ss h hf s hs
      rw [List.mapM_cons] at h
      obtain ⟨s1, hs1, h⟩ := Option.bind_eq_some_iff.1 h
      obtain ⟨r, hr, h⟩ := Option.bind_eq_some_iff.1 h
      injection h with h
      subst h
      rcases List.mem_cons.1 hs with rfl | hs
      ·intro he
       have := (zhP hs1).2.2.1
       rw [this] at he
       have := hf o (List.mem_cons_self ..) j he
       rw [hj] at this
       cases this
      ·exact ih r hr (fun o ho => hf o (List.mem_cons_of_mem _ ho)) s hs
    exact key ops.toList l hl (fun o ho d hd => by
     obtain ⟨i, hi, rfl⟩ := List.mem_iff_getElem.1 ho
     exact hf i _ (by rw [← Array.getElem?_toList, List.getElem?_eq_getElem hi]) d hd) s hs hsj
   refine wpIn_region_list (zho (ds := ds2) (K := fun e' σ' => Q .normal e' σ') (Kp := fun ch σ' => ∀ e' : Env, (∀ j : Nat, (∀ s ∈ l, s.dst ≠ some j) → e' j = zK a j) → Q (.panic ch) e' σ') _ _ _ _ _ hl (fun o ho d hdo => ?_) hN hd2 hI hK (fun a' w' hk => ?_) (fun ch a' w' σ' hN' hd' hI' hk => ?_))
   ·obtain ⟨s, h1, h2⟩ := zkA _ _ hl o ho
    simp only [ds2]
    rw [if_pos ⟨s, h1, by rw [h2]; exact hdo⟩]
   ·obtain ⟨h1, h2, σ', h3, h4⟩ := hk
    exact ⟨h1, (back a' h2).1, σ', h3, h4⟩
   ·exact ⟨hN', (back a' hd').1, σ', hI', hk _ (back a' hd').2⟩
 | .seq x y, ac, Q, a, w, σ, h, hf, hN, hd, hI, hK => by
  unfold slim at h
  obtain ⟨ax, hx, h⟩ := Option.bind_eq_some_iff.1 h
  obtain ⟨ay, hy, rfl⟩ := Option.map_eq_some_iff.1 h
  refine wpIn_seq (wpIn_mono (zdP hm x ax _ a w σ hx hf.1 hN hd hI hK) fun ex a' w' hq => ?_)
  obtain ⟨hN', hd', hq⟩ := hq
  cases ex with
  | normal =>
   obtain ⟨σ', hI', hq⟩ := hq
   exact zdP hm y ay Q a' w' σ' hy hf.2 hN' hd' hI' hq
  | outgrown => exact hq.elim
  | goto l => exact hq.elim
  | exit id => exact ⟨hN', hd', hq⟩
  | ret => exact ⟨hN', hd', hq⟩
  | panic ch => exact ⟨hN', hd', hq⟩
 | .cond c x y, ac, Q, a, w, σ, h, hf, hN, hd, hI, hK => by
  unfold slim at h
  obtain ⟨ax, hx, h⟩ := Option.bind_eq_some_iff.1 h
  obtain ⟨ay, hy, rfl⟩ := Option.map_eq_some_iff.1 h
  obtain ⟨t, ht, h1, h2⟩ := hK
  rw [zR] at ht
  exact wpIn_cond_split ht (fun he => zdP hm x ax Q a w σ hx hf.1 hN hd hI (h1 he)) (fun he => zdP hm y ay Q a w σ hy hf.2 hN hd hI (h2 he))
 | .block id c, ac, Q, a, w, σ, h, hf, hN, hd, hI, hK => by
  unfold slim at h
  obtain ⟨ax, hx, rfl⟩ := Option.map_eq_some_iff.1 h
  refine wpIn_block (wpIn_mono (zdP hm c ax _ a w σ hx hf hN hd hI hK) fun ex a' w' hq => ?_)
  obtain ⟨hN', hd', hq⟩ := hq
  cases ex with
  | exit k =>
   obtain ⟨σ', hI', hq⟩ := hq
   simp only [inb] at hq
   simp only [Exit.inBlock]
   split
   ·rename_i hk
    rw [if_pos hk] at hq
    exact ⟨hN', hd', σ', hI', hq⟩
   ·rename_i hk
    rw [if_neg hk] at hq
    exact ⟨hN', hd', σ', hI', hq⟩
  | normal => exact ⟨hN', hd', hq⟩
  | outgrown => exact hq.elim
  | goto l => exact hq.elim
  | ret => exact ⟨hN', hd', hq⟩
  | panic ch => exact ⟨hN', hd', hq⟩
 | .loop c, ac, Q, a, w, σ, h, hf, hN, hd, hI, hK => by
  unfold slim at h
  obtain ⟨ax, hx, rfl⟩ := Option.map_eq_some_iff.1 h
  obtain ⟨I, ⟨n, hn⟩, hround⟩ := hK
  refine zkq (fun n a w => a.tmps.size = N ∧ ds.ok a ∧ ∃ σ, Inv w0 σ w ∧ I n (zK a) σ) n ⟨hN, hd, σ, hI, hn⟩ ?_
  rintro n a w ⟨hN, hd, σ, hI, hn⟩
  refine wpIn_mono (zdP hm c ax _ a w σ hx hf hN hd hI (hround n _ _ hn)) fun ex a' w' hq => ?_
  obtain ⟨hN', hd', hq⟩ := hq
  cases ex with
  | normal =>
   obtain ⟨σ', hI', n', hlt, hq⟩ := hq
   exact ⟨n', hlt, hN', hd', σ', hI', hq⟩
  | outgrown => exact hq.elim
  | goto l => exact hq.elim
  | exit id => exact ⟨hN', hd', hq⟩
  | ret => exact ⟨hN', hd', hq⟩
  | panic ch => exact ⟨hN', hd', hq⟩
 | .exit id, ac, Q, a, w, σ, h, hf, hN, hd, hI, hK => by
  injection h with h; subst h
  exact wpIn_exit ⟨hN, hd, σ, hI, hK⟩
 | .scope c, ac, Q, a, w, σ, h, hf, hN, hd, hI, hK => by
  refine ziS (wpIn_mono (zdP hm c ac Q a w σ h hf hN hd hI hK) fun ex a' w' hq => ?_)
  obtain ⟨hN', hd', hq⟩ := hq
  cases ex <;> first | exact ⟨hN', hd', hq⟩ | exact hq.elim
 | .ret, ac, Q, a, w, σ, h, hf, hN, hd, hI, hK => by
  injection h with h; subst h
  exact wpIn_ret ⟨hN, hd, σ, hI, hK⟩
 | .rangeFunc .., ac, Q, a, w, σ, h, hf, hN, hd, hI, hK => by cases h
 | .label _, ac, Q, a, w, σ, h, hf, hN, hd, hI, hK => by cases h
 | .goto _, ac, Q, a, w, σ, h, hf, hN, hd, hI, hK => by cases h
 | .refuse _, ac, Q, a, w, σ, h, hf, hN, hd, hI, hK => by cases h
end
inductive DA2 where
 | pre (a : zbF) (k : DA2)
 | dfr (l : List ASt) (d : Nat) (as : List Opd) (body : zbF)
def zgP (N : Nat) (ops : Array Oper) : Option (List Oper × Nat × List Operand) := match ops.toList.reverse with
 | ⟨none, .defer ⟨.value (.tmp d), args, _⟩, _, _, _, none⟩ :: rest => if d < N then some (rest.reverse, d, args.toList) else none
 | _ => none
def zey (P : Program) (N : Nat) (J : List Nat) : Code → Option DA2
 | .seq (.region id ops false) c => match zgP N ops with
  | some (os, d, as) => (req (zcF J c)).bind fun _ => (os.mapM (zcX P N ops)).bind fun l => (slim P N c).map fun b => .dfr l d (as.map zv) b
  | none => (slim P N (.region id ops false)).bind fun x => (zey P N J c).map fun k => .pre x k
 | .seq a b => (slim P N a).bind fun x => (zey P N J b).map fun k => .pre x k
 | _ => none
section
variable (P : Program) (w0 : Base) (J : List Nat)
def dpost (g : FuncId) (args : Array Value) (e1 : Env) (Q : Exit → Env → Hp → Prop) : Exit → Env → Hp → Prop := fun x e' σ' => (∀ j ∈ J, e' j = e1 j) → match x with
 | .normal => zb3 P w0 g args .returning σ' fun u' σ'' => settle u' = .returning ∧ Q .ret e' σ''
 | .ret => zb3 P w0 g args .returning σ' fun u' σ'' => settle u' = .returning ∧ Q .ret e' σ''
 | .panic ch => zb3 P w0 g args (.panicking ch) σ' fun u' σ'' => (settle u' = .returning ∧ Q .ret e' σ'') ∨ ∃ ch', settle u' = .panicking ch' ∧ Q (.panic ch') e' σ''
 | _ => False
def zf5 : DA2 → (Exit → Env → Hp → Prop) → Env → Hp → Prop
 | .pre a k, Q, e, σ => awp P w0 a (thn (fun e' σ' => zf5 k Q e' σ') Q) e σ
 | .dfr l d as b, Q, e, σ => aops P w0 l e σ (fun e1 σ1 => ∃ g cs, e1 d = .func (.func g) #[] cs ∧ okF P g = true ∧ zbD P w0 b (dpost P w0 J g ((as.map (ev e1)).toArray ++ cs) e1 Q) e1 σ1) zct
end
section
variable {P : Program} {w0 : Base} {J : List Nat} {N : Nat} {ds : Ds} {ro : Option Nat}
theorem zmm {ops : Array Oper} {os : List Oper} {d : Nat} {as : List Operand} (h : zgP N ops = some (os, d, as)) : ∃ args ts t p a, ops.toList = os ++ [⟨none, .defer ⟨.value (.tmp d), args, ts⟩, t, p, a, none⟩] ∧ as = args.toList ∧ d < N := by
 unfold zgP at h
 split at h
 ·rename_i d1 args ts t p a rest hops
  split at h
  ·rename_i hc
   injection h with h
   injection h with h1 h2
   injection h2 with h2 h3
   subst h1; subst h2; subst h3
   refine ⟨args, ts, t, p, a, ?_, rfl, hc⟩
   rw [← List.reverse_reverse ops.toList, hops, List.reverse_cons]
  ·cases h
 ·cases h
theorem zi4 {ops : Array Oper} {Q : Exit → Act → World → Prop} {K : Env → Hp → Prop} {Kp : List PanicEntry → Hp → Prop} {tl : List Oper} : ∀ (l : List Oper) (ls : List ASt) (a : Act) (w : World) (σ : Hp), l.mapM (zcX P N ops) = some ls → (∀ o ∈ l, ∀ d, o.dst = some d → ds.fx d = none) →
  a.tmps.size = N → ds.ok a → Inv w0 σ w → aops P w0 ls (zK a) σ K Kp → (∀ a' w', zeK N ds w0 K a' w' → wpListIn (Rf ro) 0 P ops Q tl a' w') → (∀ ch a' w' σ', a'.tmps.size = N → ds.ok a' → Inv w0 σ' w' → Kp ch σ' → Q (.panic ch) a' w') → wpListIn (Rf ro) 0 P ops Q (l ++ tl) a w
 | [], ls, a, w, σ, hl, hfx, hN, hd, hI, hK, h1, h2 => by
  simp at hl
  subst hl
  exact h1 _ _ ⟨hN, hd, σ, hI, hK⟩
 | o :: l, ls, a, w, σ, hl, hfx, hN, hd, hI, hK, h1, h2 => by
  rw [List.mapM_cons] at hl
  obtain ⟨s, hs, hl⟩ := Option.bind_eq_some_iff.1 hl
  obtain ⟨r, hr, hl⟩ := Option.bind_eq_some_iff.1 hl
  injection hl with hl
  subst hl
  rw [List.cons_append]
  refine zhf (fun _ => trivial) fun K' hK' => zgs hs (hfx o (List.mem_cons_self ..)) hN hd hI hK (fun a' w' hk => hK' _ _ ?_) (fun ch w' σ' hI' hk => h2 ch a w' σ' hN hd hI' hk)
  obtain ⟨hN', hd', σ', hI', hk'⟩ := hk
  exact zi4 l r a' w' σ' hr (fun q hq => hfx q (List.mem_cons_of_mem _ hq)) hN' hd' hI' hk' h1 h2
theorem zni (hm : P.follows .mixedOrders = true) {fn : Func} {rs : List zcv} {K : Value → Hp → Prop} {Kp : List PanicEntry → Hp → Prop} (hrs : fn.results.toList.mapM (zea P) = some rs) {id : Nat} {ops : Array Oper} {c : Code} {os : List Oper} {d : Nat} {as : List Operand} {l : List ASt} {b : zbF} {a : Act} {w : World} {σ : Hp}
  (hdf : zgP N ops = some (os, d, as)) (hfr : zcF J c = true) (hl : os.mapM (zcX P N ops) = some l) (hb : slim P N c = some b) (hN : a.tmps.size = N) (hd : a.defers = []) (hI : Inv w0 σ w) (hK : zf5 P w0 J (.dfr l d (as.map zv) b) (apost rs K Kp) (zK a) σ) :
  (Code.seq (.region id ops false) c).wpIn (Rf none) 0 P (bodyPostDIn (Rf none) 0 P fn (fun e w' => match e with
    | .returned v => ∃ σ', Inv w0 σ' w' ∧ K v σ'
    | .panicked ch => ∃ σ', Inv w0 σ' w' ∧ Kp ch σ'
    | .outgrown => False)) a w := by
 obtain ⟨args, ts, t1, p1, a1, hops, rfl, hdN⟩ := zmm hdf
 refine wpIn_seq (wpIn_region_list ?_)
 rw [hops]
 refine zi4 (ds := dsl []) os l a w σ hl (fun _ _ _ _ => rfl) hN (dsok hd) hI hK (fun a0 w0' hk => ?_) (fun ch a' w' σ' _ _ _ h => h.elim)
 obtain ⟨hN0, hd0, σ0, hI0, g, cs, hg, hok, hK⟩ := hk
 have hargs : (((args.toList.map zv).map (ev (zK a0))).toArray ++ cs) = args.map a0.eval ++ cs := by
  congr 1
  apply Array.ext'
  simp only [List.map_map, Array.toList_map]
  refine List.map_congr_left fun x _ => ?_
  simp [zR]
 rw [hargs] at hK
 have hE : a0.eval (.tmp d) = .func (.func g) #[] cs := by
  rw [← zR a0 (.tmp d)]
  exact hg
 refine zhf (fun _ => trivial) fun K2 hK2 => ?_
 rw [if_pos (zfz rfl)]
 refine ⟨fun f _ => trivial, ?_⟩
 rw [Oper.semAt_none]
 have r2 : (execOp a0.eval (⟨none, .defer ⟨.value (.tmp d), args, ts⟩, t1, p1, a1, none⟩ : Oper)).run P w0' = .ok (.defer { target := .fn (.func g) cs, args := args.map a0.eval }) w0' := by
  simp only [execOp, resolve, hE]
  simp [Deferred.ofValue, go_sem]
 rw [r2, Oper.uponIn_defer]
 refine hK2 _ _ ?_
 obtain ⟨D, hD⟩ : ∃ D : Deferred, D = { target := .fn (.func g) cs, args := args.map a0.eval } := ⟨_, rfl⟩
 rw [← hD]
 obtain ⟨a3, ha3⟩ : ∃ a3 : Act, a3 = ({ a0 with defers := D :: a0.defers } : Act).put none undef := ⟨_, rfl⟩
 have hE3 : zK a3 = zK a0 := by rw [ha3]; rfl
 have hd3 : a3.defers = [D] := by rw [ha3]; show D :: a0.defers = [D]; rw [hd0.1]
 have hN3 : a3.tmps.size = N := by rw [ha3]; exact hN0
 have e3 : ({ a0 with defers := D :: a0.defers } : Act) = a3 := by rw [ha3]; rfl
 show Code.wpIn (Rf none) 0 P c _ ({ a0 with defers := D :: a0.defers } : Act) w0'
 rw [e3]
 rw [← hE3] at hK
 let fx : Nat → Option Value := fun j => if j ∈ J then some (zK a3 j) else none
 have hok3 : Ds.ok { ds := [D], fx := fx } a3 := ⟨hd3, fun j v hj => by
  simp only [fx] at hj
  split at hj
  ·injection hj
  ·cases hj⟩
 refine wpIn_mono (zdP (ro := none) (ds := { ds := [D], fx := fx }) hm c b _ a3 w0' σ0 hb (zdM (fun d hd => if_neg hd) c hfr) hN3 hok3 hI0 hK) fun ex a' w' hq => ?_
 obtain ⟨hN', hd', hq⟩ := hq
 have hJ : ∀ j ∈ J, zK a' j = zK a3 j := fun j hj => hd'.2 j _ (if_pos hj)
 have door : ∀ (u : FrameMode) (σ' : Hp), u ≠ .run → Inv w0 σ' w' → zb3 P w0 g (args.map a0.eval ++ cs) u σ' (fun u' σ'' => (settle u' = .returning ∧ ∃ vs, resvs (zK a') σ'' rs = some vs ∧ K (zch vs) σ'') ∨ ∃ ch', settle u' = .panicking ch' ∧ Kp ch' σ'') → LeavesIn (Rf none) 0 P fn a'.tmps (fun e w' => match e with
    | .returned v => ∃ σ', Inv w0 σ' w' ∧ K v σ'
    | .panicked ch => ∃ σ', Inv w0 σ' w' ∧ Kp ch σ'
    | .outgrown => False) a'.defers u w' := by
  intro u σ' hu hI' hC
  rw [hd'.1]
  show LeavesIn (Rf none) 0 P fn a'.tmps _ [D] u w'
  rw [hD]
  refine leavesIn_cons (f := g) (args := args.map a0.eval ++ cs) hu (fun h => by cases h) (by simp [invoke, go_sem, znz hok]) (fun _ _ => trivial) ?_
  refine CallsDIn.mono (hC w' hI') fun e u' w'' he => ?_
  cases e with
  | returned v =>
   obtain ⟨σ'', hI'', h⟩ := he
   show LeavesIn (Rf none) 0 P fn a'.tmps _ [] (settle u') w''
   rcases h with ⟨hs, hv⟩ | ⟨ch', hs, hv⟩
   ·rw [hs]
    exact zku hrs hI'' hv
   ·rw [hs]
    exact ⟨σ'', hI'', hv⟩
  | panicked ch => exact he.elim
  | outgrown => exact he.elim
 have weak : ∀ {u : FrameMode} {σ' : Hp}, zb3 P w0 g (args.map a0.eval ++ cs) u σ' (fun u' σ'' => settle u' = .returning ∧ ∃ vs, resvs (zK a') σ'' rs = some vs ∧ K (zch vs) σ'') → zb3 P w0 g (args.map a0.eval ++ cs) u σ' (fun u' σ'' => (settle u' = .returning ∧ ∃ vs, resvs (zK a') σ'' rs = some vs ∧ K (zch vs) σ'') ∨ ∃ ch', settle u' = .panicking ch' ∧ Kp ch' σ'') := fun h w hI => CallsDIn.mono (h w hI) fun e u' w'' he => by
  cases e with
  | returned v => obtain ⟨σ'', h1, h2⟩ := he; exact ⟨σ'', h1, .inl h2⟩
  | panicked ch => exact he
  | outgrown => exact he
 cases ex with
 | normal => obtain ⟨σ', hI', hq⟩ := hq; exact door _ σ' (by simp) hI' (weak (hq hJ))
 | ret => obtain ⟨σ', hI', hq⟩ := hq; exact door _ σ' (by simp) hI' (weak (hq hJ))
 | panic ch => obtain ⟨σ', hI', hq⟩ := hq; exact door _ σ' (by simp) hI' (hq hJ)
 | exit id => obtain ⟨σ', hI', hq⟩ := hq; exact (hq hJ).elim
 | goto l => exact hq.elim
 | outgrown => exact hq.elim
theorem znq (hm : P.follows .mixedOrders = true) {fn : Func} {rs : List zcv} {K : Value → Hp → Prop} {Kp : List PanicEntry → Hp → Prop} (hrs : fn.results.toList.mapM (zea P) = some rs) :
  ∀ (c : Code) (x : DA2) (a : Act) (w : World) (σ : Hp), zey P N J c = some x → a.tmps.size = N → a.defers = [] → Inv w0 σ w → zf5 P w0 J x (apost rs K Kp) (zK a) σ →
   c.wpIn (Rf none) 0 P (bodyPostDIn (Rf none) 0 P fn (fun e w' => match e with
    | .returned v => ∃ σ', Inv w0 σ' w' ∧ K v σ'
    | .panicked ch => ∃ σ', Inv w0 σ' w' ∧ Kp ch σ'
    | .outgrown => False)) a w := by
 intro c
 induction c with
 | seq c1 c2 _ ih =>
  intro x a w σ h hN hd hI hK
  have gen : ∀ (x1 : zbF) (x2 : DA2), slim P N c1 = some x1 → zey P N J c2 = some x2 → x = .pre x1 x2 → (Code.seq c1 c2).wpIn (Rf none) 0 P (bodyPostDIn (Rf none) 0 P fn (fun e w' => match e with
    | .returned v => ∃ σ', Inv w0 σ' w' ∧ K v σ'
    | .panicked ch => ∃ σ', Inv w0 σ' w' ∧ Kp ch σ'
    | .outgrown => False)) a w := by
   rintro x1 x2 h1 h2 rfl
   refine wpIn_seq (wpIn_mono (zfV (ro := none) hm c1 x1 _ a w σ h1 hN hd hI hK) fun ex a' w' hq => ?_)
   obtain ⟨hN', hd', hq⟩ := hq
   cases ex with
   | normal =>
    obtain ⟨σ', hI', hq⟩ := hq
    exact ih x2 a' w' σ' h2 hN' hd'.1 hI' hq
   | ret =>
    obtain ⟨σ', hI', hq⟩ := hq
    show LeavesIn (Rf none) 0 P fn a'.tmps _ a'.defers .returning w'
    rw [hd'.1]
    exact zku hrs hI' hq
   | panic ch =>
    obtain ⟨σ', hI', hq⟩ := hq
    show LeavesIn (Rf none) 0 P fn a'.tmps _ a'.defers (.panicking ch) w'
    rw [hd'.1]
    exact ⟨σ', hI', hq⟩
   | exit id => obtain ⟨σ', hI', hq⟩ := hq; exact hq.elim
   | goto l => exact hq.elim
   | outgrown => exact hq.elim
  unfold zey at h
  split at h
  ·rename_i id ops c' he
   injection he with h1 h2
   subst h1; subst h2
   split at h
   ·rename_i os d as hdf
    obtain ⟨hfr, h⟩ := zeT h
    obtain ⟨l, hl, h⟩ := Option.bind_eq_some_iff.1 h
    obtain ⟨b, hb, rfl⟩ := Option.map_eq_some_iff.1 h
    exact zni hm hrs hdf hfr hl hb hN hd hI hK
   ·obtain ⟨x1, h1, h⟩ := Option.bind_eq_some_iff.1 h
    obtain ⟨x2, h2, rfl⟩ := Option.map_eq_some_iff.1 h
    exact gen x1 x2 h1 h2 rfl
  ·rename_i c1' c2' hne he
   injection he with e1 e2
   subst e1; subst e2
   obtain ⟨x1, h1, h⟩ := Option.bind_eq_some_iff.1 h
   obtain ⟨x2, h2, rfl⟩ := Option.map_eq_some_iff.1 h
   exact gen x1 x2 h1 h2 rfl
  ·cases h
 | _ => intro x a w σ h; cases h
end
inductive zdb where
 | pre (a : zU) (k : zdb)
 | dfr (l : List XI) (d : Nat) (as : List Opd) (body : zU)
def zkB : zbF → List ASt
 | .reg l => l
 | _ => []
def zdb.code : zdb → DA2
 | .pre a k => .pre a.code k.code
 | .dfr l d as b => .dfr (zkB (zU.reg l).code) d as b.code
def zdb.ok : zdb → Bool
 | .pre a k => a.ok && k.ok
 | .dfr l _ _ b => (zU.reg l).ok && b.ok
def zc8 (P : Program) (w0 : Base) (J : List Nat) : zdb → (Exit → Env → Hp → Prop) → Env → Hp → Prop
 | .pre a k, Q, e, σ => wpn P w0.np a (thn (fun e' σ' => zc8 P w0 J k Q e' σ') Q) e σ
 | .dfr l d as b, Q, e, σ => wpn P w0.np (.reg l) (fun x e1 σ1 => x = .normal ∧ ∃ g cs, e1 d = .func (.func g) #[] cs ∧ okF P g = true ∧ zbD P w0 b.code (dpost P w0 J g ((as.map (ev e1)).toArray ++ cs) e1 Q) e1 σ1) e σ
theorem zjU {P : Program} {w0 : Base} {J : List Nat} : ∀ (c : zdb) (Q : Exit → Env → Hp → Prop) (e : Env) (σ : Hp), c.ok = true → zc8 P w0 J c Q e σ → zf5 P w0 J c.code Q e σ
 | .pre a k, Q, e, σ, ho, h => by
  simp only [zdb.ok, Bool.and_eq_true] at ho
  have h1 := zcK (w0 := w0.np) a (thn (fun e' σ' => zc8 P w0 J k Q e' σ') Q) e σ (fun ch σ' e' (hh : False) => hh.elim) ho.1 h
  have h2 : awp P w0 a.code (thn (fun e' σ' => zc8 P w0 J k Q e' σ') Q) e σ := by
   obtain ⟨W, H, p⟩ := w0
   rw [zdG W H p (fun _ _ => False)]
   exact h1
  exact zc7 a.code _ _ e σ h2 fun x e σ h => by
   cases x with
   | normal => exact zjU k Q e σ ho.2 h
   | _ => exact h
 | .dfr l d as b, Q, e, σ, ho, h => by
  simp only [zdb.ok, Bool.and_eq_true] at ho
  have h1 := zcK (w0 := w0.np) (.reg l) _ e σ (fun ch σ' e' (hh : False) => hh.elim) ho.1 h
  have h2 : aops P w0.np (zkB (zU.reg l).code) e σ (fun e1 σ1 => ∃ g cs, e1 d = .func (.func g) #[] cs ∧ okF P g = true ∧ zbD P w0 b.code (dpost P w0 J g ((as.map (ev e1)).toArray ++ cs) e1 Q) e1 σ1) zct := zeG (fun e1 σ1 h => h.2) (fun ch σ' (h : ∀ e', _) => nomatch (h e).1) _ e σ h1
  obtain ⟨W, H, p⟩ := w0
  show aops P ⟨W, H, p⟩ _ e σ _ _
  rw [zgn W H p (fun _ _ => False)]
  exact h2
theorem zcw {P : Program} {w0 : Base} (pan : List PanicEntry → Hp → Prop) {b : zU} {Q : Exit → Env → Hp → Prop} {e : Env} {σ : Hp} (ho : b.ok = true) (hp : ∀ ch e' σ', pan ch σ' → Q (.panic ch) e' σ') (h : wpn P ⟨w0.world, w0.hid, pan⟩ b Q e σ) : zbD P w0 b.code Q e σ := by
 have h1 := zcK (w0 := ⟨w0.world, w0.hid, pan⟩) b Q e σ (fun ch σ' e' hh => hp ch e' σ' hh) ho h
 have h2 : awp P w0 b.code Q e σ := by
  obtain ⟨W, H, p⟩ := w0
  rw [zdG W H p pan]
  exact h1
 exact zeh _ _ _ _ h2
structure zej where
 ntmps : Nat
 results : List zcv
 body : zdb
structure zkl where
 ntmps : Nat
 results : List zcv
 body : DA2
def zej.fn (f : zej) : zkl := ⟨f.ntmps, f.results, f.body.code⟩
def ze7 (P : Program) (J : List Nat) (fn : Func) : Option zkl := fn.body.bind fun c => (zey P fn.ntmps J c).bind fun ac => (fn.results.toList.mapM (zea P)).map fun rs => ⟨fn.ntmps, rs, ac⟩
theorem znv {P : Program} {w0 : Base} {J : List Nat} {f : FuncId} {fn : Func} {af : zej} {args : List Value} {σ : Hp} {K : Value → Hp → Prop} {Kp : List PanicEntry → Hp → Prop} (hm : P.follows .mixedOrders = true) (hf : P.funcs[f]? = some fn) (hs : ze7 P J fn = some af.fn) (ha : (af.body.ok && decide (args.length ≤ af.ntmps)) = true)
  (h : ∀ Q : Exit → Env → Hp → Prop, (∀ e σ' vs, resvs e σ' af.results = some vs → K (zch vs) σ' → Q .ret e σ') → (∀ ch e σ', Kp ch σ' → Q (.panic ch) e σ') → zc8 P w0 J af.body Q (zbV args) σ) : ACalls P w0 f args.toArray σ K Kp := by
 simp only [Bool.and_eq_true, decide_eq_true_eq] at ha
 intro w hI
 unfold ze7 at hs
 obtain ⟨c, hc, hs⟩ := Option.bind_eq_some_iff.1 hs
 obtain ⟨ac, hac, hs⟩ := Option.bind_eq_some_iff.1 hs
 obtain ⟨rs, hrs, hs⟩ := Option.map_eq_some_iff.1 hs
 injection hs with e1 e2 e3
 subst e2; subst e3
 have hlen : args.length ≤ fn.ntmps := by rw [e1]; exact ha.2
 have he : zK { tmps := args.toArray ++ Array.replicate (fn.ntmps - args.toArray.size) undef, defers := [] } = zbV args := by
  funext k
  simp only [zK, zbV, Array.getD_eq_getD_getElem?, List.getD_eq_getElem?_getD, Array.getElem?_append, List.size_toArray, Array.getElem?_replicate]
  by_cases hk : k < args.length
  ·simp [hk]
  ·simp only [hk, if_false, List.getElem?_eq_none (show args.length ≤ k from by omega)]
   split <;> rfl
 have hQ := zjU af.body _ _ _ ha.1 (h (apost af.results K Kp) (fun e σ' vs h1 h2 => ⟨vs, h1, h2⟩) (fun ch e σ' h => h))
 exact (callsIn_wide (n := 0)).1 (callsIn_of_wp_defers (F := Rf none) hf hc trivial (znq hm hrs c _ _ w σ hac (by simp; omega) rfl hI (he ▸ hQ)))
theorem zke {P : Program} {J : List Nat} {f : FuncId} {fn : Func} {af : zej} {args : List Value} {τ : Hp} {vs : List Ob} {K : Value → Hp → List Ob → Prop} {Kp : List PanicEntry → Hp → List Ob → Prop} (hm : P.follows .mixedOrders = true) (hf : P.funcs[f]? = some fn) (hs : ze7 P J fn = some af.fn) (ha : (af.body.ok && decide (args.length ≤ af.ntmps)) = true)
  (h : ∀ (w0 : Base) (σ : Hp), Obs τ σ vs → ∀ Q : Exit → Env → Hp → Prop, (∀ e σ' rs τ' vs', resvs e σ' af.results = some rs → Obs τ' σ' vs' → Hp.le τ τ' → K (zch rs) τ' vs' → Q .ret e σ') → (∀ ch e σ' τ' vs', Obs τ' σ' vs' → Hp.le τ τ' → Kp ch τ' vs' → Q (.panic ch) e σ') → zc8 P w0 J af.body Q (zbV args) σ) : zbu P f args.toArray τ vs K Kp := fun w0 σ hO =>
 znv hm hf hs ha fun Q hQ hP => h w0 σ hO Q (fun e σ' rs τ' vs' h1 h2 h3 h4 => hQ e σ' rs h1 ⟨τ', vs', h2, h3, h4⟩) fun ch e σ' τ' vs' h2 h3 h4 => hP ch e σ' ⟨τ', vs', h2, h3, h4⟩
def zeR (P : Program) (g : FuncId) (args : Array Value) (τ : Hp) (vs : List Ob) (K : Value → Hp → List Ob → Prop) : Prop :=
 ∀ (w0 : Base) (ρ : Hp) (u : FrameMode), Obs τ ρ vs → ∀ w, Inv w0 ρ w → CallsDIn (Rf none) 0 P g args u w fun e u' w' => u' = u ∧ match e with
  | .returned v => ∃ ρ', Inv w0 ρ' w' ∧ ∃ τ' vs', Obs τ' ρ' vs' ∧ Hp.le τ τ' ∧ K v τ' vs'
  | _ => False
theorem znM {P : Program} {f : FuncId} {fn : Func} {af : zT} {args : List Value} {τ : Hp} {vs : List Ob} {K : Value → Hp → List Ob → Prop} (hm : P.follows .mixedOrders = true) (hf : P.funcs[f]? = some fn) (hs : zS P fn = some af.fn) (ha : (af.body.ok && decide (args.length ≤ af.ntmps)) = true)
  (h : ∀ (w0 : Base) (σ : Hp), Obs τ σ vs → ∀ Q : Exit → Env → Hp → Prop, (∀ e σ' rs τ' vs', resvs e σ' af.results = some rs → Obs τ' σ' vs' → Hp.le τ τ' → K (zch rs) τ' vs' → Q .ret e σ' ∧ Q .normal e σ') → wpn P w0 af.body Q (zbV args) σ) : zeR P f args.toArray τ vs K := by
 simp only [Bool.and_eq_true, decide_eq_true_eq] at ha
 intro w0 σ u hO w hI
 have h0 := zcK (w0 := w0.np) af.body (fun x e σ' => (x = .ret ∨ x = .normal) ∧ ∃ vs, resvs e σ' af.results = some vs ∧ ∃ τ' vs', Obs τ' σ' vs' ∧ Hp.le τ τ' ∧ K (zch vs) τ' vs') (zbV args) σ (fun _ _ _ h => h.elim) ha.1
  (h w0.np σ hO _ fun e σ' rs τ' vs' h1 h2 h3 h4 => ⟨⟨.inl rfl, rs, h1, τ', vs', h2, h3, h4⟩, ⟨.inr rfl, rs, h1, τ', vs', h2, h3, h4⟩⟩)
 unfold zS at hs
 obtain ⟨c, hc, hs⟩ := Option.bind_eq_some_iff.1 hs
 obtain ⟨ac, hac, hs⟩ := Option.bind_eq_some_iff.1 hs
 obtain ⟨rs, hrs, hs⟩ := Option.map_eq_some_iff.1 hs
 injection hs with e1 e2 e3
 have hlen : args.length ≤ fn.ntmps := by rw [e1]; exact ha.2
 have he : zK { tmps := args.toArray ++ Array.replicate (fn.ntmps - args.toArray.size) undef, defers := [] } = zbV args := by
  funext k
  simp only [zK, zbV, Array.getD_eq_getD_getElem?, List.getD_eq_getElem?_getD, Array.getElem?_append, List.size_toArray, Array.getElem?_replicate]
  by_cases hk : k < args.length
  ·simp [hk]
  ·simp only [hk, if_false, List.getElem?_eq_none (show args.length ≤ k from by omega)]
   split <;> rfl
 rw [← e3] at h0
 rw [← e2] at h0
 refine callsDIn_of_wp (F := Rf none) hf hc trivial (wpIn_mono (zfV (w0 := w0.np) hm c ac _ _ w σ hac (by simp; omega) rfl (hI.repan rfl rfl) (he ▸ h0)) fun ex a' w' hq => ?_)
 obtain ⟨hN', hd', hq⟩ := hq
 cases ex with
 | normal =>
  obtain ⟨σ', hI', _, vs, hvs, hk⟩ := hq
  exact ⟨hd'.1, _, zd5 hI' hrs hvs, σ', hI'.repan rfl rfl, hk⟩
 | ret =>
  obtain ⟨σ', hI', _, vs, hvs, hk⟩ := hq
  exact ⟨hd'.1, _, zd5 hI' hrs hvs, σ', hI'.repan rfl rfl, hk⟩
 | panic ch => obtain ⟨_, _, hx, _⟩ := hq; rcases hx with hx | hx <;> cases hx
 | exit id => obtain ⟨_, _, hx, _⟩ := hq; rcases hx with hx | hx <;> cases hx
 | goto l => exact hq.elim
 | outgrown => exact hq.elim
theorem zeR.fr {P : Program} {w0 : Base} {g : FuncId} {args : Array Value} {τ σ : Hp} {hs vs : List Ob} {K : Value → Hp → List Ob → Prop} (u : FrameMode) (hO : Obs τ σ (hs ++ vs)) (hC : zeR P g args τ vs K) :
  zb3 P w0 g args u σ fun u' σ' => u' = u ∧ ∃ v τ' vs', Obs τ' σ' (hs ++ vs') ∧ Hp.le τ τ' ∧ K v τ' vs' := by
 intro w hI
 have := zns (K := K) (M := fun w R => CallsDIn (Rf none) 0 P g args u w fun e u' w' => u' = u ∧ R e w') (fun w R R' hr h => h.mono fun e u' w' ⟨h1, h2⟩ => ⟨h1, hr e w' h2⟩) hO hI (fun w1 ρ _ _ hO1 hI1 => (hC w1 ρ u hO1 w hI1).mono fun e u' w' ⟨h1, h2⟩ => ⟨h1, by
  cases e with
  | returned v => exact h2
  | panicked ch => exact h2.elim
  | outgrown => exact h2⟩)
 refine this.mono fun e u' w' ⟨h1, h2⟩ => ?_
 cases e with
 | returned v =>
  obtain ⟨σ', hI', τ', vs', h3, h4, h5⟩ := h2
  exact ⟨σ', hI', h1, v, τ', vs', h3, h4, h5⟩
 | panicked ch => obtain ⟨_, _, h⟩ := h2; exact h.elim
 | outgrown => exact h2
theorem zb3.mono {P : Program} {w0 : Base} {g : FuncId} {args : Array Value} {u : FrameMode} {σ : Hp} {K K' : FrameMode → Hp → Prop} (h : zb3 P w0 g args u σ K) (hk : ∀ u' σ', K u' σ' → K' u' σ') : zb3 P w0 g args u σ K' := fun w hI => (h w hI).mono fun e u' w' he => by
 cases e with
 | returned v => obtain ⟨σ', h1, h2⟩ := he; exact ⟨σ', h1, hk _ _ h2⟩
 | panicked ch => exact he
 | outgrown => exact he
section
variable {P : Program} {w0 : Base} {Q : Exit → Env → Hp → Prop} {e : Env} {σ : Hp}
def zlK (j : Nat) (xs : List XI) : Bool := (xs.flatMap XI.flat).all fun s => match s.dst with | some d => decide (d ≠ j) | none => true
theorem rE {xs : List XI} (pan : List PanicEntry → Hp → Prop) (j : Nat) (hj : ((zU.reg xs).ok && zlK j xs) = true) (hp : ∀ ch e' σ', pan ch σ' → e' j = e j → Q (.panic ch) e' σ') (h : wpn P ⟨w0.world, w0.hid, pan⟩ (.seq (.reg xs) .skip) Q e σ) : zbD P w0 (zU.reg xs).code Q e σ := by
 simp only [Bool.and_eq_true] at hj
 obtain ⟨ho, hj⟩ := hj
 have hj : ∀ s ∈ xs.flatMap XI.flat, s.dst ≠ some j := fun s hs he => by
  have := List.all_eq_true.1 hj s hs
  rw [he] at this
  simp at this
 have h' : xis P ⟨w0.world, w0.hid, pan⟩ xs e σ (fun e' σ' => Q .normal e' σ') := h
 have h2 := zfM xs e σ ho h'
 have h3 : aops P w0 (xs.flatMap XI.flat) e σ (fun e' σ' => Q .normal e' σ') pan := by
  obtain ⟨W, H, p⟩ := w0
  rw [zgn W H p pan]
  exact h2
 exact zeG (fun _ _ h => h) (fun ch σ' hh e' ha => hp ch e' σ' hh (ha j hj)) _ e σ h3
theorem zce {a b : zU} (h : zbD P w0 a.code (thn (fun e' σ' => zbD P w0 b.code Q e' σ') Q) e σ) : zbD P w0 (zU.seq a b).code Q e σ := h
theorem zgj {id : Nat} {a : zU} (h : zbD P w0 a.code (inb id Q) e σ) : zbD P w0 (zU.block id a).code Q e σ := h
theorem lpE {c : zU} (I : Nat → Env → Hp → Prop) (n : Nat) (h0 : I n e σ) (h : ∀ n e σ, I n e σ → zbD P w0 c.code (thn (fun e' σ' => ∃ n', n' < n ∧ I n' e' σ') Q) e σ) : zbD P w0 (zU.loop c).code Q e σ := ⟨I, ⟨n, h0⟩, h⟩
theorem zjB {c : Opd} {a b : zU} {t : Bool} (ht : ev e c = .bool t) (h1 : t = true → zbD P w0 a.code Q e σ) (h2 : t = false → zbD P w0 b.code Q e σ) : zbD P w0 (zU.cond c a b).code Q e σ := ⟨t, ht, h1, h2⟩
theorem skE (h : Q .normal e σ) : zbD P w0 zU.skip.code Q e σ := h
theorem exE {id : Nat} (h : Q (.exit id) e σ) : zbD P w0 (zU.exit id).code Q e σ := h
end
section
variable {P : Program} {w0 : Base} {e : Env} {τ σ : Hp} {Q : Exit → Env → Hp → Prop} {b : zU} {r : List XI} {d : Option Nat} {os : List Ob} {ty : Nat}
theorem zhk (hO : Obs τ σ os) {n : Nat} {zero : List Value} {parts : List (Nat × Nat × Opd)} {cs : List Value} (hf : zcO zero (parts.map fun p => (p.1, p.2.1, ev e p.2.2)) = some cs)
  (k : ∀ bb σ', Obs τ σ' (os ++ [some (bb, ⟨cs, ty, cs.length, true⟩)]) → wpn P w0 (.seq (.reg r) b) Q (zp e d (.slice (some ⟨bb, 0, none⟩) n n)) σ') : wpn P w0 (.seq (.reg (.s ⟨d, .bslice ty n zero parts, []⟩ :: r)) b) Q e σ := by
 show xis P w0 _ e σ _
 rw [zdh, zhT]
 exact ⟨cs, hf, fun bb hb1 hb0 => k bb _ (hO.add hb1 ⟨cs, ty, cs.length, true⟩)⟩
theorem zb4 {sz n c : Nat} {x i : Opd} {a : Addr} {k : IntKind} {q : Int} (hx : ev e x = .slice (some a) n c) (hi : ev e i = .int k q) (h0 : 0 ≤ q) (h1 : q < n)
  (kk : wpn P w0 (.seq (.reg r) b) Q (zp e d (.pointer (some (a.add (q.toNat * sz))))) σ) : wpn P w0 (.seq (.reg (.s ⟨d, .idx sz x i, []⟩ :: r)) b) Q e σ :=
 zcj fun K hK => by
  simp only [xop, hx, hi]
  exact ⟨h0, h1, rfl, hK _ _ kk⟩
theorem za.ofRow {α : Type} {T : Ty α} {l : List α} {cs : List Value} {bb n s : Nat} (hC : Chunks T τ l cs) (hn : l.length = n) (hs : s = n * T.sz) (hm : n ≤ 1000000) : za T ty τ (.slice (some ⟨bb, 0, none⟩) n n) l (some (bb, ⟨cs, ty, s, true⟩)) :=
 .inr ⟨bb, n, cs, [], by rw [hn], by omega, by unfold maxLen; omega, by rw [List.append_nil, hs], hC⟩
end
abbrev znS : ByteArray := ⟨#[]⟩
abbrev znT : ByteArray := ⟨#[109, 97, 105, 110]⟩
abbrev znU : ByteArray := ⟨#[120]⟩
abbrev znV : ByteArray := ⟨#[43, 32, 45, 32, 42, 32, 47, 32, 37, 32, 61, 61, 33, 61, 60, 32, 60, 61, 62, 32, 62, 61, 38, 38, 124, 124]⟩
abbrev znW : ByteArray := ⟨#[121]⟩
abbrev znX : ByteArray := ⟨#[33]⟩
abbrev znY : ByteArray := ⟨#[45]⟩
abbrev znZ : ByteArray := ⟨#[118]⟩
abbrev zn0 : ByteArray := ⟨#[62]⟩
abbrev zn1 : ByteArray := ⟨#[32]⟩
theorem zn2 {α β γ : Type} : ∀ (_ : α) (_ : β) (_ : γ), False → False := fun _ _ _ h => h
abbrev zos (d k : Nat) : XI := .s ⟨some d, .mv (.t k), []⟩
abbrev zot (d : Nat) (o : AOp) : XI := .s ⟨some d, o, []⟩
abbrev zou (o : AOp) : XI := .s ⟨none, o, []⟩
abbrev zov (d k : Nat) : XJ := ⟨some d, .mv (.t k), []⟩
abbrev zow (d : Nat) (o : AOp) : XJ := ⟨some d, o, []⟩
abbrev zox (d k : Nat) : XI := .s ⟨some d, .load false 1 (.t k), []⟩
abbrev zoy (k : IntKind) (n : Int) : Opd := .c (.int k n)
abbrev zoz (d k : Nat) : XI := .s ⟨some d, .nilchk (.t k), []⟩
abbrev zoA (d q k : Nat) : XI := .s ⟨some d, .faddr q (.t k), []⟩
abbrev zoB (d q k : Nat) : XI := .s ⟨some d, .ext q (.t k), []⟩
abbrev zoC (d : Nat) (b : BinOp) (x y : Opd) : XI := .s ⟨some d, .bin b x y, []⟩
theorem zon {a b : Bool} (h : a = b) : isB (.bool a) false = isB (.bool b) false := h ▸ rfl
theorem zoo {a b : Bool} (h : a = b) : isB (.bool a) true = isB (.bool b) true := h ▸ rfl
theorem zop0 {τ σ : Hp} (h : Obs τ σ []) : Obs τ σ [] := h
theorem zop1 {τ σ : Hp} {a0 : Ob} (h : Obs τ σ [a0]) : Obs τ σ [a0] := h
theorem zop2 {τ σ : Hp} {a0 a1 : Ob} (h : Obs τ σ [a0, a1]) : Obs τ σ [a0, a1] := h
theorem zop3 {τ σ : Hp} {a0 a1 a2 : Ob} (h : Obs τ σ [a0, a1, a2]) : Obs τ σ [a0, a1, a2] := h
theorem zop4 {τ σ : Hp} {a0 a1 a2 a3 : Ob} (h : Obs τ σ [a0, a1, a2, a3]) : Obs τ σ [a0, a1, a2, a3] := h
theorem zop5 {τ σ : Hp} {a0 a1 a2 a3 a4 : Ob} (h : Obs τ σ [a0, a1, a2, a3, a4]) : Obs τ σ [a0, a1, a2, a3, a4] := h
theorem zop6 {τ σ : Hp} {a0 a1 a2 a3 a4 a5 : Ob} (h : Obs τ σ [a0, a1, a2, a3, a4, a5]) : Obs τ σ [a0, a1, a2, a3, a4, a5] := h
theorem zop7 {τ σ : Hp} {a0 a1 a2 a3 a4 a5 a6 : Ob} (h : Obs τ σ [a0, a1, a2, a3, a4, a5, a6]) : Obs τ σ [a0, a1, a2, a3, a4, a5, a6] := h
theorem zop8 {τ σ : Hp} {a0 a1 a2 a3 a4 a5 a6 a7 : Ob} (h : Obs τ σ [a0, a1, a2, a3, a4, a5, a6, a7]) : Obs τ σ [a0, a1, a2, a3, a4, a5, a6, a7] := h
theorem zop9 {τ σ : Hp} {a0 a1 a2 a3 a4 a5 a6 a7 a8 : Ob} (h : Obs τ σ [a0, a1, a2, a3, a4, a5, a6, a7, a8]) : Obs τ σ [a0, a1, a2, a3, a4, a5, a6, a7, a8] := h
theorem zop10 {τ σ : Hp} {a0 a1 a2 a3 a4 a5 a6 a7 a8 a9 : Ob} (h : Obs τ σ [a0, a1, a2, a3, a4, a5, a6, a7, a8, a9]) : Obs τ σ [a0, a1, a2, a3, a4, a5, a6, a7, a8, a9] := h
theorem zop11 {τ σ : Hp} {a0 a1 a2 a3 a4 a5 a6 a7 a8 a9 a10 : Ob} (h : Obs τ σ [a0, a1, a2, a3, a4, a5, a6, a7, a8, a9, a10]) : Obs τ σ [a0, a1, a2, a3, a4, a5, a6, a7, a8, a9, a10] := h
theorem zop12 {τ σ : Hp} {a0 a1 a2 a3 a4 a5 a6 a7 a8 a9 a10 a11 : Ob} (h : Obs τ σ [a0, a1, a2, a3, a4, a5, a6, a7, a8, a9, a10, a11]) : Obs τ σ [a0, a1, a2, a3, a4, a5, a6, a7, a8, a9, a10, a11] := h
end Go.Ab
