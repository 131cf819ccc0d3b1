import Derived.Test.YtnhboaaikehpoaaAb
import Derived.ChangeSlices
import Derived.ChangeArms
import Derived.SizedLaws
import Derived.RangeFuncLeaves
import Derived.RangeFuncKeeps
import Derived.DefersIn
import Derived.RecoverIn
namespace Go.Ab
open Go.RowKit
set_option linter.unusedVariables false
set_option linter.unusedSimpArgs false
theorem zce {x : Int} (h : -9223372036854775808 ≤ x ∧ x ≤ 9223372036854775807) : IntKind.i64.wrap x = x := by
 show (if (true && decide (x % 18446744073709551616 ≥ 9223372036854775808)) = true then x % 18446744073709551616 - 18446744073709551616 else x % 18446744073709551616) = x
 split <;> rename_i h1 <;> simp at h1 <;> omega
theorem zqA (x : Int) : IntKind.u8.wrap x = x % 256 := by
 show (if (false && decide (x % 256 ≥ 128)) = true then x % 256 - 256 else x % 256) = _
 simp
theorem zr0 (x : Int) : IntKind.i64.wrap x = (x + 9223372036854775808) % 18446744073709551616 - 9223372036854775808 := by
 show (if (true && decide (x % 18446744073709551616 ≥ 9223372036854775808)) = true then x % 18446744073709551616 - 18446744073709551616 else x % 18446744073709551616) = _
 split <;> rename_i h1 <;> simp at h1 <;> omega
def Ty.Flat {α : Type} (T : Ty α) : Prop := ∀ σ σ' x cs, T.R σ x cs → T.R σ' x cs
theorem Chunks.flat {α : Type} {T : Ty α} (hf : T.Flat) {σ σ' : Hp} : ∀ {l : List α} {cs : List Value}, Chunks T σ l cs → Chunks T σ' l cs
 | [], cs, h => h
 | x :: l, cs, h => by
  obtain ⟨c, r, rfl, h1, h2⟩ := h
  exact ⟨c, r, rfl, hf _ _ _ _ h1, Chunks.flat hf h2⟩
theorem Ty.sc_flat {α : Type} (f : α → Value) (h : ∀ x, Ab.one (f x) = true) : (Ty.sc f h).Flat := fun _ _ _ _ h => h
section
variable {P : Program} {w0 : Base}
theorem zgs {K K' : Env → Hp → Prop} (hk : ∀ e σ, K e σ → K' e σ) : ∀ (l : List XI) (e : Env) (σ : Hp), xis P w0 l e σ K → xis P w0 l e σ K'
 | [], e, σ, h => hk _ _ h
 | .s x :: r, e, σ, h => zfA h fun v σ' hv => ⟨hv.1, zgs hk r _ _ hv.2⟩
 | .g t b l :: r, e, σ, h => ⟨fun hb => zij (fun e σ h => zgs hk r e σ h) l e σ (h.1 hb), fun hb => ⟨(h.2 hb).1, zgs hk r _ _ (h.2 hb).2⟩⟩
theorem zmH {s : ASt} {e : Env} {σ : Hp} {K K' : Env → Hp → Prop} (h : xstep P w0 s e σ K) (hk : ∀ e σ, K e σ → K' e σ) : xstep P w0 s e σ K' := by
 unfold xstep at h ⊢
 split at h
 ·exact zfA h fun v σ' hv => hk _ _ hv
 ·exact ⟨fun hb => zfA (h.1 hb) fun v σ' hv => hk _ _ hv, fun hb => hk _ _ (h.2 hb)⟩
theorem zhU {K K' : Env → Hp → Prop} (hk : ∀ e σ, K e σ → K' e σ) : ∀ (t : zbT) (e : Env) (σ : Hp), xtree P w0 t e σ K → xtree P w0 t e σ K'
 | .done, e, σ, h => hk _ _ h
 | .top, e, σ, h => trivial
 | .quiet s k, e, σ, h => zmH h fun e σ h => zhU hk k e σ h
 | .eff s st k, e, σ, h => zmH h fun e σ h => ⟨h.1, zhU hk k e σ h.2⟩
 | .both a b, e, σ, h => ⟨zhU hk a e σ h.1, zhU hk b e σ h.2⟩
theorem zdt : ∀ (c : zbA) (Q Q' : Exit → Env → Hp → Prop) (e : Env) (σ : Hp), wpn P w0 c Q e σ → (∀ x e σ, Q x e σ → Q' x e σ) → wpn P w0 c Q' e σ
 | .skip, Q, Q', e, σ, h, hq => hq _ _ _ h
 | .reg l, Q, Q', e, σ, h, hq => zgs (fun e σ h => hq _ _ _ h) l e σ h
 | .par l, Q, Q', e, σ, h, hq => zgs (fun e σ h => hq _ _ _ h) l e σ h
 | .parT t, Q, Q', e, σ, h, hq => zhU (fun e σ h => hq _ _ _ h) t e σ h
 | .seq a b, Q, Q', e, σ, h, hq => zdt a _ _ e σ h fun x e σ h => by
  cases x with
  | normal => exact zdt b Q Q' e σ h hq
  | _ => exact hq _ _ _ h
 | .cond c a b, Q, Q', e, σ, h, hq => by
  obtain ⟨t, h1, h2, h3⟩ := h
  exact ⟨t, h1, fun ht => zdt a Q Q' e σ (h2 ht) hq, fun ht => zdt b Q Q' e σ (h3 ht) hq⟩
 | .block id c, Q, Q', e, σ, h, hq => zdt c _ _ e σ h fun x e σ h => by
  cases x with
  | exit k =>
   simp only [inb] at h ⊢
   split
   ·rename_i hk; rw [if_pos hk] at h; exact hq _ _ _ h
   ·rename_i hk; rw [if_neg hk] at h; exact hq _ _ _ h
  | _ => exact hq _ _ _ h
 | .loop c, Q, Q', e, σ, h, hq => by
  obtain ⟨I, h1, h2⟩ := h
  exact ⟨I, h1, fun n e σ hI => zdt c _ _ e σ (h2 n e σ hI) fun x e σ h => by
   cases x with
   | normal => exact h
   | _ => exact hq _ _ _ h⟩
 | .exit id, Q, Q', e, σ, h, hq => hq _ _ _ h
 | .ret, Q, Q', e, σ, h, hq => hq _ _ _ h
theorem zi {a b c : zbA} {Q : Exit → Env → Hp → Prop} {e : Env} {σ : Hp} (h : wpn P w0 (.seq a (.seq b c)) Q e σ) : wpn P w0 (.seq (.seq a b) c) Q e σ :=
 zdt a _ _ e σ h fun x e σ h => by
  cases x with
  | normal => exact zdt b _ _ e σ h fun x e σ h => by cases x <;> exact h
  | _ => exact h
section
variable {b : zbA} {Q : Exit → Env → Hp → Prop} {e : Env} {σ : Hp} {d : Option Nat} {op : AOp} {r : List XI}
theorem zcJ (h : ∀ K : Value → Hp → Prop, (∀ v σ', wpn P w0 (.seq (.reg r) b) Q (zD e d v) σ' → K v σ') → xop P w0 op e σ K) : wpn P w0 (.seq (.reg (.s ⟨d, op, []⟩ :: r)) b) Q e σ := by
 show xis P w0 (.s ⟨d, op, []⟩ :: r) e σ (fun e' σ' => wpn P w0 b Q e' σ')
 rw [zec]
 exact h _ fun _ _ h => h
theorem zc (h : wpn P w0 b Q e σ) : wpn P w0 (.seq (.reg []) b) Q e σ := h
theorem zb9 {l : List XI} (h : wpn P w0 (.seq (.reg l) b) Q e σ) : wpn P w0 (.seq (.par l) b) Q e σ := h
theorem z3 {l : List XI} (h : wpn P w0 (.seq (.reg l) .skip) Q e σ) : wpn P w0 (.reg l) Q e σ := h
theorem zfO {l : List XI} (h : wpn P w0 (.seq (.reg l) .skip) Q e σ) : wpn P w0 (.par l) Q e σ := h
theorem zl1 : ∀ (l : List XJ) (e : Env) (σ : Hp) (K : Env → Hp → Prop), xis P w0 (l.map (fun x => .s ⟨x.d, x.op, x.st⟩) ++ r) e σ K → xjs P w0 l e σ (fun e' σ' => xis P w0 r e' σ' K)
 | [], e, σ, K, h => h
 | x :: l, e, σ, K, h => zfA h fun v σ' hv => ⟨hv.1, zl1 l _ _ _ hv.2⟩
theorem zF {t : Nat} {w : Bool} {l : List XJ} (hb : isB (e t) w = true) (h : wpn P w0 (.seq (.reg (l.map (fun x => .s ⟨x.d, x.op, x.st⟩) ++ r)) b) Q e σ) : wpn P w0 (.seq (.reg (.g t w l :: r)) b) Q e σ :=
 ⟨fun _ => zl1 l e σ _ h, (fun h0 => by rw [hb] at h0; cases h0)⟩
theorem zI {t : Nat} {w : Bool} {l : List XJ} (hb : isB (e t) w = false) (h : wpn P w0 (.seq (.reg r) b) Q (undefs l e) σ) (hst : (l.all fun x => x.st.isEmpty) = true := by decide) : wpn P w0 (.seq (.reg (.g t w l :: r)) b) Q e σ :=
 ⟨(fun h0 => by rw [hb] at h0; cases h0), fun _ => ⟨zkY l e σ hst, h⟩⟩
theorem zk5 {c : Opd} {x y : zbA} (hb : ev e c = .bool true) (h : wpn P w0 (.seq x b) Q e σ) : wpn P w0 (.seq (.cond c x y) b) Q e σ := ⟨true, hb, fun _ => h, fun h0 => nomatch h0⟩
theorem zm2 {c : Opd} {x y : zbA} (hb : ev e c = .bool false) (h : wpn P w0 (.seq y b) Q e σ) : wpn P w0 (.seq (.cond c x y) b) Q e σ := ⟨false, hb, (fun h0 => nomatch h0), fun _ => h⟩
theorem zg (h : Q .normal e σ) : wpn P w0 .skip Q e σ := h
theorem zA (h : wpn P w0 b Q e σ) : wpn P w0 (.seq .skip b) Q e σ := h
theorem zbi (h : Q .ret e σ) : wpn P w0 (.seq .ret b) Q e σ := h
theorem zbs {id : Nat} (h : Q (.exit id) e σ) : wpn P w0 (.seq (.exit id) b) Q e σ := h
theorem zbm {c : Opd} {x y : zbA} (h : wpn P w0 (.seq (.cond c x y) .skip) Q e σ) : wpn P w0 (.cond c x y) Q e σ := by
 obtain ⟨t, h1, h2, h3⟩ := h
 have hq : ∀ x : zbA, wpn P w0 x (thn (fun e' σ' => wpn P w0 .skip Q e' σ') Q) e σ → wpn P w0 x Q e σ := fun x h => zdt x _ _ e σ h fun x e σ h => by cases x <;> exact h
 exact ⟨t, h1, fun ht => hq _ (h2 ht), fun ht => hq _ (h3 ht)⟩
theorem zbU {id : Nat} {c : zbA} (h : wpn P w0 (.seq (.block id c) .skip) Q e σ) : wpn P w0 (.block id c) Q e σ :=
 zdt (.block id c) _ _ e σ h fun x e σ h => by cases x <;> exact h
end
end
section
variable {P : Program} {w0 : Base} {b : zbA} {Q : Exit → Env → Hp → Prop} {e : Env} {σ : Hp} {d : Option Nat} {r : List XI}
theorem zl3 {ty len : Nat} {cells : List Value} {parts : List (Nat × Nat × Opd)} {K : Value → Hp → Prop} : xop P w0 (.bslice ty len cells parts) e σ K = aop P w0 (.bslice ty len cells parts) e σ K w0.pan := rfl
theorem zle {ty n bytes : Nat} {s x : Opd} {K : Value → Hp → Prop} : xop P w0 (.app ty n bytes s x) e σ K = aop P w0 (.app ty n bytes s x) e σ K w0.pan := rfl
theorem RdT.slc {α : Type} {T : Ty α} {σ : Hp} {A : Option Addr} {n c : Nat} {l : List α} (h : RdT T σ (.slice A n c) l) {lo hi : Nat} (h1 : lo ≤ hi) (h2 : hi ≤ l.length) : RdT T σ (.slice (if c = lo then A else A.map (·.add (lo * T.sz))) (hi - lo) (c - lo)) ((l.take hi).drop lo) := by
 obtain ⟨A', c', hv, hc⟩ := h.form
 injection hv with hA hn hc'
 subst hA; subst hn; subst hc'
 have hC := h
 obtain ⟨cells, hR, hK⟩ := h
 obtain ⟨A', c', hv, g1, g2, g3⟩ := hR
 injection hv with hA _ hc'
 subst hA; subst hc'
 have hlen : ((l.take hi).drop lo).length = hi - lo := by simp; omega
 refine ⟨_, ⟨_, c - lo, by rw [hlen], by rw [hlen]; omega, ?_, ?_⟩, (hK.take hi).drop lo⟩
 ·exact ((hK.take hi).drop lo).len
 ·intro j u hu
  have hz := ((hK.take hi).drop lo).len
  rw [hlen] at hz
  have hj : j < (hi - lo) * T.sz := by rw [← hz]; exact (List.getElem?_eq_some_iff.1 hu).1
  have hne : ¬ c = lo := fun he => by
   rw [show hi - lo = 0 from by omega, Nat.zero_mul] at hj; omega
  rw [List.getElem?_drop, List.getElem?_take] at hu
  split at hu
  ·obtain ⟨a, rfl, hl⟩ := g3 _ _ hu
   refine ⟨_, by rw [if_neg hne]; rfl, ?_⟩
   rw [zfE]; exact hl
  ·cases hu
end
def foreign (W : World) : Hp := fun b => match W.heap[b]? with
 | some (.cells cs ty _) => some ⟨cs.toList, ty, cs.size, false⟩
 | _ => none
theorem Inv.start (W : World) : Inv (base W) (foreign W) W := by
 refine ⟨Below.refl _ _, fun b o h => (nomatch h), fun b r hb => ?_⟩
 unfold foreign at hb
 split at hb
 ·rename_i cs ty fr hw
  injection hb with hb
  subst hb
  exact ⟨cs, fr, hw, rfl, List.prefix_refl _, fun h => by cases h⟩
 ·cases hb
theorem zmt {W : World} {a : Addr} {v : Value} (h : W.cell? a = some v) : look (foreign W) a = some v := by
 unfold World.cell? at h
 split at h
 ·rename_i cs ty fr hw
  split at h
  ·cases h
  ·rename_i hs
   unfold look foreign
   rw [if_neg hs, hw]
   show cs.toList[a.off]? = some v
   rw [Array.getElem?_toList]
   exact h
 ·cases h
theorem ACalls.row {P : Program} {W : World} {f : FuncId} {args : Array Value} {K : Value → Hp → Prop} (h : ACalls P (base W) f args (foreign W) K zc3) : Calls P f args W fun e W' => ∃ v, e = .returned v ∧ Below W.heap.size W W' ∧ ∃ σ', K v σ' :=
 (h W (Inv.start W)).mono fun e w' he => by
  cases e with
  | returned v => obtain ⟨σ', hI, hk⟩ := he; exact ⟨v, rfl, hI.below, σ', hk⟩
  | panicked ch => obtain ⟨σ', hI, hk⟩ := he; exact hk.elim
  | outgrown => exact he.elim
theorem zpB {n : Int} (h : (Lit.int .i64 n).wf = true) : -9223372036854775808 ≤ n ∧ n ≤ 9223372036854775807 := by
 simp [Lit.wf, IntKind.min, IntKind.max, IntKind.signed, IntKind.bits] at h
 omega
theorem wf_u8 {n : Int} (h : (Lit.int .u8 n).wf = true) : 0 ≤ n ∧ n < 256 := by
 simp [Lit.wf, IntKind.min, IntKind.max, IntKind.signed, IntKind.bits] at h
 omega
theorem Chunks.u8 {σ : Hp} : ∀ (l : List UInt8), Chunks Ty.u8 σ l (l.map fun b => .int .u8 b.toNat)
 | [] => rfl
 | b :: l => ⟨[.int .u8 b.toNat], _, rfl, rfl, Chunks.u8 l⟩
abbrev Ob := Option (Nat × Row)
structure Obs (τ σ : Hp) (os : List Ob) : Prop where
 base : Hp.le τ σ
 row : ∀ (i b : Nat) (r : Row), os[i]? = some (some (b, r)) → σ b = some r ∧ τ b = none
 apart : ∀ (i j b : Nat) (r r' : Row), os[i]? = some (some (b, r)) → os[j]? = some (some (b, r')) → i = j
section
variable {τ σ σ' : Hp} {os : List Ob}
theorem Obs.nil (σ : Hp) : Obs σ σ [] := ⟨Hp.le.refl σ, fun i b r h => by simp at h, fun i j b r r' h => by simp at h⟩
theorem Obs.mono (h : Obs τ σ os) (hle : Hp.le σ σ') : Obs τ σ' os := ⟨h.base.trans hle, fun i b r e => ⟨hle _ _ (h.row i b r e).1, (h.row i b r e).2⟩, h.apart⟩
theorem Obs.add (h : Obs τ σ os) {b : Nat} (hb : σ b = none) (r : Row) : Obs τ (σ.set b r) (os ++ [some (b, r)]) := by
 have hne : ∀ {k q}, σ k = some q → k ≠ b := fun h he => by subst he; rw [hb] at h; cases h
 refine ⟨h.base.trans (Hp.le_set hb), fun i c q e => ?_, fun i j c q q' e1 e2 => ?_⟩
 ·rw [List.getElem?_append] at e
  split at e
  ·obtain ⟨h1, h2⟩ := h.row i c q e
   exact ⟨by rw [Hp.set_ne _ _ (hne h1)]; exact h1, h2⟩
  ·cases hi : i - os.length with
   | zero =>
    rw [hi] at e
    simp at e
    obtain ⟨rfl, rfl⟩ := e
    refine ⟨Hp.set_eq _ _ _, ?_⟩
    cases hτ : τ b with
    | none => rfl
    | some x => exact absurd rfl (hne (h.base _ _ hτ))
   | succ k => rw [hi] at e; simp at e
 ·have key : ∀ (i : Nat) (q : Row), (os ++ [some (b, r)])[i]? = some (some (c, q)) → (i < os.length ∧ os[i]? = some (some (c, q))) ∨ (i = os.length ∧ c = b) := fun i q e => by
   rw [List.getElem?_append] at e
   split at e
   ·rename_i hi; exact .inl ⟨hi, e⟩
   ·rename_i hi
    cases hi' : i - os.length with
    | zero =>
     rw [hi'] at e
     simp at e
     exact .inr ⟨by omega, e.1.symm⟩
    | succ k => rw [hi'] at e; simp at e
  rcases key i q e1 with ⟨hi, k1⟩ | ⟨hi, k1⟩ <;> rcases key j q' e2 with ⟨hj, k2⟩ | ⟨hj, k2⟩
  ·exact h.apart i j c q q' k1 k2
  ·exact absurd k2 (hne (h.row _ _ _ k1).1)
  ·exact absurd k1 (hne (h.row _ _ _ k2).1)
  ·omega
theorem Obs.no (h : Obs τ σ os) : Obs τ σ (os ++ [none]) := by
 have key : ∀ (i c : Nat) (q : Row), (os ++ [none])[i]? = some (some (c, q)) → os[i]? = some (some (c, q)) := fun i c q e => by
  rw [List.getElem?_append] at e
  split at e
  ·exact e
  ·cases hi' : i - os.length with
   | zero => rw [hi'] at e; simp at e
   | succ k => rw [hi'] at e; simp at e
 exact ⟨h.base, fun i c q e => h.row i c q (key i c q e), fun i j c q q' e1 e2 => h.apart i j c q q' (key _ _ _ e1) (key _ _ _ e2)⟩
theorem Obs.sel (h : Obs τ σ os) (is : List Nat) (hn : is.Nodup := by decide) : Obs τ σ (is.map fun i => os.getD i none) := by
 have key : ∀ (i c : Nat) (q : Row), (is.map fun i => os.getD i none)[i]? = some (some (c, q)) → ∃ k, is[i]? = some k ∧ os[k]? = some (some (c, q)) := fun i c q e => by
  rw [List.getElem?_map] at e
  obtain ⟨k, hk, e⟩ := Option.map_eq_some_iff.1 e
  refine ⟨k, hk, ?_⟩
  rw [List.getD_eq_getElem?_getD] at e
  cases ho : os[k]? with
  | none => rw [ho] at e; cases e
  | some x => rw [ho] at e; simp at e; rw [e]
 refine ⟨h.base, fun i c q e => ?_, fun i j c q q' e1 e2 => ?_⟩
 ·obtain ⟨k, _, hk⟩ := key i c q e
  exact h.row k c q hk
 ·obtain ⟨k1, a1, h1⟩ := key i c q e1
  obtain ⟨k2, a2, h2⟩ := key j c q' e2
  have := h.apart k1 k2 c q q' h1 h2
  subst this
  exact (List.getElem?_inj (List.getElem?_eq_some_iff.1 a1).1 hn).1 (a1.trans a2.symm)
theorem Obs.put (h : Obs τ σ os) {i b : Nat} {r : Row} (hi : os[i]? = some (some (b, r))) (r' : Row) : Obs τ (σ.set b r') (os.set i (some (b, r'))) := by
 have hil := (List.getElem?_eq_some_iff.1 hi).1
 have key : ∀ (k c : Nat) (q : Row), (os.set i (some (b, r')))[k]? = some (some (c, q)) → (k = i ∧ c = b ∧ q = r') ∨ (k ≠ i ∧ os[k]? = some (some (c, q))) := fun k c q e => by
  rw [List.getElem?_set] at e
  split at e
  ·rename_i hk
   subst hk
   simp at e
   exact .inl ⟨rfl, e.1.symm, e.2.symm⟩
  ·rename_i hk
   exact .inr ⟨fun h => hk h.symm, e⟩
 refine ⟨fun c q e => ?_, fun k c q e => ?_, fun k l c q q' e1 e2 => ?_⟩
 ·rw [Hp.set_ne _ _ (fun he => by subst he; rw [(h.row _ _ _ hi).2] at e; cases e)]
  exact h.base c q e
 ·rcases key k c q e with ⟨rfl, rfl, rfl⟩ | ⟨hk, e3⟩
  ·exact ⟨Hp.set_eq _ _ _, (h.row _ _ _ hi).2⟩
  ·obtain ⟨h1, h2⟩ := h.row k c q e3
   refine ⟨?_, h2⟩
   rw [Hp.set_ne _ _ (fun he => by subst he; exact hk (h.apart k i c q r e3 hi))]
   exact h1
 ·rcases key k c q e1 with ⟨rfl, rfl, rfl⟩ | ⟨hk, e3⟩ <;> rcases key l c q' e2 with ⟨rfl, h5, rfl⟩ | ⟨hl, e4⟩
  ·rfl
  ·exact absurd (h.apart _ _ _ _ _ hi e4) (fun he => hl he.symm)
  ·subst h5; exact absurd (h.apart _ _ _ _ _ e3 hi) hk
  ·exact h.apart _ _ _ _ _ e3 e4
theorem Obs.share (h : Obs τ σ os) {i b : Nat} {r : Row} (hi : os[i]? = some (some (b, r))) : Hp.le τ (τ.set b r) ∧ Obs (τ.set b r) σ (os.set i none) := by
 obtain ⟨hs, ht⟩ := h.row _ _ _ hi
 have key : ∀ (k c : Nat) (q : Row), (os.set i none)[k]? = some (some (c, q)) → k ≠ i ∧ os[k]? = some (some (c, q)) := fun k c q e => by
  rw [List.getElem?_set] at e
  split at e
  ·split at e <;> simp at e
  ·rename_i hk; exact ⟨fun h => hk h.symm, e⟩
 refine ⟨Hp.le_set ht, fun c q e => ?_, fun k c q e => ?_, fun k l c q q' e1 e2 => h.apart k l c q q' (key _ _ _ e1).2 (key _ _ _ e2).2⟩
 ·by_cases hc : c = b
  ·subst hc
   rw [Hp.set_eq] at e
   injection e with e
   subst e
   exact hs
  ·rw [Hp.set_ne _ _ hc] at e
   exact h.base c q e
 ·obtain ⟨hk, e⟩ := key k c q e
  obtain ⟨h1, h2⟩ := h.row k c q e
  refine ⟨h1, ?_⟩
  rw [Hp.set_ne _ _ (fun he => by subst he; exact hk (h.apart k i c q r e hi))]
  exact h2
end
def Ctr (P : Program) (f : FuncId) (args : Array Value) (τ : Hp) (vs : List Ob) (K : Value → Hp → List Ob → Prop) : Prop :=
 ∀ (w0 : Base) (ρ : Hp), Obs τ ρ vs → ACalls P w0 f args ρ (fun v ρ' => ∃ τ' vs', Obs τ' ρ' vs' ∧ Hp.le τ τ' ∧ K v τ' vs') zc3
theorem ACalls.fr {P : Program} {w0 : Base} {f : FuncId} {args : Array Value} {τ σ : Hp} {hs vs : List Ob} {K : Value → Hp → List Ob → Prop} (hO : Obs τ σ (hs ++ vs)) (hC : Ctr P f args τ vs K) :
  ACalls P w0 f args σ (fun v σ' => ∃ τ' vs', Obs τ' σ' (hs ++ vs') ∧ Hp.le τ τ' ∧ K v τ' vs') zc3 := by
 intro w hI
 classical
 have hrow : ∀ (i b : Nat) (r : Row), hs[i]? = some (some (b, r)) → σ b = some r ∧ τ b = none := fun i b r e => hO.row i b r (by rw [List.getElem?_append_left (List.getElem?_eq_some_iff.1 e).1]; exact e)
 have vrow : ∀ (i b : Nat) (r : Row), vs[i]? = some (some (b, r)) → (hs ++ vs)[hs.length + i]? = some (some (b, r)) := fun i b r e => by rw [List.getElem?_append_right (by omega), Nat.add_sub_cancel_left]; exact e
 let H : Nat → Prop := fun b => ∃ (i : Nat) (r : Row), hs[i]? = some (some (b, r))
 let w1 : Base := { world := w0.world, hid := fun b => if H b then w.heap[b]? else w0.hid b }
 let ρ : Hp := fun b => if H b then none else σ b
 have hρ : Obs τ ρ vs := by
  refine ⟨fun b r e => ?_, fun i b r e => ?_, fun i j b r r' e1 e2 => ?_⟩
  ·have hn : ¬ H b := fun ⟨i, q, h⟩ => by rw [(hrow i b q h).2] at e; cases e
   simp only [ρ, if_neg hn]
   exact hO.base b r e
  ·obtain ⟨h1, h2⟩ := hO.row _ b r (vrow i b r e)
   have hn : ¬ H b := fun ⟨k, q, h⟩ => by
    have hk := (List.getElem?_eq_some_iff.1 h).1
    have := hO.apart k (hs.length + i) b q r (by rw [List.getElem?_append_left hk]; exact h) (vrow i b r e)
    omega
   exact ⟨by simp only [ρ, if_neg hn]; exact h1, h2⟩
  ·have := hO.apart _ _ b r r' (vrow i b r e1) (vrow j b r' e2)
   omega
 have hI1 : Inv w1 ρ w := by
  refine ⟨hI.below, fun b o ho => ?_, fun b r hb => ?_⟩
  ·by_cases hH : H b
   ·simp only [w1, if_pos hH] at ho
    exact ⟨by simp only [ρ, if_pos hH], ho⟩
   ·simp only [w1, if_neg hH] at ho
    exact ⟨by simp only [ρ, if_neg hH]; exact (hI.hid b o ho).1, (hI.hid b o ho).2⟩
  ·by_cases hH : H b
   ·simp only [ρ, if_pos hH] at hb; cases hb
   ·simp only [ρ, if_neg hH] at hb
    exact hI.row b r hb
 refine (hC w1 ρ hρ w hI1).mono fun e w' he => ?_
 cases e with
 | panicked ch => obtain ⟨_, _, h⟩ := he; exact h.elim
 | outgrown => exact he
 | returned v =>
  obtain ⟨ρ', hI', τ', vs', hO', hle, hK⟩ := he
  have hH' : ∀ b, H b → ρ' b = none ∧ w'.heap[b]? = w.heap[b]? := fun b hH => by
   obtain ⟨i, r, hi⟩ := hH
   obtain ⟨cs, fr, hw, _⟩ := hI.row b r (hrow i b r hi).1
   have := hI'.hid b _ (show w1.hid b = some _ from by simp only [w1, if_pos (show H b from ⟨i, r, hi⟩)]; exact hw)
   exact ⟨this.1, by rw [this.2, hw]⟩
  refine ⟨fun b => if H b then σ b else ρ' b, ⟨hI'.below, fun b o ho => ?_, fun b r hb => ?_⟩, τ', vs', ⟨fun b r e => ?_, fun i b r e => ?_, fun i j b r r' e1 e2 => ?_⟩, hle, hK⟩
  ·have hn : ¬ H b := fun ⟨i, q, h⟩ => by have := (hI.hid b o ho).1; rw [(hrow i b q h).1] at this; cases this
   have := hI'.hid b o (show w1.hid b = some o from by simp only [w1, if_neg hn]; exact ho)
   exact ⟨by simp only [if_neg hn]; exact this.1, this.2⟩
  ·by_cases hH : H b
   ·simp only [if_pos hH] at hb
    obtain ⟨cs, fr, hw, h1⟩ := hI.row b r hb
    exact ⟨cs, fr, by rw [(hH' b hH).2]; exact hw, h1⟩
   ·simp only [if_neg hH] at hb
    exact hI'.row b r hb
  ·have := hO'.base b r e
   have hn : ¬ H b := fun h => by rw [(hH' b h).1] at this; cases this
   simp only [if_neg hn]
   exact this
  ·rw [List.getElem?_append] at e
   split at e
   ·have hH : H b := ⟨i, r, e⟩
    simp only [if_pos hH]
    refine ⟨(hrow i b r e).1, ?_⟩
    cases ht : τ' b with
    | none => rfl
    | some q => have := hO'.base b q ht; rw [(hH' b hH).1] at this; cases this
   ·obtain ⟨h1, h2⟩ := hO'.row _ b r e
    have hn : ¬ H b := fun h => by rw [(hH' b h).1] at h1; cases h1
    simp only [if_neg hn]
    exact ⟨h1, h2⟩
  ·rw [List.getElem?_append] at e1 e2
   split at e1 <;> split at e2
   ·rename_i hi hj
    exact hO.apart i j b r r' (by rw [List.getElem?_append_left hi]; exact e1) (by rw [List.getElem?_append_left hj]; exact e2)
   ·have h1 := (hO'.row _ b r' e2).1; rw [(hH' b ⟨i, r, e1⟩).1] at h1; cases h1
   ·have h1 := (hO'.row _ b r e1).1; rw [(hH' b ⟨j, r', e2⟩).1] at h1; cases h1
   ·have := hO'.apart _ _ b r r' e1 e2
    omega
def ze {α : Type} (T : Ty α) (ty : Nat) (τ : Hp) (v : Value) (l : List α) (o : Ob) : Prop :=
 (v = .slice none 0 0 ∧ l = [] ∧ o = none) ∨ ∃ b cap cells rest, v = .slice (some ⟨b, 0, none⟩) l.length cap ∧ l.length ≤ cap ∧ cap ≤ maxLen ∧ o = some (b, ⟨cells ++ rest, ty, cap * T.sz, true⟩) ∧ Chunks T τ l cells
section
variable {α : Type} {T : Ty α} {ty : Nat} {τ τ' σ : Hp} {v : Value} {l : List α} {o : Ob} {os : List Ob}
theorem ze.nil (T : Ty α) (ty : Nat) (τ : Hp) : ze T ty τ (.slice none 0 0) [] none := .inl ⟨rfl, rfl, rfl⟩
theorem ze.le (h : ze T ty τ v l o) (hle : Hp.le τ τ') : ze T ty τ' v l o := by
 rcases h with h | ⟨b, cap, cells, rest, h1, h2, h3, h4, h5⟩
 ·exact .inl h
 ·exact .inr ⟨b, cap, cells, rest, h1, h2, h3, h4, h5.mono hle⟩
theorem ze.form (h : ze T ty τ v l o) : ∃ A c, v = .slice A l.length c ∧ l.length ≤ c := by
 rcases h with ⟨rfl, rfl, _⟩ | ⟨b, cap, cells, rest, rfl, h2, _⟩
 ·exact ⟨none, 0, rfl, Nat.le_refl _⟩
 ·exact ⟨_, cap, rfl, h2⟩
theorem ze.rd (h : ze T ty τ v l o) {i : Nat} (hO : Obs τ σ os) (hi : os[i]? = some o) : RdT T σ v l := by
 rcases h with ⟨rfl, rfl, rfl⟩ | ⟨b, cap, cells, rest, rfl, h2, h3, rfl, h5⟩
 ·exact RdT.nil T σ
 ·obtain ⟨h1, _⟩ := hO.row i b _ hi
  refine ⟨cells, ⟨_, cap, rfl, h2, h5.len, fun j u hu => ⟨_, rfl, ?_⟩⟩, h5.mono hO.base⟩
  rw [zcH, Nat.zero_add]
  simp only [look, h1, Option.isSome_none, Bool.false_eq_true, if_false, Option.bind_some]
  rw [List.getElem?_append_left (List.getElem?_eq_some_iff.1 hu).1]
  exact hu
theorem ze.x (h : ze T ty τ v l o) {i : Nat} (hO : Obs τ σ os) (hi : os[i]? = some o) : ∃ cells, zdk ty T.sz σ v l.length cells ∧ Chunks T τ l cells := by
 rcases h with ⟨rfl, rfl, rfl⟩ | ⟨b, cap, cells, rest, rfl, h2, h3, rfl, h5⟩
 ·exact ⟨[], ⟨by simp, .inl ⟨rfl, rfl⟩⟩, rfl⟩
 ·exact ⟨cells, ⟨h5.len, .inr ⟨b, cap, rest, rfl, h2, h3, (hO.row i b _ hi).1⟩⟩, h5⟩
theorem ze.share (h : ze T ty τ v l o) {i : Nat} (hO : Obs τ σ os) (hi : os[i]? = some o) : ∃ τ', Hp.le τ τ' ∧ RdT T τ' v l ∧ Obs τ' σ (os.set i none) := by
 rcases h with ⟨rfl, rfl, rfl⟩ | ⟨b, cap, cells, rest, rfl, h2, h3, rfl, h5⟩
 ·refine ⟨τ, Hp.le.refl _, RdT.nil T τ, ?_⟩
  have : os.set i none = os := by
   apply List.ext_getElem?
   intro k
   rw [List.getElem?_set]
   split
   ·rename_i hk; subst hk; rw [if_pos (List.getElem?_eq_some_iff.1 hi).1, hi]
   ·rfl
  rw [this]
  exact hO
 ·obtain ⟨hle, hO'⟩ := hO.share hi
  refine ⟨_, hle, ⟨cells, ⟨_, cap, rfl, h2, h5.len, fun j u hu => ⟨_, rfl, ?_⟩⟩, h5.mono hle⟩, hO'⟩
  rw [zcH, Nat.zero_add, zjp]
  show (cells ++ rest)[j]? = some u
  rw [List.getElem?_append_left (List.getElem?_eq_some_iff.1 hu).1]
  exact hu
theorem ze.blk_eq (h : ze T ty τ v l o) : blk v = o.map (·.1) := by
 rcases h with ⟨rfl, rfl, rfl⟩ | ⟨b, cap, cells, rest, rfl, h2, h3, rfl, h5⟩ <;> rfl
theorem ze.grow (h : ze T ty τ v l o) {i n : Nat} (hO : Obs τ σ os) (hi : os[i]? = some o) {σ' : Hp} {v' : Value} {cells' : List Value} {l' : List α} (hg : Grow σ v σ' v') (hx : zeF ty T.sz σ' v' l'.length cells') (hC : Chunks T τ l' cells') :
  ∃ o', ze T ty τ v' l' o' ∧ Obs τ σ' (os.set i o') := by
 have hil := (List.getElem?_eq_some_iff.1 hi).1
 have hbv := h.blk_eq
 have off : ∀ (k b : Nat) (r : Row), k ≠ i → os[k]? = some (some (b, r)) → blk v ≠ some b := fun k b r hk hb he => by
  rw [hbv] at he
  cases o with
  | none => cases he
  | some p =>
   obtain ⟨c, q⟩ := p
   simp at he
   subst he
   exact hk (hO.apart k i c r q hb hi)
 have offτ : ∀ (b : Nat) (r : Row), τ b = some r → blk v ≠ some b := fun b r hb he => by
  rw [hbv] at he
  cases o with
  | none => cases he
  | some p =>
   obtain ⟨c, q⟩ := p
   simp at he
   subst he
   rw [(hO.row i c q hi).2] at hb; cases hb
 have hbase : Hp.le τ σ' := fun b r hb => hg.1 b r (offτ b r hb) (hO.base b r hb)
 have hkeep : ∀ (k b : Nat) (r : Row), k ≠ i → os[k]? = some (some (b, r)) → σ' b = some r ∧ τ b = none := fun k b r hk hb => ⟨hg.1 b r (off k b r hk hb) (hO.row k b r hb).1, (hO.row k b r hb).2⟩
 obtain ⟨hl, ⟨rfl, h2⟩ | ⟨b', cap, rfl, h2, h3, h4⟩⟩ := hx
 ·have hnil : l' = [] := List.eq_nil_of_length_eq_zero h2
  subst hnil
  refine ⟨none, ze.nil T ty τ, hbase, fun k b r e => ?_, fun k j b r r' e1 e2 => ?_⟩
  ·rw [List.getElem?_set] at e
   split at e
   ·simp at e
   ·rename_i hk; exact hkeep k b r (fun h => hk h.symm) e
  ·rw [List.getElem?_set] at e1 e2
   split at e1
   ·simp at e1
   ·split at e2
    ·simp at e2
    ·exact hO.apart k j b r r' e1 e2
 ·refine ⟨some (b', ⟨cells', ty, cap * T.sz, true⟩), .inr ⟨b', cap, cells', [], rfl, h2, h3, by rw [List.append_nil], hC⟩, hbase, fun k b r e => ?_, fun k j b r r' e1 e2 => ?_⟩
  ·rw [List.getElem?_set] at e
   split at e
   ·simp at e
    obtain ⟨rfl, rfl⟩ := e
    refine ⟨h4, ?_⟩
    cases ht : τ b' with
    | none => rfl
    | some q =>
     rcases hg.2.1 with h5 | ⟨c, h5, h6⟩
     ·exact absurd h5.symm (offτ b' q ht)
     ·injection h5 with h5
      have h5 : b' = c := h5
      subst h5
      rw [hO.base b' q ht] at h6; cases h6
   ·rename_i hk; exact hkeep k b r (fun h => hk h.symm) e
  ·have new : ∀ (k : Nat) (r : Row), k ≠ i → os[k]? = some (some (b', r)) → False := fun k r hk e => by
    rcases hg.2.1 with h5 | ⟨c, h5, h6⟩
    ·exact off k b' r hk e h5.symm
    ·injection h5 with h5
     have h5 : b' = c := h5
     subst h5
     rw [(hO.row k b' r e).1] at h6; cases h6
   rw [List.getElem?_set] at e1 e2
   split at e1 <;> split at e2
   ·omega
   ·rename_i hk hj
    simp at e1
    obtain ⟨rfl, _⟩ := e1
    exact (new j r' (fun h => hj h.symm) e2).elim
   ·rename_i hk hj
    simp at e2
    obtain ⟨rfl, _⟩ := e2
    exact (new k r (fun h => hk h.symm) e1).elim
   ·exact hO.apart k j b r r' e1 e2
end
def zv {α : Type} (l : List α) (i : Int) : Option α := if 0 ≤ i then l[i.toNat]? else none
def room (n : Nat) : Option Unit := if n ≤ 1099511627776 then some () else none
def zcV {α : Type} (l : List α) (lo hi : Int) : Option (List α) := if 0 ≤ lo ∧ lo ≤ hi ∧ hi ≤ l.length then some ((l.take hi.toNat).drop lo.toNat) else none
theorem zjw {α : Type} {l : List α} {i : Int} {x : α} (h : zv l i = some x) : 0 ≤ i ∧ l[i.toNat]? = some x := by
 unfold zv at h
 split at h
 ·exact ⟨by assumption, h⟩
 ·cases h
theorem zm5 {n : Nat} {u : Unit} (h : room n = some u) : n ≤ 1099511627776 := by
 unfold room at h
 split at h
 ·assumption
 ·cases h
theorem zpu {α : Type} {l m : List α} {lo hi : Int} (h : zcV l lo hi = some m) : 0 ≤ lo ∧ lo ≤ hi ∧ hi ≤ l.length ∧ m = (l.take hi.toNat).drop lo.toNat := by
 unfold zcV at h
 split at h
 ·rename_i hc; injection h with h; exact ⟨hc.1, hc.2.1, hc.2.2, h.symm⟩
 ·cases h
theorem z1 {α : Type} {b : Bool} {A B : Option α} {r : α} (h : (if b = true then A else B) = some r) : (b = true ∧ A = some r) ∨ (b = false ∧ B = some r) := by
 cases b with
 | true => exact .inl ⟨rfl, h⟩
 | false => exact .inr ⟨rfl, h⟩
theorem bind_some {α β : Type} {a : Option α} {f : α → Option β} {r : β} (h : a.bind f = some r) : ∃ x, a = some x ∧ f x = some r := Option.bind_eq_some_iff.1 h
def sets : List (Nat × Value) → Env → Env
 | [], e => e
 | (k, v) :: r, e => fun n => if n = k then v else sets r e n
def agr : List (Nat × Value) → Env → Prop
 | [], _ => True
 | (k, v) :: r, e => e k = v ∧ agr r e
theorem zM : ∀ (L : List (Nat × Value)) (e : Env), agr L e → sets L e = e
 | [], e, _ => rfl
 | (k, v) :: r, e, h => by
  funext n
  simp only [sets]
  split
  ·rename_i hn; subst hn; exact h.1.symm
  ·rw [zM r e h.2]
def qv (o : AOp) (e : Env) : Option Value := match o with
 | .mv x => some (ev e x)
 | .pick c a b => match ev e c with
  | .bool t => some (if t = true then ev e a else ev e b)
  | _ => none
 | .bin op x y => binv op (ev e x) (ev e y)
 | .beq neg x y => match ev e x, ev e y with
  | .bool a, .bool b => some (.bool (if neg then !(a == b) else a == b))
  | _, _ => none
 | .aeq neg n x y => match ev e x, ev e y with
  | .agg xs, .agg ys => (zbZ n xs.toList ys.toList).map fun b => .bool (if neg then !b else b)
  | _, _ => none
 | .snil neg x => match ev e x with
  | .slice A _ _ => some (.bool (if neg then !A.isNone else A.isNone))
  | _ => none
 | .pnil neg x => match ev e x with
  | .pointer A => some (.bool (if neg then !A.isNone else A.isNone))
  | _ => none
 | .inil neg x => (ifn (ev e x)).map fun b => .bool (if neg then !b else b)
 | .tas t z x => tasv t z (ev e x)
 | .un op x => unv op (ev e x)
 | .cint k x => match ev e x with
  | .int _ n => some (.int k (k.wrap n))
  | _ => none
 | .field agg off n x => match ev e x with
  | .agg cs => partv agg off n cs
  | _ => none
 | .ext i x => match ev e x with
  | .tuple vs => vs[i]?
  | _ => none
 | .mkif t x => some (.iface t (ev e x))
 | .mkfn fn first cap => some (.func fn (first.map (ev e)).toArray (cap.map (ev e)).toArray)
 | .build zero parts => (zdd zero (parts.map fun p => (p.1, p.2.1, ev e p.2.2))).map fun cs => .agg cs.toArray
 | .faddr off x => match ev e x with
  | .pointer (some a) => some (.pointer (some (a.add off)))
  | _ => none
 | .nilchk x => match zgx (ev e x) with
  | true => some (ev e x)
  | false => none
 | .lenS x => match ev e x with
  | .string s => some (.int .i64 s.size)
  | _ => none
 | .lenL x => match ev e x with
  | .slice _ n _ => some (.int .i64 n)
  | _ => none
 | .lenA n => some (.int .i64 n)
 | .aaddr len n x i => match ev e x, ev e i with
  | .pointer (some a), .int _ q => if 0 ≤ q ∧ q < len then some (.pointer (some (a.add (q.toNat * n)))) else none
  | _, _ => none
 | .capL x => match ev e x with
  | .slice _ _ c => some (.int .i64 c)
  | _ => none
 | .minmax mx x xs => match ev e x with
  | .int k a => (minmaxv mx k a (xs.map (ev e))).map (.int k)
  | _ => none
 | _ => none
theorem zsd {P : Program} {w0 : Base} {o : AOp} {e : Env} {σ : Hp} {v : Value} {K : Value → Hp → Prop} (h : qv o e = some v) (k : K v σ) : xop P w0 o e σ K := by
 cases o <;> simp only [qv, reduceCtorEq] at h <;> unfold xop <;> dsimp only
 case mv => injection h with h; subst h; exact k
 case pick => split at h <;> first | (rename_i hh; (try rw [hh]); injection h with h; subst h; exact k) | cases h
 case bin => exact ⟨v, h, k⟩
 case beq => split at h <;> first | (rename_i h1 h2; (try rw [h1, h2]); injection h with h; subst h; exact k) | cases h
 case aeq =>
  split at h
  ·rename_i h1 h2
   rw [h1, h2]
   obtain ⟨b, h3, rfl⟩ := Option.map_eq_some_iff.1 h
   exact ⟨b, h3, k⟩
  ·cases h
 case snil => split at h <;> first | (rename_i hh; (try rw [hh]); injection h with h; subst h; exact k) | cases h
 case inil => obtain ⟨b, h3, rfl⟩ := Option.map_eq_some_iff.1 h; exact ⟨b, h3, k⟩
 case tas => exact ⟨v, h, k⟩
 case pnil => split at h <;> first | (rename_i hh; (try rw [hh]); injection h with h; subst h; exact k) | cases h
 case un => exact ⟨v, h, k⟩
 case cint => split at h <;> first | (rename_i hh; (try rw [hh]); injection h with h; subst h; exact k) | cases h
 case field => split at h <;> first | (rename_i hh; (try rw [hh]); exact ⟨v, h, k⟩) | cases h
 case ext => split at h <;> first | (rename_i hh; (try rw [hh]); exact ⟨v, h, k⟩) | cases h
 case mkif => injection h with h; subst h; exact k
 case mkfn => injection h with h; subst h; exact k
 case build =>
  obtain ⟨cs, h1, rfl⟩ := Option.map_eq_some_iff.1 h
  exact ⟨cs, h1, k⟩
 case faddr => split at h <;> first | (rename_i hh; (try rw [hh]); injection h with h; subst h; exact ⟨rfl, k⟩) | cases h
 case nilchk => split at h <;> first | (rename_i hh; injection h with h; subst h; exact ⟨hh, k⟩) | cases h
 case lenS => split at h <;> first | (rename_i hh; (try rw [hh]); injection h with h; subst h; exact k) | cases h
 case lenL => split at h <;> first | (rename_i hh; (try rw [hh]); injection h with h; subst h; exact k) | cases h
 case lenA => injection h with h; subst h; exact k
 case aaddr =>
  split at h
  ·rename_i h1 h2
   split at h
   ·rename_i hc
    injection h with h
    subst h
    (try rw [h1, h2])
    exact ⟨hc.1, hc.2, rfl, k⟩
   ·cases h
  ·cases h
 case capL => split at h <;> first | (rename_i hh; (try rw [hh]); injection h with h; subst h; exact k) | cases h
 case minmax =>
  split at h
  ·rename_i hh
   try rw [hh]
   obtain ⟨r, h1, rfl⟩ := Option.map_eq_some_iff.1 h
   exact ⟨r, h1, k⟩
  ·cases h
def ziC (cells : List Value) (off : Nat) (agg : Bool) (n : Nat) : Option Value := if agg then (if (cells.drop off).length < n then none else some (.agg ((cells.drop off).take n).toArray)) else cells[off]?
def qoj (os : List Ob) : List XJ → List Nat → Env → (List Nat → Env → Prop) → Prop
 | [], hs, e, K => K hs e
 | ⟨d, .load agg n x, []⟩ :: r, i :: hs, e, K => match ev e x with
  | .pointer (some a) => match os[i]? with
   | some (some (b, row)) => (a.block = b ∧ a.spot = none) ∧ (match ziC row.cells a.off agg n with
    | some v => qoj os r hs (zD e d v) K
    | none => False)
   | _ => False
  | _ => False
 | ⟨d, op, []⟩ :: r, hs, e, K => match qv op e with
  | some v => qoj os r hs (zD e d v) K
  | none => False
 | _, _, _, _ => False
def dsts (l : List XJ) : List Nat := l.filterMap (·.d)
def msk (D : List Nat) (J e : Env) : Env := fun k => if D.contains k = true then J k else e k
def pk : XJ → Option (Nat × Opd × Opd × Opd)
 | ⟨some dp, .pick c a b, []⟩ => some (dp, c, a, b)
 | _ => none
theorem zrW {y : XJ} {q : Nat × Opd × Opd × Opd} (h : pk y = some q) : y = ⟨some q.1, .pick q.2.1 q.2.2.1 q.2.2.2, []⟩ := by
 unfold pk at h
 split at h
 ·injection h with h; subst h; rfl
 ·cases h
def gval (w p : Bool) (a b : Opd) (e1 : Env) : Option Bool := match w with
 | true => match b with
  | .c (.bool false) => match ev e1 a with
   | .bool x => some (p && x)
   | _ => none
  | _ => none
 | false => match a with
  | .c (.bool true) => match ev e1 b with
   | .bool x => some (p || x)
   | _ => none
  | _ => none
def qok (os : List Ob) : List XI → List Nat → Env → (Env → Prop) → Prop
 | [], _, e, K => K e
 | .s x :: r, hs, e, K => qoj os [x] hs e (fun hs' e' => qok os r hs' e' K)
 | .g t w gl :: .s y :: r, hs, e, K => match pk y with
  | some (dp, c, a, b) => (c = .t t ∧ (dsts gl).contains t = false) ∧ (match e t with
   | .bool p => qoj os gl hs e (fun hs' e1 => match gval w p a b e1 with
    | some x => ∀ J : Env, qok os r hs' (zD (msk (dsts gl) J e) (some dp) (.bool x)) K
    | none => False)
   | _ => False)
  | none => False
 | _, _, _, _ => False
theorem zrc {w p : Bool} {a b : Opd} {e1 er : Env} {x : Bool} (h : gval w p a b e1 = some x) (hr : p = w → er = e1) : (if p = true then ev er a else ev er b) = .bool x := by
 unfold gval at h
 cases w with
 | true =>
  simp only at h
  split at h
  ·split at h
   ·rename_i y hy
    injection h with h
    subst h
    cases p with
    | true => rw [if_pos rfl, hr rfl, hy]; rfl
    | false => rw [if_neg (by simp)]; rfl
   ·cases h
  ·cases h
 | false =>
  simp only at h
  split at h
  ·split at h
   ·rename_i y hy
    injection h with h
    subst h
    cases p with
    | true => rw [if_pos rfl]; rfl
    | false => rw [if_neg (by simp), hr rfl, hy]; rfl
   ·cases h
  ·cases h
theorem zoZ {σ : Hp} {b : Nat} {r : Row} (h : σ b = some r) {off n : Nat} (hn : ¬ (r.cells.drop off).length < n) : looks σ ⟨b, off, none⟩ 0 n = some ((r.cells.drop off).take n) := by
 have hl : ((r.cells.drop off).take n).length = n := by rw [List.length_take]; omega
 have := ziG (σ := σ) (a := ⟨b, off, none⟩) ((r.cells.drop off).take n) 0 fun j u hu => by
  rw [zcH, Nat.zero_add]
  simp only [look, h, Option.isSome_none, Bool.false_eq_true, if_false, Option.bind_some]
  rw [List.getElem?_take] at hu
  split at hu
  ·rw [List.getElem?_drop] at hu; exact hu
  ·cases hu
 rw [hl] at this
 exact this
theorem zm9 {σ : Hp} {b : Nat} {r : Row} {a : Addr} {agg : Bool} {n : Nat} {v : Value} (h : σ b = some r) (hb : a.block = b) (hs : a.spot = none) (hc : ziC r.cells a.off agg n = some v) : zcp σ a agg n = some v := by
 obtain ⟨ab, ao, as⟩ := a
 simp only at hb hs hc
 subst hb; subst hs
 unfold ziC at hc
 unfold zcp
 split at hc
 ·rename_i hg
  subst hg
  split at hc
  ·cases hc
  ·rename_i hn
   injection hc with hc
   subst hc
   rw [if_pos rfl, zoZ h hn]
   rfl
 ·rename_i hg
  rw [if_neg hg]
  simp only [look, h, Option.isSome_none, Bool.false_eq_true, if_false, Option.bind_some]
  exact hc
section
variable {P : Program} {w0 : Base} {τ σ : Hp} {os : List Ob}
theorem zkQ (hO : Obs τ σ os) : ∀ (l : List XJ) (hs : List Nat) (e : Env) (K : List Nat → Env → Prop), qoj os l hs e K → ∃ hs' e1, K hs' e1 ∧ (∀ k, (dsts l).contains k = false → e1 k = e k) ∧ ∀ K' : Env → Hp → Prop, K' e1 σ → xjs P w0 l e σ K'
 | [], hs, e, K, h => ⟨hs, e, h, fun _ _ => rfl, fun K' h => h⟩
 | ⟨d, op, x :: st⟩ :: l, hs, e, K, h => by cases op <;> (unfold qoj at h; exact h.elim)
 | ⟨d, op, []⟩ :: l, hs, e, K, h => by
  have fr : ∀ (v : Value) (e1 : Env), (∀ k, (dsts l).contains k = false → e1 k = zD e d v k) → ∀ k, (dsts (⟨d, op, []⟩ :: l)).contains k = false → e1 k = e k := fun v e1 h1 k hk => by
   cases d with
   | none => exact h1 k hk
   | some d =>
    simp only [dsts, List.filterMap_cons, List.contains_cons, Bool.or_eq_false_iff] at hk
    rw [h1 k hk.2]
    have : k ≠ d := fun he => by have := hk.1; rw [he] at this; simp at this
    simp [zD, this]
  have gen : ∀ v hs', (∀ K' : Value → Hp → Prop, K' v σ → xop P w0 op e σ K') → qoj os l hs' (zD e d v) K → ∃ hs' e1, K hs' e1 ∧ (∀ k, (dsts (⟨d, op, []⟩ :: l)).contains k = false → e1 k = e k) ∧ ∀ K' : Env → Hp → Prop, K' e1 σ → xjs P w0 (⟨d, op, []⟩ :: l) e σ K' := fun v hs' h1 h2 => by
   obtain ⟨hs2, e1, k1, k2, k3⟩ := zkQ hO l hs' _ K h2
   refine ⟨hs2, e1, k1, fr v e1 k2, fun K' hK' => ?_⟩
   rw [zrs]
   exact h1 _ (k3 K' hK')
  cases op
  case load agg n x =>
   cases hs with
   | nil => unfold qoj at h; simp [qv] at h
   | cons i hs =>
    unfold qoj at h
    split at h
    ·rename_i a ha
     split at h
     ·rename_i b row hb
      obtain ⟨⟨h1, h2⟩, h3⟩ := h
      split at h3
      ·rename_i v hv
       refine gen v hs (fun K' hK' => ?_) h3
       unfold xop
       simp only [ha]
       exact ⟨v, by simp [zkA, zm9 (hO.row i b row hb).1 h1 h2 hv], hK'⟩
      ·exact h3.elim
     ·exact h.elim
    ·exact h.elim
  all_goals
   unfold qoj at h
   split at h
   ·rename_i v hv; exact gen v hs (fun K' hK' => zsd hv hK') h
   ·exact h.elim
theorem zkS : ∀ (l : List XJ) (e : Env) (k : Nat), (dsts l).contains k = false → undefs l e k = e k
 | [], e, k, _ => rfl
 | ⟨none, op, st⟩ :: l, e, k, h => zkS l e k h
 | ⟨some d, op, st⟩ :: l, e, k, h => by
  simp only [dsts, List.filterMap_cons, List.contains_cons, Bool.or_eq_false_iff] at h
  have := zkS l (zD e (some d) undef) k h.2
  simp only [undefs]
  rw [this]
  have : k ≠ d := fun he => by have := h.1; rw [he] at this; simp at this
  simp [zD, this]
theorem zk7 : ∀ (l : List XJ) (hs : List Nat) (e : Env) (K : List Nat → Env → Prop), qoj os l hs e K → (l.all fun x => x.st.isEmpty) = true
 | [], _, _, _, _ => rfl
 | ⟨d, op, []⟩ :: l, hs, e, K, h => by
  have hr : (l.all fun x => x.st.isEmpty) = true := by
   cases op
   case load agg n x =>
    cases hs with
    | nil => unfold qoj at h; simp [qv] at h
    | cons i hs =>
     unfold qoj at h
     split at h
     ·split at h
      ·obtain ⟨_, h3⟩ := h
       split at h3
       ·exact zk7 l hs _ K h3
       ·exact h3.elim
      ·exact h.elim
     ·exact h.elim
   all_goals
    unfold qoj at h
    split at h
    ·exact zk7 l hs _ K h
    ·exact h.elim
  simp only [List.all_cons, hr, Bool.and_true]
  rfl
 | ⟨d, op, s :: st⟩ :: l, hs, e, K, h => by
  cases op <;> cases hs <;> unfold qoj at h <;> exact h.elim
theorem zsN {D : List Nat} {e e1 : Env} (h : ∀ k, D.contains k = false → e1 k = e k) : msk D e1 e = e1 := by
 funext k
 unfold msk
 cases hk : D.contains k with
 | true => rfl
 | false => simp [h k hk]
theorem zgp (hO : Obs τ σ os) {r : List XI} {K' : Env → Hp → Prop} : ∀ (l : List XI) (hs : List Nat) (e : Env) (K : Env → Prop), qok os l hs e K → (∀ e', K e' → xis P w0 r e' σ K') → xis P w0 (l ++ r) e σ K'
 | [], hs, e, K, h, k => k e h
 | .s x :: l, hs, e, K, h, k => by
  unfold qok at h
  obtain ⟨hs', e1, h1, _, h3⟩ := zkQ (P := P) (w0 := w0) hO [x] hs e _ h
  have := h3 (fun e' σ' => xis P w0 (l ++ r) e' σ' K') (zgp hO l hs' e1 K h1 k)
  exact this
 | [.g t w gl], hs, e, K, h, k => by unfold qok at h; exact h.elim
 | .g t w gl :: .g _ _ _ :: l, hs, e, K, h, k => by unfold qok at h; exact h.elim
 | .g t w gl :: .s y :: l, hs, e, K, h, k => by
  unfold qok at h
  split at h
  ·rename_i dp c a b hy
   have hy := zrW hy
   subst hy
   obtain ⟨⟨rfl, ht⟩, h⟩ := h
   split at h
   ·rename_i p hp
    obtain ⟨hs', e1, h1, h2, h3⟩ := zkQ (P := P) (w0 := w0) hO gl hs e _ h
    split at h1
    ·rename_i x hx
     have fin : ∀ er : Env, (∀ k, (dsts gl).contains k = false → er k = e k) → (p = w → er = e1) → xis P w0 ((.s ⟨some dp, .pick (.t t) a b, []⟩ :: l) ++ r) er σ K' := fun er hfr ha => by
      rw [List.cons_append, zec]
      have htp : ev er (.t t) = .bool p := by show er t = _; rw [hfr t ht, hp]
      have := zgp hO l hs' _ K (h1 er) k
      rw [zsN hfr] at this
      simp only [xop, htp]
      rw [zrc hx ha]
      exact this
     refine ⟨fun hb => h3 _ (fin e1 h2 fun _ => rfl), fun hb => ⟨zkY gl e σ (zk7 gl hs e _ h), fin _ (zkS gl e) fun hpt => ?_⟩⟩
     rw [hp, hpt] at hb
     simp [isB] at hb
    ·exact h1.elim
   ·exact h.elim
  ·exact h.elim
variable {ops r : List XI} {b : zbA} {Q : Exit → Env → Hp → Prop} {e : Env} {d : Option Nat}
theorem zbk (hO : Obs τ σ os) (n : Nat) (hs : List Nat) (L : List (Nat × Value)) (h : qok os (ops.take n) hs e (agr L)) (k : ∀ j, wpn P w0 (.seq (.reg (ops.drop n)) b) Q (sets L j) σ) : wpn P w0 (.seq (.reg ops) b) Q e σ := by
 show xis P w0 ops e σ (fun e' σ' => wpn P w0 b Q e' σ')
 rw [← List.take_append_drop n ops]
 refine zgp hO _ hs e _ h fun e' he => ?_
 have := k e'
 rw [zM L e' he] at this
 exact this
theorem zU (hO : Obs τ σ os) (hs : List Nat) (L : List (Nat × Value)) (h : qok os ops hs e (agr L)) (k : ∀ j, wpn P w0 b Q (sets L j) σ) : wpn P w0 (.seq (.reg ops) b) Q e σ := by
 show xis P w0 ops e σ (fun e' σ' => wpn P w0 b Q e' σ')
 rw [← List.append_nil ops]
 refine zgp hO _ hs e _ h fun e' he => ?_
 have := k e'
 rw [zM L e' he] at this
 exact this
def zgb : List Nat → Env → Env → Env
 | [], _, j => j
 | k :: r, e, j => fun n => if n = k then e k else zgb r e j n
def same : List Nat → Env → Env → Prop
 | [], _, _ => True
 | k :: r, e, f => f k = e k ∧ same r e f
def agk : List (Nat × Value) → List Nat → Env → Env → Prop
 | [], ks, e, f => same ks e f
 | (k, v) :: r, ks, e, f => f k = v ∧ agk r ks e f
theorem znV : ∀ (ks : List Nat) (e f : Env), same ks e f → zgb ks e f = f
 | [], _, _, _ => rfl
 | k :: r, e, f, h => by
  funext n
  simp only [zgb]
  split
  ·rename_i hn; subst hn; exact h.1.symm
  ·rw [znV r e f h.2]
theorem zkk : ∀ (L : List (Nat × Value)) (ks : List Nat) (e f : Env), agk L ks e f → sets L (zgb ks e f) = f
 | [], ks, e, f, h => znV ks e f h
 | (k, v) :: r, ks, e, f, h => by
  funext n
  simp only [sets]
  split
  ·rename_i hn; subst hn; exact h.1.symm
  ·rw [zkk r ks e f h.2]
theorem za (hO : Obs τ σ os) (n : Nat) (hs : List Nat) (L : List (Nat × Value)) (ks : List Nat) (h : qok os (ops.take n) hs e (agk L ks e)) (k : ∀ j, wpn P w0 (.seq (.reg (ops.drop n)) b) Q (sets L (zgb ks e j)) σ) : wpn P w0 (.seq (.reg ops) b) Q e σ := by
 show xis P w0 ops e σ (fun e' σ' => wpn P w0 b Q e' σ')
 rw [← List.take_append_drop n ops]
 refine zgp hO _ hs e _ h fun e' he => ?_
 have := k e'
 rw [zkk L ks e e' he] at this
 exact this
theorem zd (hO : Obs τ σ os) (hs : List Nat) (L : List (Nat × Value)) (ks : List Nat) (h : qok os ops hs e (agk L ks e)) (k : ∀ j, wpn P w0 b Q (sets L (zgb ks e j)) σ) : wpn P w0 (.seq (.reg ops) b) Q e σ := by
 show xis P w0 ops e σ (fun e' σ' => wpn P w0 b Q e' σ')
 rw [← List.append_nil ops]
 refine zgp hO _ hs e _ h fun e' he => ?_
 have := k e'
 rw [zkk L ks e e' he] at this
 exact this
theorem zb2 (n : Nat) (J : Env → Hp → Prop) (h1 : wpn P w0 (.seq (.reg (ops.take n)) .skip) (fun x e' σ' => x = .normal ∧ J e' σ') e σ) (h2 : ∀ e' σ', J e' σ' → wpn P w0 (.seq (.reg (ops.drop n)) b) Q e' σ') : wpn P w0 (.seq (.reg ops) b) Q e σ := by
 have : ∀ (l m : List XI) (e : Env) (σ : Hp) (K : Env → Hp → Prop), xis P w0 l e σ (fun e' σ' => xis P w0 m e' σ' K) → xis P w0 (l ++ m) e σ K := by
  intro l
  induction l with
  | nil => intro m e σ K h; exact h
  | cons x l ih =>
   intro m e σ K h
   cases x with
   | s x => exact zfA h fun v σ' hv => ⟨hv.1, ih _ _ _ _ hv.2⟩
   | g t w gl => exact ⟨fun hb => zij (fun e σ h => ih _ _ _ _ h) gl e σ (h.1 hb), fun hb => ⟨(h.2 hb).1, ih _ _ _ _ (h.2 hb).2⟩⟩
 show xis P w0 ops e σ (fun e' σ' => wpn P w0 b Q e' σ')
 rw [← List.take_append_drop n ops]
 exact this _ _ _ _ _ (zgs (fun e' σ' h => h2 e' σ' h.2) _ _ _ h1)
theorem zcO {a : zbA} (J : Env → Hp → Prop) (h1 : wpn P w0 a (thn J Q) e σ) (h2 : ∀ e' σ', J e' σ' → wpn P w0 b Q e' σ') : wpn P w0 (.seq a b) Q e σ :=
 zdt a _ _ e σ h1 fun x e' σ' h => by cases x <;> first | exact h2 e' σ' h | exact h
theorem zfo {a : zbA} {id : Nat} (J : Env → Hp → Prop) (h1 : wpn P w0 a (inb id (thn J Q)) e σ) (h2 : ∀ e' σ', J e' σ' → wpn P w0 b Q e' σ') : wpn P w0 (.seq (.block id a) b) Q e σ :=
 zcO J h1 h2
theorem zbo {c : zbA} (I : Nat → Env → Hp → Prop) (n : Nat) (h0 : I n e σ) (h : ∀ n e σ, I n e σ → wpn P w0 c (thn (fun e' σ' => ∃ n', n' < n ∧ I n' e' σ') Q) e σ) : wpn P w0 (.loop c) Q e σ := ⟨I, ⟨n, h0⟩, h⟩
def At (σ : Hp) (a : Addr) (cs : List Value) : Prop := ∀ j u, cs[j]? = some u → look σ (a.add j) = some u
theorem add_zero (a : Addr) : a.add 0 = a := by simp [Addr.add]
theorem At.one {a : Addr} {cs : List Value} (h : At σ a cs) (j : Nat) {u : Value} (hu : cs[j]? = some u) : zcp σ (a.add j) false 1 = some u := by
 simp only [zcp, Bool.false_eq_true, if_false]
 exact h j u hu
theorem At.fst {a : Addr} {u : Value} {cs : List Value} (h : At σ a (u :: cs)) : zcp σ a false 1 = some u := by
 have := h.one 0 (u := u) rfl
 rwa [add_zero] at this
theorem At.all {a : Addr} {cs : List Value} (h : At σ a cs) {n : Nat} (hn : cs.length = n) : zcp σ a true n = some (.agg cs.toArray) := by
 subst hn
 have : looks σ a 0 cs.length = some cs := ziG cs 0 fun j u hu => by rw [Nat.zero_add]; exact h j u hu
 simp [zcp, this]
theorem zN {α : Type} {T : Ty α} {ρ : Hp} {v : Value} {l : List α} {x i : Opd} {k : IntKind} {q : Int} {y : α} (h : RdT T ρ v l) (hle : Hp.le ρ σ) (hx : ev e x = v) (hi : ev e i = .int k q) (hg : zv l q = some y) (hs : 0 < T.sz)
  (kk : ∀ a cs, T.R ρ y cs → At ρ a cs → wpn P w0 (.seq (.reg r) b) Q (zD e d (.pointer (some a))) σ) : wpn P w0 (.seq (.reg (.s ⟨d, .idx T.sz x i, []⟩ :: r)) b) Q e σ :=
 zcJ fun K hK => by
  obtain ⟨A, c, rfl, hc⟩ := h.form
  obtain ⟨h0, hg⟩ := zjw hg
  have hlt := (List.getElem?_eq_some_iff.1 hg).1
  obtain ⟨cs, hR, h1⟩ := h.get hg
  obtain ⟨a, rfl⟩ := Option.isSome_iff_exists.1 (h.has hlt hs)
  simp only [xop, hx, hi]
  refine ⟨h0, by omega, rfl, hK _ _ (kk _ cs hR fun j u hu => ?_)⟩
  obtain ⟨a', ha, hl⟩ := h1 j u hu
  injection ha with ha
  subst ha
  rw [zfE]
  exact hl
theorem zG {x : Opd} {a : Addr} {g : Bool} {n : Nat} {u : Value} (hp : ev e x = .pointer (some a)) (hl : zcp σ a g n = some u) (kk : wpn P w0 (.seq (.reg r) b) Q (zD e d u) σ) : wpn P w0 (.seq (.reg (.s ⟨d, .load g n x, []⟩ :: r)) b) Q e σ :=
 zcJ fun K hK => by
  simp only [xop, hp]
  exact ⟨u, by simpa [zkA] using hl, hK _ _ kk⟩
theorem zz {f : FuncId} {args : List Opd} {as : Array Value} {hs vs : List Ob} {K : Value → Hp → List Ob → Prop} (hO : Obs τ σ (hs ++ vs)) (hC : Ctr P f as τ vs K) (ha : (args.map (ev e)).toArray = as)
  (k : ∀ v σ' τ' vs', Obs τ' σ' (hs ++ vs') → Hp.le τ τ' → K v τ' vs' → wpn P w0 (.seq (.reg r) b) Q (zD e d v) σ') : wpn P w0 (.seq (.reg (.s ⟨d, .call f args, []⟩ :: r)) b) Q e σ :=
 zcJ fun KK hK => by
  subst ha
  exact (ACalls.fr hO hC).use fun v σ' ⟨τ', vs', h1, h2, h3⟩ => hK v σ' (k v σ' τ' vs' h1 h2 h3)
theorem z5 {f : FuncId} {args : List Opd} {as : Array Value} {K : Value → Hp → List Ob → Prop} (hO : Obs τ σ os) (hC : Ctr P f as τ [] K) (ha : (args.map (ev e)).toArray = as)
  (k : ∀ v σ' τ' vs', Obs τ' σ' (os ++ vs') → Hp.le τ τ' → K v τ' vs' → wpn P w0 (.seq (.reg r) b) Q (zD e d v) σ') : wpn P w0 (.seq (.reg (.s ⟨d, .call f args, []⟩ :: r)) b) Q e σ :=
 zz (hs := os) (vs := []) (by rw [List.append_nil]; exact hO) hC ha k
theorem zke {x : Opd} {f : FuncId} {first cap : Array Value} {args : List Opd} {as : Array Value} {K : Value → Hp → List Ob → Prop} (hx : ev e x = .func (.func f) first cap) (hok : okF P f = true) (hO : Obs τ σ os) (hC : Ctr P f as τ [] K) (ha : first ++ (args.map (ev e)).toArray ++ cap = as)
  (k : ∀ v σ' τ' vs', Obs τ' σ' (os ++ vs') → Hp.le τ τ' → K v τ' vs' → wpn P w0 (.seq (.reg r) b) Q (zD e d v) σ') : wpn P w0 (.seq (.reg (.s ⟨d, .callv x args, []⟩ :: r)) b) Q e σ :=
 zcJ fun KK hK => by
  subst ha
  simp only [xop, hx]
  refine ⟨hok, (ACalls.fr (hs := os) (vs := []) (by rw [List.append_nil]; exact hO) hC).use fun v σ' ⟨τ', vs', h1, h2, h3⟩ => hK v σ' (k v σ' τ' vs' h1 h2 h3)⟩
theorem zbC (hO : Obs τ σ os) {ty : Nat} {cells : List Value} (k : ∀ bb σ', Obs τ σ' (os ++ [some (bb, ⟨cells, ty, cells.length, true⟩)]) → wpn P w0 (.seq (.reg r) b) Q (zD e d (.pointer (some ⟨bb, 0, none⟩))) σ') : wpn P w0 (.seq (.reg (.s ⟨d, .alloc ty cells, []⟩ :: r)) b) Q e σ :=
 zcJ fun K hK => fun bb h1 h2 => hK _ _ (k bb _ (hO.add h1 _))
theorem zct (hO : Obs τ σ os) {ty : Nat} {x : Opd} {cells : List Value} {n : Nat} (hx : (ev e x).cells.toList = cells) (hn : cells.length = n) (k : ∀ bb σ', Obs τ σ' (os ++ [some (bb, ⟨cells, ty, n, true⟩)]) → wpn P w0 (.seq (.reg r) b) Q (zD e d (.pointer (some ⟨bb, 0, none⟩))) σ') : wpn P w0 (.seq (.reg (.s ⟨d, .box ty x, []⟩ :: r)) b) Q e σ :=
 zcJ fun K hK => fun bb h1 h2 => by
  have hz : (ev e x).cells.size = n := by rw [← hn, ← hx, Array.length_toList]
  rw [hx, hz]
  exact hK _ _ (k bb _ (hO.add h1 _))
theorem zkx : ∀ (vs : List Value) (σ : Hp) (bb off i : Nat) (cells : List Value) (ty size : Nat), off + i + vs.length ≤ cells.length →
  puts (σ.set bb ⟨cells, ty, size, true⟩) ⟨bb, off, none⟩ i vs = some (σ.set bb ⟨cells.take (off + i) ++ vs ++ cells.drop (off + i + vs.length), ty, size, true⟩)
 | [], σ, bb, off, i, cells, ty, size, _ => by simp [puts]
 | v :: vs, σ, bb, off, i, cells, ty, size, h => by
  simp only [List.length_cons] at h
  have : put1 (σ.set bb ⟨cells, ty, size, true⟩) ((⟨bb, off, none⟩ : Addr).add i) v = some (σ.set bb ⟨cells.set (off + i) v, ty, size, true⟩) := by
   rw [zcH]
   unfold put1
   simp only [Option.isSome_none, Bool.false_eq_true, if_false, Hp.set_eq]
   rw [if_pos (by simp; omega)]
   congr 1
   funext k
   simp only [Hp.set]
   split <;> rfl
  simp only [puts, this, Option.bind_some]
  rw [zkx vs σ bb off (i + 1) _ ty size (by simp; omega)]
  congr 3
  have e1 : off + (i + 1) = off + i + 1 := by omega
  rw [e1, List.length_cons, List.take_set, List.drop_set]
  rw [if_pos (by omega)]
  have : List.take (off + i + 1) cells = List.take (off + i) cells ++ [cells[off + i]'(by omega)] := List.take_succ_eq_append_getElem (by omega)
  rw [this, List.set_append_right _ _ (by simp; omega)]
  simp only [List.length_take, Nat.min_eq_left (show off + i ≤ cells.length by omega), Nat.sub_self, List.set_cons_zero]
  rw [show off + i + 1 + vs.length = off + i + (vs.length + 1) from by omega]
  simp
theorem zx (hO : Obs τ σ os) {i bb ty size n off : Nat} {cells vs : List Value} {x y : Opd} (hi : os[i]? = some (some (bb, ⟨cells, ty, size, true⟩))) (hp : ev e x = .pointer (some ⟨bb, off, none⟩)) (hy : (ev e y).cells.toList = vs) (hn : vs.length = n) (h1 : vs.all one = true) (hoff : off + n ≤ cells.length)
  {cells' : List Value} (hc : cells.take off ++ vs ++ cells.drop (off + n) = cells')
  (k : ∀ σ', Obs τ σ' (os.set i (some (bb, ⟨cells', ty, size, true⟩))) → wpn P w0 (.seq (.reg r) b) Q (zD e d undef) σ') : wpn P w0 (.seq (.reg (.s ⟨d, .store n x y, []⟩ :: r)) b) Q e σ :=
 zcJ fun K hK => by
  subst hc
  have hz : (ev e y).cells.size = n := by rw [← hn, ← hy, Array.length_toList]
  simp only [xop, hp]
  refine ⟨hz, by rw [hy]; exact h1, σ.set bb ⟨cells.take off ++ vs ++ cells.drop (off + n), ty, size, true⟩, ?_, hK _ _ (k _ (hO.put hi _))⟩
  rw [hy]
  show puts σ ⟨bb, off, none⟩ 0 vs = _
  have := zkx vs σ bb off 0 cells ty size (by omega)
  rw [Hp.set_same (hO.row i bb _ hi).1] at this
  rw [this, Nat.add_zero, hn]
section
variable {α : Type} {T : Ty α} {v u : Value} {l m : List α} {o : Ob} {i ty bytes : Nat} {s x : Opd} {y : α} {zero : List Value} {d1 : Nat}
theorem zjH {n bytes : Nat} {t : Unit} (h : room n = some t) (hb : bytes ≤ 128) : n * bytes ≤ 140737488355328 :=
 Nat.le_trans (Nat.mul_le_mul (zm5 h) hb) (by decide)
theorem zsl {n bytes : Nat} {t : Unit} (h : room (2 * n) = some t) (hb : bytes ≤ 256) : n * bytes ≤ 140737488355328 :=
 Nat.le_trans (Nat.mul_le_mul (show n ≤ 549755813888 by have := zm5 h; omega) hb) (by decide)
theorem znl (hO : Obs τ σ os) (hW : ze T ty τ v l o) (hi : os[i]? = some o) (hs : ev e s = v) (hs' : ∀ u, ev (zD e (some d1) u) s = v) {vs : List Value} (hv : (ev e x).cells.toList = vs) (hx : T.R τ y vs) (hz : zero.length = T.sz) (hlim : (l.length + 1) * bytes ≤ 140737488355328)
  (k : ∀ u v' σ' o', ze T ty τ v' (l ++ [y]) o' → Obs τ σ' (os.set i o') → wpn P w0 (.seq (.reg r) b) Q (zD (zD e (some d1) u) d v') σ') :
  wpn P w0 (.seq (.reg (.s ⟨some d1, .bslice ty 1 zero [(0, T.sz, x)], []⟩ :: .s ⟨d, .app ty T.sz bytes s (.t d1), []⟩ :: r)) b) Q e σ := by
 subst hv
 have hxl := T.len hx
 show xis P w0 _ e σ _
 rw [zec, zl3]
 refine ⟨(ev e x).cells.toList, ?_, fun bb hb1 hb0 => ?_⟩
 ·simp only [List.map_cons, List.map_nil, zdd]
  rw [Array.length_toList] at hxl
  rw [if_pos ⟨hxl, by omega⟩]
  simp [hz]
 ·show xis P w0 (.s ⟨d, .app ty T.sz bytes s (.t d1), []⟩ :: r) _ _ _
  rw [zec, zle]
  have hO2 := hO.mono (Hp.le_set hb1 (r := ⟨(ev e x).cells.toList, ty, (ev e x).cells.toList.length, true⟩))
  obtain ⟨cells, hX, hC⟩ := hW.x hO2 hi
  refine ⟨l.length, cells, 1, (ev e x).cells.toList, by rw [hs']; exact hX, ?_, T.one hx, hlim, fun v' σ' hg hX' => ?_⟩
  ·have hd : ∀ v, ev (zD e (some d1) v) (.t d1) = v := fun v => by simp [ev, zD]
   rw [hd]
   refine ⟨_, 1, rfl, Nat.le_refl _, by simpa using hxl, fun j u hu => ⟨_, rfl, ?_⟩⟩
   rw [zcH, Nat.zero_add, zjp]
   exact hu
  ·rw [hs'] at hg
   obtain ⟨o', hW', hO'⟩ := hW.grow (l' := l ++ [y]) (n := 0) hO2 hi hg (by simpa using hX') (hC.append (Chunks.single hx))
   exact k _ v' σ' o' hW' hO'
theorem zjg (hO : Obs τ σ os) (hW : ze T ty τ v l o) (hi : os[i]? = some o) (hs : ev e s = v) (hs' : ∀ u, ev (zD e (some d1) u) s = v) {vs : List Value} (hv : (ev e x).cells.toList = vs) (hx : T.R τ y vs) (hz : zero.length = T.sz) {t : Unit} (hr : room (l.length + 1) = some t) (hb : bytes ≤ 128)
  (k : ∀ u v' σ' o', ze T ty τ v' (l ++ [y]) o' → Obs τ σ' (os.set i o') → wpn P w0 (.seq (.reg r) b) Q (zD (zD e (some d1) u) d v') σ') :
  wpn P w0 (.seq (.reg (.s ⟨some d1, .bslice ty 1 zero [(0, T.sz, x)], []⟩ :: .s ⟨d, .app ty T.sz bytes s (.t d1), []⟩ :: r)) b) Q e σ := znl hO hW hi hs hs' hv hx hz (zjH hr hb) k
theorem zl5 (hO : Obs τ σ os) (hW : ze T ty τ v l o) (hi : os[i]? = some o) (hs : ev e s = v) (hs' : ∀ u, ev (zD e (some d1) u) s = v) {vs : List Value} (hv : (ev e x).cells.toList = vs) (hx : T.R τ y vs) (hz : zero.length = T.sz) {t : Unit} (hr : room (2 * (l.length + 1)) = some t) (hb : bytes ≤ 256)
  (k : ∀ u v' σ' o', ze T ty τ v' (l ++ [y]) o' → Obs τ σ' (os.set i o') → wpn P w0 (.seq (.reg r) b) Q (zD (zD e (some d1) u) d v') σ') :
  wpn P w0 (.seq (.reg (.s ⟨some d1, .bslice ty 1 zero [(0, T.sz, x)], []⟩ :: .s ⟨d, .app ty T.sz bytes s (.t d1), []⟩ :: r)) b) Q e σ := znl hO hW hi hs hs' hv hx hz (zsl hr hb) k
theorem zrh (hO : Obs τ σ os) (hW : ze T ty τ v l o) (hi : os[i]? = some o) (hs : ev e s = v) (hx : ev e x = u) (hR : RdT T τ u m) (hlim : (l.length + m.length) * bytes ≤ 140737488355328)
  (k : ∀ v' σ' o', ze T ty τ v' (l ++ m) o' → Obs τ σ' (os.set i o') → wpn P w0 (.seq (.reg r) b) Q (zD e d v') σ') :
  wpn P w0 (.seq (.reg (.s ⟨d, .app ty T.sz bytes s x, []⟩ :: r)) b) Q e σ := by
 show xis P w0 _ e σ _
 rw [zec, zle]
 obtain ⟨cells, hX, hC⟩ := hW.x hO hi
 obtain ⟨ys, hR, hY⟩ := hR
 refine ⟨l.length, cells, m.length, ys, by rw [hs]; exact hX, by rw [hx]; exact hR.le hO.base, hY.one, hlim, fun v' σ' hg hX' => ?_⟩
 rw [hs] at hg
 obtain ⟨o', hW', hO'⟩ := hW.grow (l' := l ++ m) (n := 0) hO hi hg (by simpa using hX') (hC.append hY)
 exact k v' σ' o' hW' hO'
theorem ziO (hO : Obs τ σ os) (hW : ze T ty τ v l o) (hi : os[i]? = some o) (hs : ev e s = v) (hx : ev e x = u) (hR : RdT T τ u m) {t : Unit} (hr : room (l.length + m.length) = some t) (hb : bytes ≤ 128)
  (k : ∀ v' σ' o', ze T ty τ v' (l ++ m) o' → Obs τ σ' (os.set i o') → wpn P w0 (.seq (.reg r) b) Q (zD e d v') σ') :
  wpn P w0 (.seq (.reg (.s ⟨d, .app ty T.sz bytes s x, []⟩ :: r)) b) Q e σ := zrh hO hW hi hs hx hR (zjH hr hb) k
theorem zho (hf : T.Flat) (hO : Obs τ σ os) (hW : ze T ty τ v l o) (hi : os[i]? = some o) (hs : ev e s = v) (hx : ev e x = u) (hR : RdT T σ u m) {t : Unit} (hr : room (l.length + m.length) = some t) (hb : bytes ≤ 128)
  (k : ∀ v' σ' o', ze T ty τ v' (l ++ m) o' → Obs τ σ' (os.set i o') → wpn P w0 (.seq (.reg r) b) Q (zD e d v') σ') :
  wpn P w0 (.seq (.reg (.s ⟨d, .app ty T.sz bytes s x, []⟩ :: r)) b) Q e σ := by
 show xis P w0 _ e σ _
 rw [zec, zle]
 obtain ⟨cells, hX, hC⟩ := hW.x hO hi
 obtain ⟨ys, hR, hY⟩ := hR
 refine ⟨l.length, cells, m.length, ys, by rw [hs]; exact hX, by rw [hx]; exact hR, hY.one, zjH hr hb, fun v' σ' hg hX' => ?_⟩
 rw [hs] at hg
 obtain ⟨o', hW', hO'⟩ := hW.grow (l' := l ++ m) (n := 0) hO hi hg (by simpa using hX') (hC.append (hY.flat hf))
 exact k v' σ' o' hW' hO'
theorem Chunks.u8s {σ : Hp} (l : List UInt8) : Chunks Ty.u8 σ l (l.map fun b => .int .u8 b.toNat) := Chunks.u8 l
theorem zt (hO : Obs τ σ os) {n : Nat} {zero : List Value} {parts : List (Nat × Nat × Opd)} {cs : List Value} (hf : zdd zero (parts.map fun p => (p.1, p.2.1, ev e p.2.2)) = some cs) (hC : Chunks T τ l cs) (hn : l.length = n) (hm : n ≤ 1000000)
  (k : ∀ v' σ' o', ze T ty τ v' l o' → Obs τ σ' (os ++ [o']) → wpn P w0 (.seq (.reg r) b) Q (zD e d v') σ') : wpn P w0 (.seq (.reg (.s ⟨d, .bslice ty n zero parts, []⟩ :: r)) b) Q e σ := by
 show xis P w0 _ e σ _
 rw [zec, zl3]
 refine ⟨cs, hf, fun bb hb1 hb0 => k _ _ _ (.inr ⟨bb, n, cs, [], by rw [hn], by omega, by unfold maxLen; omega, by rw [List.append_nil], hC⟩) ?_⟩
 have := hO.add hb1 ⟨cs, ty, cs.length, true⟩
 rw [show n * T.sz = cs.length from by rw [hC.len, hn]]
 exact this
theorem zhn {lo hi : Option Opd} {p q : Int} (h : RdT T τ v l) (hx : ev e x = v) (hlo : zch e 0 lo = some p) (hhi : zch e l.length hi = some q) (hg : zcV l p q = some m)
  (k : ∀ u, RdT T τ u m → wpn P w0 (.seq (.reg r) b) Q (zD e d u) σ) : wpn P w0 (.seq (.reg (.s ⟨d, .slc T.sz x lo hi none, []⟩ :: r)) b) Q e σ :=
 zcJ fun K hK => by
  obtain ⟨A, c, rfl, hc⟩ := h.form
  obtain ⟨h0, h1, h2, rfl⟩ := zpu hg
  simp only [xop, hx]
  refine ⟨p, q, c, rfl, hhi, hlo, h0, h1, by omega, by omega, hK _ _ (k _ ?_)⟩
  exact h.slc (by omega) (by omega)
end
theorem zhm {x : Opd} {v : Value} {l : List UInt8} (h : RdT Ty.u8 σ v l) (hx : ev e x = v) (k : wpn P w0 (.seq (.reg r) b) Q (zD e d (.string ⟨l.toArray⟩)) σ) : wpn P w0 (.seq (.reg (.s ⟨d, .tostr x, []⟩ :: r)) b) Q e σ :=
 zcJ fun K hK => by
  obtain ⟨cs, hR, hC⟩ := h
  have : ∀ (l : List UInt8) (cs : List Value), Chunks Ty.u8 σ l cs → cs = l.map fun b => .int .u8 b.toNat := by
   intro l
   induction l with
   | nil => intro cs h; exact h
   | cons x l ih =>
    intro cs h
    obtain ⟨c, q, rfl, h1, h2⟩ := h
    have h1 : c = [.int .u8 x.toNat] := h1
    rw [h1, ih q h2]
    rfl
  rw [this l cs hC] at hR
  exact ⟨l.length, l, by rw [hx]; exact hR, hK _ _ k⟩
theorem znJ {x : Opd} {s : ByteArray} {ty : Nat} (hO : Obs τ σ os) (hx : ev e x = .string s) (k : ∀ v σ' τ', Obs τ' σ' os → Hp.le τ τ' → RdT Ty.u8 τ' v s.data.toList → wpn P w0 (.seq (.reg r) b) Q (zD e d v) σ') : wpn P w0 (.seq (.reg (.s ⟨d, .tobytes ty x, []⟩ :: r)) b) Q e σ :=
 zcJ fun K hK => ⟨s, hx, fun bb n cap h1 h2 => by
  have ht : τ bb = none := by
   cases ht : τ bb with
   | none => rfl
   | some q => have := hO.base bb q ht; rw [h1] at this; cases this
  have hne : ∀ (i c : Nat) (q : Row), os[i]? = some (some (c, q)) → c ≠ bb := fun i c q hq he => by subst he; rw [(hO.row i c q hq).1] at h1; cases h1
  refine hK _ _ (k _ _ (τ.set bb ⟨s.data.toList.map fun b => .int .u8 b.toNat, ty, n, false⟩) ⟨fun c q hc => ?_, fun i c q hq => ?_, hO.apart⟩ (Hp.le_set ht) ⟨_, ⟨_, cap, by simp; rfl, by simpa using h2, (by show _ = _ * 1; simp), fun j u hu => ⟨_, rfl, ?_⟩⟩, Chunks.u8s _⟩)
  ·by_cases hcb : c = bb
   ·subst hcb; rw [Hp.set_eq] at hc ⊢; exact hc
   ·rw [Hp.set_ne _ _ hcb] at hc ⊢; exact hO.base c q hc
  ·rw [Hp.set_ne _ _ (hne i c q hq), Hp.set_ne _ _ (hne i c q hq)]; exact hO.row i c q hq
  ·rw [zcH, Nat.zero_add, zjp]; exact hu⟩
end
theorem zbl {P : Program} {f : FuncId} {fn : Func} {af : zS} {args : List Value} {τ : Hp} {vs : List Ob} {K : Value → Hp → List Ob → Prop} (hm : P.follows .mixedOrders = true) (hf : P.funcs[f]? = some fn) (hs : zT P fn = some af.fn) (ha : (af.body.ok && decide (args.length ≤ af.ntmps)) = true)
  (h : ∀ (w0 : Base) (σ : Hp), Obs τ σ vs → ∀ Q : Exit → Env → Hp → Prop, (∀ e σ' rs τ' vs', resvs e σ' af.results = some rs → Obs τ' σ' vs' → Hp.le τ τ' → K (zcI rs) τ' vs' → Q .ret e σ') → wpn P w0 af.body Q (zcr args) σ) : Ctr P f args.toArray τ vs K := fun w0 σ hO =>
 zqu hm hf hs ha fun Q hQ => h w0.np σ hO Q fun e σ' rs τ' vs' h1 h2 h3 h4 => hQ e σ' rs h1 ⟨τ', vs', h2, h3, h4⟩
def big : Nat := 18446744073709551616
def u8o (n : Int) : Option UInt8 := if 0 ≤ n ∧ n < 256 then some (UInt8.ofNat n.toNat) else none
theorem zlO {n : Int} {z : UInt8} (h : u8o n = some z) : n = (z.toNat : Int) := by
 unfold u8o at h
 split at h
 ·injection h with h
  subst h
  rw [UInt8.toNat_ofNat_of_lt' (show n.toNat < 256 by omega)]
  omega
 ·cases h
theorem u8R {τ : Hp} {n : Int} {z : UInt8} (h : u8o n = some z) : Ty.u8.R τ z [.int .u8 n] := by
 show _ = _
 rw [zlO h]
def zcy (a b : Int) : Int := if b > a then b else a
def zdK (a b : Int) : Int := if b < a then b else a
def zV (x y : ByteArray) : Bool := x.toList == y.toList
def zeg (x y : ByteArray) : Option ByteArray := if ((x.size + y.size : Nat) : Int) > IntKind.i64.max then none else some (x ++ y)
def zfv (s : ByteArray) (i : Int) : Option UInt8 := if 0 ≤ i then s[i.toNat]? else none
theorem znF {a b c : ByteArray} (h : zeg a b = some c) : binv .add (.string a) (.string b) = some (.string c) := by
 unfold zeg at h
 split at h
 ·cases h
 ·rename_i hb; injection h with h; subst h; simp only [binv, sbin]; rw [if_neg hb]
theorem ze.nil0 {α : Type} {T : Ty α} {ty : Nat} {τ σ : Hp} {os : List Ob} (h : Obs τ σ os) : ze T ty τ (.slice none 0 0) [] none := ze.nil T ty τ
theorem Obs.val {τ σ : Hp} {os : List Ob} (hO : Obs τ σ os) {i b off n : Nat} {r : Row} {agg : Bool} {v : Value} (hi : os[i]? = some (some (b, r))) (hc : ziC r.cells off agg n = some v) : zcp σ ⟨b, off, none⟩ agg n = some v :=
 zm9 (hO.row i b r hi).1 rfl rfl hc
section
variable {e : Env} {σ : Hp}
theorem zdb {n : Nat} {rs : List zcP} {l : List Value} (h : resvs e σ rs = some l) : resvs e σ (.t n :: rs) = some (e n :: l) := by simp [resvs, resv, h]
theorem zbE {n k : Nat} {g : Bool} {a : Addr} {v : Value} {rs : List zcP} {l : List Value} (hp : e n = .pointer (some a)) (hv : zcp σ a g k = some v) (h : resvs e σ rs = some l) : resvs e σ (.c n g k :: rs) = some (v :: l) := by simp [resvs, resv, hp, hv, h]
end
section
variable {P : Program} {w0 : Base} {τ σ : Hp} {os : List Ob} {ops r : List XI} {b a : zbA} {Q : Exit → Env → Hp → Prop} {e : Env} {d : Option Nat} {K : Env → Hp → Prop} {id k : Nat}
theorem zj (h : K e σ) : thn K Q .normal e σ := h
theorem zQ (h : Q .ret e σ) : thn K Q .ret e σ := h
theorem zbp (h : Q (.exit k) e σ) : thn K Q (.exit k) e σ := h
theorem zC (h : Q .normal e σ) : inb id Q .normal e σ := h
theorem z6 (h : Q .ret e σ) : inb id Q .ret e σ := h
theorem zbr (h : Q .normal e σ) : inb id Q (.exit id) e σ := by rw [zpz]; exact h
theorem z9 (h : Q .ret e σ) : wpn P w0 .ret Q e σ := h
theorem zH (h : wpn P w0 a (inb id (thn (fun e' σ' => wpn P w0 b Q e' σ') Q)) e σ) : wpn P w0 (.seq (.block id a) b) Q e σ := h
theorem zbQ (n : Nat) (L : List (Nat × Value)) (h1 : ∀ Q' : Exit → Env → Hp → Prop, (∀ e', agr L e' → Q' .normal e' σ) → wpn P w0 (.seq (.reg (ops.take n)) .skip) Q' e σ) (h2 : ∀ j, wpn P w0 (.seq (.reg (ops.drop n)) b) Q (sets L j) σ) : wpn P w0 (.seq (.reg ops) b) Q e σ :=
 zb2 n (fun e' σ' => agr L e' ∧ σ' = σ) (h1 _ fun e' he => ⟨rfl, he, rfl⟩) fun e' σ' h => by
  obtain ⟨h3, rfl⟩ := h
  have := h2 e'
  rw [zM L e' h3] at this
  exact this
theorem zn {α : Type} {c : Opd} {x y : zbA} {t : Bool} {A B : Option α} {rr : α} (hF : (if t = true then A else B) = some rr) (hb : ev e c = .bool t) (h1 : A = some rr → wpn P w0 (.seq x b) Q e σ) (h2 : B = some rr → wpn P w0 (.seq y b) Q e σ) : wpn P w0 (.seq (.cond c x y) b) Q e σ := by
 cases t with
 | true => rw [if_pos rfl] at hF; exact zk5 hb (h1 hF)
 | false => rw [if_neg (fun h => nomatch h)] at hF; exact zm2 hb (h2 hF)
theorem zp {c x y : Opd} {t : Bool} (hc : ev e c = .bool t) (h : wpn P w0 (.seq (.reg r) b) Q (zD e d (if t = true then ev e x else ev e y)) σ) : wpn P w0 (.seq (.reg (.s ⟨d, .pick c x y, []⟩ :: r)) b) Q e σ :=
 zcJ fun K hK => by
  simp only [xop, hc]
  exact hK _ _ h
theorem zls {op : BinOp} {x y : Opd} {v : Value} (hv : binv op (ev e x) (ev e y) = some v) (h : wpn P w0 (.seq (.reg r) b) Q (zD e d v) σ) : wpn P w0 (.seq (.reg (.s ⟨d, .bin op x y, []⟩ :: r)) b) Q e σ :=
 zcJ fun K hK => ⟨v, hv, hK _ _ h⟩
theorem zmo {x i : Opd} {s : ByteArray} {q : IntKind} {n : Int} {z : UInt8} (hx : ev e x = .string s) (hi : ev e i = .int q n) (hg : zfv s n = some z) (h : wpn P w0 (.seq (.reg r) b) Q (zD e d (.int .u8 z.toNat)) σ) : wpn P w0 (.seq (.reg (.s ⟨d, .sidx x i, []⟩ :: r)) b) Q e σ :=
 zcJ fun K hK => by
  unfold zfv at hg
  split at hg
  ·rename_i h0
   simp only [xop, hx, hi]
   exact ⟨h0, z, hg, hK _ _ h⟩
  ·cases hg
end
theorem Chunks.set {α : Type} {T : Ty α} {τ : Hp} {y' : α} {cs' : List Value} (hR : T.R τ y' cs') : ∀ {l : List α} {cells : List Value} {i : Nat}, Chunks T τ l cells → i < l.length → Chunks T τ (l.set i y') (cells.take (i * T.sz) ++ cs' ++ cells.drop (i * T.sz + T.sz))
 | [], cells, i, h, hi => by simp at hi
 | y :: l, cells, 0, h, hi => by
  obtain ⟨c, r, rfl, h1, h2⟩ := h
  have hc := T.len h1
  refine ⟨cs', r, ?_, hR, h2⟩
  rw [Nat.zero_mul, Nat.zero_add, List.take_zero, List.nil_append, ← hc, List.drop_left]
 | y :: l, cells, i + 1, h, hi => by
  obtain ⟨c, r, rfl, h1, h2⟩ := h
  have hc := T.len h1
  refine ⟨c, _, ?_, h1, Chunks.set hR h2 (by simpa using hi)⟩
  have e1 : (i + 1) * T.sz = T.sz + i * T.sz := by rw [Nat.succ_mul, Nat.add_comm]
  rw [e1, ← hc, List.take_append, List.drop_append]
  rw [List.take_of_length_le (by omega), Nat.add_sub_cancel_left]
  rw [List.drop_of_length_le (by omega)]
  rw [show c.length + i * c.length + c.length - c.length = i * c.length + c.length from by omega]
  simp
def zgq (sz : Nat) (o : Ob) (a : Addr) (q : Int) : Prop := ∃ b r, o = some (b, r) ∧ a = ⟨b, q.toNat * sz, none⟩
section
variable {P : Program} {w0 : Base} {τ σ : Hp} {os : List Ob} {r : List XI} {b : zbA} {Q : Exit → Env → Hp → Prop} {e : Env} {d : Option Nat}
variable {α : Type} {T : Ty α} {v : Value} {l : List α} {o : Ob} {i ty : Nat}
theorem zd5 {x ix : Opd} {k : IntKind} {q : Int} {y : α} (hO : Obs τ σ os) (hW : ze T ty τ v l o) (hi : os[i]? = some o) (hx : ev e x = v) (hix : ev e ix = .int k q) (hg : zv l q = some y) (hs : 0 < T.sz)
  (kk : ∀ a cs, T.R τ y cs → At σ a cs → zgq T.sz o a q → wpn P w0 (.seq (.reg r) b) Q (zD e d (.pointer (some a))) σ) : wpn P w0 (.seq (.reg (.s ⟨d, .idx T.sz x ix, []⟩ :: r)) b) Q e σ :=
 zcJ fun K hK => by
  obtain ⟨h0, hg'⟩ := zjw hg
  have hlt := (List.getElem?_eq_some_iff.1 hg').1
  rcases hW with ⟨rfl, rfl, rfl⟩ | ⟨bb, cap, cells, rest, rfl, h2, h3, rfl, h5⟩
  ·simp at hlt
  ·obtain ⟨cs, hR, he⟩ := h5.get hg'
   simp only [xop, hx, hix]
   refine ⟨h0, by omega, rfl, ?_⟩
   refine hK _ _ (kk _ cs hR (fun j u hu => ?_) ⟨bb, _, rfl, by show Addr.add _ _ = _; rw [zcH, Nat.zero_add]⟩)
   obtain ⟨h6, _⟩ := hO.row i bb _ hi
   rw [zfE, zcH, Nat.zero_add]
   simp only [look, h6, Option.isSome_none, Bool.false_eq_true, if_false, Option.bind_some]
   rw [he, List.getElem?_take] at hu
   split at hu
   ·rw [List.getElem?_drop] at hu
    rw [List.getElem?_append_left (List.getElem?_eq_some_iff.1 hu).1]
    exact hu
   ·cases hu
theorem zrM {x y : Opd} {a : Addr} {q : Int} {off n : Nat} {z z' : α} {cs vs cs' : List Value} (hO : Obs τ σ os) (hW : ze T ty τ v l o) (hi : os[i]? = some o) (hp : ev e x = .pointer (some (a.add off))) (hin : zgq T.sz o a q) (hg : zv l q = some z) (hR : T.R τ z cs)
  (hAt : At σ a cs) (hy : (ev e y).cells.toList = vs) (hn : vs.length = n) (h1 : vs.all one = true) (hc : cs.take off ++ vs ++ cs.drop (off + n) = cs') (hoff : off + n ≤ T.sz) (hR' : T.R τ z' cs')
  (kk : ∀ σ' o', ze T ty τ v (l.set q.toNat z') o' → Obs τ σ' (os.set i o') → wpn P w0 (.seq (.reg r) b) Q (zD e d undef) σ') : wpn P w0 (.seq (.reg (.s ⟨d, .store n x y, []⟩ :: r)) b) Q e σ :=
 zcJ fun K hK => by
  obtain ⟨h0, hg'⟩ := zjw hg
  have hlt := (List.getElem?_eq_some_iff.1 hg').1
  rcases hW with ⟨rfl, rfl, rfl⟩ | ⟨bb, cap, cells, rest, rfl, h2, h3, rfl, h5⟩
  ·simp at hlt
  ·obtain ⟨b', r', hb', rfl⟩ := hin
   injection hb' with hb'
   injection hb' with hb1 hb2
   subst hb1; subst hb2
   have hcl := h5.len
   have hsz := T.len hR
   have hin2 : q.toNat * T.sz + T.sz ≤ cells.length := by rw [hcl, ← Nat.succ_mul]; exact Nat.mul_le_mul_right _ hlt
   obtain ⟨cs0, hR0, he⟩ := h5.get hg'
   obtain ⟨h6, _⟩ := hO.row i bb _ hi
   have hcs : (cells.drop (q.toNat * T.sz)).take T.sz = cs := by
    apply List.ext_getElem?
    intro j
    have hl0 : ((cells.drop (q.toNat * T.sz)).take T.sz).length = T.sz := by rw [List.length_take, List.length_drop]; omega
    cases hj : cs[j]? with
    | none =>
     have := List.getElem?_eq_none_iff.1 hj
     exact List.getElem?_eq_none (by omega)
    | some u =>
     have := hAt j u hj
     rw [zcH] at this
     simp only [look, h6, Option.isSome_none, Bool.false_eq_true, if_false, Option.bind_some] at this
     rw [List.getElem?_take, if_pos (by have := (List.getElem?_eq_some_iff.1 hj).1; omega), List.getElem?_drop]
     rw [List.getElem?_append_left (by have := (List.getElem?_eq_some_iff.1 hj).1; omega)] at this
     exact this
   have hz : (ev e y).cells.size = n := by rw [← hn, ← hy, Array.length_toList]
   rw [zcH] at hp
   simp only [xop, hp]
   have hput := zkx vs σ bb (q.toNat * T.sz + off) 0 (cells ++ rest) ty (cap * T.sz) (by rw [List.length_append]; omega)
   rw [Hp.set_same h6] at hput
   refine ⟨hz, by rw [hy]; exact h1, _, by rw [hy]; exact hput, ?_⟩
   have hcells : (cells ++ rest).take (q.toNat * T.sz + off + 0) ++ vs ++ (cells ++ rest).drop (q.toNat * T.sz + off + 0 + vs.length) = cells.take (q.toNat * T.sz) ++ cs' ++ cells.drop (q.toNat * T.sz + T.sz) ++ rest := by
    rw [← hc, ← hcs, hn, Nat.add_zero, List.take_append_of_le_length (by omega), List.drop_append_of_le_length (by omega)]
    have e1 : List.take (q.toNat * T.sz + off) cells = List.take (q.toNat * T.sz) cells ++ List.take off (List.drop (q.toNat * T.sz) cells) := by rw [List.take_add]
    have e2 : List.drop (off + n) (List.take T.sz (List.drop (q.toNat * T.sz) cells)) = List.take (T.sz - (off + n)) (List.drop (q.toNat * T.sz + off + n) cells) := by
     rw [List.drop_take, List.drop_drop, Nat.add_assoc]
    have e3 : List.drop (q.toNat * T.sz + off + n) cells = List.take (T.sz - (off + n)) (List.drop (q.toNat * T.sz + off + n) cells) ++ List.drop (q.toNat * T.sz + T.sz) cells := by
     have := List.take_append_drop (T.sz - (off + n)) (List.drop (q.toNat * T.sz + off + n) cells)
     rw [List.drop_drop, show q.toNat * T.sz + off + n + (T.sz - (off + n)) = q.toNat * T.sz + T.sz from by omega] at this
     exact this.symm
    rw [e1, e2, List.take_take, Nat.min_eq_left (by omega)]
    conv => lhs; rw [e3]
    simp
   rw [hcells]
   have hlen : (l.set q.toNat z').length = l.length := List.length_set
   refine hK _ _ (kk _ _ (.inr ⟨bb, cap, _, rest, by rw [hlen], by rw [hlen]; exact h2, h3, rfl, h5.set hR' hlt⟩) (hO.put hi _))
end
theorem ze.len {α : Type} {T : Ty α} {ty : Nat} {τ : Hp} {A : Option Addr} {n c : Nat} {l : List α} {o : Ob} (h : ze T ty τ (.slice A n c) l o) : n = l.length := by
 obtain ⟨A', c', hv, _⟩ := h.form
 injection hv
theorem At.le {τ τ' : Hp} {a : Addr} {cs : List Value} (h : At τ a cs) (hle : Hp.le τ τ') : At τ' a cs := fun j u hu => by
 have := h j u hu
 unfold look at this ⊢
 split at this
 ·cases this
 ·rename_i hn
  rw [if_neg hn]
  obtain ⟨r, hr, hv⟩ := Option.bind_eq_some_iff.1 this
  rw [hle _ _ hr]
  exact hv
theorem Obs.shareV {τ σ : Hp} {os : List Ob} (h : Obs τ σ os) {i b : Nat} {cells : List Value} {ty n : Nat} {fl : Bool} (hi : os[i]? = some (some (b, ⟨cells, ty, n, fl⟩))) : ∃ τ', Hp.le τ τ' ∧ At τ' ⟨b, 0, none⟩ cells ∧ Obs τ' σ (os.set i none) := by
 obtain ⟨hle, hO'⟩ := h.share hi
 refine ⟨_, hle, fun j u hu => ?_, hO'⟩
 rw [zcH, Nat.zero_add, zjp]
 exact hu
section
variable {P : Program} {w0 : Base} {e : Env} {σ : Hp} {Q : Exit → Env → Hp → Prop} {b : zbA} {r : List XI}
def zjG (st : List ASt) : zbT := .eff ⟨none, none, .mv (.c (.bool true))⟩ st .done
theorem zcj {d : Option Nat} {op : AOp} {st : List ASt} (h : wpn P w0 (.seq (.reg [.s ⟨d, op, []⟩]) (.seq (.parT (zjG st)) (.seq (.reg r) b))) Q e σ) : wpn P w0 (.seq (.reg (.s ⟨d, op, st⟩ :: r)) b) Q e σ := by
 show xis P w0 (.s ⟨d, op, st⟩ :: r) e σ (fun e' σ' => wpn P w0 b Q e' σ')
 rw [zlW]
 have h : xis P w0 [.s ⟨d, op, []⟩] e σ (fun e' σ' => wpn P w0 (.seq (.parT (zjG st)) (.seq (.reg r) b)) Q e' σ') := h
 rw [zec] at h
 refine zfA h fun v σ' h => ?_
 have h : xstep P w0 ⟨none, none, .mv (.c (.bool true))⟩ (zD e d v) σ' (fun e' σ' => agains P w0 st e' σ' ∧ xtree P w0 .done e' σ' (fun e'' σ'' => wpn P w0 (.seq (.reg r) b) Q e'' σ'')) := h
 exact h
theorem zcg {st : List ASt} (ha : agains P w0 st e σ) (h : wpn P w0 b Q e σ) : wpn P w0 (.seq (.parT (zjG st)) b) Q e σ := ⟨ha, h⟩
theorem zb1 {x : Opd} {d n : Nat} {g : Bool} {a : Addr} {u : Value} (hx : ev e x = .pointer (some a)) (hl : zcp σ a g n = some u) (hd : u = e d) : again P w0 ⟨none, some d, .load g n x⟩ e σ := ⟨a, u, hx, hl, hd, rfl⟩
theorem zi5 (h : wpn P w0 b Q e σ) : wpn P w0 (.seq (.parT .done) b) Q e σ := h
theorem zln {s t : zbT} (h1 : wpn P w0 (.seq (.parT s) b) Q e σ) (h2 : wpn P w0 (.seq (.parT t) b) Q e σ) : wpn P w0 (.seq (.parT (.both s t)) b) Q e σ := ⟨h1, h2⟩
theorem zde {d : Option Nat} {op : AOp} {k : zbT} (h : wpn P w0 (.seq (.reg [.s ⟨d, op, []⟩]) (.seq (.parT k) b)) Q e σ) : wpn P w0 (.seq (.parT (.quiet ⟨none, d, op⟩ k)) b) Q e σ := by
 have h : xis P w0 [.s ⟨d, op, []⟩] e σ (fun e' σ' => wpn P w0 (.seq (.parT k) b) Q e' σ') := h
 rw [zec] at h
 exact h
theorem zc1 {d : Option Nat} {op : AOp} {st : List ASt} {k : zbT} (h : wpn P w0 (.seq (.reg [.s ⟨d, op, st⟩]) (.seq (.parT k) b)) Q e σ) : wpn P w0 (.seq (.parT (.eff ⟨none, d, op⟩ st k)) b) Q e σ := by
 have h : xis P w0 [.s ⟨d, op, st⟩] e σ (fun e' σ' => wpn P w0 (.seq (.parT k) b) Q e' σ') := h
 rw [zlW] at h
 exact h
end
def Wt {H : Type} (P : Program) (t : TypeId) (d : DataW H) : Prop := ∀ n ∈ d.weights P t, n ≤ reachBytes
theorem Wt.each {H : Type} {P : Program} {ts : List TypeId} {ds : List (DataW H)} (h : ∀ n ∈ DataW.weightsEach P ts ds, n ≤ reachBytes) {j : Nat} {t : TypeId} {d : DataW H} (ht : ts[j]? = some t) (hd : ds[j]? = some d) : Wt P t d := fun n hn => h n (DataW.weights_mem_each ht hd n hn)
theorem Wt.row {H : Type} {P : Program} {ts : List TypeId} {ds : List (DataW H)} (h : (DataW.weightsEach P ts ds).all (· ≤ reachBytes) = true) (j : Nat) {t : TypeId} {d : DataW H} (ht : ts[j]? = some t) (hd : ds[j]? = some d) : Wt P t d :=
 Wt.each (fun n hn => by simpa using List.all_eq_true.1 h n hn) ht hd
theorem zmu {H : Type} {P : Program} {e : TypeId} : ∀ {ds : List (DataW H)} {d : DataW H}, d ∈ ds → ∀ n ∈ d.weights P e, n ∈ DataW.weightsAll P e ds
 | d0 :: ds, d, hd, n, hn => by
  rcases List.mem_cons.1 hd with rfl | hd
  ·simp only [DataW.weightsAll, List.mem_append]; exact .inl hn
  ·simp only [DataW.weightsAll, List.mem_append]; exact .inr (zmu hd n hn)
theorem Wt.elem {H : Type} {P : Program} {t e : TypeId} {elems spare : List (DataW H)} (hu : P.underlying t = some (.slice e)) (h : Wt P t (.slice elems spare)) {d : DataW H} (hd : d ∈ elems) : Wt P e d := fun n hn => h n (by
 simp only [DataW.weights, hu, List.mem_cons, List.mem_append]
 exact .inr (.inl (zmu hd n hn)))
theorem Wt.len {H : Type} {P : Program} {t e : TypeId} {elems spare : List (DataW H)} (hu : P.underlying t = some (.slice e)) (h : Wt P t (.slice elems spare)) (hb : Nat.ble 1 (P.bytesOf e) = true) : elems.length ≤ reachBytes := by
 have := h ((elems.length + spare.length) * P.bytesOf e) (by simp [DataW.weights, hu])
 have := Nat.le_trans (Nat.le_mul_of_pos_right (elems.length + spare.length) (Nat.le_of_ble_eq_true hb)) this
 omega
theorem Wt.field {H : Type} {P : Program} {t : TypeId} {fs : Array Field} {ds : List (DataW H)} (hu : P.underlying t = some (.struct fs)) (h : Wt P t (.agg ds)) {i : Nat} {f : Field} {d : DataW H} (hf : fs[i]? = some f) (hd : ds[i]? = some d) : Wt P f.type d :=
 Wt.each (ts := fs.toList.map (·.type)) (fun n hn => h n (by simp only [DataW.weights, hu]; exact hn)) (by simp [hf]) hd
def Opn {H α : Type} (enc : TypeId × Value → H) (P : Program) (W : World) (t : TypeId) (T : Ty α) (Q : α → Prop) : Prop :=
 ∀ (fuel : Nat) (cs : List Value) (x : DataW H × List MemPlace), DataW.trod enc P W 0 (fun _ => true) true fuel t cs = some x → Wt P t x.1 → ∃ a, T.R (foreign W) a cs ∧ Q a
section
variable {H α : Type} {enc : TypeId × Value → H} {P : Program} {W : World} {t e : TypeId} {T : Ty α} {Q Q' : α → Prop}
theorem zkh (hu : P.underlying t = some (.int .u8)) : Opn enc P W t Ty.u8 (fun _ => True) := fun fuel cs x hx _ => by
 obtain ⟨n, rfl, _, hw⟩ := DataW.trod_int hu hx
 have hb := wf_u8 hw
 refine ⟨UInt8.ofNat n.toNat, ?_, trivial⟩
 show [Value.int .u8 n] = [.int .u8 ((UInt8.ofNat n.toNat).toNat : Nat)]
 rw [UInt8.toNat_ofNat_of_lt' (show n.toNat < 256 by omega)]
 congr 2
 omega
theorem zi7 (hu : P.underlying t = some (.int .i64)) : Opn enc P W t (Ty.int .i64) (fun n => -9223372036854775808 ≤ n ∧ n ≤ 9223372036854775807) := fun fuel cs x hx _ => by
 obtain ⟨n, rfl, _, hw⟩ := DataW.trod_int hu hx
 exact ⟨n, rfl, zpB hw⟩
theorem zdy (hu : P.underlying t = some .string) : Opn enc P W t Ty.str (fun s => s.size ≤ reachBytes) := fun fuel cs x hx hw => by
 obtain ⟨s, rfl, rfl, hs⟩ := DataW.trod_string hu hx
 refine ⟨s, rfl, ?_⟩
 exact hw s.size (by simp [DataW.weights])
theorem zcZ {fs : Array Field} {xs : List (DataW H × List MemPlace)} {n : Nat} {cs : List Value} (hxl : xs.length = fs.size)
  (hf : ∀ (i : Nat) (f : Field), fs[i]? = some f → DataW.trod enc P W 0 (fun _ => true) true n f.type ((cs.drop f.offset).take (P.cellsOf f.type)) = xs[i]?) (i : Nat) {f : Field} (hi : fs[i]? = some f) {k : Nat} (hk : P.cellsOf f.type = k)
  (hu : P.underlying t = some (.struct fs)) (hw : Wt P t (.agg (xs.map (·.1)))) (hT : Opn enc P W f.type T Q) : ∃ a, T.R (foreign W) a ((cs.drop f.offset).take k) ∧ Q a := by
 have h := hf i f hi
 have hlt : i < xs.length := by
  rw [hxl]
  exact (Array.getElem?_eq_some_iff.1 hi).1
 rw [List.getElem?_eq_getElem hlt, hk] at h
 exact hT _ _ _ h (hw.field hu hi (by simp [hlt]))
theorem zgc (hu : P.underlying t = some (.slice e)) (hk : P.cellsOf e = T.sz) (hb : Nat.ble 1 (P.bytesOf e) = true) (hT : Opn enc P W e T Q) : Opn enc P W t (Ty.slice T) (fun l => l.length ≤ reachBytes ∧ ∀ a ∈ l, Q a) := fun fuel cs x hx hw => by
 rcases DataW.trod_slice hu hx with ⟨rfl, _⟩ | ⟨a, len, cap, elems, rest, n, rfl, rfl, rfl, _, hl, hm, hlen, hel, _, _⟩
 ·exact ⟨[], ⟨_, rfl, RdT.nil T _⟩, Nat.zero_le _, fun _ h => (nomatch h)⟩
 ·have key : ∀ m, m ≤ len → ∃ l : List α, l.length = m ∧ (∀ a ∈ l, Q a) ∧ ∃ cells : List Value, cells.length = m * T.sz ∧ Chunks T (foreign W) l cells ∧ ∀ j u, cells[j]? = some u → look (foreign W) (a.add j) = some u := by
   intro m
   induction m with
   | zero => intro _; exact ⟨[], rfl, fun _ h => (nomatch h), [], by simp, rfl, fun j u h => by simp at h⟩
   | succ m ih =>
    intro hm1
    obtain ⟨l, h1, h2, cells, h3, h4, h5⟩ := ih (by omega)
    have he := hel m (by omega)
    rw [List.getElem?_eq_getElem (by omega)] at he
    obtain ⟨c, hc, hx2⟩ := Option.bind_eq_some_iff.1 he
    obtain ⟨y, hy, hq⟩ := hT _ _ _ hx2 (hw.elem hu (List.mem_map.2 ⟨_, List.getElem_mem _, rfl⟩))
    obtain ⟨_, hcl, hcc⟩ := World.cells?_some hc
    rw [hk] at hcl hcc
    refine ⟨l ++ [y], by simp [h1], fun z hz => ?_, cells ++ c, by rw [List.length_append, h3, hcl, Nat.succ_mul], ?_, fun j u hu => ?_⟩
    ·rcases List.mem_append.1 hz with hz | hz
     ·exact h2 z hz
     ·rw [List.mem_singleton.1 hz]; exact hq
    ·exact h4.append (Chunks.single hy)
    ·rw [List.getElem?_append] at hu
     split at hu
     ·exact h5 j u hu
     ·rename_i hj
      have hlt := (List.getElem?_eq_some_iff.1 hu).1
      have := hcc (j - cells.length) (by omega)
      rw [hu] at this
      have e2 : (a.add (m * T.sz)).add (j - cells.length) = a.add j := by
       have hj2 : m * T.sz ≤ j := by rw [← h3]; omega
       rw [h3, zfE, Nat.add_sub_cancel' hj2]
      rw [e2] at this
      exact zmt this
  obtain ⟨l, h1, h2, cells, h3, h4, h5⟩ := key len (Nat.le_refl _)
  subst h1
  exact ⟨l, ⟨_, rfl, cells, ⟨some a, cap, rfl, hl, h3, fun j u hu => ⟨a, rfl, h5 j u hu⟩⟩, h4⟩, by have := hw.len hu hb; rw [List.length_map] at this; omega, h2⟩
end
theorem zoB {P : Program} {w0 : Base} {f : FuncId} {fn : Func} {af : zS} {args : List Value} {σ : Hp} {K : Value → Hp → Prop} {Kp : List PanicEntry → Hp → Prop} (hm : P.follows .mixedOrders = true) (hf : P.funcs[f]? = some fn) (hs : zT P fn = some af.fn) (ha : (af.body.ok && decide (args.length ≤ af.ntmps)) = true)
  (h : ∀ Q : Exit → Env → Hp → Prop, (∀ e σ' vs, resvs e σ' af.results = some vs → K (zcI vs) σ' → Q .ret e σ' ∧ Q .normal e σ') → wpn P w0.np af.body Q (zcr args) σ) : ACalls P w0 f args.toArray σ K Kp := by
 simp only [Bool.and_eq_true, decide_eq_true_eq] at ha
 refine ACalls.repan (w1 := w0.np) ?_ rfl rfl
 refine zj6 hm hf hs ha.2 (zdf _ _ _ _ _ (zdc _ _ _ _ (fun _ _ _ h => h.elim) ha.1 (h (fun x e σ' => (x = .ret ∨ x = .normal) ∧ ∃ vs, resvs e σ' af.results = some vs ∧ K (zcI vs) σ') (fun e σ' vs h1 h2 => ⟨⟨.inl rfl, vs, h1, h2⟩, .inr rfl, vs, h1, h2⟩))) fun x e σ' hq => ?_)
 obtain ⟨rfl | rfl, h⟩ := hq
 ·exact h
 ·exact h
theorem zfB {P : Program} {f : FuncId} {fn : Func} {af : zS} {args : List Value} {τ : Hp} {vs : List Ob} {K : Value → Hp → List Ob → Prop} (hm : P.follows .mixedOrders = true) (hf : P.funcs[f]? = some fn) (hs : zT P fn = some af.fn) (ha : (af.body.ok && decide (args.length ≤ af.ntmps)) = true)
  (h : ∀ (w0 : Base) (σ : Hp), Obs τ σ vs → ∀ Q : Exit → Env → Hp → Prop, (∀ e σ' rs τ' vs', resvs e σ' af.results = some rs → Obs τ' σ' vs' → Hp.le τ τ' → K (zcI rs) τ' vs' → Q .ret e σ' ∧ Q .normal e σ') → wpn P w0 af.body Q (zcr args) σ) : Ctr P f args.toArray τ vs K := fun w0 σ hO =>
 zoB hm hf hs ha fun Q hQ => h w0.np σ hO Q fun e σ' rs τ' vs' h1 h2 h3 h4 => hQ e σ' rs h1 ⟨τ', vs', h2, h3, h4⟩
section
variable {P : Program}
theorem zs1 {w0 : Base} {M : World → (Ending → World → Prop) → Prop} {τ σ : Hp} {hs vs : List Ob} {K : Value → Hp → List Ob → Prop} {w : World} (hM : ∀ w R R', (∀ e w', R e w' → R' e w') → M w R → M w R') (hO : Obs τ σ (hs ++ vs)) (hI : Inv w0 σ w)
  (hC : ∀ (w1 : Base) (ρ : Hp), w1.world = w0.world → (∀ b o, w0.hid b = some o → w1.hid b = some o) → Obs τ ρ vs → Inv w1 ρ w → M w (fun e w' => match e with
   | .returned v => ∃ ρ', Inv w1 ρ' w' ∧ ∃ τ' vs', Obs τ' ρ' vs' ∧ Hp.le τ τ' ∧ K v τ' vs'
   | .panicked ch => ∃ ρ', Inv w1 ρ' w' ∧ zc3 ch ρ'
   | .outgrown => False)) :
  M w (fun e w' => match e with
   | .returned v => ∃ σ', Inv w0 σ' w' ∧ ∃ τ' vs', Obs τ' σ' (hs ++ vs') ∧ Hp.le τ τ' ∧ K v τ' vs'
   | .panicked ch => ∃ σ', Inv w0 σ' w' ∧ zc3 ch σ'
   | .outgrown => False) := by
 classical
 have hrow : ∀ (i b : Nat) (r : Row), hs[i]? = some (some (b, r)) → σ b = some r ∧ τ b = none := fun i b r e => hO.row i b r (by rw [List.getElem?_append_left (List.getElem?_eq_some_iff.1 e).1]; exact e)
 have vrow : ∀ (i b : Nat) (r : Row), vs[i]? = some (some (b, r)) → (hs ++ vs)[hs.length + i]? = some (some (b, r)) := fun i b r e => by rw [List.getElem?_append_right (by omega), Nat.add_sub_cancel_left]; exact e
 let H : Nat → Prop := fun b => ∃ (i : Nat) (r : Row), hs[i]? = some (some (b, r))
 let w1 : Base := { world := w0.world, hid := fun b => if H b then w.heap[b]? else w0.hid b }
 let ρ : Hp := fun b => if H b then none else σ b
 have hρ : Obs τ ρ vs := by
  refine ⟨fun b r e => ?_, fun i b r e => ?_, fun i j b r r' e1 e2 => ?_⟩
  ·have hn : ¬ H b := fun ⟨i, q, h⟩ => by rw [(hrow i b q h).2] at e; cases e
   simp only [ρ, if_neg hn]
   exact hO.base b r e
  ·obtain ⟨h1, h2⟩ := hO.row _ b r (vrow i b r e)
   have hn : ¬ H b := fun ⟨k, q, h⟩ => by
    have hk := (List.getElem?_eq_some_iff.1 h).1
    have := hO.apart k (hs.length + i) b q r (by rw [List.getElem?_append_left hk]; exact h) (vrow i b r e)
    omega
   exact ⟨by simp only [ρ, if_neg hn]; exact h1, h2⟩
  ·have := hO.apart _ _ b r r' (vrow i b r e1) (vrow j b r' e2)
   omega
 have hI1 : Inv w1 ρ w := by
  refine ⟨hI.below, fun b o ho => ?_, fun b r hb => ?_⟩
  ·by_cases hH : H b
   ·simp only [w1, if_pos hH] at ho
    exact ⟨by simp only [ρ, if_pos hH], ho⟩
   ·simp only [w1, if_neg hH] at ho
    exact ⟨by simp only [ρ, if_neg hH]; exact (hI.hid b o ho).1, (hI.hid b o ho).2⟩
  ·by_cases hH : H b
   ·simp only [ρ, if_pos hH] at hb; cases hb
   ·simp only [ρ, if_neg hH] at hb
    exact hI.row b r hb
 have hhid : ∀ b o, w0.hid b = some o → w1.hid b = some o := fun b o ho => by
  have hn : ¬ H b := fun ⟨i, q, h⟩ => by have := (hI.hid b o ho).1; rw [(hrow i b q h).1] at this; cases this
  simp only [w1, if_neg hn]; exact ho
 refine hM _ _ _ (fun e w' he => ?_) (hC w1 ρ rfl hhid hρ hI1)
 cases e with
 | panicked ch => obtain ⟨_, _, h⟩ := he; exact h.elim
 | outgrown => exact he
 | returned v =>
  obtain ⟨ρ', hI', τ', vs', hO', hle, hK⟩ := he
  have hH' : ∀ b, H b → ρ' b = none ∧ w'.heap[b]? = w.heap[b]? := fun b hH => by
   obtain ⟨i, r, hi⟩ := hH
   obtain ⟨cs, fr, hw, _⟩ := hI.row b r (hrow i b r hi).1
   have := hI'.hid b _ (show w1.hid b = some _ from by simp only [w1, if_pos (show H b from ⟨i, r, hi⟩)]; exact hw)
   exact ⟨this.1, by rw [this.2, hw]⟩
  refine ⟨fun b => if H b then σ b else ρ' b, ⟨hI'.below, fun b o ho => ?_, fun b r hb => ?_⟩, τ', vs', ⟨fun b r e => ?_, fun i b r e => ?_, fun i j b r r' e1 e2 => ?_⟩, hle, hK⟩
  ·have hn : ¬ H b := fun ⟨i, q, h⟩ => by have := (hI.hid b o ho).1; rw [(hrow i b q h).1] at this; cases this
   have := hI'.hid b o (hhid b o ho)
   exact ⟨by simp only [if_neg hn]; exact this.1, this.2⟩
  ·by_cases hH : H b
   ·simp only [if_pos hH] at hb
    obtain ⟨cs, fr, hw, h1⟩ := hI.row b r hb
    exact ⟨cs, fr, by rw [(hH' b hH).2]; exact hw, h1⟩
   ·simp only [if_neg hH] at hb
    exact hI'.row b r hb
  ·have := hO'.base b r e
   have hn : ¬ H b := fun h => by rw [(hH' b h).1] at this; cases this
   simp only [if_neg hn]
   exact this
  ·rw [List.getElem?_append] at e
   split at e
   ·have hH : H b := ⟨i, r, e⟩
    simp only [if_pos hH]
    refine ⟨(hrow i b r e).1, ?_⟩
    cases ht : τ' b with
    | none => rfl
    | some q => have := hO'.base b q ht; rw [(hH' b hH).1] at this; cases this
   ·obtain ⟨h1, h2⟩ := hO'.row _ b r e
    have hn : ¬ H b := fun h => by rw [(hH' b h).1] at h1; cases h1
    simp only [if_neg hn]
    exact ⟨h1, h2⟩
  ·rw [List.getElem?_append] at e1 e2
   split at e1 <;> split at e2
   ·exact hO.apart i j b r r' (by rw [List.getElem?_append_left (by assumption)]; exact e1) (by rw [List.getElem?_append_left (by assumption)]; exact e2)
   ·have := (hO'.row _ b r' e2).1
    rw [(hH' b ⟨i, r, e1⟩).1] at this
    cases this
   ·have := (hO'.row _ b r e1).1
    rw [(hH' b ⟨j, r', e2⟩).1] at this
    cases this
   ·have := hO'.apart _ _ b r r' e1 e2
    omega
end
inductive RA where
 | seq (a : zb6) (b : RA)
 | seqR (a : RA) (b : zb6)
 | block (id : Nat) (a : RA)
 | range (g : Nat) (p : Nat) (as bd : zb6)
def zj4 (P : Program) (n : Nat) : Code → Option RA
 | .seq a b => match slim P n a with
  | some x => (zj4 P n b).map fun y => .seq x y
  | none => (zj4 P n a).bind fun x => (slim P n b).map fun y => .seqR x y
 | .block id c => (zj4 P n c).map fun x => .block id x
 | .rangeFunc (.tmp g) ps a b => if ps.size = 1 ∧ ps[0]?.any (fun p => decide (p < n)) = true then (slim P n a).bind fun x => (slim P n b).map fun y => .range g (ps[0]?.getD 0) x y else none
 | _ => none
section
variable {P : Program} {w0 : Base}
theorem zqW {f : FuncId} (hf : okF P f = true) (args : Array Value) (w : World) : (callFunc f args).run P w = .ok (.enter f args) w := by
 unfold callFunc
 rw [run_bind]
 show (Sem.run P (match P.funcs[f]? with | none => _ | some fn => _) w) = _
 unfold okF at hf
 cases hp : P.funcs[f]? with
 | none => rw [hp] at hf; cases hf
 | some fn =>
  rw [hp] at hf
  simp only [Bool.and_eq_true, Bool.not_eq_true', beq_eq_false_iff_ne, ne_eq] at hf
  dsimp only
  rw [if_neg (by simpa using hf.2), if_neg (by cases hb : fn.body <;> simp_all)]
  rfl
end
def zO {ε α β : Type} (o : Option (Except ε α)) (fe : ε → Option β) (f : α → Option β) : Option β := match o with
 | none => none
 | some (.error x) => fe x
 | some (.ok a) => f a
theorem zX {ε α β : Type} {o : Option (Except ε α)} {fe : ε → Option β} {f : α → Option β} {r : β} (h : zO o fe f = some r) : (∃ x, o = some (.error x) ∧ fe x = some r) ∨ ∃ a, o = some (.ok a) ∧ f a = some r := by
 unfold zO at h
 split at h
 ·cases h
 ·exact .inl ⟨_, rfl, h⟩
 ·exact .inr ⟨_, rfl, h⟩
def zbK (P : Program) (f : FuncId) (args : Array Value) (τ : Hp) (vs : List Ob) (K : Value → Hp → List Ob → Prop) (Kp : List PanicEntry → Hp → List Ob → Prop) : Prop :=
 ∀ (w0 : Base) (ρ : Hp), Obs τ ρ vs → ACalls P w0 f args ρ (fun v ρ' => ∃ τ' vs', Obs τ' ρ' vs' ∧ Hp.le τ τ' ∧ K v τ' vs') (fun ch ρ' => ∃ τ' vs', Obs τ' ρ' vs' ∧ Hp.le τ τ' ∧ Kp ch τ' vs')
theorem ACalls.frP {P : Program} {w0 : Base} {f : FuncId} {args : Array Value} {τ σ : Hp} {hs vs : List Ob} {K : Value → Hp → List Ob → Prop} {Kp : List PanicEntry → Hp → List Ob → Prop} (hO : Obs τ σ (hs ++ vs)) (hC : zbK P f args τ vs K Kp) :
  ACalls P w0 f args σ (fun v σ' => ∃ τ' vs', Obs τ' σ' (hs ++ vs') ∧ Hp.le τ τ' ∧ K v τ' vs') (fun ch σ' => ∃ τ' vs', Obs τ' σ' (hs ++ vs') ∧ Hp.le τ τ' ∧ Kp ch τ' vs') := by
 intro w hI
 classical
 have hrow : ∀ (i b : Nat) (r : Row), hs[i]? = some (some (b, r)) → σ b = some r ∧ τ b = none := fun i b r e => hO.row i b r (by rw [List.getElem?_append_left (List.getElem?_eq_some_iff.1 e).1]; exact e)
 have vrow : ∀ (i b : Nat) (r : Row), vs[i]? = some (some (b, r)) → (hs ++ vs)[hs.length + i]? = some (some (b, r)) := fun i b r e => by rw [List.getElem?_append_right (by omega), Nat.add_sub_cancel_left]; exact e
 let H : Nat → Prop := fun b => ∃ (i : Nat) (r : Row), hs[i]? = some (some (b, r))
 let w1 : Base := { world := w0.world, hid := fun b => if H b then w.heap[b]? else w0.hid b }
 let ρ : Hp := fun b => if H b then none else σ b
 have hρ : Obs τ ρ vs := by
  refine ⟨fun b r e => ?_, fun i b r e => ?_, fun i j b r r' e1 e2 => ?_⟩
  ·have hn : ¬ H b := fun ⟨i, q, h⟩ => by rw [(hrow i b q h).2] at e; cases e
   simp only [ρ, if_neg hn]
   exact hO.base b r e
  ·obtain ⟨h1, h2⟩ := hO.row _ b r (vrow i b r e)
   have hn : ¬ H b := fun ⟨k, q, h⟩ => by
    have hk := (List.getElem?_eq_some_iff.1 h).1
    have := hO.apart k (hs.length + i) b q r (by rw [List.getElem?_append_left hk]; exact h) (vrow i b r e)
    omega
   exact ⟨by simp only [ρ, if_neg hn]; exact h1, h2⟩
  ·have := hO.apart _ _ b r r' (vrow i b r e1) (vrow j b r' e2)
   omega
 have hI1 : Inv w1 ρ w := by
  refine ⟨hI.below, fun b o ho => ?_, fun b r hb => ?_⟩
  ·by_cases hH : H b
   ·simp only [w1, if_pos hH] at ho
    exact ⟨by simp only [ρ, if_pos hH], ho⟩
   ·simp only [w1, if_neg hH] at ho
    exact ⟨by simp only [ρ, if_neg hH]; exact (hI.hid b o ho).1, (hI.hid b o ho).2⟩
  ·by_cases hH : H b
   ·simp only [ρ, if_pos hH] at hb; cases hb
   ·simp only [ρ, if_neg hH] at hb
    exact hI.row b r hb
 have back : ∀ (ρ' τ' : Hp) (vs' : List Ob) (w' : World), Inv w1 ρ' w' → Obs τ' ρ' vs' → ∃ σ', Inv w0 σ' w' ∧ Obs τ' σ' (hs ++ vs') := by
  intro ρ' τ' vs' w' hI' hO'
  have hH' : ∀ b, H b → ρ' b = none ∧ w'.heap[b]? = w.heap[b]? := fun b hH => by
   obtain ⟨i, r, hi⟩ := hH
   obtain ⟨cs, fr, hw, _⟩ := hI.row b r (hrow i b r hi).1
   have := hI'.hid b _ (show w1.hid b = some _ from by simp only [w1, if_pos (show H b from ⟨i, r, hi⟩)]; exact hw)
   exact ⟨this.1, by rw [this.2, hw]⟩
  refine ⟨fun b => if H b then σ b else ρ' b, ⟨hI'.below, fun b o ho => ?_, fun b r hb => ?_⟩, ⟨fun b r e => ?_, fun i b r e => ?_, fun i j b r r' e1 e2 => ?_⟩⟩
  ·have hn : ¬ H b := fun ⟨i, q, h⟩ => by have := (hI.hid b o ho).1; rw [(hrow i b q h).1] at this; cases this
   have := hI'.hid b o (show w1.hid b = some o from by simp only [w1, if_neg hn]; exact ho)
   exact ⟨by simp only [if_neg hn]; exact this.1, this.2⟩
  ·by_cases hH : H b
   ·simp only [if_pos hH] at hb
    obtain ⟨cs, fr, hw, h1⟩ := hI.row b r hb
    exact ⟨cs, fr, by rw [(hH' b hH).2]; exact hw, h1⟩
   ·simp only [if_neg hH] at hb
    exact hI'.row b r hb
  ·have := hO'.base b r e
   have hn : ¬ H b := fun h => by rw [(hH' b h).1] at this; cases this
   simp only [if_neg hn]
   exact this
  ·rw [List.getElem?_append] at e
   split at e
   ·have hH : H b := ⟨i, r, e⟩
    simp only [if_pos hH]
    refine ⟨(hrow i b r e).1, ?_⟩
    cases ht : τ' b with
    | none => rfl
    | some q => have := hO'.base b q ht; rw [(hH' b hH).1] at this; cases this
   ·obtain ⟨h1, h2⟩ := hO'.row _ b r e
    have hn : ¬ H b := fun h => by rw [(hH' b h).1] at h1; cases h1
    simp only [if_neg hn]
    exact ⟨h1, h2⟩
  ·rw [List.getElem?_append] at e1 e2
   split at e1 <;> split at e2
   ·rename_i hi hj
    exact hO.apart i j b r r' (by rw [List.getElem?_append_left hi]; exact e1) (by rw [List.getElem?_append_left hj]; exact e2)
   ·have h1 := (hO'.row _ b r' e2).1; rw [(hH' b ⟨i, r, e1⟩).1] at h1; cases h1
   ·have h1 := (hO'.row _ b r e1).1; rw [(hH' b ⟨j, r', e2⟩).1] at h1; cases h1
   ·have := hO'.apart _ _ b r r' e1 e2
    omega
 refine (hC w1 ρ hρ w hI1).mono fun e w' he => ?_
 cases e with
 | panicked ch =>
  obtain ⟨ρ', hI', τ', vs', hO', hle, hK⟩ := he
  obtain ⟨σ', h1, h2⟩ := back ρ' τ' vs' w' hI' hO'
  exact ⟨σ', h1, τ', vs', h2, hle, hK⟩
 | outgrown => exact he
 | returned v =>
  obtain ⟨ρ', hI', τ', vs', hO', hle, hK⟩ := he
  obtain ⟨σ', h1, h2⟩ := back ρ' τ' vs' w' hI' hO'
  exact ⟨σ', h1, τ', vs', h2, hle, hK⟩
section
variable {P : Program} {w0 : Base} {e : Env} {τ σ : Hp} {Q : Exit → Env → Hp → Prop} {b : zbA} {r : List XI} {d : Option Nat} {os : List Ob}
theorem zn1 {f : FuncId} {args : List Opd} {as : Array Value} {hs vs : List Ob} {K : Value → Hp → List Ob → Prop} {Kp : List PanicEntry → Hp → List Ob → Prop} (hO : Obs τ σ (hs ++ vs)) (hC : zbK P f as τ vs K Kp) (ha : (args.map (ev e)).toArray = as)
  (kp : ∀ ch σ' τ' vs', Obs τ' σ' (hs ++ vs') → Hp.le τ τ' → Kp ch τ' vs' → w0.pan ch σ')
  (k : ∀ v σ' τ' vs', Obs τ' σ' (hs ++ vs') → Hp.le τ τ' → K v τ' vs' → wpn P w0 (.seq (.reg r) b) Q (zD e d v) σ') : wpn P w0 (.seq (.reg (.s ⟨d, .call f args, []⟩ :: r)) b) Q e σ :=
 zcJ fun KK hK => by
  subst ha
  exact (ACalls.frP hO hC).mono (fun v σ' ⟨τ', vs', h1, h2, h3⟩ => hK v σ' (k v σ' τ' vs' h1 h2 h3)) (fun ch σ' ⟨τ', vs', h1, h2, h3⟩ => kp ch σ' τ' vs' h1 h2 h3)
theorem zY {f : FuncId} {args : List Opd} {as : Array Value} {hs vs : List Ob} {K : Value → Hp → List Ob → Prop} {Kp : List PanicEntry → Hp → List Ob → Prop} (hO : Obs τ σ (hs ++ vs)) (hC : zbK P f as τ vs K Kp) (hn : ∀ v τ' vs', K v τ' vs' → False) (ha : (args.map (ev e)).toArray = as)
  (kp : ∀ ch σ' τ' vs', Obs τ' σ' (hs ++ vs') → Hp.le τ τ' → Kp ch τ' vs' → w0.pan ch σ') : wpn P w0 (.seq (.reg (.s ⟨d, .call f args, []⟩ :: r)) b) Q e σ :=
 zn1 hO hC ha kp fun v σ' τ' vs' _ _ h => (hn v τ' vs' h).elim
theorem zW {f : FuncId} {args : List Opd} {as : Array Value} {hs vs : List Ob} {K : Value → Hp → List Ob → Prop} {Kp : List PanicEntry → Hp → List Ob → Prop} (hO : Obs τ σ (hs ++ vs)) (hC : zbK P f as τ vs K Kp) (hn : ∀ ch τ' vs', Kp ch τ' vs' → False) (ha : (args.map (ev e)).toArray = as)
  (k : ∀ v σ' τ' vs', Obs τ' σ' (hs ++ vs') → Hp.le τ τ' → K v τ' vs' → wpn P w0 (.seq (.reg r) b) Q (zD e d v) σ') : wpn P w0 (.seq (.reg (.s ⟨d, .call f args, []⟩ :: r)) b) Q e σ :=
 zn1 hO hC ha (fun ch σ' τ' vs' _ _ h => (hn ch τ' vs' h).elim) k
theorem zoA {x : Opd} {t : TypeId} {v : Value} (hx : ev e x = .iface t v) (h : w0.pan [{ v := .iface t v, recovered := false }] σ) : wpn P w0 (.seq (.reg (.s ⟨d, .pan x, []⟩ :: r)) b) Q e σ :=
 zcJ fun KK hK => ⟨t, v, hx, h⟩
end
theorem zcA {P : Program} {f : FuncId} {fn : Func} {af : zS} {args : List Value} {τ : Hp} {vs : List Ob} {K : Value → Hp → List Ob → Prop} {Kp : List PanicEntry → Hp → List Ob → Prop} (hm : P.follows .mixedOrders = true) (hf : P.funcs[f]? = some fn) (hs : zT P fn = some af.fn) (ha : (af.body.ok && decide (args.length ≤ af.ntmps)) = true)
  (h : ∀ (w0 : Base) (σ : Hp), (∀ ch σ' τ' vs', Obs τ' σ' vs' → Hp.le τ τ' → Kp ch τ' vs' → w0.pan ch σ') → Obs τ σ vs → ∀ Q : Exit → Env → Hp → Prop, (∀ e σ' rs τ' vs', resvs e σ' af.results = some rs → Obs τ' σ' vs' → Hp.le τ τ' → K (zcI rs) τ' vs' → Q .ret e σ' ∧ Q .normal e σ') → wpn P w0 af.body Q (zcr args) σ) : zbK P f args.toArray τ vs K Kp := fun w0 σ hO => by
 simp only [Bool.and_eq_true, decide_eq_true_eq] at ha
 let w1 : Base := { world := w0.world, hid := w0.hid, pan := fun ch ρ' => ∃ τ' vs', Obs τ' ρ' vs' ∧ Hp.le τ τ' ∧ Kp ch τ' vs' }
 refine ACalls.repan (w1 := w1) ?_ rfl rfl
 refine zj6 hm hf hs ha.2 (zdf _ _ _ _ _ (zdc af.body (fun x e σ' => ((x = .ret ∨ x = .normal) ∧ ∃ vs, resvs e σ' af.results = some vs ∧ ∃ τ' vs', Obs τ' σ' vs' ∧ Hp.le τ τ' ∧ K (zcI vs) τ' vs') ∨ ∃ ch, x = .panic ch ∧ w1.pan ch σ') _ _ (fun ch σ' e' h => .inr ⟨ch, rfl, h⟩) ha.1 (h w1 σ (fun ch σ' τ' vs' h1 h2 h3 => ⟨τ', vs', h1, h2, h3⟩) hO _ (fun e σ' rs τ' vs' h1 h2 h3 h4 => ⟨.inl ⟨.inl rfl, rs, h1, τ', vs', h2, h3, h4⟩, .inl ⟨.inr rfl, rs, h1, τ', vs', h2, h3, h4⟩⟩))) fun x e σ' hq => ?_)
 rcases hq with ⟨hx, vs, h1, h2⟩ | ⟨ch, rfl, h1⟩
 ·rcases hx with rfl | rfl
  ·exact ⟨vs, h1, h2⟩
  ·exact ⟨vs, h1, h2⟩
 ·exact h1
def zeD (P : Program) (w0 : Base) (g : FuncId) (args : Array Value) (u : FrameMode) (σ : Hp) (K : FrameMode → Hp → Prop) : Prop :=
 ∀ w, Inv w0 σ w → CallsDIn (Rf none) 0 P g args u w fun e u' w' => match e with
  | .returned _ => ∃ σ', Inv w0 σ' w' ∧ K u' σ'
  | _ => False
inductive DA where
 | pre (a : zb6) (k : DA)
 | dfr (d : Nat) (g : FuncId) (cs : List Opd) (body : zb6)
inductive zee where
 | pre (a : zbA) (k : zee)
 | dfr (d : Nat) (g : FuncId) (cs : List Opd) (body : zbA)
def zee.code : zee → DA
 | .pre a k => .pre a.code k.code
 | .dfr d g cs b => .dfr d g cs b.code
def zee.ok : zee → Bool
 | .pre a k => a.ok && k.ok
 | .dfr _ _ _ b => b.ok
def zc8 (J : List Nat) : Code → Bool
 | .region _ ops _ => ops.toList.all fun o => match o.dst with | some d => !J.contains d | none => true
 | .seq a b => zc8 J a && zc8 J b
 | .cond _ a b => zc8 J a && zc8 J b
 | .block _ c => zc8 J c
 | .loop c => zc8 J c
 | .scope c => zc8 J c
 | _ => true
theorem zeQ {J : List Nat} {fx : Nat → Option Value} (hfx : ∀ d, ¬ d ∈ J → fx d = none) : ∀ c : Code, zc8 J c = true → Code.free fx c
 | .region _ ops _, h => fun i o ho d hd => by
  simp only [zc8, List.all_eq_true] at h
  have := h o (by
   rw [← Array.getElem?_toList] at ho
   exact List.mem_of_getElem? ho)
  rw [hd] at this
  exact hfx d (by simpa using this)
 | .seq a b, h => by simp only [zc8, Bool.and_eq_true] at h; exact ⟨zeQ hfx a h.1, zeQ hfx b h.2⟩
 | .cond _ a b, h => by simp only [zc8, Bool.and_eq_true] at h; exact ⟨zeQ hfx a h.1, zeQ hfx b h.2⟩
 | .block _ c, h => zeQ hfx c h
 | .loop c, h => zeQ hfx c h
 | .scope c, h => zeQ hfx c h
 | .skip, _ => trivial
 | .exit _, _ => trivial
 | .ret, _ => trivial
 | .rangeFunc .., _ => trivial
 | .label _, _ => trivial
 | .goto _, _ => trivial
 | .refuse _, _ => trivial
def ziS (P : Program) (N : Nat) (ops : Array Oper) : Option (Nat × FuncId × List Operand) := match ops.toList with
 | [⟨some d, .makeFunc (.func g) first caps, _, _, _, none⟩, ⟨none, .defer ⟨.value (.tmp d'), args, _⟩, _, _, _, none⟩] => if first.size = 0 ∧ args.size = 0 ∧ d' = d ∧ okF P g = true ∧ d < N then some (d, g, caps.toList) else none
 | _ => none
def zfR (P : Program) (N : Nat) (J : List Nat) : Code → Option DA
 | .seq (.region id ops false) c => match ziS P N ops with
  | some (d, g, cs) => (req (zc8 J c)).bind fun _ => (slim P N c).map fun b => .dfr d g (cs.map zL) b
  | none => (slim P N (.region id ops false)).bind fun x => (zfR P N J c).map fun k => .pre x k
 | .seq a b => (slim P N a).bind fun x => (zfR P N J b).map fun k => .pre x k
 | _ => none
section
variable (P : Program) (w0 : Base) (J : List Nat)
def zfp : DA → (Exit → Env → Hp → Prop) → Env → Hp → Prop
 | .pre a k, Q, e, σ => awp P w0 a (thn (fun e' σ' => zfp k Q e' σ') Q) e σ
 | .dfr d g cs b, Q, e, σ => awp P w0 b (fun x e' σ' => (∀ j ∈ J, e' j = zD e (some d) (.func (.func g) #[] (cs.map (ev e)).toArray) j) → match x with
  | .normal => zeD P w0 g (cs.map (ev e)).toArray .returning σ' fun u' σ'' => settle u' = .returning ∧ Q .ret e' σ''
  | .ret => zeD P w0 g (cs.map (ev e)).toArray .returning σ' fun u' σ'' => settle u' = .returning ∧ Q .ret e' σ''
  | .panic ch => zeD P w0 g (cs.map (ev e)).toArray (.panicking ch) σ' fun u' σ'' => settle u' = .returning ∧ Q .ret e' σ''
  | _ => False) (zD e (some d) (.func (.func g) #[] (cs.map (ev e)).toArray)) σ
end
section
variable {P : Program} {w0 : Base} {J : List Nat} {N : Nat}
theorem zlN {fn : Func} {a : Act} {rs : List zcP} {K : Value → Hp → Prop} {Kp : List PanicEntry → Hp → Prop} {σ : Hp} {w : World} (hrs : fn.results.toList.mapM (zfx P) = some rs) (hI : Inv w0 σ w) (h : ∃ vs, resvs (zbb a) σ rs = some vs ∧ K (zcI vs) σ) :
  LeavesIn (Rf none) 0 P fn a.tmps (fun e w' => match e with
   | .returned v => ∃ σ', Inv w0 σ' w' ∧ K v σ'
   | .panicked ch => ∃ σ', Inv w0 σ' w' ∧ Kp ch σ'
   | .outgrown => False) [] .returning w := by
 obtain ⟨vs, h1, h2⟩ := h
 exact ⟨zcI vs, zim hI hrs h1, σ, hI, h2⟩
theorem zrD {ops : Array Oper} {d : Nat} {g : FuncId} {cs : List Operand} (h : ziS P N ops = some (d, g, cs)) : ∃ t1 p1 a1 caps t2 p2 a2 ts, ops.toList = [⟨some d, .makeFunc (.func g) #[] caps, t1, p1, a1, none⟩, ⟨none, .defer ⟨.value (.tmp d), #[], ts⟩, t2, p2, a2, none⟩] ∧ cs = caps.toList ∧ okF P g = true ∧ d < N := by
 unfold ziS at h
 split at h
 ·rename_i d1 g1 first caps t1 p1 a1 d' args ts t2 p2 a2 hops
  split at h
  ·rename_i hc
   obtain ⟨c1, c2, rfl, c4, c5⟩ := hc
   injection h with h
   injection h with h1 h2
   injection h2 with h2 h3
   subst h1; subst h2; subst h3
   have e1 : first = #[] := Array.size_eq_zero_iff.1 c1
   have e2 : args = #[] := Array.size_eq_zero_iff.1 c2
   subst e1; subst e2
   exact ⟨t1, p1, a1, caps, t2, p2, a2, ts, hops, rfl, c4, c5⟩
  ·cases h
 ·cases h
theorem zrl (hm : P.follows .mixedOrders = true) {fn : Func} {rs : List zcP} {K : Value → Hp → Prop} {Kp : List PanicEntry → Hp → Prop} (hrs : fn.results.toList.mapM (zfx P) = some rs) {id : Nat} {ops : Array Oper} {c : Code} {d : Nat} {g : FuncId} {cs : List Operand} {b : zb6} {a : Act} {w : World} {σ : Hp}
  (hdf : ziS P N ops = some (d, g, cs)) (hfr : zc8 J c = true) (hb : slim P N c = some b) (hN : a.tmps.size = N) (hd : a.defers = []) (hI : Inv w0 σ w) (hK : zfp P w0 J (.dfr d g (cs.map zL) b) (apost rs K Kp) (zbb a) σ) :
  (Code.seq (.region id ops false) c).wpIn (Rf none) 0 P (bodyPostDIn (Rf none) 0 P fn (fun e w' => match e with
    | .returned v => ∃ σ', Inv w0 σ' w' ∧ K v σ'
    | .panicked ch => ∃ σ', Inv w0 σ' w' ∧ Kp ch σ'
    | .outgrown => False)) a w := by
 obtain ⟨t1, p1, a1, caps, t2, p2, a2, ts, hops, rfl, hok, hdN⟩ := zrD hdf
 have hcap : ((caps.toList.map zL).map (ev (zbb a))).toArray = caps.map a.eval := by
  apply Array.ext'
  simp only [List.map_map, Array.toList_map]
  refine List.map_congr_left fun x _ => ?_
  simp [zbd]
 obtain ⟨V, hV⟩ : ∃ V, V = Value.func (.func g) #[] (caps.map a.eval) := ⟨_, rfl⟩
 have hp1 : zbb (a.put (some d) V) = zD (zbb a) (some d) V := zgT hN (by simpa using hdN)
 have hE : (a.put (some d) V).eval (.tmp d) = V := by
  rw [← zbd (a.put (some d) V) (.tmp d)]
  show zbb (a.put (some d) V) d = V
  rw [hp1, zmN]
 refine wpIn_seq (wpIn_region_list ?_)
 rw [hops]
 refine zjP (fun _ => trivial) fun K1 hK1 => ?_
 rw [if_pos (zgA rfl)]
 refine ⟨fun f _ => trivial, ?_⟩
 rw [Oper.semAt_eq _ _ _ (fun c h => by cases h)]
 have r1 : (execOp a.eval (⟨some d, .makeFunc (.func g) #[] caps, t1, p1, a1, none⟩ : Oper)).run P w = .ok (.value V) w := by
  rw [hV]
  simp [execOp, Instr.makeFunc, go_sem]
 rw [r1, Oper.uponIn_value]
 refine hK1 _ _ ?_
 refine zjP (fun _ => trivial) fun K2 hK2 => ?_
 rw [if_pos (zgA rfl)]
 refine ⟨fun f _ => trivial, ?_⟩
 rw [Oper.semAt_none]
 have r2 : (execOp (a.put (some d) V).eval (⟨none, .defer ⟨.value (.tmp d), #[], ts⟩, t2, p2, a2, none⟩ : Oper)).run P w = .ok (.defer { target := .fn (.func g) (caps.map a.eval), args := #[] }) w := by
  simp only [execOp, resolve, hE]
  rw [hV]
  simp [Deferred.ofValue, go_sem]
 rw [r2, Oper.uponIn_defer]
 refine hK2 _ _ ?_
 -- the rest
 obtain ⟨D, hD⟩ : ∃ D : Deferred, D = { target := .fn (.func g) (caps.map a.eval), args := #[] } := ⟨_, rfl⟩
 rw [← hD]
 obtain ⟨a3, ha3⟩ : ∃ a3 : Act, a3 = ({ a.put (some d) V with defers := D :: (a.put (some d) V).defers } : Act).put none undef := ⟨_, rfl⟩
 have hE3 : zbb a3 = zD (zbb a) (some d) V := by rw [ha3, ← hp1]; rfl
 have hd3 : a3.defers = [D] := by rw [ha3]; show D :: (a.put (some d) V).defers = [D]; rw [zi1, hd]
 have hN3 : a3.tmps.size = N := by rw [ha3]; show (a.put (some d) V).tmps.size = N; rw [ziJ]; exact hN
 show Code.wpIn (Rf none) 0 P c _ ({ a.put (some d) V with defers := D :: (a.put (some d) V).defers } : Act) w
 have e3 : ({ a.put (some d) V with defers := D :: (a.put (some d) V).defers } : Act) = a3 := by rw [ha3]; rfl
 rw [e3]
 simp only [zfp, hcap] at hK
 rw [← hV, ← hE3] at hK
 let fx : Nat → Option Value := fun j => if j ∈ J then some (zbb a3 j) else none
 have hok3 : Ds.ok { ds := [D], fx := fx } a3 := ⟨hd3, fun j v hj => by
  simp only [fx] at hj
  split at hj
  ·injection hj
  ·cases hj⟩
 refine wpIn_mono (zep (ro := none) (ds := { ds := [D], fx := fx }) hm c b _ a3 w σ hb (zeQ (fun d hd => if_neg hd) c hfr) hN3 hok3 hI hK) fun ex a' w' hq => ?_
 obtain ⟨hN', hd', hq⟩ := hq
 have hJ : ∀ j ∈ J, zbb a' j = zbb a3 j := fun j hj => hd'.2 j _ (if_pos hj)
 have door : ∀ (u : FrameMode) (σ' : Hp), u ≠ .run → Inv w0 σ' w' → zeD P w0 g (caps.map a.eval) u σ' (fun u' σ'' => settle u' = .returning ∧ ∃ vs, resvs (zbb a') σ'' rs = some vs ∧ K (zcI vs) σ'') → LeavesIn (Rf none) 0 P fn a'.tmps (fun e w' => match e with
    | .returned v => ∃ σ', Inv w0 σ' w' ∧ K v σ'
    | .panicked ch => ∃ σ', Inv w0 σ' w' ∧ Kp ch σ'
    | .outgrown => False) a'.defers u w' := by
  intro u σ' hu hI' hC
  rw [hd'.1]
  show LeavesIn (Rf none) 0 P fn a'.tmps _ [D] u w'
  rw [hD]
  refine leavesIn_cons (f := g) (args := caps.map a.eval) hu (fun h => by cases h) (by simp [invoke, go_sem, zqW hok]) (fun _ _ => trivial) ?_
  refine CallsDIn.mono (hC w' hI') fun e u' w'' he => ?_
  cases e with
  | returned v =>
   obtain ⟨σ'', hI'', hs, hv⟩ := he
   show LeavesIn (Rf none) 0 P fn a'.tmps _ [] (settle u') w''
   rw [hs]
   exact zlN hrs hI'' hv
  | panicked ch => exact he.elim
  | outgrown => exact he.elim
 cases ex with
 | normal => obtain ⟨σ', hI', hq⟩ := hq; exact door _ σ' (by simp) hI' (hq hJ)
 | ret => obtain ⟨σ', hI', hq⟩ := hq; exact door _ σ' (by simp) hI' (hq hJ)
 | panic ch => obtain ⟨σ', hI', hq⟩ := hq; exact door _ σ' (by simp) hI' (hq hJ)
 | exit id => obtain ⟨σ', hI', hq⟩ := hq; exact (hq hJ).elim
 | goto l => exact hq.elim
 | outgrown => exact hq.elim
theorem zoS (hm : P.follows .mixedOrders = true) {fn : Func} {rs : List zcP} {K : Value → Hp → Prop} {Kp : List PanicEntry → Hp → Prop} (hrs : fn.results.toList.mapM (zfx P) = some rs) :
  ∀ (c : Code) (x : DA) (a : Act) (w : World) (σ : Hp), zfR P N J c = some x → a.tmps.size = N → a.defers = [] → Inv w0 σ w → zfp P w0 J x (apost rs K Kp) (zbb a) σ →
   c.wpIn (Rf none) 0 P (bodyPostDIn (Rf none) 0 P fn (fun e w' => match e with
    | .returned v => ∃ σ', Inv w0 σ' w' ∧ K v σ'
    | .panicked ch => ∃ σ', Inv w0 σ' w' ∧ Kp ch σ'
    | .outgrown => False)) a w := by
 have pre : ∀ (c1 c2 : Code) (x1 : zb6) (x2 : DA) (a : Act) (w : World) (σ : Hp), slim P N c1 = some x1 → a.tmps.size = N → a.defers = [] → Inv w0 σ w → zfp P w0 J (.pre x1 x2) (apost rs K Kp) (zbb a) σ →
   (∀ (a : Act) (w : World) (σ : Hp), a.tmps.size = N → a.defers = [] → Inv w0 σ w → zfp P w0 J x2 (apost rs K Kp) (zbb a) σ → c2.wpIn (Rf none) 0 P (bodyPostDIn (Rf none) 0 P fn (fun e w' => match e with
    | .returned v => ∃ σ', Inv w0 σ' w' ∧ K v σ'
    | .panicked ch => ∃ σ', Inv w0 σ' w' ∧ Kp ch σ'
    | .outgrown => False)) a w) → (Code.seq c1 c2).wpIn (Rf none) 0 P (bodyPostDIn (Rf none) 0 P fn (fun e w' => match e with
    | .returned v => ∃ σ', Inv w0 σ' w' ∧ K v σ'
    | .panicked ch => ∃ σ', Inv w0 σ' w' ∧ Kp ch σ'
    | .outgrown => False)) a w := by
  intro c1 c2 x1 x2 a w σ h1 hN hd hI hK h2
  refine wpIn_seq (wpIn_mono (zli (ro := none) hm c1 x1 _ a w σ h1 hN hd hI hK) fun ex a' w' hq => ?_)
  obtain ⟨hN', hd', hq⟩ := hq
  cases ex with
  | normal =>
   obtain ⟨σ', hI', hq⟩ := hq
   exact h2 a' w' σ' hN' hd'.1 hI' hq
  | ret =>
   obtain ⟨σ', hI', hq⟩ := hq
   show LeavesIn (Rf none) 0 P fn a'.tmps _ a'.defers .returning w'
   rw [hd'.1]
   exact zlN hrs hI' hq
  | panic ch =>
   obtain ⟨σ', hI', hq⟩ := hq
   show LeavesIn (Rf none) 0 P fn a'.tmps _ a'.defers (.panicking ch) w'
   rw [hd'.1]
   exact ⟨σ', hI', hq⟩
  | exit id => obtain ⟨σ', hI', hq⟩ := hq; exact hq.elim
  | goto l => exact hq.elim
  | outgrown => exact hq.elim
 intro c
 induction c with
 | seq c1 c2 _ ih =>
  intro x a w σ h hN hd hI hK
  have gen : ∀ (x1 : zb6) (x2 : DA), slim P N c1 = some x1 → zfR P N J c2 = some x2 → x = .pre x1 x2 → (Code.seq c1 c2).wpIn (Rf none) 0 P (bodyPostDIn (Rf none) 0 P fn (fun e w' => match e with
    | .returned v => ∃ σ', Inv w0 σ' w' ∧ K v σ'
    | .panicked ch => ∃ σ', Inv w0 σ' w' ∧ Kp ch σ'
    | .outgrown => False)) a w := by
   rintro x1 x2 h1 h2 rfl
   exact pre c1 c2 x1 x2 a w σ h1 hN hd hI hK fun a w σ hN hd hI hK => ih x2 a w σ h2 hN hd hI hK
  unfold zfR at h
  split at h
  ·rename_i id ops c' he
   injection he with h1 h2
   subst h1; subst h2
   split at h
   ·rename_i d g cs hdf
    obtain ⟨hfr, h⟩ := zgB h
    obtain ⟨b, hb, rfl⟩ := Option.map_eq_some_iff.1 h
    exact zrl hm hrs hdf hfr hb hN hd hI hK
   ·obtain ⟨x1, h1, h⟩ := Option.bind_eq_some_iff.1 h
    obtain ⟨x2, h2, rfl⟩ := Option.map_eq_some_iff.1 h
    exact gen x1 x2 h1 h2 rfl
  ·rename_i c1' c2' hne he
   injection he with e1 e2
   subst e1; subst e2
   obtain ⟨x1, h1, h⟩ := Option.bind_eq_some_iff.1 h
   obtain ⟨x2, h2, rfl⟩ := Option.map_eq_some_iff.1 h
   exact gen x1 x2 h1 h2 rfl
  ·cases h
 | _ => intro x a w σ h; cases h
end
section
variable {P : Program} (W : World) (H : Nat → Option Obj) (p q : List PanicEntry → Hp → Prop)
theorem zkg : Inv ⟨W, H, p⟩ = Inv ⟨W, H, q⟩ := by
 funext σ w
 exact propext ⟨fun h => h.repan rfl rfl, fun h => h.repan rfl rfl⟩
theorem zpF : ACalls P ⟨W, H, p⟩ = ACalls P ⟨W, H, q⟩ := by
 funext f args σ K Kp
 unfold ACalls
 rw [zkg W H p q]
theorem zo5 : ze0 P ⟨W, H, p⟩ = ze0 P ⟨W, H, q⟩ := by
 funext l f tmps as bd σ K Kp
 unfold ze0
 rw [zkg W H p q]
theorem zpn : zd1 P ⟨W, H, p⟩ = zd1 P ⟨W, H, q⟩ := by
 funext l args σ K Kp
 unfold zd1
 rw [zkg W H p q, zo5 W H p q]
theorem zlI : aop P ⟨W, H, p⟩ = aop P ⟨W, H, q⟩ := by
 funext o e σ K Kp
 cases o <;> simp only [aop, zpF W H p q, zpn W H p q, Base.heap]
theorem zjU : step P ⟨W, H, p⟩ = step P ⟨W, H, q⟩ := by
 funext s e σ K Kp
 unfold step
 rw [zlI W H p q]
theorem znS : ∀ (l : List ASt) (e : Env) (σ : Hp) (K : Env → Hp → Prop) (Kp : List PanicEntry → Hp → Prop), aops P ⟨W, H, p⟩ l e σ K Kp = aops P ⟨W, H, q⟩ l e σ K Kp
 | [], _, _, _, _ => rfl
 | s :: r, e, σ, K, Kp => by
  simp only [aops, zjU W H p q, znS r]
theorem zsH : again P ⟨W, H, p⟩ = again P ⟨W, H, q⟩ := by
 funext s e σ
 unfold again
 rw [zlI W H p q]
theorem zl8 : ∀ (l : List ASt) (e : Env) (σ : Hp), agains P ⟨W, H, p⟩ l e σ = agains P ⟨W, H, q⟩ l e σ
 | [], _, _ => rfl
 | s :: r, e, σ => by simp only [agains, zsH W H p q, zl8 r]
theorem zhQ : ∀ (t : zbT) (e : Env) (σ : Hp) (K : Env → Hp → Prop) (Kp : List PanicEntry → Hp → Prop), atree P ⟨W, H, p⟩ t e σ K Kp = atree P ⟨W, H, q⟩ t e σ K Kp
 | .done, _, _, _, _ => rfl
 | .top, _, _, _, _ => rfl
 | .quiet s k, e, σ, K, Kp => by simp only [atree, zjU W H p q, zhQ k]
 | .eff s st k, e, σ, K, Kp => by simp only [atree, zjU W H p q, zl8 W H p q, zhQ k]
 | .both a b, e, σ, K, Kp => by simp only [atree, zhQ a, zhQ b]
theorem zeI : ∀ (c : zb6) (Q : Exit → Env → Hp → Prop) (e : Env) (σ : Hp), awp P ⟨W, H, p⟩ c Q e σ = awp P ⟨W, H, q⟩ c Q e σ
 | .skip, _, _, _ => rfl
 | .reg ops, Q, e, σ => znS W H p q _ _ _ _ _
 | .par t, Q, e, σ => zhQ W H p q _ _ _ _ _
 | .seq a b, Q, e, σ => by simp only [awp, zeI a, zeI b]
 | .cond c a b, Q, e, σ => by simp only [awp, zeI a, zeI b]
 | .block id c, Q, e, σ => by simp only [awp, zeI c]
 | .loop c, Q, e, σ => by simp only [awp, zeI c]
 | .exit id, _, _, _ => rfl
 | .ret, _, _, _ => rfl
end
def DJ (J : List Nat) (e1 e' : Env) : Prop := ∀ j ∈ J, e' j = e1 j
def zeW (P : Program) (w0 : Base) (J : List Nat) : zee → (Exit → Env → Hp → Prop) → Env → Hp → Prop
 | .pre a k, Q, e, σ => wpn P w0.np a (thn (fun e' σ' => zeW P w0 J k Q e' σ') Q) e σ
 | .dfr d g cs b, Q, e, σ => ∃ pan : List PanicEntry → Hp → Prop,
   (∀ ch e' σ', pan ch σ' → DJ J (zD e (some d) (.func (.func g) #[] (cs.map (ev e)).toArray)) e' → zeD P w0 g (cs.map (ev e)).toArray (.panicking ch) σ' fun u' σ'' => settle u' = .returning ∧ Q .ret e' σ'') ∧
   wpn P ⟨w0.world, w0.hid, pan⟩ b (fun x e' σ' => (x = .ret ∨ x = .normal) ∧ (DJ J (zD e (some d) (.func (.func g) #[] (cs.map (ev e)).toArray)) e' → zeD P w0 g (cs.map (ev e)).toArray .returning σ' fun u' σ'' => settle u' = .returning ∧ Q .ret e' σ'') ∨ ∃ ch, x = .panic ch ∧ pan ch σ') (zD e (some d) (.func (.func g) #[] (cs.map (ev e)).toArray)) σ
theorem zng {P : Program} {w0 : Base} {J : List Nat} : ∀ (c : zee) (Q : Exit → Env → Hp → Prop) (e : Env) (σ : Hp), c.ok = true → zeW P w0 J c Q e σ → zfp P w0 J c.code Q e σ
 | .pre a k, Q, e, σ, ho, h => by
  simp only [zee.ok, Bool.and_eq_true] at ho
  have h1 := zdc (w0 := w0.np) a (thn (fun e' σ' => zeW P w0 J k Q e' σ') Q) e σ (fun ch σ' e' (hh : False) => hh.elim) ho.1 h
  have h2 : awp P w0 a.code (thn (fun e' σ' => zeW P w0 J k Q e' σ') Q) e σ := by
   obtain ⟨W, H, p⟩ := w0
   rw [zeI W H p (fun _ _ => False)]
   exact h1
  exact zdf a.code _ _ e σ h2 fun x e σ h => by
   cases x with
   | normal => exact zng k Q e σ ho.2 h
   | _ => exact h
 | .dfr d g cs b, Q, e, σ, ho, h => by
  obtain ⟨pan, hp, h⟩ := h
  have h1 := zdc b _ _ σ (fun ch σ' e' hh => .inr ⟨ch, rfl, hh⟩) ho h
  have h2 := h1
  rw [zeI w0.world w0.hid pan w0.pan] at h2
  refine zdf b.code _ _ _ σ h2 fun x e' σ' h hJ => ?_
  rcases h with ⟨hx, h⟩ | ⟨ch, rfl, h⟩
  ·rcases hx with rfl | rfl
   ·exact h hJ
   ·exact h hJ
  ·exact hp ch e' σ' h hJ
structure zhD where
 ntmps : Nat
 results : List zcP
 body : zee
structure DAF where
 ntmps : Nat
 results : List zcP
 body : DA
def zhD.fn (f : zhD) : DAF := ⟨f.ntmps, f.results, f.body.code⟩
def zi4 (P : Program) (J : List Nat) (fn : Func) : Option DAF := fn.body.bind fun c => (zfR P fn.ntmps J c).bind fun ac => (fn.results.toList.mapM (zfx P)).map fun rs => ⟨fn.ntmps, rs, ac⟩
theorem zoH {P : Program} {w0 : Base} {J : List Nat} {f : FuncId} {fn : Func} {af : zhD} {args : List Value} {σ : Hp} {K : Value → Hp → Prop} {Kp : List PanicEntry → Hp → Prop} (hm : P.follows .mixedOrders = true) (hf : P.funcs[f]? = some fn) (hs : zi4 P J fn = some af.fn) (ha : (af.body.ok && decide (args.length ≤ af.ntmps)) = true)
  (h : ∀ Q : Exit → Env → Hp → Prop, (∀ e σ' vs, resvs e σ' af.results = some vs → K (zcI vs) σ' → Q .ret e σ') → zeW P w0 J af.body Q (zcr args) σ) : ACalls P w0 f args.toArray σ K Kp := by
 simp only [Bool.and_eq_true, decide_eq_true_eq] at ha
 intro w hI
 unfold zi4 at hs
 obtain ⟨c, hc, hs⟩ := Option.bind_eq_some_iff.1 hs
 obtain ⟨ac, hac, hs⟩ := Option.bind_eq_some_iff.1 hs
 obtain ⟨rs, hrs, hs⟩ := Option.map_eq_some_iff.1 hs
 injection hs with e1 e2 e3
 subst e2; subst e3
 have hlen : args.length ≤ fn.ntmps := by rw [e1]; exact ha.2
 have he : zbb { tmps := args.toArray ++ Array.replicate (fn.ntmps - args.toArray.size) undef, defers := [] } = zcr args := by
  funext k
  simp only [zbb, zcr, Array.getD_eq_getD_getElem?, List.getD_eq_getElem?_getD, Array.getElem?_append, List.size_toArray, Array.getElem?_replicate]
  by_cases hk : k < args.length
  ·simp [hk]
  ·simp only [hk, if_false, List.getElem?_eq_none (show args.length ≤ k from by omega)]
   split <;> rfl
 have hQ := zng af.body _ _ _ ha.1 (h (apost af.results K Kp) (fun e σ' vs h1 h2 => ⟨vs, h1, h2⟩))
 exact (callsIn_wide (n := 0)).1 (callsIn_of_wp_defers (F := Rf none) hf hc trivial (zoS hm hrs c _ _ w σ hac (by simp; omega) rfl hI (he ▸ hQ)))
theorem zoh {P : Program} {J : List Nat} {f : FuncId} {fn : Func} {af : zhD} {args : List Value} {τ : Hp} {vs : List Ob} {K : Value → Hp → List Ob → Prop} (hm : P.follows .mixedOrders = true) (hf : P.funcs[f]? = some fn) (hs : zi4 P J fn = some af.fn) (ha : (af.body.ok && decide (args.length ≤ af.ntmps)) = true)
  (h : ∀ (w0 : Base) (σ : Hp), Obs τ σ vs → ∀ Q : Exit → Env → Hp → Prop, (∀ e σ' rs τ' vs', resvs e σ' af.results = some rs → Obs τ' σ' vs' → Hp.le τ τ' → K (zcI rs) τ' vs' → Q .ret e σ') → zeW P w0 J af.body Q (zcr args) σ) : Ctr P f args.toArray τ vs K := fun w0 σ hO =>
 zoH hm hf hs ha fun Q hQ => h w0 σ hO Q fun e σ' rs τ' vs' h1 h2 h3 h4 => hQ e σ' rs h1 ⟨τ', vs', h2, h3, h4⟩
def recov : FrameMode → Value × FrameMode
 | .panicking ({ v, recovered := false, goexit := false } :: older) => (v, .panicking ({ v, recovered := true } :: older))
 | u => (.nilIface, u)
def zlj (N : Nat) (ops : Array Oper) : Option (Nat × Nat) := match ops.toList with
 | [⟨some d, .call ⟨.builtin .recover, _, _⟩, _, _, _, none⟩, ⟨some x, .assign (.tmp d'), _, _, _, none⟩] => if d' = d ∧ d < N ∧ x < N then some (d, x) else none
 | [⟨some d, .call ⟨.builtin .recover, _, _⟩, _, _, _, none⟩] => if d < N then some (d, d) else none
 | _ => none
structure zjB where
 ntmps : Nat
 d : Nat
 x : Nat
 body : zbA
structure SAF where
 ntmps : Nat
 d : Nat
 x : Nat
 body : zb6
def zjB.fn (f : zjB) : SAF := ⟨f.ntmps, f.d, f.x, f.body.code⟩
def zkD (P : Program) (fn : Func) : Option SAF := match fn.body with
 | some (.seq (.region _ ops false) c) => (req fn.results.isEmpty).bind fun _ => (zlj fn.ntmps ops).bind fun p => (slim P fn.ntmps c).map fun b => ⟨fn.ntmps, p.1, p.2, b⟩
 | _ => none
theorem zr7 {N : Nat} {ops : Array Oper} {d x : Nat} (h : zlj N ops = some (d, x)) : (∃ as ts t1 p1 a1 t2 p2 a2, ops.toList = [⟨some d, .call ⟨.builtin .recover, as, ts⟩, t1, p1, a1, none⟩, ⟨some x, .assign (.tmp d), t2, p2, a2, none⟩] ∧ d < N ∧ x < N) ∨ ∃ as ts t1 p1 a1, ops.toList = [⟨some d, .call ⟨.builtin .recover, as, ts⟩, t1, p1, a1, none⟩] ∧ d < N ∧ x = d := by
 unfold zlj at h
 split at h
 ·rename_i d1 as ts t1 p1 a1 x1 d' t2 p2 a2 hops
  split at h
  ·rename_i hc
   obtain ⟨rfl, c2, c3⟩ := hc
   injection h with h
   injection h with h1 h2
   subst h1; subst h2
   exact .inl ⟨as, ts, t1, p1, a1, t2, p2, a2, hops, c2, c3⟩
  ·cases h
 ·rename_i d1 as ts t1 p1 a1 hops
  split at h
  ·rename_i hc
   injection h with h
   injection h with h1 h2
   subst h1
   exact .inr ⟨as, ts, t1, p1, a1, hops, hc, h2.symm⟩
  ·cases h
 ·cases h
theorem zml (c₀ : Frame) (cs : List Frame) : (recoverD (c₀ :: cs) = none ∧ recov c₀.mode = (.nilIface, c₀.mode)) ∨ ∃ v u, recoverD (c₀ :: cs) = some (v, { c₀ with mode := u } :: cs) ∧ recov c₀.mode = (v, u) := by
 simp only [recoverD]
 split
 ·rename_i v older hm
  right
  exact ⟨v, _, rfl, by rw [hm]; rfl⟩
 ·rename_i hm
  left
  refine ⟨rfl, ?_⟩
  unfold recov
  split
  ·rename_i v older hm'
   exact absurd hm' (hm v older)
  ·rfl
theorem znk {P : Program} {w0 : Base} {g : FuncId} {fn : Func} {af : zjB} {args : List Value} {u : FrameMode} {σ : Hp} {K : FrameMode → Hp → Prop} (hm : P.follows .mixedOrders = true) (hf : P.funcs[g]? = some fn) (hs : zkD P fn = some af.fn) (ha : (af.body.ok && decide (args.length ≤ af.ntmps)) = true)
  (h : wpn P w0.np af.body (fun x e' σ' => (x = .ret ∨ x = .normal) ∧ K (recov u).2 σ') (zD (zD (zcr args) (some af.d) (recov u).1) (some af.x) (recov u).1) σ) : zeD P w0 g args.toArray u σ K := by
 simp only [Bool.and_eq_true, decide_eq_true_eq] at ha
 intro w hI
 unfold zkD at hs
 split at hs
 ·rename_i id ops c hb
  obtain ⟨hres, hs⟩ := zgB hs
  obtain ⟨⟨d, x⟩, hrec, hs⟩ := Option.bind_eq_some_iff.1 hs
  obtain ⟨ac, hac, hs⟩ := Option.map_eq_some_iff.1 hs
  injection hs with e1 e2 e3 e4
  simp only at e2 e3
  have hrec := zr7 hrec
  have hdN : d < fn.ntmps := by rcases hrec with ⟨_, _, _, _, _, _, _, _, _, h, _⟩ | ⟨_, _, _, _, _, _, h, _⟩ <;> exact h
  have hlen : args.length ≤ fn.ntmps := by rw [e1]; exact ha.2
  have he : zbb { tmps := args.toArray ++ Array.replicate (fn.ntmps - args.toArray.size) undef, defers := [] } = zcr args := by
   funext k
   simp only [zbb, zcr, Array.getD_eq_getD_getElem?, List.getD_eq_getElem?_getD, Array.getElem?_append, List.size_toArray, Array.getElem?_replicate]
   by_cases hk : k < args.length
   ·simp [hk]
   ·simp only [hk, if_false, List.getElem?_eq_none (show args.length ≤ k from by omega)]
    split <;> rfl
  obtain ⟨a0, ha0⟩ : ∃ a0 : Act, a0 = { tmps := args.toArray ++ Array.replicate (fn.ntmps - args.toArray.size) undef, defers := [] } := ⟨_, rfl⟩
  have hN0 : a0.tmps.size = fn.ntmps := by rw [ha0]; simp; omega
  have hd0 : a0.defers = [] := by rw [ha0]
  rw [← ha0] at he
  refine callsDIn_of_wpSIn hf hb trivial fun c₀ cs hu => ?_
  rw [← ha0]
  have fin : ∀ (v : Value) (u' : FrameMode), recov u = (v, u') → ∀ b2 : Act, b2.tmps.size = fn.ntmps → b2.defers = [] → zbb b2 = zD (zD (zcr args) (some d) v) (some x) v → c.wpSIn (Rf none) 0 P (bodyPostS P fn c₀ cs fun e u' w' => match e with
    | .returned _ => ∃ σ', Inv w0 σ' w' ∧ K u' σ'
    | _ => False) b2 ({ c₀ with mode := u' } :: cs) w := by
   intro v u' hru b2 hN2 hd2 hE2
   refine wpSIn_of_wpIn rfl ?_
   have hw : awp P w0.np ac (fun y e' σ' => (y = .ret ∨ y = .normal) ∧ K u' σ') (zbb b2) σ := by
    rw [hru, ← e2, ← e3] at h
    rw [hE2, e4]
    exact zdc (w0 := w0.np) af.body _ _ σ (fun _ _ _ (hh : False) => hh.elim) ha.1 h
   refine wpIn_mono (zli (w0 := w0.np) (ro := none) hm c ac _ _ w σ hac hN2 hd2 (hI.repan rfl rfl) hw) fun ex a' w' hq => ?_
   obtain ⟨hN', hd', hq⟩ := hq
   have hre : fn.results = #[] := Array.isEmpty_iff.1 hres
   cases ex with
   | normal => obtain ⟨σ', hI', _, hk⟩ := hq; exact ⟨hd'.1, u', rfl, _, zim (ars := []) (vs := []) hI' (by rw [hre]; rfl) rfl, σ', hI'.repan rfl rfl, hk⟩
   | ret => obtain ⟨σ', hI', _, hk⟩ := hq; exact ⟨hd'.1, u', rfl, _, zim (ars := []) (vs := []) hI' (by rw [hre]; rfl) rfl, σ', hI'.repan rfl rfl, hk⟩
   | panic ch => obtain ⟨_, _, hx, _⟩ := hq; rcases hx with hx | hx <;> cases hx
   | exit id => obtain ⟨_, _, hx, _⟩ := hq; rcases hx with hx | hx <;> cases hx
   | goto l => exact hq.elim
   | outgrown => exact hq.elim
  have hN1 : ∀ v, (a0.put (some d) v).tmps.size = fn.ntmps := fun v => by rw [ziJ]; exact hN0
  have hD1 : ∀ v, (a0.put (some d) v).defers = [] := fun v => by rw [zi1]; exact hd0
  have hE1 : ∀ v, zbb (a0.put (some d) v) = zD (zcr args) (some d) v := fun v => by rw [zgT hN0 (by simpa using hdN), he]
  refine wpSIn_seq (wpSIn_region ?_)
  rcases hrec with ⟨as, ts, t1, p1, a1, t2, p2, a2, hops, _, hxN⟩ | ⟨as, ts, t1, p1, a1, hops, _, hxd⟩
  ·have go : ∀ (v : Value) (u' : FrameMode), recov u = (v, u') → wpOpsSIn (Rf none) 0 P ops (Exit.thenS (c.wpSIn (Rf none) 0 P (bodyPostS P fn c₀ cs fun e u' w' => match e with
     | .returned _ => ∃ σ', Inv w0 σ' w' ∧ K u' σ'
     | _ => False)) (bodyPostS P fn c₀ cs fun e u' w' => match e with
     | .returned _ => ∃ σ', Inv w0 σ' w' ∧ K u' σ'
     | _ => False)) [1] (a0.put (some d) v) ({ c₀ with mode := u' } :: cs) w := by
    intro v u' hru
    have h1 : ops[1]? = some ⟨some x, .assign (.tmp d), t2, p2, a2, none⟩ := by rw [← Array.getElem?_toList, hops]; rfl
    simp only [wpOpsSIn, h1]
    refine ⟨fun _ _ => trivial, ?_⟩
    rw [if_pos (zgA rfl)]
    have hev : (a0.put (some d) v).eval (.tmp d) = v := by
     rw [← zbd (a0.put (some d) v) (.tmp d)]
     show zbb (a0.put (some d) v) d = v
     rw [hE1, zmN]
    have hrun : (execOp (a0.put (some d) v).eval (⟨some x, .assign (.tmp d), t2, p2, a2, none⟩ : Oper)).run P w = .ok (.value v) w := by
     simp only [execOp, hev]
     rfl
    rw [hrun]
    exact fin v u' hru _ (by rw [ziJ]; exact hN1 v) (by rw [zi1]; exact hD1 v) (by rw [zgT (N := fn.ntmps) (hN1 v) (by simpa using hxN), hE1])
   have hsz : ops.size = 2 := by rw [← Array.length_toList, hops]; rfl
   rw [hsz]
   show wpOpsSIn (Rf none) 0 P ops _ [0, 1] a0 (c₀ :: cs) w
   have h0 : ops[0]? = some ⟨some d, .call ⟨.builtin .recover, as, ts⟩, t1, p1, a1, none⟩ := by rw [← Array.getElem?_toList, hops]; rfl
   rw [wpOpsSIn]
   simp only [h0]
   refine ⟨fun _ _ => trivial, ?_⟩
   rw [if_pos (zgA rfl)]
   have hrun : (execOp a0.eval (⟨some d, .call ⟨.builtin .recover, as, ts⟩, t1, p1, a1, none⟩ : Oper)).run P w = .ok .recover w := by
    simp [execOp, resolve, invoke, go_sem]
   rw [hrun]
   dsimp only
   rcases zml c₀ cs with ⟨h1, h2⟩ | ⟨v, u', h1, h2⟩
   ·rw [h1]
    rw [hu] at h2
    have := go .nilIface c₀.mode (by rw [hu]; exact h2)
    exact this
   ·rw [h1]
    rw [hu] at h2
    exact go v u' h2
  ·have hx : ∀ v : Value, zD (zcr args) (some d) v = zD (zD (zcr args) (some d) v) (some x) v := fun v => by
    subst hxd
    funext n
    simp only [zD]
    split <;> rfl
   have hsz : ops.size = 1 := by rw [← Array.length_toList, hops]; rfl
   rw [hsz]
   show wpOpsSIn (Rf none) 0 P ops _ [0] a0 (c₀ :: cs) w
   have h0 : ops[0]? = some ⟨some d, .call ⟨.builtin .recover, as, ts⟩, t1, p1, a1, none⟩ := by rw [← Array.getElem?_toList, hops]; rfl
   rw [wpOpsSIn]
   simp only [h0]
   refine ⟨fun _ _ => trivial, ?_⟩
   rw [if_pos (zgA rfl)]
   have hrun : (execOp a0.eval (⟨some d, .call ⟨.builtin .recover, as, ts⟩, t1, p1, a1, none⟩ : Oper)).run P w = .ok .recover w := by
    simp [execOp, resolve, invoke, go_sem]
   rw [hrun]
   dsimp only
   rcases zml c₀ cs with ⟨h1, h2⟩ | ⟨v, u', h1, h2⟩
   ·rw [h1]
    rw [hu] at h2
    exact fin .nilIface c₀.mode (by rw [hu]; exact h2) _ (hN1 _) (hD1 _) (by rw [hE1, ← hx])
   ·rw [h1]
    rw [hu] at h2
    exact fin v u' h2 _ (hN1 _) (hD1 _) (by rw [hE1, ← hx])
 ·cases hs
section
variable {τ σ : Hp} {os : List Ob} {α : Type} {T : Ty α} {l : List α} {o : Ob} {i ty ln c n : Nat} {A : Option Addr} {q : Int} {y : α}
theorem ze.at_ (hO : Obs τ σ os) (hW : ze T ty τ (.slice A ln c) l o) (hi : os[i]? = some o) (hg : zv l q = some y) (hn : T.sz = n) : ∃ a cs, A.map (fun x => x.add (q.toNat * n)) = some a ∧ T.R τ y cs ∧ At σ a cs ∧ zgq T.sz o a q := by
 subst hn
 obtain ⟨h0, hg'⟩ := zjw hg
 have hlt := (List.getElem?_eq_some_iff.1 hg').1
 rcases hW with ⟨hv, rfl, rfl⟩ | ⟨bb, cap, cells, rest, hv, h2, h3, rfl, h5⟩
 ·simp at hlt
 ·injection hv with hv1 hv2 hv3
  subst hv1
  obtain ⟨cs, hR, he⟩ := h5.get hg'
  refine ⟨_, cs, rfl, hR, fun j u hu => ?_, ⟨bb, _, rfl, by show Addr.add _ _ = _; rw [zcH, Nat.zero_add]⟩⟩
  obtain ⟨h6, _⟩ := hO.row i bb _ hi
  rw [zfE, zcH, Nat.zero_add]
  simp only [look, h6, Option.isSome_none, Bool.false_eq_true, if_false, Option.bind_some]
  rw [he, List.getElem?_take] at hu
  split at hu
  ·rw [List.getElem?_drop] at hu
   rw [List.getElem?_append_left (List.getElem?_eq_some_iff.1 hu).1]
   exact hu
  ·cases hu
theorem ze.ptr {a : Addr} (hW : ze T ty τ (.slice A ln c) l o) (h : zgq T.sz o a q) (hn : T.sz = n) : some a = A.map (fun x => x.add (q.toNat * n)) := by
 subst hn
 obtain ⟨b, r, ho, rfl⟩ := h
 rcases hW with ⟨hv, rfl, rfl⟩ | ⟨bb, cap, cells, rest, hv, h2, h3, rfl, h5⟩
 ·cases ho
 ·injection hv with hv1 hv2 hv3
  subst hv1
  injection ho with ho
  injection ho with ho1 ho2
  subst ho1
  simp [Addr.add]
end
section
variable {α : Type}
def Sub (T T' : Ty α) : Prop := T.sz = T'.sz ∧ ∀ σ x cs, T.R σ x cs → T'.R σ x cs
theorem Sub.chunks {T T' : Ty α} (h : Sub T T') {σ : Hp} : ∀ {l : List α} {cs : List Value}, Chunks T σ l cs → Chunks T' σ l cs
 | [], cs, hc => hc
 | x :: l, cs, hc => by
  obtain ⟨c, r, rfl, h1, h2⟩ := hc
  exact ⟨c, r, rfl, h.2 _ _ _ h1, Sub.chunks h h2⟩
theorem Sub.rd {T T' : Ty α} (h : Sub T T') {σ : Hp} {v : Value} {l : List α} (hr : RdT T σ v l) : RdT T' σ v l := by
 obtain ⟨cs, h1, h2⟩ := hr
 exact ⟨cs, h.1 ▸ h1, h.chunks h2⟩
def Ty.no (α : Type) (n : Nat) : Ty α where
 sz := n
 R := fun _ _ _ => False
 len := fun h => h.elim
 one := fun h => h.elim
 mono := fun _ h => h.elim
def Ty.lv (F : Ty α → Ty α) (n : Nat) : Nat → Ty α
 | 0 => Ty.no α n
 | k + 1 => F (Ty.lv F n k)
structure Lvl (F : Ty α → Ty α) (n : Nat) : Prop where
 sz : ∀ T, (F T).sz = n
 mono : ∀ T T', Sub T T' → Sub (F T) (F T')
variable {F : Ty α → Ty α} {n : Nat} (hL : Lvl F n)
include hL
theorem ziQ : ∀ k, (Ty.lv F n k).sz = n
 | 0 => rfl
 | k + 1 => hL.sz _
theorem zjd : ∀ {k m : Nat}, k ≤ m → Sub (Ty.lv F n k) (Ty.lv F n m)
 | 0, m, _ => ⟨(ziQ hL m).symm, fun _ _ _ h => h.elim⟩
 | k + 1, 0, h => absurd h (by omega)
 | k + 1, m + 1, h => hL.mono _ _ (zjd (by omega))
omit hL in
def Ty.fix (F : Ty α → Ty α) (n : Nat) (hL : Lvl F n) : Ty α where
 sz := n
 R := fun σ x cs => ∃ k, (Ty.lv F n k).R σ x cs
 len := fun ⟨k, h⟩ => by rw [Ty.len _ h]; exact ziQ hL k
 one := fun ⟨k, h⟩ => Ty.one _ h
 mono := fun hle ⟨k, h⟩ => ⟨k, Ty.mono _ hle h⟩
theorem zpd (k : Nat) : Sub (Ty.lv F n k) (Ty.fix F n hL) := ⟨ziQ hL k, fun _ _ _ h => ⟨k, h⟩⟩
theorem zmF {σ : Hp} {x : α} {cs : List Value} (h : (Ty.fix F n hL).R σ x cs) : (F (Ty.fix F n hL)).R σ x cs := by
 obtain ⟨k, h⟩ := h
 cases k with
 | zero => exact h.elim
 | succ k => exact (hL.mono _ _ (zpd hL k)).2 _ _ _ h
theorem zlV {σ : Hp} : ∀ {l : List α} {cs : List Value}, Chunks (Ty.fix F n hL) σ l cs → ∃ k, Chunks (Ty.lv F n k) σ l cs
 | [], cs, hc => ⟨0, hc⟩
 | x :: l, cs, hc => by
  obtain ⟨c, r, rfl, ⟨k, h1⟩, h2⟩ := hc
  obtain ⟨m, h2⟩ := zlV h2
  exact ⟨max k m, c, r, rfl, (zjd hL (Nat.le_max_left k m)).2 _ _ _ h1, (zjd hL (Nat.le_max_right k m)).chunks h2⟩
theorem zkX {σ : Hp} {v : Value} {l : List α} (hr : RdT (Ty.fix F n hL) σ v l) : ∃ k, ∀ m, k ≤ m → RdT (Ty.lv F n m) σ v l := by
 obtain ⟨cs, h1, h2⟩ := hr
 obtain ⟨k, h2⟩ := zlV hL h2
 refine ⟨k, fun m hm => ⟨cs, ?_, (zjd hL hm).chunks h2⟩⟩
 rw [ziQ hL]
 exact h1
end
def zdT {H α : Type} (N : Nat) (enc : TypeId × Value → H) (P : Program) (W : World) (t : TypeId) (T : Ty α) (Q : α → Prop) : Prop :=
 ∀ (fuel : Nat) (cs : List Value) (x : DataW H × List MemPlace), fuel < N → DataW.trod enc P W 0 (fun _ => true) true fuel t cs = some x → Wt P t x.1 → ∃ a, T.R (foreign W) a cs ∧ Q a
section
variable {H α : Type} {N : Nat} {enc : TypeId × Value → H} {P : Program} {W : World} {t e : TypeId} {T : Ty α} {Q : α → Prop}
theorem Opn.toF (h : Opn enc P W t T Q) : zdT N enc P W t T Q := fun fuel cs x _ hx hw => h fuel cs x hx hw
theorem zdT.all (h : ∀ N, zdT N enc P W t T Q) : Opn enc P W t T Q := fun fuel cs x hx hw => h (fuel + 1) fuel cs x (Nat.lt_succ_self _) hx hw
theorem zcS {fs : Array Field} {xs : List (DataW H × List MemPlace)} {n : Nat} {cs : List Value} (hxl : xs.length = fs.size) (hn : n < N)
  (hf : ∀ (i : Nat) (f : Field), fs[i]? = some f → DataW.trod enc P W 0 (fun _ => true) true n f.type ((cs.drop f.offset).take (P.cellsOf f.type)) = xs[i]?) (i : Nat) {f : Field} (hi : fs[i]? = some f) {k : Nat} (hk : P.cellsOf f.type = k)
  (hu : P.underlying t = some (.struct fs)) (hw : Wt P t (.agg (xs.map (·.1)))) (hT : zdT N enc P W f.type T Q) : ∃ a, T.R (foreign W) a ((cs.drop f.offset).take k) ∧ Q a := by
 have h := hf i f hi
 have hlt : i < xs.length := by
  rw [hxl]
  exact (Array.getElem?_eq_some_iff.1 hi).1
 rw [List.getElem?_eq_getElem hlt, hk] at h
 exact hT _ _ _ hn h (hw.field hu hi (by simp [hlt]))
theorem zj0 (hu : P.underlying t = some (.slice e)) (hk : P.cellsOf e = T.sz) (hb : Nat.ble 1 (P.bytesOf e) = true) (hT : zdT N enc P W e T Q) : zdT N enc P W t (Ty.slice T) (fun l => l.length ≤ reachBytes ∧ ∀ a ∈ l, Q a) := fun fuel cs x hN hx hw => by
 rcases DataW.trod_slice hu hx with ⟨rfl, _⟩ | ⟨a, len, cap, elems, rest, n, rfl, rfl, rfl, _, hl, hm, hlen, hel, _, _⟩
 ·exact ⟨[], ⟨_, rfl, RdT.nil T _⟩, Nat.zero_le _, fun _ h => (nomatch h)⟩
 ·have key : ∀ m, m ≤ len → ∃ l : List α, l.length = m ∧ (∀ a ∈ l, Q a) ∧ ∃ cells : List Value, cells.length = m * T.sz ∧ Chunks T (foreign W) l cells ∧ ∀ j u, cells[j]? = some u → look (foreign W) (a.add j) = some u := by
   intro m
   induction m with
   | zero => intro _; exact ⟨[], rfl, fun _ h => (nomatch h), [], by simp, rfl, fun j u h => by simp at h⟩
   | succ m ih =>
    intro hm1
    obtain ⟨l, h1, h2, cells, h3, h4, h5⟩ := ih (by omega)
    have he := hel m (by omega)
    rw [List.getElem?_eq_getElem (by omega)] at he
    obtain ⟨c, hc, hx2⟩ := Option.bind_eq_some_iff.1 he
    obtain ⟨y, hy, hq⟩ := hT _ _ _ (by omega) hx2 (hw.elem hu (List.mem_map.2 ⟨_, List.getElem_mem _, rfl⟩))
    obtain ⟨_, hcl, hcc⟩ := World.cells?_some hc
    rw [hk] at hcl hcc
    refine ⟨l ++ [y], by simp [h1], fun z hz => ?_, cells ++ c, by rw [List.length_append, h3, hcl, Nat.succ_mul], ?_, fun j u hu => ?_⟩
    ·rcases List.mem_append.1 hz with hz | hz
     ·exact h2 z hz
     ·rw [List.mem_singleton.1 hz]; exact hq
    ·exact h4.append (Chunks.single hy)
    ·rw [List.getElem?_append] at hu
     split at hu
     ·exact h5 j u hu
     ·rename_i hj
      have hlt := (List.getElem?_eq_some_iff.1 hu).1
      have := hcc (j - cells.length) (by omega)
      rw [hu] at this
      have e2 : (a.add (m * T.sz)).add (j - cells.length) = a.add j := by
       have hj2 : m * T.sz ≤ j := by rw [← h3]; omega
       rw [h3, zfE, Nat.add_sub_cancel' hj2]
      rw [e2] at this
      exact zmt this
  obtain ⟨l, h1, h2, cells, h3, h4, h5⟩ := key len (Nat.le_refl _)
  subst h1
  exact ⟨l, ⟨_, rfl, cells, ⟨some a, cap, rfl, hl, h3, fun j u hu => ⟨a, rfl, h5 j u hu⟩⟩, h4⟩, by have := hw.len hu hb; rw [List.length_map] at this; omega, h2⟩
end
theorem At.part {σ : Hp} {a : Addr} {cs ds : List Value} {off n : Nat} (h : At σ a cs) (hd : (cs.drop off).take n = ds) (hn : ds.length = n) : zcp σ (a.add off) true n = some (.agg ds.toArray) := by
 refine At.all (cs := ds) (fun j u hu => ?_) hn
 rw [zfE]
 refine h (off + j) u ?_
 rw [← hd, List.getElem?_take] at hu
 split at hu
 ·rwa [List.getElem?_drop] at hu
 ·cases hu
section
variable {P : Program} {w0 : Base} {τ σ : Hp} {os : List Ob} {r : List XI} {b : zbA} {Q : Exit → Env → Hp → Prop} {e : Env} {d : Option Nat}
variable {α : Type} {T : Ty α} {v : Value} {l : List α} {o : Ob} {i ty : Nat}
theorem ze.again {a : Addr} {q : Int} {y : α} (hO : Obs τ σ os) (hW : ze T ty τ v l o) (hi : os[i]? = some o) (hin : zgq T.sz o a q) (hg : zv l q = some y) : ∃ cs, T.R τ y cs ∧ At σ a cs := by
 obtain ⟨A, c, rfl, -⟩ := hW.form
 obtain ⟨a', cs, h1, h2, h3, -⟩ := ze.at_ hO hW hi hg rfl
 have h4 := ze.ptr hW hin rfl
 rw [h1] at h4
 injection h4 with h4
 subst h4
 exact ⟨cs, h2, h3⟩
theorem ziV {x y : Opd} {a : Addr} {q : Int} {z z' : α} {vs : List Value} (hO : Obs τ σ os) (hW : ze T ty τ v l o) (hi : os[i]? = some o) (hp : ev e x = .pointer (some a)) (hin : zgq T.sz o a q) (hg : zv l q = some z)
  (hy : (ev e y).cells.toList = vs) (h1 : vs.all one = true) (hR' : T.R τ z' vs)
  (kk : ∀ σ' o', ze T ty τ v (l.set q.toNat z') o' → Obs τ σ' (os.set i o') → wpn P w0 (.seq (.reg r) b) Q (zD e d undef) σ') : wpn P w0 (.seq (.reg (.s ⟨d, .store T.sz x y, []⟩ :: r)) b) Q e σ := by
 obtain ⟨cs, hR, hAt⟩ := hW.again hO hi hin hg
 have hl := T.len hR
 have hv := T.len hR'
 exact zrM (off := 0) hO hW hi (by rw [add_zero]; exact hp) hin hg hR hAt hy hv h1 (by rw [List.take_zero, List.nil_append, Nat.zero_add, List.drop_of_length_le (by omega), List.append_nil]) (by omega) hR' kk
end
abbrev zs3 : ByteArray := ⟨#[]⟩
abbrev zs4 : ByteArray := ⟨#[41]⟩
abbrev zs5 : ByteArray := ⟨#[40]⟩
abbrev zs6 : ByteArray := ⟨#[105, 110, 116]⟩
abbrev zs7 : ByteArray := ⟨#[115, 116, 114, 117, 99, 116]⟩
abbrev zs8 : ByteArray := ⟨#[61]⟩
abbrev zs9 : ByteArray := ⟨#[114, 101, 116, 117, 114, 110]⟩
abbrev zta : ByteArray := ⟨#[59]⟩
abbrev ztb : ByteArray := ⟨#[91]⟩
abbrev ztc : ByteArray := ⟨#[102, 117, 110, 99]⟩
abbrev ztd : ByteArray := ⟨#[105, 110, 112, 117, 116]⟩
abbrev zte : ByteArray := ⟨#[116, 121, 112, 101]⟩
abbrev ztf : ByteArray := ⟨#[45]⟩
abbrev ztg : ByteArray := ⟨#[112, 114, 105, 110, 116]⟩
abbrev zth : ByteArray := ⟨#[101, 108, 115, 101]⟩
abbrev zti : ByteArray := ⟨#[102, 97, 108, 115, 101]⟩
abbrev ztj : ByteArray := ⟨#[93]⟩
abbrev ztk : ByteArray := ⟨#[124, 124]⟩
abbrev ztl : ByteArray := ⟨#[116, 114, 117, 101]⟩
abbrev ztm : ByteArray := ⟨#[123]⟩
abbrev ztn : ByteArray := ⟨#[118, 97, 114]⟩
abbrev zto : ByteArray := ⟨#[38, 38]⟩
abbrev ztp : ByteArray := ⟨#[61, 61]⟩
abbrev ztq : ByteArray := ⟨#[33, 61]⟩
abbrev ztr : ByteArray := ⟨#[60, 61]⟩
abbrev zts : ByteArray := ⟨#[62, 61]⟩
abbrev ztt : ByteArray := ⟨#[44]⟩
abbrev ztu : ByteArray := ⟨#[98, 111, 111, 108]⟩
abbrev ztv : ByteArray := ⟨#[46]⟩
abbrev ztw : ByteArray := ⟨#[125]⟩
abbrev ztx : ByteArray := ⟨#[102, 111, 114]⟩
abbrev zty : ByteArray := ⟨#[42]⟩
abbrev ztz : ByteArray := ⟨#[60]⟩
abbrev ztA : ByteArray := ⟨#[62]⟩
abbrev ztB : ByteArray := ⟨#[43]⟩
abbrev ztC : ByteArray := ⟨#[47]⟩
abbrev ztD : ByteArray := ⟨#[37]⟩
abbrev ztE : ByteArray := ⟨#[105, 102]⟩
abbrev ztF : ByteArray := ⟨#[102, 117, 110, 99, 32, 109, 97, 105, 110, 40, 41, 32, 123, 32, 120, 32, 61, 32, 49, 32, 45, 32, 50, 32, 45, 32, 51, 32, 42, 32, 45, 121, 59, 32, 125]⟩
abbrev ztG : ByteArray := ⟨#[102, 117, 110, 99, 32, 109, 97, 105, 110, 40, 41, 32, 123, 32, 120, 32, 61, 32, 102, 40, 49, 41, 32, 43, 32, 50, 59, 32, 125]⟩
abbrev ztH : ByteArray := ⟨#[33]⟩
theorem ztI {α β γ : Type} : ∀ (_ : α) (_ : β) (_ : γ), False → False := fun _ _ _ h => h
abbrev zt8 (d k : Nat) : XI := .s ⟨some d, .mv (.t k), []⟩
abbrev zt9 (d : Nat) (o : AOp) : XI := .s ⟨some d, o, []⟩
abbrev zua (o : AOp) : XI := .s ⟨none, o, []⟩
abbrev zub (d k : Nat) : XJ := ⟨some d, .mv (.t k), []⟩
abbrev zuc (d : Nat) (o : AOp) : XJ := ⟨some d, o, []⟩
abbrev zud (d k : Nat) : XI := .s ⟨some d, .load false 1 (.t k), []⟩
abbrev zue (k : IntKind) (n : Int) : Opd := .c (.int k n)
abbrev zuf (d k : Nat) : XI := .s ⟨some d, .nilchk (.t k), []⟩
abbrev zug (d q k : Nat) : XI := .s ⟨some d, .faddr q (.t k), []⟩
abbrev zuh (d q k : Nat) : XI := .s ⟨some d, .ext q (.t k), []⟩
abbrev zui (d : Nat) (b : BinOp) (x y : Opd) : XI := .s ⟨some d, .bin b x y, []⟩
theorem zt3 {a b : Bool} (h : a = b) : isB (.bool a) false = isB (.bool b) false := h ▸ rfl
theorem zt4 {a b : Bool} (h : a = b) : isB (.bool a) true = isB (.bool b) true := h ▸ rfl
theorem zt50 {τ σ : Hp} (h : Obs τ σ []) : Obs τ σ [] := h
theorem zt51 {τ σ : Hp} {a0 : Ob} (h : Obs τ σ [a0]) : Obs τ σ [a0] := h
theorem zt52 {τ σ : Hp} {a0 a1 : Ob} (h : Obs τ σ [a0, a1]) : Obs τ σ [a0, a1] := h
theorem zt53 {τ σ : Hp} {a0 a1 a2 : Ob} (h : Obs τ σ [a0, a1, a2]) : Obs τ σ [a0, a1, a2] := h
theorem zt54 {τ σ : Hp} {a0 a1 a2 a3 : Ob} (h : Obs τ σ [a0, a1, a2, a3]) : Obs τ σ [a0, a1, a2, a3] := h
theorem zt55 {τ σ : Hp} {a0 a1 a2 a3 a4 : Ob} (h : Obs τ σ [a0, a1, a2, a3, a4]) : Obs τ σ [a0, a1, a2, a3, a4] := h
theorem zt56 {τ σ : Hp} {a0 a1 a2 a3 a4 a5 : Ob} (h : Obs τ σ [a0, a1, a2, a3, a4, a5]) : Obs τ σ [a0, a1, a2, a3, a4, a5] := h
theorem zt57 {τ σ : Hp} {a0 a1 a2 a3 a4 a5 a6 : Ob} (h : Obs τ σ [a0, a1, a2, a3, a4, a5, a6]) : Obs τ σ [a0, a1, a2, a3, a4, a5, a6] := h
theorem zt58 {τ σ : Hp} {a0 a1 a2 a3 a4 a5 a6 a7 : Ob} (h : Obs τ σ [a0, a1, a2, a3, a4, a5, a6, a7]) : Obs τ σ [a0, a1, a2, a3, a4, a5, a6, a7] := h
theorem zt59 {τ σ : Hp} {a0 a1 a2 a3 a4 a5 a6 a7 a8 : Ob} (h : Obs τ σ [a0, a1, a2, a3, a4, a5, a6, a7, a8]) : Obs τ σ [a0, a1, a2, a3, a4, a5, a6, a7, a8] := h
theorem zt510 {τ σ : Hp} {a0 a1 a2 a3 a4 a5 a6 a7 a8 a9 : Ob} (h : Obs τ σ [a0, a1, a2, a3, a4, a5, a6, a7, a8, a9]) : Obs τ σ [a0, a1, a2, a3, a4, a5, a6, a7, a8, a9] := h
theorem zt511 {τ σ : Hp} {a0 a1 a2 a3 a4 a5 a6 a7 a8 a9 a10 : Ob} (h : Obs τ σ [a0, a1, a2, a3, a4, a5, a6, a7, a8, a9, a10]) : Obs τ σ [a0, a1, a2, a3, a4, a5, a6, a7, a8, a9, a10] := h
theorem zt512 {τ σ : Hp} {a0 a1 a2 a3 a4 a5 a6 a7 a8 a9 a10 a11 : Ob} (h : Obs τ σ [a0, a1, a2, a3, a4, a5, a6, a7, a8, a9, a10, a11]) : Obs τ σ [a0, a1, a2, a3, a4, a5, a6, a7, a8, a9, a10, a11] := h
end Go.Ab
