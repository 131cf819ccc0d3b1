import Derived.Test.YtckcngkkofemjaaGreatAb
import Derived.ChangeSlices
import Derived.ChangeArms
import Derived.RangeFuncLeaves
import Derived.RangeFuncKeeps
namespace Go.Ab
open Go.RowKit
set_option linter.unusedVariables false
set_option linter.unusedSimpArgs false
theorem zbc {x : Int} (h : -9223372036854775808 ≤ x ∧ x ≤ 9223372036854775807) : IntKind.i64.wrap x = x := by
 show (if (true && decide (x % 18446744073709551616 ≥ 9223372036854775808)) = true then x % 18446744073709551616 - 18446744073709551616 else x % 18446744073709551616) = x
 split <;> rename_i h1 <;> simp at h1 <;> omega
theorem zct {x : Int} (h : 0 ≤ x ∧ x < 18446744073709551616) : IntKind.u64.wrap x = x := by
 show (if (false && decide (x % 18446744073709551616 ≥ 9223372036854775808)) = true then x % 18446744073709551616 - 18446744073709551616 else x % 18446744073709551616) = x
 simp; omega
theorem zdo (x : Int) : IntKind.u64.wrap x = x % 18446744073709551616 := by
 show (if (false && decide (x % 18446744073709551616 ≥ 9223372036854775808)) = true then x % 18446744073709551616 - 18446744073709551616 else x % 18446744073709551616) = _
 simp
theorem zd6 (x : Int) : IntKind.u8.wrap x = x % 256 := by
 show (if (false && decide (x % 256 ≥ 128)) = true then x % 256 - 256 else x % 256) = _
 simp
theorem zgb (x : Int) : IntKind.i64.wrap x = (x + 9223372036854775808) % 18446744073709551616 - 9223372036854775808 := by
 show (if (true && decide (x % 18446744073709551616 ≥ 9223372036854775808)) = true then x % 18446744073709551616 - 18446744073709551616 else x % 18446744073709551616) = _
 split <;> rename_i h1 <;> simp at h1 <;> omega
theorem zkO (y : Int) : BitVec.ofInt 8 y = BitVec.ofNat 8 (y % 256).toNat := by
 apply BitVec.eq_of_toNat_eq
 simp [BitVec.toNat_ofInt]
 omega
theorem zn5 : ∀ b : BitVec 8, (b ||| 128#8).toNat = b.toNat % 128 + 128 := by decide +kernel
theorem zpF : ∀ b : BitVec 8, (b &&& 127#8).toNat = b.toNat % 128 := by decide +kernel
theorem zn2 (y : Int) : IntKind.u8.wrap ((BitVec.ofInt IntKind.u8.bits y ||| BitVec.ofInt IntKind.u8.bits 128).toNat : Int) = y % 128 + 128 := by
 show IntKind.u8.wrap ((BitVec.ofInt 8 y ||| 128#8).toNat : Int) = _
 rw [zn5, zkO, zd6, BitVec.toNat_ofNat]
 omega
theorem zkM (y : Int) : IntKind.u8.wrap ((BitVec.ofInt IntKind.u8.bits y &&& BitVec.ofInt IntKind.u8.bits 127).toNat : Int) = y % 128 := by
 show IntKind.u8.wrap ((BitVec.ofInt 8 y &&& 127#8).toNat : Int) = _
 rw [zpF, zkO, zd6, BitVec.toNat_ofNat]
 omega
theorem UInt8.lt (b : UInt8) : b.toNat < 256 := b.toNat_lt
theorem zot {k : IntKind} (a : Int) (n : Nat) (h : n ≤ k.bits) : shv .shl k a (n : Int) = some (.int k (k.wrap (a * 2 ^ n))) := by
 show (if (n : Int) < 0 then none else some (Value.int k (k.wrap (a * 2 ^ min (n : Int).toNat k.bits)))) = _
 rw [if_neg (by omega), show min (n : Int).toNat k.bits = n from by omega]
def Ty.Flat {α : Type} (T : Ty α) : Prop := ∀ σ σ' x cs, T.R σ x cs → T.R σ' x cs
theorem Chunks.flat {α : Type} {T : Ty α} (hf : T.Flat) {σ σ' : Hp} : ∀ {l : List α} {cs : List Value}, Chunks T σ l cs → Chunks T σ' l cs
 | [], cs, h => h
 | x :: l, cs, h => by
  obtain ⟨c, r, rfl, h1, h2⟩ := h
  exact ⟨c, r, rfl, hf _ _ _ _ h1, Chunks.flat hf h2⟩
theorem Ty.sc_flat {α : Type} (f : α → Value) (h : ∀ x, Ab.one (f x) = true) : (Ty.sc f h).Flat := fun _ _ _ _ h => h
theorem zoz : Ty.u8.Flat := Ty.sc_flat _ _
theorem RdT.empty {α : Type} {T : Ty α} {σ : Hp} {A : Option Addr} {n c : Nat} {l : List α} (h : RdT T σ (.slice A n c) l) (hs : 0 < T.sz) (hA : A.isNone = true) : l = [] := by
 cases l with
 | nil => rfl
 | cons x l =>
  have := h.has (i := 0) (by simp) hs
  cases A <;> simp at hA this
end Go.Ab
namespace Go.Ab
open Go.RowKit
set_option linter.unusedVariables false
set_option linter.unusedSimpArgs false
section
variable {P : Program} {w0 : Base}
theorem zef {K K' : Env → Hp → Prop} (hk : ∀ e σ, K e σ → K' e σ) : ∀ (l : List XI) (e : Env) (σ : Hp), xis P w0 l e σ K → xis P w0 l e σ K'
 | [], e, σ, h => hk _ _ h
 | .s x :: r, e, σ, h => zdR h fun v σ' hv => ⟨hv.1, zef hk r _ _ hv.2⟩
 | .g t b l :: r, e, σ, h => ⟨fun hb => zgN (fun e σ h => zef hk r e σ h) l e σ (h.1 hb), fun hb => ⟨(h.2 hb).1, zef hk r _ _ (h.2 hb).2⟩⟩
theorem zly {s : ASt} {e : Env} {σ : Hp} {K K' : Env → Hp → Prop} (h : xstep P w0 s e σ K) (hk : ∀ e σ, K e σ → K' e σ) : xstep P w0 s e σ K' := by
 unfold xstep at h ⊢
 split at h
 ·exact zdR h fun v σ' hv => hk _ _ hv
 ·exact ⟨fun hb => zdR (h.1 hb) fun v σ' hv => hk _ _ hv, fun hb => hk _ _ (h.2 hb)⟩
theorem zgA {K K' : Env → Hp → Prop} (hk : ∀ e σ, K e σ → K' e σ) : ∀ (t : zbD) (e : Env) (σ : Hp), xtree P w0 t e σ K → xtree P w0 t e σ K'
 | .done, e, σ, h => hk _ _ h
 | .top, e, σ, h => trivial
 | .quiet s k, e, σ, h => zly h fun e σ h => zgA hk k e σ h
 | .eff s st k, e, σ, h => zly h fun e σ h => ⟨h.1, zgA hk k e σ h.2⟩
 | .both a b, e, σ, h => ⟨zgA hk a e σ h.1, zgA hk b e σ h.2⟩
theorem zcz : ∀ (c : zbt) (Q Q' : Exit → Env → Hp → Prop) (e : Env) (σ : Hp), wpn P w0 c Q e σ → (∀ x e σ, Q x e σ → Q' x e σ) → wpn P w0 c Q' e σ
 | .skip, Q, Q', e, σ, h, hq => hq _ _ _ h
 | .reg l, Q, Q', e, σ, h, hq => zef (fun e σ h => hq _ _ _ h) l e σ h
 | .par l, Q, Q', e, σ, h, hq => zef (fun e σ h => hq _ _ _ h) l e σ h
 | .parT t, Q, Q', e, σ, h, hq => zgA (fun e σ h => hq _ _ _ h) t e σ h
 | .seq a b, Q, Q', e, σ, h, hq => zcz a _ _ e σ h fun x e σ h => by
  cases x with
  | normal => exact zcz b Q Q' e σ h hq
  | _ => exact hq _ _ _ h
 | .cond c a b, Q, Q', e, σ, h, hq => by
  obtain ⟨t, h1, h2, h3⟩ := h
  exact ⟨t, h1, fun ht => zcz a Q Q' e σ (h2 ht) hq, fun ht => zcz b Q Q' e σ (h3 ht) hq⟩
 | .block id c, Q, Q', e, σ, h, hq => zcz c _ _ e σ h fun x e σ h => by
  cases x with
  | exit k =>
   simp only [inb] at h ⊢
   split
   ·rename_i hk; rw [if_pos hk] at h; exact hq _ _ _ h
   ·rename_i hk; rw [if_neg hk] at h; exact hq _ _ _ h
  | _ => exact hq _ _ _ h
 | .loop c, Q, Q', e, σ, h, hq => by
  obtain ⟨I, h1, h2⟩ := h
  exact ⟨I, h1, fun n e σ hI => zcz c _ _ e σ (h2 n e σ hI) fun x e σ h => by
   cases x with
   | normal => exact h
   | _ => exact hq _ _ _ h⟩
 | .exit id, Q, Q', e, σ, h, hq => hq _ _ _ h
 | .ret, Q, Q', e, σ, h, hq => hq _ _ _ h
theorem ze {a b c : zbt} {Q : Exit → Env → Hp → Prop} {e : Env} {σ : Hp} (h : wpn P w0 (.seq a (.seq b c)) Q e σ) : wpn P w0 (.seq (.seq a b) c) Q e σ :=
 zcz a _ _ e σ h fun x e σ h => by
  cases x with
  | normal => exact zcz b _ _ e σ h fun x e σ h => by cases x <;> exact h
  | _ => exact h
theorem zdr {id : Nat} {c b : zbt} {Q : Exit → Env → Hp → Prop} {e : Env} {σ : Hp} (h : ∀ K : Env → Hp → Prop, (∀ e' σ', wpn P w0 b Q e' σ' → K e' σ') → wpn P w0 c (inb id (thn K Q)) e σ) : wpn P w0 (.seq (.block id c) b) Q e σ := h _ fun _ _ h => h
section
variable {b : zbt} {Q : Exit → Env → Hp → Prop} {e : Env} {σ : Hp} {d : Option Nat} {op : AOp} {r : List XI}
theorem zbC (h : ∀ K : Value → Hp → Prop, (∀ v σ', wpn P w0 (.seq (.reg r) b) Q (zN e d v) σ' → K v σ') → xop P w0 op e σ K) : wpn P w0 (.seq (.reg (.s ⟨d, op, []⟩ :: r)) b) Q e σ := by
 show xis P w0 (.s ⟨d, op, []⟩ :: r) e σ (fun e' σ' => wpn P w0 b Q e' σ')
 rw [zcm]
 exact h _ fun _ _ h => h
theorem zh (h : wpn P w0 b Q e σ) : wpn P w0 (.seq (.reg []) b) Q e σ := h
theorem zbr {l : List XI} (h : wpn P w0 (.seq (.reg l) b) Q e σ) : wpn P w0 (.seq (.par l) b) Q e σ := h
theorem zA {l : List XI} (h : wpn P w0 (.seq (.reg l) .skip) Q e σ) : wpn P w0 (.reg l) Q e σ := h
theorem zfw {l : List XI} (h : wpn P w0 (.seq (.reg l) .skip) Q e σ) : wpn P w0 (.par l) Q e σ := h
theorem zkV : ∀ (l : List XJ) (e : Env) (σ : Hp) (K : Env → Hp → Prop), xis P w0 (l.map (fun x => .s ⟨x.d, x.op, x.st⟩) ++ r) e σ K → xjs P w0 l e σ (fun e' σ' => xis P w0 r e' σ' K)
 | [], e, σ, K, h => h
 | x :: l, e, σ, K, h => zdR h fun v σ' hv => ⟨hv.1, zkV l _ _ _ hv.2⟩
theorem z7 {t : Nat} {w : Bool} {l : List XJ} (hb : isB (e t) w = true) (h : wpn P w0 (.seq (.reg (l.map (fun x => .s ⟨x.d, x.op, x.st⟩) ++ r)) b) Q e σ) : wpn P w0 (.seq (.reg (.g t w l :: r)) b) Q e σ :=
 ⟨fun _ => zkV l e σ _ h, (fun h0 => by rw [hb] at h0; cases h0)⟩
theorem z9 {t : Nat} {w : Bool} {l : List XJ} (hb : isB (e t) w = false) (h : wpn P w0 (.seq (.reg r) b) Q (undefs l e) σ) (hst : (l.all fun x => x.st.isEmpty) = true := by decide) : wpn P w0 (.seq (.reg (.g t w l :: r)) b) Q e σ :=
 ⟨(fun h0 => by rw [hb] at h0; cases h0), fun _ => ⟨ziv l e σ hst, h⟩⟩
theorem zk {c : Opd} {x y : zbt} (hb : ev e c = .bool true) (h : wpn P w0 (.seq x b) Q e σ) : wpn P w0 (.seq (.cond c x y) b) Q e σ := ⟨true, hb, fun _ => h, fun h0 => nomatch h0⟩
theorem zl {c : Opd} {x y : zbt} (hb : ev e c = .bool false) (h : wpn P w0 (.seq y b) Q e σ) : wpn P w0 (.seq (.cond c x y) b) Q e σ := ⟨false, hb, (fun h0 => nomatch h0), fun _ => h⟩
theorem zg (h : Q .normal e σ) : wpn P w0 .skip Q e σ := h
theorem zm (h : wpn P w0 b Q e σ) : wpn P w0 (.seq .skip b) Q e σ := h
theorem zu (h : Q .ret e σ) : wpn P w0 (.seq .ret b) Q e σ := h
theorem zU {id : Nat} (h : Q (.exit id) e σ) : wpn P w0 (.seq (.exit id) b) Q e σ := h
theorem zbl {c : Opd} {x y : zbt} (h : wpn P w0 (.seq (.cond c x y) .skip) Q e σ) : wpn P w0 (.cond c x y) Q e σ := by
 obtain ⟨t, h1, h2, h3⟩ := h
 have hq : ∀ x : zbt, wpn P w0 x (thn (fun e' σ' => wpn P w0 .skip Q e' σ') Q) e σ → wpn P w0 x Q e σ := fun x h => zcz x _ _ e σ h fun x e σ h => by cases x <;> exact h
 exact ⟨t, h1, fun ht => hq _ (h2 ht), fun ht => hq _ (h3 ht)⟩
theorem zcE {id : Nat} {c : zbt} (h : wpn P w0 (.seq (.block id c) .skip) Q e σ) : wpn P w0 (.block id c) Q e σ :=
 zcz (.block id c) _ _ e σ h fun x e σ h => by cases x <;> exact h
end
end
end Go.Ab
namespace Go.Ab
open Go.RowKit
set_option linter.unusedVariables false
set_option linter.unusedSimpArgs false
section
variable {P : Program} {w0 : Base} {b : zbt} {Q : Exit → Env → Hp → Prop} {e : Env} {σ : Hp} {d : Option Nat} {r : List XI}
theorem zid {ty len : Nat} {cells : List Value} {parts : List (Nat × Nat × Opd)} {K : Value → Hp → Prop} : xop P w0 (.bslice ty len cells parts) e σ K = aop P w0 (.bslice ty len cells parts) e σ K zbm := rfl
theorem zgY {ty n bytes : Nat} {s x : Opd} {K : Value → Hp → Prop} : xop P w0 (.app ty n bytes s x) e σ K = aop P w0 (.app ty n bytes s x) e σ K zbm := rfl
theorem RdT.slc {α : Type} {T : Ty α} {σ : Hp} {A : Option Addr} {n c : Nat} {l : List α} (h : RdT T σ (.slice A n c) l) {lo hi : Nat} (h1 : lo ≤ hi) (h2 : hi ≤ l.length) : RdT T σ (.slice (if c = lo then A else A.map (·.add (lo * T.sz))) (hi - lo) (c - lo)) ((l.take hi).drop lo) := by
 obtain ⟨A', c', hv, hc⟩ := h.form
 injection hv with hA hn hc'
 subst hA; subst hn; subst hc'
 have hC := h
 obtain ⟨cells, hR, hK⟩ := h
 obtain ⟨A', c', hv, g1, g2, g3⟩ := hR
 injection hv with hA _ hc'
 subst hA; subst hc'
 have hlen : ((l.take hi).drop lo).length = hi - lo := by simp; omega
 refine ⟨_, ⟨_, c - lo, by rw [hlen], by rw [hlen]; omega, ?_, ?_⟩, (hK.take hi).drop lo⟩
 ·exact ((hK.take hi).drop lo).len
 ·intro j u hu
  have hz := ((hK.take hi).drop lo).len
  rw [hlen] at hz
  have hj : j < (hi - lo) * T.sz := by rw [← hz]; exact (List.getElem?_eq_some_iff.1 hu).1
  have hne : ¬ c = lo := fun he => by
   rw [show hi - lo = 0 from by omega, Nat.zero_mul] at hj; omega
  rw [List.getElem?_drop, List.getElem?_take] at hu
  split at hu
  ·obtain ⟨a, rfl, hl⟩ := g3 _ _ hu
   refine ⟨_, by rw [if_neg hne]; rfl, ?_⟩
   rw [zkG]; exact hl
  ·cases hu
end
end Go.Ab
namespace Go.Ab
open Go.RowKit
set_option linter.unusedVariables false
set_option linter.unusedSimpArgs false
def foreign (W : World) : Hp := fun b => match W.heap[b]? with
 | some (.cells cs ty _) => some ⟨cs.toList, ty, cs.size, false⟩
 | _ => none
theorem Inv.start (W : World) : Inv (base W) (foreign W) W := by
 refine ⟨Below.refl _ _, fun b o h => (nomatch h), fun b r hb => ?_⟩
 unfold foreign at hb
 split at hb
 ·rename_i cs ty fr hw
  injection hb with hb
  subst hb
  exact ⟨cs, fr, hw, rfl, List.prefix_refl _, fun h => by cases h⟩
 ·cases hb
theorem zob {W : World} {a : Addr} {v : Value} (h : W.cell? a = some v) : look (foreign W) a = some v := by
 unfold World.cell? at h
 split at h
 ·rename_i cs ty fr hw
  split at h
  ·cases h
  ·rename_i hs
   unfold look foreign
   rw [if_neg hs, hw]
   show cs.toList[a.off]? = some v
   rw [Array.getElem?_toList]
   exact h
 ·cases h
theorem ACalls.row {P : Program} {W : World} {f : FuncId} {args : Array Value} {K : Value → Hp → Prop} (h : ACalls P (base W) f args (foreign W) K zbm) : Calls P f args W fun e W' => ∃ v, e = .returned v ∧ Below W.heap.size W W' ∧ ∃ σ', K v σ' :=
 (h W (Inv.start W)).mono fun e w' he => by
  cases e with
  | returned v => obtain ⟨σ', hI, hk⟩ := he; exact ⟨v, rfl, hI.below, σ', hk⟩
  | panicked ch => obtain ⟨σ', hI, hk⟩ := he; exact hk.elim
  | outgrown => exact he.elim
theorem wf_i64 {n : Int} (h : (Lit.int .i64 n).wf = true) : -9223372036854775808 ≤ n ∧ n ≤ 9223372036854775807 := by
 simp [Lit.wf, IntKind.min, IntKind.max, IntKind.signed, IntKind.bits] at h
 omega
theorem zmp {n : Int} (h : (Lit.int .u8 n).wf = true) : 0 ≤ n ∧ n < 256 := by
 simp [Lit.wf, IntKind.min, IntKind.max, IntKind.signed, IntKind.bits] at h
 omega
theorem Chunks.u8 {σ : Hp} : ∀ (l : List UInt8), Chunks Ty.u8 σ l (l.map fun b => .int .u8 b.toNat)
 | [] => rfl
 | b :: l => ⟨[.int .u8 b.toNat], _, rfl, rfl, Chunks.u8 l⟩
theorem RdT.u8_arg {W : World} {x : Addr} {len cap : Nat} {zs : List Int} (hl : len ≤ cap) (hz : zs.length = cap) (hc : ∀ i, i < zs.length → W.cell? (x.add i) = some (.int .u8 (zs.getD i 0))) (hw : ∀ n ∈ zs, (Lit.int .u8 n).wf = true) :
  RdT Ty.u8 (foreign W) (.slice (some x) len cap) ((zs.take len).map fun n => UInt8.ofNat n.toNat) := by
 refine ⟨_, ⟨some x, cap, by simp; omega, by simp; omega, ?_, fun j u hu => ⟨x, rfl, ?_⟩⟩, Chunks.u8 _⟩
 ·show _ = _ * 1
  simp
 ·simp only [List.map_map, List.getElem?_map] at hu
  obtain ⟨n, hn, hu⟩ := Option.map_eq_some_iff.1 hu
  obtain ⟨h1, h2⟩ := List.getElem?_eq_some_iff.1 hn
  simp only [List.length_take] at h1
  rw [List.getElem_take] at h2
  have hj : j < zs.length := by omega
  have hm : n ∈ zs := h2 ▸ List.getElem_mem hj
  have hb := zmp (hw n hm)
  have := zob (hc j hj)
  rw [this, List.getD_eq_getElem?_getD, List.getElem?_eq_getElem hj, Option.getD_some, h2]
  rw [← hu]
  congr 2
  simp only [Function.comp]
  rw [UInt8.toNat_ofNat_of_lt' (show n.toNat < 256 by omega)]
  omega
end Go.Ab
namespace Go.Ab
open Go.RowKit
set_option linter.unusedVariables false
set_option linter.unusedSimpArgs false
abbrev Ob := Option (Nat × Row)
structure Obs (τ σ : Hp) (os : List Ob) : Prop where
 base : Hp.le τ σ
 row : ∀ (i b : Nat) (r : Row), os[i]? = some (some (b, r)) → σ b = some r ∧ τ b = none
 apart : ∀ (i j b : Nat) (r r' : Row), os[i]? = some (some (b, r)) → os[j]? = some (some (b, r')) → i = j
section
variable {τ σ σ' : Hp} {os : List Ob}
theorem Obs.nil (σ : Hp) : Obs σ σ [] := ⟨Hp.le.refl σ, fun i b r h => by simp at h, fun i j b r r' h => by simp at h⟩
theorem Obs.mono (h : Obs τ σ os) (hle : Hp.le σ σ') : Obs τ σ' os := ⟨h.base.trans hle, fun i b r e => ⟨hle _ _ (h.row i b r e).1, (h.row i b r e).2⟩, h.apart⟩
theorem Obs.add (h : Obs τ σ os) {b : Nat} (hb : σ b = none) (r : Row) : Obs τ (σ.set b r) (os ++ [some (b, r)]) := by
 have hne : ∀ {k q}, σ k = some q → k ≠ b := fun h he => by subst he; rw [hb] at h; cases h
 refine ⟨h.base.trans (Hp.le_set hb), fun i c q e => ?_, fun i j c q q' e1 e2 => ?_⟩
 ·rw [List.getElem?_append] at e
  split at e
  ·obtain ⟨h1, h2⟩ := h.row i c q e
   exact ⟨by rw [Hp.set_ne _ _ (hne h1)]; exact h1, h2⟩
  ·cases hi : i - os.length with
   | zero =>
    rw [hi] at e
    simp at e
    obtain ⟨rfl, rfl⟩ := e
    refine ⟨Hp.set_eq _ _ _, ?_⟩
    cases hτ : τ b with
    | none => rfl
    | some x => exact absurd rfl (hne (h.base _ _ hτ))
   | succ k => rw [hi] at e; simp at e
 ·have key : ∀ (i : Nat) (q : Row), (os ++ [some (b, r)])[i]? = some (some (c, q)) → (i < os.length ∧ os[i]? = some (some (c, q))) ∨ (i = os.length ∧ c = b) := fun i q e => by
   rw [List.getElem?_append] at e
   split at e
   ·rename_i hi; exact .inl ⟨hi, e⟩
   ·rename_i hi
    cases hi' : i - os.length with
    | zero =>
     rw [hi'] at e
     simp at e
     exact .inr ⟨by omega, e.1.symm⟩
    | succ k => rw [hi'] at e; simp at e
  rcases key i q e1 with ⟨hi, k1⟩ | ⟨hi, k1⟩ <;> rcases key j q' e2 with ⟨hj, k2⟩ | ⟨hj, k2⟩
  ·exact h.apart i j c q q' k1 k2
  ·exact absurd k2 (hne (h.row _ _ _ k1).1)
  ·exact absurd k1 (hne (h.row _ _ _ k2).1)
  ·omega
theorem Obs.no (h : Obs τ σ os) : Obs τ σ (os ++ [none]) := by
 have key : ∀ (i c : Nat) (q : Row), (os ++ [none])[i]? = some (some (c, q)) → os[i]? = some (some (c, q)) := fun i c q e => by
  rw [List.getElem?_append] at e
  split at e
  ·exact e
  ·cases hi' : i - os.length with
   | zero => rw [hi'] at e; simp at e
   | succ k => rw [hi'] at e; simp at e
 exact ⟨h.base, fun i c q e => h.row i c q (key i c q e), fun i j c q q' e1 e2 => h.apart i j c q q' (key _ _ _ e1) (key _ _ _ e2)⟩
theorem Obs.sel (h : Obs τ σ os) (is : List Nat) (hn : is.Nodup) : Obs τ σ (is.map fun i => os.getD i none) := by
 have key : ∀ (i c : Nat) (q : Row), (is.map fun i => os.getD i none)[i]? = some (some (c, q)) → ∃ k, is[i]? = some k ∧ os[k]? = some (some (c, q)) := fun i c q e => by
  rw [List.getElem?_map] at e
  obtain ⟨k, hk, e⟩ := Option.map_eq_some_iff.1 e
  refine ⟨k, hk, ?_⟩
  rw [List.getD_eq_getElem?_getD] at e
  cases ho : os[k]? with
  | none => rw [ho] at e; cases e
  | some x => rw [ho] at e; simp at e; rw [e]
 refine ⟨h.base, fun i c q e => ?_, fun i j c q q' e1 e2 => ?_⟩
 ·obtain ⟨k, _, hk⟩ := key i c q e
  exact h.row k c q hk
 ·obtain ⟨k1, a1, h1⟩ := key i c q e1
  obtain ⟨k2, a2, h2⟩ := key j c q' e2
  have := h.apart k1 k2 c q q' h1 h2
  subst this
  exact (List.getElem?_inj (List.getElem?_eq_some_iff.1 a1).1 hn).1 (a1.trans a2.symm)
theorem Obs.put (h : Obs τ σ os) {i b : Nat} {r : Row} (hi : os[i]? = some (some (b, r))) (r' : Row) : Obs τ (σ.set b r') (os.set i (some (b, r'))) := by
 have hil := (List.getElem?_eq_some_iff.1 hi).1
 have key : ∀ (k c : Nat) (q : Row), (os.set i (some (b, r')))[k]? = some (some (c, q)) → (k = i ∧ c = b ∧ q = r') ∨ (k ≠ i ∧ os[k]? = some (some (c, q))) := fun k c q e => by
  rw [List.getElem?_set] at e
  split at e
  ·rename_i hk
   subst hk
   simp at e
   exact .inl ⟨rfl, e.1.symm, e.2.symm⟩
  ·rename_i hk
   exact .inr ⟨fun h => hk h.symm, e⟩
 refine ⟨fun c q e => ?_, fun k c q e => ?_, fun k l c q q' e1 e2 => ?_⟩
 ·rw [Hp.set_ne _ _ (fun he => by subst he; rw [(h.row _ _ _ hi).2] at e; cases e)]
  exact h.base c q e
 ·rcases key k c q e with ⟨rfl, rfl, rfl⟩ | ⟨hk, e3⟩
  ·exact ⟨Hp.set_eq _ _ _, (h.row _ _ _ hi).2⟩
  ·obtain ⟨h1, h2⟩ := h.row k c q e3
   refine ⟨?_, h2⟩
   rw [Hp.set_ne _ _ (fun he => by subst he; exact hk (h.apart k i c q r e3 hi))]
   exact h1
 ·rcases key k c q e1 with ⟨rfl, rfl, rfl⟩ | ⟨hk, e3⟩ <;> rcases key l c q' e2 with ⟨rfl, h5, rfl⟩ | ⟨hl, e4⟩
  ·rfl
  ·exact absurd (h.apart _ _ _ _ _ hi e4) (fun he => hl he.symm)
  ·subst h5; exact absurd (h.apart _ _ _ _ _ e3 hi) hk
  ·exact h.apart _ _ _ _ _ e3 e4
theorem Obs.share (h : Obs τ σ os) {i b : Nat} {r : Row} (hi : os[i]? = some (some (b, r))) : Hp.le τ (τ.set b r) ∧ Obs (τ.set b r) σ (os.set i none) := by
 obtain ⟨hs, ht⟩ := h.row _ _ _ hi
 have key : ∀ (k c : Nat) (q : Row), (os.set i none)[k]? = some (some (c, q)) → k ≠ i ∧ os[k]? = some (some (c, q)) := fun k c q e => by
  rw [List.getElem?_set] at e
  split at e
  ·split at e <;> simp at e
  ·rename_i hk; exact ⟨fun h => hk h.symm, e⟩
 refine ⟨Hp.le_set ht, fun c q e => ?_, fun k c q e => ?_, fun k l c q q' e1 e2 => h.apart k l c q q' (key _ _ _ e1).2 (key _ _ _ e2).2⟩
 ·by_cases hc : c = b
  ·subst hc
   rw [Hp.set_eq] at e
   injection e with e
   subst e
   exact hs
  ·rw [Hp.set_ne _ _ hc] at e
   exact h.base c q e
 ·obtain ⟨hk, e⟩ := key k c q e
  obtain ⟨h1, h2⟩ := h.row k c q e
  refine ⟨h1, ?_⟩
  rw [Hp.set_ne _ _ (fun he => by subst he; exact hk (h.apart k i c q r e hi))]
  exact h2
end
def Ctr (P : Program) (f : FuncId) (args : Array Value) (τ : Hp) (vs : List Ob) (K : Value → Hp → List Ob → Prop) : Prop :=
 ∀ (w0 : Base) (ρ : Hp), Obs τ ρ vs → ACalls P w0 f args ρ (fun v ρ' => ∃ τ' vs', Obs τ' ρ' vs' ∧ Hp.le τ τ' ∧ K v τ' vs') zbm
theorem ACalls.fr {P : Program} {w0 : Base} {f : FuncId} {args : Array Value} {τ σ : Hp} {hs vs : List Ob} {K : Value → Hp → List Ob → Prop} (hO : Obs τ σ (hs ++ vs)) (hC : Ctr P f args τ vs K) :
  ACalls P w0 f args σ (fun v σ' => ∃ τ' vs', Obs τ' σ' (hs ++ vs') ∧ Hp.le τ τ' ∧ K v τ' vs') zbm := by
 intro w hI
 classical
 have hrow : ∀ (i b : Nat) (r : Row), hs[i]? = some (some (b, r)) → σ b = some r ∧ τ b = none := fun i b r e => hO.row i b r (by rw [List.getElem?_append_left (List.getElem?_eq_some_iff.1 e).1]; exact e)
 have vrow : ∀ (i b : Nat) (r : Row), vs[i]? = some (some (b, r)) → (hs ++ vs)[hs.length + i]? = some (some (b, r)) := fun i b r e => by rw [List.getElem?_append_right (by omega), Nat.add_sub_cancel_left]; exact e
 let H : Nat → Prop := fun b => ∃ (i : Nat) (r : Row), hs[i]? = some (some (b, r))
 let w1 : Base := ⟨w0.world, fun b => if H b then w.heap[b]? else w0.hid b⟩
 let ρ : Hp := fun b => if H b then none else σ b
 have hρ : Obs τ ρ vs := by
  refine ⟨fun b r e => ?_, fun i b r e => ?_, fun i j b r r' e1 e2 => ?_⟩
  ·have hn : ¬ H b := fun ⟨i, q, h⟩ => by rw [(hrow i b q h).2] at e; cases e
   simp only [ρ, if_neg hn]
   exact hO.base b r e
  ·obtain ⟨h1, h2⟩ := hO.row _ b r (vrow i b r e)
   have hn : ¬ H b := fun ⟨k, q, h⟩ => by
    have hk := (List.getElem?_eq_some_iff.1 h).1
    have := hO.apart k (hs.length + i) b q r (by rw [List.getElem?_append_left hk]; exact h) (vrow i b r e)
    omega
   exact ⟨by simp only [ρ, if_neg hn]; exact h1, h2⟩
  ·have := hO.apart _ _ b r r' (vrow i b r e1) (vrow j b r' e2)
   omega
 have hI1 : Inv w1 ρ w := by
  refine ⟨hI.below, fun b o ho => ?_, fun b r hb => ?_⟩
  ·by_cases hH : H b
   ·simp only [w1, if_pos hH] at ho
    exact ⟨by simp only [ρ, if_pos hH], ho⟩
   ·simp only [w1, if_neg hH] at ho
    exact ⟨by simp only [ρ, if_neg hH]; exact (hI.hid b o ho).1, (hI.hid b o ho).2⟩
  ·by_cases hH : H b
   ·simp only [ρ, if_pos hH] at hb; cases hb
   ·simp only [ρ, if_neg hH] at hb
    exact hI.row b r hb
 refine (hC w1 ρ hρ w hI1).mono fun e w' he => ?_
 cases e with
 | panicked ch => obtain ⟨_, _, h⟩ := he; exact h.elim
 | outgrown => exact he
 | returned v =>
  obtain ⟨ρ', hI', τ', vs', hO', hle, hK⟩ := he
  have hH' : ∀ b, H b → ρ' b = none ∧ w'.heap[b]? = w.heap[b]? := fun b hH => by
   obtain ⟨i, r, hi⟩ := hH
   obtain ⟨cs, fr, hw, _⟩ := hI.row b r (hrow i b r hi).1
   have := hI'.hid b _ (show w1.hid b = some _ from by simp only [w1, if_pos (show H b from ⟨i, r, hi⟩)]; exact hw)
   exact ⟨this.1, by rw [this.2, hw]⟩
  refine ⟨fun b => if H b then σ b else ρ' b, ⟨hI'.below, fun b o ho => ?_, fun b r hb => ?_⟩, τ', vs', ⟨fun b r e => ?_, fun i b r e => ?_, fun i j b r r' e1 e2 => ?_⟩, hle, hK⟩
  ·have hn : ¬ H b := fun ⟨i, q, h⟩ => by have := (hI.hid b o ho).1; rw [(hrow i b q h).1] at this; cases this
   have := hI'.hid b o (show w1.hid b = some o from by simp only [w1, if_neg hn]; exact ho)
   exact ⟨by simp only [if_neg hn]; exact this.1, this.2⟩
  ·by_cases hH : H b
   ·simp only [if_pos hH] at hb
    obtain ⟨cs, fr, hw, h1⟩ := hI.row b r hb
    exact ⟨cs, fr, by rw [(hH' b hH).2]; exact hw, h1⟩
   ·simp only [if_neg hH] at hb
    exact hI'.row b r hb
  ·have := hO'.base b r e
   have hn : ¬ H b := fun h => by rw [(hH' b h).1] at this; cases this
   simp only [if_neg hn]
   exact this
  ·rw [List.getElem?_append] at e
   split at e
   ·have hH : H b := ⟨i, r, e⟩
    simp only [if_pos hH]
    refine ⟨(hrow i b r e).1, ?_⟩
    cases ht : τ' b with
    | none => rfl
    | some q => have := hO'.base b q ht; rw [(hH' b hH).1] at this; cases this
   ·obtain ⟨h1, h2⟩ := hO'.row _ b r e
    have hn : ¬ H b := fun h => by rw [(hH' b h).1] at h1; cases h1
    simp only [if_neg hn]
    exact ⟨h1, h2⟩
  ·rw [List.getElem?_append] at e1 e2
   split at e1 <;> split at e2
   ·rename_i hi hj
    exact hO.apart i j b r r' (by rw [List.getElem?_append_left hi]; exact e1) (by rw [List.getElem?_append_left hj]; exact e2)
   ·have h1 := (hO'.row _ b r' e2).1; rw [(hH' b ⟨i, r, e1⟩).1] at h1; cases h1
   ·have h1 := (hO'.row _ b r e1).1; rw [(hH' b ⟨j, r', e2⟩).1] at h1; cases h1
   ·have := hO'.apart _ _ b r r' e1 e2
    omega
def zr {α : Type} (T : Ty α) (ty : Nat) (τ : Hp) (v : Value) (l : List α) (o : Ob) : Prop :=
 (v = .slice none 0 0 ∧ l = [] ∧ o = none) ∨ ∃ b cap cells rest, v = .slice (some ⟨b, 0, none⟩) l.length cap ∧ l.length ≤ cap ∧ cap ≤ maxLen ∧ o = some (b, ⟨cells ++ rest, ty, cap * T.sz, true⟩) ∧ Chunks T τ l cells
section
variable {α : Type} {T : Ty α} {ty : Nat} {τ τ' σ : Hp} {v : Value} {l : List α} {o : Ob} {os : List Ob}
theorem zr.nil (T : Ty α) (ty : Nat) (τ : Hp) : zr T ty τ (.slice none 0 0) [] none := .inl ⟨rfl, rfl, rfl⟩
theorem zr.le (h : zr T ty τ v l o) (hle : Hp.le τ τ') : zr T ty τ' v l o := by
 rcases h with h | ⟨b, cap, cells, rest, h1, h2, h3, h4, h5⟩
 ·exact .inl h
 ·exact .inr ⟨b, cap, cells, rest, h1, h2, h3, h4, h5.mono hle⟩
theorem zr.form (h : zr T ty τ v l o) : ∃ A c, v = .slice A l.length c ∧ l.length ≤ c := by
 rcases h with ⟨rfl, rfl, _⟩ | ⟨b, cap, cells, rest, rfl, h2, _⟩
 ·exact ⟨none, 0, rfl, Nat.le_refl _⟩
 ·exact ⟨_, cap, rfl, h2⟩
theorem zr.rd (h : zr T ty τ v l o) {i : Nat} (hO : Obs τ σ os) (hi : os[i]? = some o) : RdT T σ v l := by
 rcases h with ⟨rfl, rfl, rfl⟩ | ⟨b, cap, cells, rest, rfl, h2, h3, rfl, h5⟩
 ·exact RdT.nil T σ
 ·obtain ⟨h1, _⟩ := hO.row i b _ hi
  refine ⟨cells, ⟨_, cap, rfl, h2, h5.len, fun j u hu => ⟨_, rfl, ?_⟩⟩, h5.mono hO.base⟩
  rw [zcg, Nat.zero_add]
  simp only [look, h1, Option.isSome_none, Bool.false_eq_true, if_false, Option.bind_some]
  rw [List.getElem?_append_left (List.getElem?_eq_some_iff.1 hu).1]
  exact hu
theorem zr.x (h : zr T ty τ v l o) {i : Nat} (hO : Obs τ σ os) (hi : os[i]? = some o) : ∃ cells, zci ty T.sz σ v l.length cells ∧ Chunks T τ l cells := by
 rcases h with ⟨rfl, rfl, rfl⟩ | ⟨b, cap, cells, rest, rfl, h2, h3, rfl, h5⟩
 ·exact ⟨[], ⟨by simp, .inl ⟨rfl, rfl⟩⟩, rfl⟩
 ·exact ⟨cells, ⟨h5.len, .inr ⟨b, cap, rest, rfl, h2, h3, (hO.row i b _ hi).1⟩⟩, h5⟩
theorem zr.share (h : zr T ty τ v l o) {i : Nat} (hO : Obs τ σ os) (hi : os[i]? = some o) : ∃ τ', Hp.le τ τ' ∧ RdT T τ' v l ∧ Obs τ' σ (os.set i none) := by
 rcases h with ⟨rfl, rfl, rfl⟩ | ⟨b, cap, cells, rest, rfl, h2, h3, rfl, h5⟩
 ·refine ⟨τ, Hp.le.refl _, RdT.nil T τ, ?_⟩
  have : os.set i none = os := by
   apply List.ext_getElem?
   intro k
   rw [List.getElem?_set]
   split
   ·rename_i hk; subst hk; rw [if_pos (List.getElem?_eq_some_iff.1 hi).1, hi]
   ·rfl
  rw [this]
  exact hO
 ·obtain ⟨hle, hO'⟩ := hO.share hi
  refine ⟨_, hle, ⟨cells, ⟨_, cap, rfl, h2, h5.len, fun j u hu => ⟨_, rfl, ?_⟩⟩, h5.mono hle⟩, hO'⟩
  rw [zcg, Nat.zero_add, zgv]
  show (cells ++ rest)[j]? = some u
  rw [List.getElem?_append_left (List.getElem?_eq_some_iff.1 hu).1]
  exact hu
theorem zr.blk_eq (h : zr T ty τ v l o) : blk v = o.map (·.1) := by
 rcases h with ⟨rfl, rfl, rfl⟩ | ⟨b, cap, cells, rest, rfl, h2, h3, rfl, h5⟩ <;> rfl
theorem zr.grow (h : zr T ty τ v l o) {i n : Nat} (hO : Obs τ σ os) (hi : os[i]? = some o) {σ' : Hp} {v' : Value} {cells' : List Value} {l' : List α} (hg : Grow σ v σ' v') (hx : zdf ty T.sz σ' v' l'.length cells') (hC : Chunks T τ l' cells') :
  ∃ o', zr T ty τ v' l' o' ∧ Obs τ σ' (os.set i o') := by
 have hil := (List.getElem?_eq_some_iff.1 hi).1
 have hbv := h.blk_eq
 have off : ∀ (k b : Nat) (r : Row), k ≠ i → os[k]? = some (some (b, r)) → blk v ≠ some b := fun k b r hk hb he => by
  rw [hbv] at he
  cases o with
  | none => cases he
  | some p =>
   obtain ⟨c, q⟩ := p
   simp at he
   subst he
   exact hk (hO.apart k i c r q hb hi)
 have offτ : ∀ (b : Nat) (r : Row), τ b = some r → blk v ≠ some b := fun b r hb he => by
  rw [hbv] at he
  cases o with
  | none => cases he
  | some p =>
   obtain ⟨c, q⟩ := p
   simp at he
   subst he
   rw [(hO.row i c q hi).2] at hb; cases hb
 have hbase : Hp.le τ σ' := fun b r hb => hg.1 b r (offτ b r hb) (hO.base b r hb)
 have hkeep : ∀ (k b : Nat) (r : Row), k ≠ i → os[k]? = some (some (b, r)) → σ' b = some r ∧ τ b = none := fun k b r hk hb => ⟨hg.1 b r (off k b r hk hb) (hO.row k b r hb).1, (hO.row k b r hb).2⟩
 obtain ⟨hl, ⟨rfl, h2⟩ | ⟨b', cap, rfl, h2, h3, h4⟩⟩ := hx
 ·have hnil : l' = [] := List.eq_nil_of_length_eq_zero h2
  subst hnil
  refine ⟨none, zr.nil T ty τ, hbase, fun k b r e => ?_, fun k j b r r' e1 e2 => ?_⟩
  ·rw [List.getElem?_set] at e
   split at e
   ·simp at e
   ·rename_i hk; exact hkeep k b r (fun h => hk h.symm) e
  ·rw [List.getElem?_set] at e1 e2
   split at e1
   ·simp at e1
   ·split at e2
    ·simp at e2
    ·exact hO.apart k j b r r' e1 e2
 ·refine ⟨some (b', ⟨cells', ty, cap * T.sz, true⟩), .inr ⟨b', cap, cells', [], rfl, h2, h3, by rw [List.append_nil], hC⟩, hbase, fun k b r e => ?_, fun k j b r r' e1 e2 => ?_⟩
  ·rw [List.getElem?_set] at e
   split at e
   ·simp at e
    obtain ⟨rfl, rfl⟩ := e
    refine ⟨h4, ?_⟩
    cases ht : τ b' with
    | none => rfl
    | some q =>
     rcases hg.2.1 with h5 | ⟨c, h5, h6⟩
     ·exact absurd h5.symm (offτ b' q ht)
     ·injection h5 with h5
      have h5 : b' = c := h5
      subst h5
      rw [hO.base b' q ht] at h6; cases h6
   ·rename_i hk; exact hkeep k b r (fun h => hk h.symm) e
  ·have new : ∀ (k : Nat) (r : Row), k ≠ i → os[k]? = some (some (b', r)) → False := fun k r hk e => by
    rcases hg.2.1 with h5 | ⟨c, h5, h6⟩
    ·exact off k b' r hk e h5.symm
    ·injection h5 with h5
     have h5 : b' = c := h5
     subst h5
     rw [(hO.row k b' r e).1] at h6; cases h6
   rw [List.getElem?_set] at e1 e2
   split at e1 <;> split at e2
   ·omega
   ·rename_i hk hj
    simp at e1
    obtain ⟨rfl, _⟩ := e1
    exact (new j r' (fun h => hj h.symm) e2).elim
   ·rename_i hk hj
    simp at e2
    obtain ⟨rfl, _⟩ := e2
    exact (new k r (fun h => hk h.symm) e1).elim
   ·exact hO.apart k j b r r' e1 e2
end
end Go.Ab
namespace Go.Ab
theorem zr.cut {α : Type} {T : Ty α} {ty : Nat} {τ : Hp} {A : Option Addr} {n c : Nat} {l : List α} {o : Ob} (h : zr T ty τ (.slice A n c) l o) {k : Nat} (hk : k ≤ l.length) : zr T ty τ (.slice A k c) (l.take k) o := by
 rcases h with ⟨hv, rfl, rfl⟩ | ⟨b, cap, cells, rest, hv, h2, h3, rfl, h5⟩
 ·injection hv with h1 h2 h3
  subst h1; subst h2; subst h3
  have : k = 0 := by simpa using hk
  subst this
  exact .inl ⟨rfl, by simp, rfl⟩
 ·injection hv with h1 h6 h7
  subst h1; subst h7
  have hl : (l.take k).length = k := by rw [List.length_take]; omega
  refine .inr ⟨b, c, cells.take (k * T.sz), cells.drop (k * T.sz) ++ rest, by rw [hl], by omega, h3, ?_, h5.take k⟩
  rw [← List.append_assoc, List.take_append_drop]
end Go.Ab
namespace Go.Ab
open Go.RowKit
set_option linter.unusedVariables false
set_option linter.unusedSimpArgs false
def zz {α : Type} (l : List α) (i : Int) : Option α := if 0 ≤ i then l[i.toNat]? else none
def room (n : Nat) : Option Unit := if n ≤ 1099511627776 then some () else none
def zb0 {α : Type} (l : List α) (lo hi : Int) : Option (List α) := if 0 ≤ lo ∧ lo ≤ hi ∧ hi ≤ l.length then some ((l.take hi.toNat).drop lo.toNat) else none
theorem zog {α : Type} {l : List α} {i : Int} {x : α} (h : zz l i = some x) : 0 ≤ i ∧ l[i.toNat]? = some x := by
 unfold zz at h
 split at h
 ·exact ⟨by assumption, h⟩
 ·cases h
theorem znp {n : Nat} {u : Unit} (h : room n = some u) : n ≤ 1099511627776 := by
 unfold room at h
 split at h
 ·assumption
 ·cases h
theorem zhZ {α : Type} {l m : List α} {lo hi : Int} (h : zb0 l lo hi = some m) : 0 ≤ lo ∧ lo ≤ hi ∧ hi ≤ l.length ∧ m = (l.take hi.toNat).drop lo.toNat := by
 unfold zb0 at h
 split at h
 ·rename_i hc; injection h with h; exact ⟨hc.1, hc.2.1, hc.2.2, h.symm⟩
 ·cases h
theorem zi {α : Type} {b : Bool} {A B : Option α} {r : α} (h : (if b = true then A else B) = some r) : (b = true ∧ A = some r) ∨ (b = false ∧ B = some r) := by
 cases b with
 | true => exact .inl ⟨rfl, h⟩
 | false => exact .inr ⟨rfl, h⟩
theorem bind_some {α β : Type} {a : Option α} {f : α → Option β} {r : β} (h : a.bind f = some r) : ∃ x, a = some x ∧ f x = some r := Option.bind_eq_some_iff.1 h
def sets : List (Nat × Value) → Env → Env
 | [], e => e
 | (k, v) :: r, e => fun n => if n = k then v else sets r e n
def agr : List (Nat × Value) → Env → Prop
 | [], _ => True
 | (k, v) :: r, e => e k = v ∧ agr r e
theorem zL : ∀ (L : List (Nat × Value)) (e : Env), agr L e → sets L e = e
 | [], e, _ => rfl
 | (k, v) :: r, e, h => by
  funext n
  simp only [sets]
  split
  ·rename_i hn; subst hn; exact h.1.symm
  ·rw [zL r e h.2]
def qv (o : AOp) (e : Env) : Option Value := match o with
 | .mv x => some (ev e x)
 | .pick c a b => match ev e c with
  | .bool t => some (if t = true then ev e a else ev e b)
  | _ => none
 | .bin op x y => binv op (ev e x) (ev e y)
 | .beq neg x y => match ev e x, ev e y with
  | .bool a, .bool b => some (.bool (if neg then !(a == b) else a == b))
  | _, _ => none
 | .aeq neg n x y => match ev e x, ev e y with
  | .agg xs, .agg ys => (zcN n xs.toList ys.toList).map fun b => .bool (if neg then !b else b)
  | _, _ => none
 | .snil neg x => match ev e x with
  | .slice A _ _ => some (.bool (if neg then !A.isNone else A.isNone))
  | _ => none
 | .un op x => unv op (ev e x)
 | .cint k x => match ev e x with
  | .int _ n => some (.int k (k.wrap n))
  | _ => none
 | .field agg off n x => match ev e x with
  | .agg cs => partv agg off n cs
  | _ => none
 | .ext i x => match ev e x with
  | .tuple vs => vs[i]?
  | _ => none
 | .mkif t x => some (.iface t (ev e x))
 | .mkfn fn first cap => some (.func fn (first.map (ev e)).toArray (cap.map (ev e)).toArray)
 | .build zero parts => (zcd zero (parts.map fun p => (p.1, p.2.1, ev e p.2.2))).map fun cs => .agg cs.toArray
 | .faddr off x => match ev e x with
  | .pointer (some a) => some (.pointer (some (a.add off)))
  | _ => none
 | .nilchk x => match zeE (ev e x) with
  | true => some (ev e x)
  | false => none
 | .lenS x => match ev e x with
  | .string s => some (.int .i64 s.size)
  | _ => none
 | .lenL x => match ev e x with
  | .slice _ n _ => some (.int .i64 n)
  | _ => none
 | .lenA n => some (.int .i64 n)
 | .capL x => match ev e x with
  | .slice _ _ c => some (.int .i64 c)
  | _ => none
 | .minmax mx x xs => match ev e x with
  | .int k a => (minmaxv mx k a (xs.map (ev e))).map (.int k)
  | _ => none
 | _ => none
theorem zpl {P : Program} {w0 : Base} {o : AOp} {e : Env} {σ : Hp} {v : Value} {K : Value → Hp → Prop} (h : qv o e = some v) (k : K v σ) : xop P w0 o e σ K := by
 cases o <;> simp only [qv, reduceCtorEq] at h <;> unfold xop <;> dsimp only
 case mv => injection h with h; subst h; exact k
 case pick => split at h <;> first | (rename_i hh; (try rw [hh]); injection h with h; subst h; exact k) | cases h
 case bin => exact ⟨v, h, k⟩
 case beq => split at h <;> first | (rename_i h1 h2; (try rw [h1, h2]); injection h with h; subst h; exact k) | cases h
 case aeq =>
  split at h
  ·rename_i h1 h2
   rw [h1, h2]
   obtain ⟨b, h3, rfl⟩ := Option.map_eq_some_iff.1 h
   exact ⟨b, h3, k⟩
  ·cases h
 case snil => split at h <;> first | (rename_i hh; (try rw [hh]); injection h with h; subst h; exact k) | cases h
 case un => exact ⟨v, h, k⟩
 case cint => split at h <;> first | (rename_i hh; (try rw [hh]); injection h with h; subst h; exact k) | cases h
 case field => split at h <;> first | (rename_i hh; (try rw [hh]); exact ⟨v, h, k⟩) | cases h
 case ext => split at h <;> first | (rename_i hh; (try rw [hh]); exact ⟨v, h, k⟩) | cases h
 case mkif => injection h with h; subst h; exact k
 case mkfn => injection h with h; subst h; exact k
 case build =>
  obtain ⟨cs, h1, rfl⟩ := Option.map_eq_some_iff.1 h
  exact ⟨cs, h1, k⟩
 case faddr => split at h <;> first | (rename_i hh; (try rw [hh]); injection h with h; subst h; exact ⟨rfl, k⟩) | cases h
 case nilchk => split at h <;> first | (rename_i hh; injection h with h; subst h; exact ⟨hh, k⟩) | cases h
 case lenS => split at h <;> first | (rename_i hh; (try rw [hh]); injection h with h; subst h; exact k) | cases h
 case lenL => split at h <;> first | (rename_i hh; (try rw [hh]); injection h with h; subst h; exact k) | cases h
 case lenA => injection h with h; subst h; exact k
 case capL => split at h <;> first | (rename_i hh; (try rw [hh]); injection h with h; subst h; exact k) | cases h
 case minmax =>
  split at h
  ·rename_i hh
   try rw [hh]
   obtain ⟨r, h1, rfl⟩ := Option.map_eq_some_iff.1 h
   exact ⟨r, h1, k⟩
  ·cases h
def zg9 (cells : List Value) (off : Nat) (agg : Bool) (n : Nat) : Option Value := if agg then (if (cells.drop off).length < n then none else some (.agg ((cells.drop off).take n).toArray)) else cells[off]?
def qoj (os : List Ob) : List XJ → List Nat → Env → (List Nat → Env → Prop) → Prop
 | [], hs, e, K => K hs e
 | ⟨d, .load agg n x, []⟩ :: r, i :: hs, e, K => match ev e x with
  | .pointer (some a) => match os[i]? with
   | some (some (b, row)) => (a.block = b ∧ a.spot = none) ∧ (match zg9 row.cells a.off agg n with
    | some v => qoj os r hs (zN e d v) K
    | none => False)
   | _ => False
  | _ => False
 | ⟨d, op, []⟩ :: r, hs, e, K => match qv op e with
  | some v => qoj os r hs (zN e d v) K
  | none => False
 | _, _, _, _ => False
def dsts (l : List XJ) : List Nat := l.filterMap (·.d)
def msk (D : List Nat) (J e : Env) : Env := fun k => if D.contains k = true then J k else e k
def pk : XJ → Option (Nat × Opd × Opd × Opd)
 | ⟨some dp, .pick c a b, []⟩ => some (dp, c, a, b)
 | _ => none
theorem zno {y : XJ} {q : Nat × Opd × Opd × Opd} (h : pk y = some q) : y = ⟨some q.1, .pick q.2.1 q.2.2.1 q.2.2.2, []⟩ := by
 unfold pk at h
 split at h
 ·injection h with h; subst h; rfl
 ·cases h
def gval (w p : Bool) (a b : Opd) (e1 : Env) : Option Bool := match w with
 | true => match b with
  | .c (.bool false) => match ev e1 a with
   | .bool x => some (p && x)
   | _ => none
  | _ => none
 | false => match a with
  | .c (.bool true) => match ev e1 b with
   | .bool x => some (p || x)
   | _ => none
  | _ => none
def qok (os : List Ob) : List XI → List Nat → Env → (Env → Prop) → Prop
 | [], _, e, K => K e
 | .s x :: r, hs, e, K => qoj os [x] hs e (fun hs' e' => qok os r hs' e' K)
 | .g t w gl :: .s y :: r, hs, e, K => match pk y with
  | some (dp, c, a, b) => (c = .t t ∧ (dsts gl).contains t = false) ∧ (match e t with
   | .bool p => qoj os gl hs e (fun hs' e1 => match gval w p a b e1 with
    | some x => ∀ J : Env, qok os r hs' (zN (msk (dsts gl) J e) (some dp) (.bool x)) K
    | none => False)
   | _ => False)
  | none => False
 | _, _, _, _ => False
theorem zqd {w p : Bool} {a b : Opd} {e1 er : Env} {x : Bool} (h : gval w p a b e1 = some x) (hr : p = w → er = e1) : (if p = true then ev er a else ev er b) = .bool x := by
 unfold gval at h
 cases w with
 | true =>
  simp only at h
  split at h
  ·split at h
   ·rename_i y hy
    injection h with h
    subst h
    cases p with
    | true => rw [if_pos rfl, hr rfl, hy]; rfl
    | false => rw [if_neg (by simp)]; rfl
   ·cases h
  ·cases h
 | false =>
  simp only at h
  split at h
  ·split at h
   ·rename_i y hy
    injection h with h
    subst h
    cases p with
    | true => rw [if_pos rfl]; rfl
    | false => rw [if_neg (by simp), hr rfl, hy]; rfl
   ·cases h
  ·cases h
theorem zpw {σ : Hp} {b : Nat} {r : Row} (h : σ b = some r) {off n : Nat} (hn : ¬ (r.cells.drop off).length < n) : looks σ ⟨b, off, none⟩ 0 n = some ((r.cells.drop off).take n) := by
 have hl : ((r.cells.drop off).take n).length = n := by rw [List.length_take]; omega
 have := zhd (σ := σ) (a := ⟨b, off, none⟩) ((r.cells.drop off).take n) 0 fun j u hu => by
  rw [zcg, Nat.zero_add]
  simp only [look, h, Option.isSome_none, Bool.false_eq_true, if_false, Option.bind_some]
  rw [List.getElem?_take] at hu
  split at hu
  ·rw [List.getElem?_drop] at hu; exact hu
  ·cases hu
 rw [hl] at this
 exact this
theorem zlu {σ : Hp} {b : Nat} {r : Row} {a : Addr} {agg : Bool} {n : Nat} {v : Value} (h : σ b = some r) (hb : a.block = b) (hs : a.spot = none) (hc : zg9 r.cells a.off agg n = some v) : zbR σ a agg n = some v := by
 obtain ⟨ab, ao, as⟩ := a
 simp only at hb hs hc
 subst hb; subst hs
 unfold zg9 at hc
 unfold zbR
 split at hc
 ·rename_i hg
  subst hg
  split at hc
  ·cases hc
  ·rename_i hn
   injection hc with hc
   subst hc
   rw [if_pos rfl, zpw h hn]
   rfl
 ·rename_i hg
  rw [if_neg hg]
  simp only [look, h, Option.isSome_none, Bool.false_eq_true, if_false, Option.bind_some]
  exact hc
section
variable {P : Program} {w0 : Base} {τ σ : Hp} {os : List Ob}
theorem ziz (hO : Obs τ σ os) : ∀ (l : List XJ) (hs : List Nat) (e : Env) (K : List Nat → Env → Prop), qoj os l hs e K → ∃ hs' e1, K hs' e1 ∧ (∀ k, (dsts l).contains k = false → e1 k = e k) ∧ ∀ K' : Env → Hp → Prop, K' e1 σ → xjs P w0 l e σ K'
 | [], hs, e, K, h => ⟨hs, e, h, fun _ _ => rfl, fun K' h => h⟩
 | ⟨d, op, x :: st⟩ :: l, hs, e, K, h => by cases op <;> (unfold qoj at h; exact h.elim)
 | ⟨d, op, []⟩ :: l, hs, e, K, h => by
  have fr : ∀ (v : Value) (e1 : Env), (∀ k, (dsts l).contains k = false → e1 k = zN e d v k) → ∀ k, (dsts (⟨d, op, []⟩ :: l)).contains k = false → e1 k = e k := fun v e1 h1 k hk => by
   cases d with
   | none => exact h1 k hk
   | some d =>
    simp only [dsts, List.filterMap_cons, List.contains_cons, Bool.or_eq_false_iff] at hk
    rw [h1 k hk.2]
    have : k ≠ d := fun he => by have := hk.1; rw [he] at this; simp at this
    simp [zN, this]
  have gen : ∀ v hs', (∀ K' : Value → Hp → Prop, K' v σ → xop P w0 op e σ K') → qoj os l hs' (zN e d v) K → ∃ hs' e1, K hs' e1 ∧ (∀ k, (dsts (⟨d, op, []⟩ :: l)).contains k = false → e1 k = e k) ∧ ∀ K' : Env → Hp → Prop, K' e1 σ → xjs P w0 (⟨d, op, []⟩ :: l) e σ K' := fun v hs' h1 h2 => by
   obtain ⟨hs2, e1, k1, k2, k3⟩ := ziz hO l hs' _ K h2
   refine ⟨hs2, e1, k1, fr v e1 k2, fun K' hK' => ?_⟩
   rw [zoX]
   exact h1 _ (k3 K' hK')
  cases op
  case load agg n x =>
   cases hs with
   | nil => unfold qoj at h; simp [qv] at h
   | cons i hs =>
    unfold qoj at h
    split at h
    ·rename_i a ha
     split at h
     ·rename_i b row hb
      obtain ⟨⟨h1, h2⟩, h3⟩ := h
      split at h3
      ·rename_i v hv
       refine gen v hs (fun K' hK' => ?_) h3
       unfold xop
       simp only [ha]
       exact ⟨v, by simp [zh3, zlu (hO.row i b row hb).1 h1 h2 hv], hK'⟩
      ·exact h3.elim
     ·exact h.elim
    ·exact h.elim
  all_goals
   unfold qoj at h
   split at h
   ·rename_i v hv; exact gen v hs (fun K' hK' => zpl hv hK') h
   ·exact h.elim
theorem ziN : ∀ (l : List XJ) (e : Env) (k : Nat), (dsts l).contains k = false → undefs l e k = e k
 | [], e, k, _ => rfl
 | ⟨none, op, st⟩ :: l, e, k, h => ziN l e k h
 | ⟨some d, op, st⟩ :: l, e, k, h => by
  simp only [dsts, List.filterMap_cons, List.contains_cons, Bool.or_eq_false_iff] at h
  have := ziN l (zN e (some d) undef) k h.2
  simp only [undefs]
  rw [this]
  have : k ≠ d := fun he => by have := h.1; rw [he] at this; simp at this
  simp [zN, this]
theorem zjC : ∀ (l : List XJ) (hs : List Nat) (e : Env) (K : List Nat → Env → Prop), qoj os l hs e K → (l.all fun x => x.st.isEmpty) = true
 | [], _, _, _, _ => rfl
 | ⟨d, op, []⟩ :: l, hs, e, K, h => by
  have hr : (l.all fun x => x.st.isEmpty) = true := by
   cases op
   case load agg n x =>
    cases hs with
    | nil => unfold qoj at h; simp [qv] at h
    | cons i hs =>
     unfold qoj at h
     split at h
     ·split at h
      ·obtain ⟨_, h3⟩ := h
       split at h3
       ·exact zjC l hs _ K h3
       ·exact h3.elim
      ·exact h.elim
     ·exact h.elim
   all_goals
    unfold qoj at h
    split at h
    ·exact zjC l hs _ K h
    ·exact h.elim
  simp only [List.all_cons, hr, Bool.and_true]
  rfl
 | ⟨d, op, s :: st⟩ :: l, hs, e, K, h => by
  cases op <;> cases hs <;> unfold qoj at h <;> exact h.elim
theorem zoo {D : List Nat} {e e1 : Env} (h : ∀ k, D.contains k = false → e1 k = e k) : msk D e1 e = e1 := by
 funext k
 unfold msk
 cases hk : D.contains k with
 | true => rfl
 | false => simp [h k hk]
theorem zhJ (hO : Obs τ σ os) {r : List XI} {K' : Env → Hp → Prop} : ∀ (l : List XI) (hs : List Nat) (e : Env) (K : Env → Prop), qok os l hs e K → (∀ e', K e' → xis P w0 r e' σ K') → xis P w0 (l ++ r) e σ K'
 | [], hs, e, K, h, k => k e h
 | .s x :: l, hs, e, K, h, k => by
  unfold qok at h
  obtain ⟨hs', e1, h1, _, h3⟩ := ziz (P := P) (w0 := w0) hO [x] hs e _ h
  have := h3 (fun e' σ' => xis P w0 (l ++ r) e' σ' K') (zhJ hO l hs' e1 K h1 k)
  exact this
 | [.g t w gl], hs, e, K, h, k => by unfold qok at h; exact h.elim
 | .g t w gl :: .g _ _ _ :: l, hs, e, K, h, k => by unfold qok at h; exact h.elim
 | .g t w gl :: .s y :: l, hs, e, K, h, k => by
  unfold qok at h
  split at h
  ·rename_i dp c a b hy
   have hy := zno hy
   subst hy
   obtain ⟨⟨rfl, ht⟩, h⟩ := h
   split at h
   ·rename_i p hp
    obtain ⟨hs', e1, h1, h2, h3⟩ := ziz (P := P) (w0 := w0) hO gl hs e _ h
    split at h1
    ·rename_i x hx
     have fin : ∀ er : Env, (∀ k, (dsts gl).contains k = false → er k = e k) → (p = w → er = e1) → xis P w0 ((.s ⟨some dp, .pick (.t t) a b, []⟩ :: l) ++ r) er σ K' := fun er hfr ha => by
      rw [List.cons_append, zcm]
      have htp : ev er (.t t) = .bool p := by show er t = _; rw [hfr t ht, hp]
      have := zhJ hO l hs' _ K (h1 er) k
      rw [zoo hfr] at this
      simp only [xop, htp]
      rw [zqd hx ha]
      exact this
     refine ⟨fun hb => h3 _ (fin e1 h2 fun _ => rfl), fun hb => ⟨ziv gl e σ (zjC gl hs e _ h), fin _ (ziN gl e) fun hpt => ?_⟩⟩
     rw [hp, hpt] at hb
     simp [isB] at hb
    ·exact h1.elim
   ·exact h.elim
  ·exact h.elim
variable {ops r : List XI} {b : zbt} {Q : Exit → Env → Hp → Prop} {e : Env} {d : Option Nat}
theorem zd (hO : Obs τ σ os) (n : Nat) (hs : List Nat) (L : List (Nat × Value)) (h : qok os (ops.take n) hs e (agr L)) (k : ∀ j, wpn P w0 (.seq (.reg (ops.drop n)) b) Q (sets L j) σ) : wpn P w0 (.seq (.reg ops) b) Q e σ := by
 show xis P w0 ops e σ (fun e' σ' => wpn P w0 b Q e' σ')
 rw [← List.take_append_drop n ops]
 refine zhJ hO _ hs e _ h fun e' he => ?_
 have := k e'
 rw [zL L e' he] at this
 exact this
theorem zc (hO : Obs τ σ os) (hs : List Nat) (L : List (Nat × Value)) (h : qok os ops hs e (agr L)) (k : ∀ j, wpn P w0 b Q (sets L j) σ) : wpn P w0 (.seq (.reg ops) b) Q e σ := by
 show xis P w0 ops e σ (fun e' σ' => wpn P w0 b Q e' σ')
 rw [← List.append_nil ops]
 refine zhJ hO _ hs e _ h fun e' he => ?_
 have := k e'
 rw [zL L e' he] at this
 exact this
theorem zbQ (n : Nat) (J : Env → Hp → Prop) (h1 : wpn P w0 (.seq (.reg (ops.take n)) .skip) (fun x e' σ' => x = .normal ∧ J e' σ') e σ) (h2 : ∀ e' σ', J e' σ' → wpn P w0 (.seq (.reg (ops.drop n)) b) Q e' σ') : wpn P w0 (.seq (.reg ops) b) Q e σ := by
 have : ∀ (l m : List XI) (e : Env) (σ : Hp) (K : Env → Hp → Prop), xis P w0 l e σ (fun e' σ' => xis P w0 m e' σ' K) → xis P w0 (l ++ m) e σ K := by
  intro l
  induction l with
  | nil => intro m e σ K h; exact h
  | cons x l ih =>
   intro m e σ K h
   cases x with
   | s x => exact zdR h fun v σ' hv => ⟨hv.1, ih _ _ _ _ hv.2⟩
   | g t w gl => exact ⟨fun hb => zgN (fun e σ h => ih _ _ _ _ h) gl e σ (h.1 hb), fun hb => ⟨(h.2 hb).1, ih _ _ _ _ (h.2 hb).2⟩⟩
 show xis P w0 ops e σ (fun e' σ' => wpn P w0 b Q e' σ')
 rw [← List.take_append_drop n ops]
 exact this _ _ _ _ _ (zef (fun e' σ' h => h2 e' σ' h.2) _ _ _ h1)
theorem zco {a : zbt} (J : Env → Hp → Prop) (h1 : wpn P w0 a (thn J Q) e σ) (h2 : ∀ e' σ', J e' σ' → wpn P w0 b Q e' σ') : wpn P w0 (.seq a b) Q e σ :=
 zcz a _ _ e σ h1 fun x e' σ' h => by cases x <;> first | exact h2 e' σ' h | exact h
theorem zjT {a : zbt} {id : Nat} (J : Env → Hp → Prop) (h1 : wpn P w0 a (inb id (thn J Q)) e σ) (h2 : ∀ e' σ', J e' σ' → wpn P w0 b Q e' σ') : wpn P w0 (.seq (.block id a) b) Q e σ :=
 zco J h1 h2
theorem zZ {c : zbt} (I : Nat → Env → Hp → Prop) (n : Nat) (h0 : I n e σ) (h : ∀ n e σ, I n e σ → wpn P w0 c (thn (fun e' σ' => ∃ n', n' < n ∧ I n' e' σ') Q) e σ) : wpn P w0 (.loop c) Q e σ := ⟨I, ⟨n, h0⟩, h⟩
def At (σ : Hp) (a : Addr) (cs : List Value) : Prop := ∀ j u, cs[j]? = some u → look σ (a.add j) = some u
theorem add_zero (a : Addr) : a.add 0 = a := by simp [Addr.add]
theorem At.one {a : Addr} {cs : List Value} (h : At σ a cs) (j : Nat) {u : Value} (hu : cs[j]? = some u) : zbR σ (a.add j) false 1 = some u := by
 simp only [zbR, Bool.false_eq_true, if_false]
 exact h j u hu
theorem At.fst {a : Addr} {u : Value} {cs : List Value} (h : At σ a (u :: cs)) : zbR σ a false 1 = some u := by
 have := h.one 0 (u := u) rfl
 rwa [add_zero] at this
theorem At.all {a : Addr} {cs : List Value} (h : At σ a cs) {n : Nat} (hn : cs.length = n) : zbR σ a true n = some (.agg cs.toArray) := by
 subst hn
 have : looks σ a 0 cs.length = some cs := zhd cs 0 fun j u hu => by rw [Nat.zero_add]; exact h j u hu
 simp [zbR, this]
theorem zC {α : Type} {T : Ty α} {ρ : Hp} {v : Value} {l : List α} {x i : Opd} {k : IntKind} {q : Int} {y : α} (h : RdT T ρ v l) (hle : Hp.le ρ σ) (hx : ev e x = v) (hi : ev e i = .int k q) (hg : zz l q = some y) (hs : 0 < T.sz)
  (kk : ∀ a cs, T.R ρ y cs → At ρ a cs → wpn P w0 (.seq (.reg r) b) Q (zN e d (.pointer (some a))) σ) : wpn P w0 (.seq (.reg (.s ⟨d, .idx T.sz x i, []⟩ :: r)) b) Q e σ :=
 zbC fun K hK => by
  obtain ⟨A, c, rfl, hc⟩ := h.form
  obtain ⟨h0, hg⟩ := zog hg
  have hlt := (List.getElem?_eq_some_iff.1 hg).1
  obtain ⟨cs, hR, h1⟩ := h.get hg
  obtain ⟨a, rfl⟩ := Option.isSome_iff_exists.1 (h.has hlt hs)
  simp only [xop, hx, hi]
  refine ⟨h0, by omega, rfl, hK _ _ (kk _ cs hR fun j u hu => ?_)⟩
  obtain ⟨a', ha, hl⟩ := h1 j u hu
  injection ha with ha
  subst ha
  rw [zkG]
  exact hl
theorem zy {x : Opd} {a : Addr} {g : Bool} {n : Nat} {u : Value} (hp : ev e x = .pointer (some a)) (hl : zbR σ a g n = some u) (kk : wpn P w0 (.seq (.reg r) b) Q (zN e d u) σ) : wpn P w0 (.seq (.reg (.s ⟨d, .load g n x, []⟩ :: r)) b) Q e σ :=
 zbC fun K hK => by
  simp only [xop, hp]
  exact ⟨u, by simpa [zh3] using hl, hK _ _ kk⟩
theorem zX {f : FuncId} {args : List Opd} {as : Array Value} {hs vs : List Ob} {K : Value → Hp → List Ob → Prop} (hO : Obs τ σ (hs ++ vs)) (hC : Ctr P f as τ vs K) (ha : (args.map (ev e)).toArray = as)
  (k : ∀ v σ' τ' vs', Obs τ' σ' (hs ++ vs') → Hp.le τ τ' → K v τ' vs' → wpn P w0 (.seq (.reg r) b) Q (zN e d v) σ') : wpn P w0 (.seq (.reg (.s ⟨d, .call f args, []⟩ :: r)) b) Q e σ :=
 zbC fun KK hK => by
  subst ha
  exact (ACalls.fr hO hC).use fun v σ' ⟨τ', vs', h1, h2, h3⟩ => hK v σ' (k v σ' τ' vs' h1 h2 h3)
theorem zD {f : FuncId} {args : List Opd} {as : Array Value} {K : Value → Hp → List Ob → Prop} (hO : Obs τ σ os) (hC : Ctr P f as τ [] K) (ha : (args.map (ev e)).toArray = as)
  (k : ∀ v σ' τ' vs', Obs τ' σ' (os ++ vs') → Hp.le τ τ' → K v τ' vs' → wpn P w0 (.seq (.reg r) b) Q (zN e d v) σ') : wpn P w0 (.seq (.reg (.s ⟨d, .call f args, []⟩ :: r)) b) Q e σ :=
 zX (hs := os) (vs := []) (by rw [List.append_nil]; exact hO) hC ha k
theorem zhc {x : Opd} {f : FuncId} {first cap : Array Value} {args : List Opd} {as : Array Value} {K : Value → Hp → List Ob → Prop} (hx : ev e x = .func (.func f) first cap) (hok : okF P f = true) (hO : Obs τ σ os) (hC : Ctr P f as τ [] K) (ha : first ++ (args.map (ev e)).toArray ++ cap = as)
  (k : ∀ v σ' τ' vs', Obs τ' σ' (os ++ vs') → Hp.le τ τ' → K v τ' vs' → wpn P w0 (.seq (.reg r) b) Q (zN e d v) σ') : wpn P w0 (.seq (.reg (.s ⟨d, .callv x args, []⟩ :: r)) b) Q e σ :=
 zbC fun KK hK => by
  subst ha
  simp only [xop, hx]
  refine ⟨hok, (ACalls.fr (hs := os) (vs := []) (by rw [List.append_nil]; exact hO) hC).use fun v σ' ⟨τ', vs', h1, h2, h3⟩ => hK v σ' (k v σ' τ' vs' h1 h2 h3)⟩
theorem zbq (hO : Obs τ σ os) {ty : Nat} {cells : List Value} (k : ∀ bb σ', Obs τ σ' (os ++ [some (bb, ⟨cells, ty, cells.length, true⟩)]) → wpn P w0 (.seq (.reg r) b) Q (zN e d (.pointer (some ⟨bb, 0, none⟩))) σ') : wpn P w0 (.seq (.reg (.s ⟨d, .alloc ty cells, []⟩ :: r)) b) Q e σ :=
 zbC fun K hK => fun bb h1 h2 => hK _ _ (k bb _ (hO.add h1 _))
theorem zb2 (hO : Obs τ σ os) {ty : Nat} {x : Opd} {cells : List Value} {n : Nat} (hx : (ev e x).cells.toList = cells) (hn : cells.length = n) (k : ∀ bb σ', Obs τ σ' (os ++ [some (bb, ⟨cells, ty, n, true⟩)]) → wpn P w0 (.seq (.reg r) b) Q (zN e d (.pointer (some ⟨bb, 0, none⟩))) σ') : wpn P w0 (.seq (.reg (.s ⟨d, .box ty x, []⟩ :: r)) b) Q e σ :=
 zbC fun K hK => fun bb h1 h2 => by
  have hz : (ev e x).cells.size = n := by rw [← hn, ← hx, Array.length_toList]
  rw [hx, hz]
  exact hK _ _ (k bb _ (hO.add h1 _))
theorem ziU : ∀ (vs : List Value) (σ : Hp) (bb off i : Nat) (cells : List Value) (ty size : Nat), off + i + vs.length ≤ cells.length →
  puts (σ.set bb ⟨cells, ty, size, true⟩) ⟨bb, off, none⟩ i vs = some (σ.set bb ⟨cells.take (off + i) ++ vs ++ cells.drop (off + i + vs.length), ty, size, true⟩)
 | [], σ, bb, off, i, cells, ty, size, _ => by simp [puts]
 | v :: vs, σ, bb, off, i, cells, ty, size, h => by
  simp only [List.length_cons] at h
  have : put1 (σ.set bb ⟨cells, ty, size, true⟩) ((⟨bb, off, none⟩ : Addr).add i) v = some (σ.set bb ⟨cells.set (off + i) v, ty, size, true⟩) := by
   rw [zcg]
   unfold put1
   simp only [Option.isSome_none, Bool.false_eq_true, if_false, Hp.set_eq]
   rw [if_pos (by simp; omega)]
   congr 1
   funext k
   simp only [Hp.set]
   split <;> rfl
  simp only [puts, this, Option.bind_some]
  rw [ziU vs σ bb off (i + 1) _ ty size (by simp; omega)]
  congr 3
  have e1 : off + (i + 1) = off + i + 1 := by omega
  rw [e1, List.length_cons, List.take_set, List.drop_set]
  rw [if_pos (by omega)]
  have : List.take (off + i + 1) cells = List.take (off + i) cells ++ [cells[off + i]'(by omega)] := List.take_succ_eq_append_getElem (by omega)
  rw [this, List.set_append_right _ _ (by simp; omega)]
  simp only [List.length_take, Nat.min_eq_left (show off + i ≤ cells.length by omega), Nat.sub_self, List.set_cons_zero]
  rw [show off + i + 1 + vs.length = off + i + (vs.length + 1) from by omega]
  simp
theorem zO (hO : Obs τ σ os) {i bb ty size n off : Nat} {cells vs : List Value} {x y : Opd} (hi : os[i]? = some (some (bb, ⟨cells, ty, size, true⟩))) (hp : ev e x = .pointer (some ⟨bb, off, none⟩)) (hy : (ev e y).cells.toList = vs) (hn : vs.length = n) (h1 : vs.all one = true) (hoff : off + n ≤ cells.length)
  {cells' : List Value} (hc : cells.take off ++ vs ++ cells.drop (off + n) = cells')
  (k : ∀ σ', Obs τ σ' (os.set i (some (bb, ⟨cells', ty, size, true⟩))) → wpn P w0 (.seq (.reg r) b) Q (zN e d undef) σ') : wpn P w0 (.seq (.reg (.s ⟨d, .store n x y, []⟩ :: r)) b) Q e σ :=
 zbC fun K hK => by
  subst hc
  have hz : (ev e y).cells.size = n := by rw [← hn, ← hy, Array.length_toList]
  simp only [xop, hp]
  refine ⟨hz, by rw [hy]; exact h1, σ.set bb ⟨cells.take off ++ vs ++ cells.drop (off + n), ty, size, true⟩, ?_, hK _ _ (k _ (hO.put hi _))⟩
  rw [hy]
  show puts σ ⟨bb, off, none⟩ 0 vs = _
  have := ziU vs σ bb off 0 cells ty size (by omega)
  rw [Hp.set_same (hO.row i bb _ hi).1] at this
  rw [this, Nat.add_zero, hn]
section
variable {α : Type} {T : Ty α} {v u : Value} {l m : List α} {o : Ob} {i ty bytes : Nat} {s x : Opd} {y : α} {zero : List Value} {d1 : Nat}
theorem zho {n bytes : Nat} {t : Unit} (h : room n = some t) (hb : bytes ≤ 128) : n * bytes ≤ 140737488355328 :=
 Nat.le_trans (Nat.mul_le_mul (znp h) hb) (by decide)
theorem zbN (hO : Obs τ σ os) (hW : zr T ty τ v l o) (hi : os[i]? = some o) (hs : ev e s = v) (hs' : ∀ u, ev (zN e (some d1) u) s = v) {vs : List Value} (hv : (ev e x).cells.toList = vs) (hx : T.R τ y vs) (hz : zero.length = T.sz) {t : Unit} (hr : room (l.length + 1) = some t) (hb : bytes ≤ 128)
  (k : ∀ u v' σ' o', zr T ty τ v' (l ++ [y]) o' → Obs τ σ' (os.set i o') → wpn P w0 (.seq (.reg r) b) Q (zN (zN e (some d1) u) d v') σ') :
  wpn P w0 (.seq (.reg (.s ⟨some d1, .bslice ty 1 zero [(0, T.sz, x)], []⟩ :: .s ⟨d, .app ty T.sz bytes s (.t d1), []⟩ :: r)) b) Q e σ := by
 subst hv
 have hxl := T.len hx
 show xis P w0 _ e σ _
 rw [zcm, zid]
 refine ⟨(ev e x).cells.toList, ?_, fun bb hb1 hb0 => ?_⟩
 ·simp only [List.map_cons, List.map_nil, zcd]
  rw [Array.length_toList] at hxl
  rw [if_pos ⟨hxl, by omega⟩]
  simp [hz]
 ·show xis P w0 (.s ⟨d, .app ty T.sz bytes s (.t d1), []⟩ :: r) _ _ _
  rw [zcm, zgY]
  have hO2 := hO.mono (Hp.le_set hb1 (r := ⟨(ev e x).cells.toList, ty, (ev e x).cells.toList.length, true⟩))
  obtain ⟨cells, hX, hC⟩ := hW.x hO2 hi
  refine ⟨l.length, cells, 1, (ev e x).cells.toList, by rw [hs']; exact hX, ?_, T.one hx, zho hr hb, fun v' σ' hg hX' => ?_⟩
  ·have hd : ∀ v, ev (zN e (some d1) v) (.t d1) = v := fun v => by simp [ev, zN]
   rw [hd]
   refine ⟨_, 1, rfl, Nat.le_refl _, by simpa using hxl, fun j u hu => ⟨_, rfl, ?_⟩⟩
   rw [zcg, Nat.zero_add, zgv]
   exact hu
  ·rw [hs'] at hg
   obtain ⟨o', hW', hO'⟩ := hW.grow (l' := l ++ [y]) (n := 0) hO2 hi hg (by simpa using hX') (hC.append (Chunks.single hx))
   exact k _ v' σ' o' hW' hO'
theorem zd8 (hO : Obs τ σ os) (hW : zr T ty τ v l o) (hi : os[i]? = some o) (hs : ev e s = v) (hx : ev e x = u) (hR : RdT T τ u m) {t : Unit} (hr : room (l.length + m.length) = some t) (hb : bytes ≤ 128)
  (k : ∀ v' σ' o', zr T ty τ v' (l ++ m) o' → Obs τ σ' (os.set i o') → wpn P w0 (.seq (.reg r) b) Q (zN e d v') σ') :
  wpn P w0 (.seq (.reg (.s ⟨d, .app ty T.sz bytes s x, []⟩ :: r)) b) Q e σ := by
 show xis P w0 _ e σ _
 rw [zcm, zgY]
 obtain ⟨cells, hX, hC⟩ := hW.x hO hi
 obtain ⟨ys, hR, hY⟩ := hR
 refine ⟨l.length, cells, m.length, ys, by rw [hs]; exact hX, by rw [hx]; exact hR.le hO.base, hY.one, zho hr hb, fun v' σ' hg hX' => ?_⟩
 rw [hs] at hg
 obtain ⟨o', hW', hO'⟩ := hW.grow (l' := l ++ m) (n := 0) hO hi hg (by simpa using hX') (hC.append hY)
 exact k v' σ' o' hW' hO'
theorem zjt (hf : T.Flat) (hO : Obs τ σ os) (hW : zr T ty τ v l o) (hi : os[i]? = some o) (hs : ev e s = v) (hx : ev e x = u) (hR : RdT T σ u m) {t : Unit} (hr : room (l.length + m.length) = some t) (hb : bytes ≤ 128)
  (k : ∀ v' σ' o', zr T ty τ v' (l ++ m) o' → Obs τ σ' (os.set i o') → wpn P w0 (.seq (.reg r) b) Q (zN e d v') σ') :
  wpn P w0 (.seq (.reg (.s ⟨d, .app ty T.sz bytes s x, []⟩ :: r)) b) Q e σ := by
 show xis P w0 _ e σ _
 rw [zcm, zgY]
 obtain ⟨cells, hX, hC⟩ := hW.x hO hi
 obtain ⟨ys, hR, hY⟩ := hR
 refine ⟨l.length, cells, m.length, ys, by rw [hs]; exact hX, by rw [hx]; exact hR, hY.one, zho hr hb, fun v' σ' hg hX' => ?_⟩
 rw [hs] at hg
 obtain ⟨o', hW', hO'⟩ := hW.grow (l' := l ++ m) (n := 0) hO hi hg (by simpa using hX') (hC.append (hY.flat hf))
 exact k v' σ' o' hW' hO'
theorem Chunks.u8s {σ : Hp} (l : List UInt8) : Chunks Ty.u8 σ l (l.map fun b => .int .u8 b.toNat) := Chunks.u8 l
theorem zbX (hO : Obs τ σ os) {n : Nat} {zero : List Value} {parts : List (Nat × Nat × Opd)} {cs : List Value} (hf : zcd zero (parts.map fun p => (p.1, p.2.1, ev e p.2.2)) = some cs) (hC : Chunks T τ l cs) (hn : l.length = n) (hm : n ≤ 1000000)
  (k : ∀ v' σ' o', zr T ty τ v' l o' → Obs τ σ' (os ++ [o']) → wpn P w0 (.seq (.reg r) b) Q (zN e d v') σ') : wpn P w0 (.seq (.reg (.s ⟨d, .bslice ty n zero parts, []⟩ :: r)) b) Q e σ := by
 show xis P w0 _ e σ _
 rw [zcm, zid]
 refine ⟨cs, hf, fun bb hb1 hb0 => k _ _ _ (.inr ⟨bb, n, cs, [], by rw [hn], by omega, by unfold maxLen; omega, by rw [List.append_nil], hC⟩) ?_⟩
 have := hO.add hb1 ⟨cs, ty, cs.length, true⟩
 rw [show n * T.sz = cs.length from by rw [hC.len, hn]]
 exact this
theorem zdQ {lo hi : Option Opd} {p q : Int} (h : RdT T τ v l) (hx : ev e x = v) (hlo : zbG e 0 lo = some p) (hhi : zbG e l.length hi = some q) (hg : zb0 l p q = some m)
  (k : ∀ u, RdT T τ u m → wpn P w0 (.seq (.reg r) b) Q (zN e d u) σ) : wpn P w0 (.seq (.reg (.s ⟨d, .slc T.sz x lo hi none, []⟩ :: r)) b) Q e σ :=
 zbC fun K hK => by
  obtain ⟨A, c, rfl, hc⟩ := h.form
  obtain ⟨h0, h1, h2, rfl⟩ := zhZ hg
  simp only [xop, hx]
  refine ⟨p, q, c, rfl, hhi, hlo, h0, h1, by omega, by omega, hK _ _ (k _ ?_)⟩
  exact h.slc (by omega) (by omega)
end
theorem zkC {x : Opd} {v : Value} {l : List UInt8} (h : RdT Ty.u8 σ v l) (hx : ev e x = v) (k : wpn P w0 (.seq (.reg r) b) Q (zN e d (.string ⟨l.toArray⟩)) σ) : wpn P w0 (.seq (.reg (.s ⟨d, .tostr x, []⟩ :: r)) b) Q e σ :=
 zbC fun K hK => by
  obtain ⟨cs, hR, hC⟩ := h
  have : ∀ (l : List UInt8) (cs : List Value), Chunks Ty.u8 σ l cs → cs = l.map fun b => .int .u8 b.toNat := by
   intro l
   induction l with
   | nil => intro cs h; exact h
   | cons x l ih =>
    intro cs h
    obtain ⟨c, q, rfl, h1, h2⟩ := h
    have h1 : c = [.int .u8 x.toNat] := h1
    rw [h1, ih q h2]
    rfl
  rw [this l cs hC] at hR
  exact ⟨l.length, l, by rw [hx]; exact hR, hK _ _ k⟩
theorem zmi {x : Opd} {s : ByteArray} {ty : Nat} (hO : Obs τ σ os) (hx : ev e x = .string s) (k : ∀ v σ' τ', Obs τ' σ' os → Hp.le τ τ' → RdT Ty.u8 τ' v s.data.toList → wpn P w0 (.seq (.reg r) b) Q (zN e d v) σ') : wpn P w0 (.seq (.reg (.s ⟨d, .tobytes ty x, []⟩ :: r)) b) Q e σ :=
 zbC fun K hK => ⟨s, hx, fun bb n cap h1 h2 => by
  have ht : τ bb = none := by
   cases ht : τ bb with
   | none => rfl
   | some q => have := hO.base bb q ht; rw [h1] at this; cases this
  have hne : ∀ (i c : Nat) (q : Row), os[i]? = some (some (c, q)) → c ≠ bb := fun i c q hq he => by subst he; rw [(hO.row i c q hq).1] at h1; cases h1
  refine hK _ _ (k _ _ (τ.set bb ⟨s.data.toList.map fun b => .int .u8 b.toNat, ty, n, false⟩) ⟨fun c q hc => ?_, fun i c q hq => ?_, hO.apart⟩ (Hp.le_set ht) ⟨_, ⟨_, cap, by simp; rfl, by simpa using h2, (by show _ = _ * 1; simp), fun j u hu => ⟨_, rfl, ?_⟩⟩, Chunks.u8s _⟩)
  ·by_cases hcb : c = bb
   ·subst hcb; rw [Hp.set_eq] at hc ⊢; exact hc
   ·rw [Hp.set_ne _ _ hcb] at hc ⊢; exact hO.base c q hc
  ·rw [Hp.set_ne _ _ (hne i c q hq), Hp.set_ne _ _ (hne i c q hq)]; exact hO.row i c q hq
  ·rw [zcg, Nat.zero_add, zgv]; exact hu⟩
end
theorem zM {P : Program} {f : FuncId} {fn : Func} {af : zF} {args : List Value} {τ : Hp} {vs : List Ob} {K : Value → Hp → List Ob → Prop} (hm : P.follows .mixedOrders = true) (hf : P.funcs[f]? = some fn) (hs : zH P fn = some af.fn) (ha : (af.body.ok && decide (args.length ≤ af.ntmps)) = true)
  (h : ∀ (w0 : Base) (σ : Hp), Obs τ σ vs → ∀ Q : Exit → Env → Hp → Prop, (∀ e σ' rs τ' vs', resvs e σ' af.results = some rs → Obs τ' σ' vs' → Hp.le τ τ' → K (zcY rs) τ' vs' → Q .ret e σ') → wpn P w0 af.body Q (zda args) σ) : Ctr P f args.toArray τ vs K := fun w0 σ hO =>
 zlD hm hf hs ha fun Q hQ => h w0 σ hO Q fun e σ' rs τ' vs' h1 h2 h3 h4 => hQ e σ' rs h1 ⟨τ', vs', h2, h3, h4⟩
end Go.Ab
namespace Go.Ab
open Go.RowKit
set_option linter.unusedVariables false
set_option linter.unusedSimpArgs false
def big : Nat := 18446744073709551616
def u8o (n : Int) : Option UInt8 := if 0 ≤ n ∧ n < 256 then some (UInt8.ofNat n.toNat) else none
theorem zbE {n : Int} {z : UInt8} (h : u8o n = some z) : n = (z.toNat : Int) := by
 unfold u8o at h
 split at h
 ·injection h with h
  subst h
  rw [UInt8.toNat_ofNat_of_lt' (show n.toNat < 256 by omega)]
  omega
 ·cases h
theorem u8R {τ : Hp} {n : Int} {z : UInt8} (h : u8o n = some z) : Ty.u8.R τ z [.int .u8 n] := by
 show _ = _
 rw [zbE h]
def zdK (k : IntKind) (a b : Int) : Int := k.wrap (BitVec.ofInt k.bits a &&& BitVec.ofInt k.bits b).toNat
def orI (k : IntKind) (a b : Int) : Int := k.wrap (BitVec.ofInt k.bits a ||| BitVec.ofInt k.bits b).toNat
def zdW (k : IntKind) (a b : Int) : Int := k.wrap (a * 2 ^ min b.toNat k.bits)
def zcy (k : IntKind) (a b : Int) : Int := a.fdiv (2 ^ min b.toNat k.bits)
def zdz (a b : Int) : Int := if b > a then b else a
def zbY (a b : Int) : Int := if b < a then b else a
def zbu (x y : ByteArray) : Bool := x.toList == y.toList
def zbU (k : IntKind) (a b : Int) : Option Int := if b < 0 then none else some (zdW k a b)
def zfA (k : IntKind) (a b : Int) : Option Int := if b < 0 then none else some (zcy k a b)
def zgj (x y : ByteArray) : Option ByteArray := if ((x.size + y.size : Nat) : Int) > IntKind.i64.max then none else some (x ++ y)
def zb6 (s : ByteArray) (i : Int) : Option UInt8 := if 0 ≤ i then s[i.toNat]? else none
theorem zen {k q : IntKind} {a b c : Int} (h : zbU k a b = some c) : binv .shl (.int k a) (.int q b) = some (.int k c) := by
 unfold zbU at h
 split at h
 ·cases h
 ·rename_i hb; injection h with h; subst h; simp [binv, zb7, shv, hb, zdW]
theorem zp7 {k q : IntKind} {a b c : Int} (h : zfA k a b = some c) : binv .shr (.int k a) (.int q b) = some (.int k c) := by
 unfold zfA at h
 split at h
 ·cases h
 ·rename_i hb; injection h with h; subst h; simp [binv, zb7, shv, hb, zcy]
theorem znx {a b c : ByteArray} (h : zgj a b = some c) : binv .add (.string a) (.string b) = some (.string c) := by
 unfold zgj at h
 split at h
 ·cases h
 ·rename_i hb; injection h with h; subst h; simp only [binv, sbin]; rw [if_neg hb]
theorem zr.nil0 {α : Type} {T : Ty α} {ty : Nat} {τ σ : Hp} {os : List Ob} (h : Obs τ σ os) : zr T ty τ (.slice none 0 0) [] none := zr.nil T ty τ
theorem Obs.val {τ σ : Hp} {os : List Ob} (hO : Obs τ σ os) {i b off n : Nat} {r : Row} {agg : Bool} {v : Value} (hi : os[i]? = some (some (b, r))) (hc : zg9 r.cells off agg n = some v) : zbR σ ⟨b, off, none⟩ agg n = some v :=
 zlu (hO.row i b r hi).1 rfl rfl hc
section
variable {e : Env} {σ : Hp}
theorem zeI {n : Nat} {rs : List zcG} {l : List Value} (h : resvs e σ rs = some l) : resvs e σ (.t n :: rs) = some (e n :: l) := by simp [resvs, resv, h]
theorem zce {n k : Nat} {g : Bool} {a : Addr} {v : Value} {rs : List zcG} {l : List Value} (hp : e n = .pointer (some a)) (hv : zbR σ a g k = some v) (h : resvs e σ rs = some l) : resvs e σ (.c n g k :: rs) = some (v :: l) := by simp [resvs, resv, hp, hv, h]
end
section
variable {P : Program} {w0 : Base} {τ σ : Hp} {os : List Ob} {ops r : List XI} {b a : zbt} {Q : Exit → Env → Hp → Prop} {e : Env} {d : Option Nat} {K : Env → Hp → Prop} {id k : Nat}
theorem zj (h : K e σ) : thn K Q .normal e σ := h
theorem zn (h : Q .ret e σ) : thn K Q .ret e σ := h
theorem zY (h : Q (.exit k) e σ) : thn K Q (.exit k) e σ := h
theorem zP (h : Q .normal e σ) : inb id Q .normal e σ := h
theorem zw (h : Q .ret e σ) : inb id Q .ret e σ := h
theorem z0 (h : Q .normal e σ) : inb id Q (.exit id) e σ := by rw [zcR]; exact h
theorem zK (h : Q .ret e σ) : wpn P w0 .ret Q e σ := h
theorem zt (h : wpn P w0 a (inb id (thn (fun e' σ' => wpn P w0 b Q e' σ') Q)) e σ) : wpn P w0 (.seq (.block id a) b) Q e σ := h
theorem zbK (n : Nat) (L : List (Nat × Value)) (h1 : ∀ Q' : Exit → Env → Hp → Prop, (∀ e', agr L e' → Q' .normal e' σ) → wpn P w0 (.seq (.reg (ops.take n)) .skip) Q' e σ) (h2 : ∀ j, wpn P w0 (.seq (.reg (ops.drop n)) b) Q (sets L j) σ) : wpn P w0 (.seq (.reg ops) b) Q e σ :=
 zbQ n (fun e' σ' => agr L e' ∧ σ' = σ) (h1 _ fun e' he => ⟨rfl, he, rfl⟩) fun e' σ' h => by
  obtain ⟨h3, rfl⟩ := h
  have := h2 e'
  rw [zL L e' h3] at this
  exact this
theorem zJ {c x y : Opd} {t : Bool} (hc : ev e c = .bool t) (h : wpn P w0 (.seq (.reg r) b) Q (zN e d (if t = true then ev e x else ev e y)) σ) : wpn P w0 (.seq (.reg (.s ⟨d, .pick c x y, []⟩ :: r)) b) Q e σ :=
 zbC fun K hK => by
  simp only [xop, hc]
  exact hK _ _ h
theorem zde {op : BinOp} {x y : Opd} {v : Value} (hv : binv op (ev e x) (ev e y) = some v) (h : wpn P w0 (.seq (.reg r) b) Q (zN e d v) σ) : wpn P w0 (.seq (.reg (.s ⟨d, .bin op x y, []⟩ :: r)) b) Q e σ :=
 zbC fun K hK => ⟨v, hv, hK _ _ h⟩
theorem zmv {x i : Opd} {s : ByteArray} {q : IntKind} {n : Int} {z : UInt8} (hx : ev e x = .string s) (hi : ev e i = .int q n) (hg : zb6 s n = some z) (h : wpn P w0 (.seq (.reg r) b) Q (zN e d (.int .u8 z.toNat)) σ) : wpn P w0 (.seq (.reg (.s ⟨d, .sidx x i, []⟩ :: r)) b) Q e σ :=
 zbC fun K hK => by
  unfold zb6 at hg
  split at hg
  ·rename_i h0
   simp only [xop, hx, hi]
   exact ⟨h0, z, hg, hK _ _ h⟩
  ·cases hg
end
end Go.Ab
namespace Go.Ab
open Go.RowKit
set_option linter.unusedVariables false
set_option linter.unusedSimpArgs false
theorem Chunks.reps {α : Type} {T : Ty α} {τ : Hp} {z : α} {cs : List Value} (h : T.R τ z cs) : ∀ n, Chunks T τ (List.replicate n z) (List.replicate n cs).flatten
 | 0 => rfl
 | n + 1 => ⟨cs, _, by simp [List.replicate_succ], h, Chunks.reps h n⟩
end Go.Ab
namespace Go.Ab
open Go.RowKit
section
variable {P : Program} {w0 : Base} {τ σ : Hp} {os : List Ob} {r : List XI} {b : zbt} {Q : Exit → Env → Hp → Prop} {e : Env} {d : Option Nat}
variable {α : Type} {T : Ty α} {v : Value} {l : List α} {o : Ob} {i ty : Nat}
theorem zoi {x : Opd} {hi : Option Opd} {A : Option Addr} {n c : Nat} {q : Int} {y : List α} (hW : zr T ty τ (.slice A n c) l o) (hx : ev e x = .slice A n c) (hhi : zbG e n hi = some q) (hg : zb0 l 0 q = some y)
  (kk : zr T ty τ (.slice A y.length c) y o → wpn P w0 (.seq (.reg r) b) Q (zN e d (.slice A y.length c)) σ) : wpn P w0 (.seq (.reg (.s ⟨d, .slc T.sz x none hi none, []⟩ :: r)) b) Q e σ :=
 zbC fun K hK => by
  obtain ⟨_, h0, h1, rfl⟩ := zhZ hg
  obtain ⟨A', c', hv, hle⟩ := hW.form
  injection hv with hA hn hc
  subst hn; subst hc
  simp only [xop, hx]
  refine ⟨0, q, c, rfl, hhi, rfl, Int.le_refl _, h0, by omega, by omega, ?_⟩
  have e1 : (if (c : Int).toNat = (0 : Int).toNat then A else A.map (·.add ((0 : Int).toNat * T.sz))) = A := by
   split
   ·rfl
   ·cases A
    ·rfl
    ·simp [Addr.add]
  have e2 : (List.drop (0 : Int).toNat (List.take q.toNat l)) = List.take q.toNat l := by simp
  have e3 : (List.take q.toNat l).length = q.toNat := by rw [List.length_take]; omega
  rw [e1]
  rw [e2, e3] at kk
  exact hK _ _ (kk (hW.cut (by omega)))
theorem zoV {s x : Opd} {bytes : Nat} {zero : List Value} {z : α} {k : IntKind} {n : Int} (hO : Obs τ σ os) (hW : zr T ty τ v l o) (hi : os[i]? = some o) (hs : ev e s = v) (hx : ev e x = .int k n) (hn : 0 ≤ n) (hz : T.R τ z zero) {t : Unit} (hr : room (l.length + n.toNat) = some t) (hb : bytes ≤ 128)
  (kk : ∀ v' σ' o', zr T ty τ v' (l ++ List.replicate n.toNat z) o' → Obs τ σ' (os.set i o') → wpn P w0 (.seq (.reg r) b) Q (zN e d v') σ') :
  wpn P w0 (.seq (.reg (.s ⟨d, .appz ty T.sz bytes zero s x, []⟩ :: r)) b) Q e σ := by
 show xis P w0 _ e σ _
 rw [zcm]
 show aop P w0 (.appz ty T.sz bytes zero s x) e σ _ zbm
 obtain ⟨cells, hX, hC⟩ := hW.x hO hi
 refine ⟨l.length, cells, k, n.toNat, T.one hz, by rw [hs]; exact hX, by rw [hx]; congr 1; omega, zho hr hb, fun v' σ' hg hX' => ?_⟩
 rw [hs] at hg
 obtain ⟨o', hW', hO'⟩ := hW.grow (l' := l ++ List.replicate n.toNat z) (n := 0) hO hi hg (by simpa using hX') (hC.append (Chunks.reps hz _))
 exact kk v' σ' o' hW' hO'
theorem zpY {x : Opd} {n : Nat} {hi : Option Opd} {q : Int} (hx : ev e x = .slice none 0 0) (hhi : zbG e 0 hi = some q) (hq : q = 0) (kk : wpn P w0 (.seq (.reg r) b) Q (zN e d (.slice none 0 0)) σ) : wpn P w0 (.seq (.reg (.s ⟨d, .slc n x none hi none, []⟩ :: r)) b) Q e σ :=
 zbC fun K hK => by
  subst hq
  simp only [xop, hx]
  exact ⟨0, 0, 0, rfl, hhi, rfl, by omega, by omega, by omega, by omega, hK _ _ kk⟩
end
end Go.Ab
namespace Go.Ab
open Go.RowKit
set_option linter.unusedVariables false
set_option linter.unusedSimpArgs false
def Full {α : Type} (T : Ty α) (τ : Hp) (v : Value) (m : List α) : Prop := ∃ A n, v = .slice A n m.length ∧ RdT T τ (.slice A m.length m.length) m
theorem Full.le {α : Type} {T : Ty α} {τ τ' : Hp} {v : Value} {m : List α} (h : Full T τ v m) (hle : Hp.le τ τ') : Full T τ' v m := by
 obtain ⟨A, n, h1, h2⟩ := h
 exact ⟨A, n, h1, h2.le hle⟩
theorem Full.rd {α : Type} {T : Ty α} {τ : Hp} {A : Option Addr} {n c : Nat} {m : List α} (h : Full T τ (.slice A n c) m) : c = m.length ∧ RdT T τ (.slice A m.length m.length) m := by
 obtain ⟨A', n', h1, h2⟩ := h
 injection h1 with h3 _ h4
 subst h3
 exact ⟨h4, h2⟩
section
variable {P : Program} {w0 : Base} {τ σ : Hp} {os : List Ob} {r : List XI} {b : zbt} {Q : Exit → Env → Hp → Prop} {e : Env} {d : Option Nat}
variable {α : Type} {T : Ty α} {v : Value} {l m : List α} {o : Ob} {i ty : Nat}
theorem zn8 {x : Opd} {hi : Option Opd} {A : Option Addr} {n : Nat} {q : Int} (h : Full T τ (.slice A n m.length) m) (hx : ev e x = .slice A n m.length) (hhi : zbG e n hi = some q) (hg : zb0 m 0 q = some l)
  (k : ∀ u, RdT T τ u l → wpn P w0 (.seq (.reg r) b) Q (zN e d u) σ) : wpn P w0 (.seq (.reg (.s ⟨d, .slc T.sz x none hi none, []⟩ :: r)) b) Q e σ :=
 zbC fun K hK => by
  obtain ⟨_, hR⟩ := h.rd
  obtain ⟨_, h1, h2, rfl⟩ := zhZ hg
  simp only [xop, hx]
  refine ⟨0, q, m.length, rfl, hhi, rfl, by omega, by omega, by omega, by omega, hK _ _ (k _ ?_)⟩
  exact hR.slc (by omega) (by omega)
end
theorem Ctr.mono {P : Program} {f : FuncId} {args : Array Value} {τ : Hp} {vs : List Ob} {K K' : Value → Hp → List Ob → Prop} (h : Ctr P f args τ vs K) (hk : ∀ v τ' vs', Hp.le τ τ' → K v τ' vs' → K' v τ' vs') : Ctr P f args τ vs K' := fun w0 ρ hO => (h w0 ρ hO).mono (fun r σ' hr => by
 obtain ⟨τ', vs', h1, h2, h3⟩ := hr
 exact ⟨τ', vs', h1, h2, hk _ _ _ h2 h3⟩) (fun _ _ h => h)
theorem Ctr.ofRd {P : Program} {f : FuncId} {args : Array Value} {τ : Hp} {K : Value → Hp → Prop} (h : ∀ (w0 : Base) (σ : Hp), Hp.le τ σ → ACalls P w0 f args σ (fun r σ' => Hp.le σ σ' ∧ K r σ') zbm) : Ctr P f args τ [] (fun v τ' vs' => K v τ' ∧ vs' = []) := fun w0 ρ hO => (h w0 ρ hO.base).mono (fun r σ' hr => ⟨σ', [], Obs.nil σ', hO.base.trans hr.1, hr.2, rfl⟩) (fun _ _ h => h)
theorem Chunks.u8_eq {σ : Hp} : ∀ (l : List UInt8) (cs : List Value), Chunks Ty.u8 σ l cs → cs = Ab.u8s l
 | [], cs, h => h
 | x :: l, cs, h => by
  obtain ⟨c, q, rfl, h1, h2⟩ := h
  have h1 : c = [.int .u8 x.toNat] := h1
  rw [h1, Chunks.u8_eq l q h2]
  rfl
theorem RdT.of_row {σ : Hp} {b ty size n : Nat} {l m : List UInt8} {own : Bool} (h : σ b = some ⟨u8s m, ty, size, own⟩) (hl : m.take n = l) (hn : n ≤ m.length) {c : Nat} (hc : n ≤ c) : RdT Ty.u8 σ (.slice (some ⟨b, 0, none⟩) n c) l := by
 subst hl
 have hz : (m.take n).length = n := by rw [List.length_take]; omega
 refine ⟨u8s (m.take n), ⟨some ⟨b, 0, none⟩, c, by rw [hz], by rw [hz]; exact hc, ?_, fun j u hu => ⟨_, rfl, ?_⟩⟩, Chunks.u8 _⟩
 ·rw [zgO]; exact (Nat.mul_one _).symm
 ·rw [zcg, Nat.zero_add]
  simp only [look, h, Option.isSome_none, Bool.false_eq_true, if_false, Option.bind_some]
  simp only [u8s, List.getElem?_map, List.getElem?_take] at hu ⊢
  split at hu
  ·exact hu
  ·cases hu
end Go.Ab
namespace Go.Ab
open Go.RowKit
section
variable {P : Program} {w0 : Base} {τ σ : Hp} {r : List XI} {b : zbt} {Q : Exit → Env → Hp → Prop} {e : Env} {d : Option Nat}
theorem znO {ty n bytes : Nat} {zero : List Value} {x y : Opd} {k q : IntKind} {ln cp : Nat} (hx : ev e x = .int k ln) (hy : ev e y = .int q cp) (h1 : ln ≤ cp) (h2 : cp ≤ 1099511627776) (hb : bytes ≤ 128)
  (kk : ∀ bb, σ bb = none → wpn P w0 (.seq (.reg r) b) Q (zN e d (.slice (some ⟨bb, 0, none⟩) ln cp)) (σ.set bb ⟨(List.replicate cp zero).flatten, ty, cp * n, true⟩)) : wpn P w0 (.seq (.reg (.s ⟨d, .mkslice ty n bytes zero x y, []⟩ :: r)) b) Q e σ :=
 zbC fun K hK => by
  simp only [xop, hx, hy]
  refine ⟨by omega, by omega, by omega, ?_, fun bb h3 _ => hK _ _ ?_⟩
  ·have : (cp : Int) * (bytes : Int) ≤ 1099511627776 * 128 := Int.mul_le_mul (by omega) (by omega) (by omega) (by omega)
   omega
  ·rw [Int.toNat_natCast, Int.toNat_natCast]; exact kk bb h3
theorem zn0 {x y : Opd} {bb ty size dn dc : Nat} {v : Value} {l : List UInt8} {cells : List Value} (hx : ev e x = .slice (some ⟨bb, 0, none⟩) dn dc) (hrow : σ bb = some ⟨cells, ty, size, true⟩) (hy : ev e y = v) (hR : RdT Ty.u8 σ v l) (hl : l.length = dn) (hc : dn ≤ cells.length)
  (kk : wpn P w0 (.seq (.reg r) b) Q (zN e d (.int .i64 dn)) (σ.set bb ⟨u8s l ++ cells.drop dn, ty, size, true⟩)) : wpn P w0 (.seq (.reg (.s ⟨d, .copy 1 x y, []⟩ :: r)) b) Q e σ :=
 zbC fun K hK => by
  obtain ⟨cs, hR, hC⟩ := hR
  have hcs := Chunks.u8_eq l cs hC
  subst hcs
  show aop P w0 (.copy 1 x y) e σ K zbm
  have hmin : Nat.min l.length dn = dn := by rw [hl]; exact Nat.min_self _
  refine ⟨⟨bb, 0, none⟩, dn, dc, l.length, u8s l, σ.set bb ⟨u8s l ++ cells.drop dn, ty, size, true⟩, hx, by rw [hy]; exact hR, zpG _, ?_, ?_⟩
  ·rw [hmin, Nat.mul_one, List.take_of_length_le (by rw [zgO]; omega)]
   have := ziU (u8s l) σ bb 0 0 cells ty size (by rw [zgO]; omega)
   rw [Hp.set_same hrow, zgO, hl] at this
   simpa using this
  ·rw [hmin]; exact hK _ _ kk
theorem znC {x s : Opd} {d1 : Nat} {bb ty n c : Nat} {l : List UInt8} {rest : List Value} {z : UInt8} {bytes : Nat} {zero : List Value} (hs : ev e s = .slice (some ⟨bb, 0, none⟩) n c) (hs' : ∀ u, ev (zN e (some d1) u) s = ev e s) (hrow : σ bb = some ⟨u8s l ++ rest, ty, c * 1, true⟩) (hn : l.length = n) (hc : n < c) (hm : c ≤ 1099511627776) (hx : (ev e x).cells.toList = [.int .u8 z.toNat]) (hz : zero.length = 1) (hb : bytes ≤ 128)
  (kk : ∀ u σ', (∀ k r, k ≠ bb → σ k = some r → σ' k = some r) → σ' bb = some ⟨u8s (l ++ [z]), ty, c * 1, true⟩ → wpn P w0 (.seq (.reg r) b) Q (zN (zN e (some d1) u) d (.slice (some ⟨bb, 0, none⟩) (n + 1) c)) σ') :
  wpn P w0 (.seq (.reg (.s ⟨some d1, .bslice ty 1 zero [(0, 1, x)], []⟩ :: .s ⟨d, .app ty 1 bytes s (.t d1), []⟩ :: r)) b) Q e σ := by
 show xis P w0 _ e σ _
 rw [zcm, zid]
 refine ⟨[.int .u8 z.toNat], ?_, fun b2 hb1 hb0 => ?_⟩
 ·simp only [List.map_cons, List.map_nil, zcd]
  have : (ev e x).cells.size = 1 := by rw [← Array.length_toList, hx]; rfl
  rw [if_pos ⟨this, by omega⟩, hx]
  have : List.drop (0 + 1) zero = [] := List.drop_of_length_le (by omega)
  rw [this]
  rfl
 ·show xis P w0 (.s ⟨d, .app ty 1 bytes s (.t d1), []⟩ :: r) _ _ _
  rw [zcm, zgY]
  have hne : bb ≠ b2 := fun he => by subst he; rw [hrow] at hb1; cases hb1
  have hO : zci ty 1 (σ.set b2 ⟨[.int .u8 z.toNat], ty, [Value.int .u8 z.toNat].length, true⟩) (.slice (some ⟨bb, 0, none⟩) n c) n (u8s l) := ⟨by rw [zgO, hn, Nat.mul_one], .inr ⟨bb, c, rest, rfl, by omega, by unfold maxLen; omega, by rw [Hp.set_ne _ _ hne]; exact hrow⟩⟩
  refine ⟨n, u8s l, 1, [.int .u8 z.toNat], by rw [hs', hs]; exact hO, ?_, rfl, Nat.le_trans (Nat.mul_le_mul (show n + 1 ≤ 1099511627776 by omega) hb) (by decide), fun v' σ' hg hX => ?_⟩
  ·have hd : ∀ v, ev (zN e (some d1) v) (.t d1) = v := fun v => by simp [ev, zN]
   rw [hd]
   refine ⟨_, 1, rfl, Nat.le_refl _, rfl, fun j u hu => ⟨_, rfl, ?_⟩⟩
   rw [zcg, Nat.zero_add, zgv]
   exact hu
  ·rw [hs', hs] at hg
   obtain ⟨hl, ⟨hv, h0⟩ | ⟨b3, c3, rfl, h2, h3, h4⟩⟩ := hX
   ·omega
   ·obtain ⟨g1, g2⟩ := hg.2.2 _ _ _ _ _ _ rfl rfl (by omega)
    injection g1 with g1
    injection g1 with g1
    subst g1; subst g2
    refine kk _ σ' (fun k q hk hq => ?_) ?_
    ·refine hg.1 k q (fun he => hk (by injection he with he; exact he.symm)) ?_
     rw [Hp.set_ne _ _ (fun he => by subst he; rw [hq] at hb1; cases hb1)]
     exact hq
    ·rw [h4, zop]; rfl
end
end Go.Ab
namespace Go.Ab
theorem zok {P : Program} {w0 : Base} {σ : Hp} {r : List XI} {b : zbt} {Q : Exit → Env → Hp → Prop} {e : Env} {d : Option Nat} {x : Opd} {hi : Option Opd} {A : Option Addr} {n c q m : Nat} (hx : ev e x = .slice A n c) (hhi : zbG e n hi = some (q : Int)) (h1 : q ≤ c)
  (kk : wpn P w0 (.seq (.reg r) b) Q (zN e d (.slice A q c)) σ) : wpn P w0 (.seq (.reg (.s ⟨d, .slc m x none hi none, []⟩ :: r)) b) Q e σ :=
 zbC fun K hK => by
  simp only [xop, hx]
  refine ⟨0, q, c, rfl, hhi, rfl, by omega, by omega, by omega, by omega, ?_⟩
  have e1 : (if (c : Int).toNat = (0 : Int).toNat then A else A.map (·.add ((0 : Int).toNat * m))) = A := by
   split
   ·rfl
   ·cases A
    ·rfl
    ·simp [Addr.add]
  rw [e1]
  exact hK _ _ kk
end Go.Ab
namespace Go.Ab
open Go.RowKit
def nneg (n : Int) : Option Unit := if 0 ≤ n then some () else none
theorem zmY {n : Int} {t : Unit} (h : nneg n = some t) : 0 ≤ n := by
 unfold nneg at h
 split at h
 ·assumption
 ·cases h
end Go.Ab
namespace Go.Ab
theorem At.le {τ τ' : Hp} {a : Addr} {cs : List Value} (h : At τ a cs) (hle : Hp.le τ τ') : At τ' a cs := fun j u hu => by
 have := h j u hu
 unfold look at this ⊢
 split at this
 ·cases this
 ·rename_i hn
  rw [if_neg hn]
  obtain ⟨r, hr, hv⟩ := Option.bind_eq_some_iff.1 this
  rw [hle _ _ hr]
  exact hv
theorem Obs.shareV {τ σ : Hp} {os : List Ob} (h : Obs τ σ os) {i b : Nat} {cells : List Value} {ty n : Nat} {fl : Bool} (hi : os[i]? = some (some (b, ⟨cells, ty, n, fl⟩))) : ∃ τ', Hp.le τ τ' ∧ At τ' ⟨b, 0, none⟩ cells ∧ Obs τ' σ (os.set i none) := by
 obtain ⟨hle, hO'⟩ := h.share hi
 refine ⟨_, hle, fun j u hu => ?_, hO'⟩
 rw [zcg, Nat.zero_add, zgv]
 exact hu
end Go.Ab
namespace Go.Ab
section
variable {P : Program} {w0 : Base} {e : Env} {σ : Hp} {Q : Exit → Env → Hp → Prop} {b : zbt} {r : List XI}
def zi0 (st : List ASt) : zbD := .eff ⟨none, none, .mv (.c (.bool true))⟩ st .done
theorem zbz {d : Option Nat} {op : AOp} {st : List ASt} (h : wpn P w0 (.seq (.reg [.s ⟨d, op, []⟩]) (.seq (.parT (zi0 st)) (.seq (.reg r) b))) Q e σ) : wpn P w0 (.seq (.reg (.s ⟨d, op, st⟩ :: r)) b) Q e σ := by
 show xis P w0 (.s ⟨d, op, st⟩ :: r) e σ (fun e' σ' => wpn P w0 b Q e' σ')
 rw [zlh]
 have h : xis P w0 [.s ⟨d, op, []⟩] e σ (fun e' σ' => wpn P w0 (.seq (.parT (zi0 st)) (.seq (.reg r) b)) Q e' σ') := h
 rw [zcm] at h
 refine zdR h fun v σ' h => ?_
 have h : xstep P w0 ⟨none, none, .mv (.c (.bool true))⟩ (zN e d v) σ' (fun e' σ' => agains P w0 st e' σ' ∧ xtree P w0 .done e' σ' (fun e'' σ'' => wpn P w0 (.seq (.reg r) b) Q e'' σ'')) := h
 exact h
theorem zbx {st : List ASt} (ha : agains P w0 st e σ) (h : wpn P w0 b Q e σ) : wpn P w0 (.seq (.parT (zi0 st)) b) Q e σ := ⟨ha, h⟩
theorem zbi {x : Opd} {d n : Nat} {g : Bool} {a : Addr} {u : Value} (hx : ev e x = .pointer (some a)) (hl : zbR σ a g n = some u) (hd : u = e d) : again P w0 ⟨none, some d, .load g n x⟩ e σ := ⟨a, u, hx, hl, hd, rfl⟩
theorem zet (h : wpn P w0 b Q e σ) : wpn P w0 (.seq (.parT .done) b) Q e σ := h
theorem zhy {s t : zbD} (h1 : wpn P w0 (.seq (.parT s) b) Q e σ) (h2 : wpn P w0 (.seq (.parT t) b) Q e σ) : wpn P w0 (.seq (.parT (.both s t)) b) Q e σ := ⟨h1, h2⟩
theorem zml {t : zbD} (h : wpn P w0 (.seq (.parT t) .skip) Q e σ) : wpn P w0 (.parT t) Q e σ := h
theorem zca {d : Option Nat} {op : AOp} {k : zbD} (h : wpn P w0 (.seq (.reg [.s ⟨d, op, []⟩]) (.seq (.parT k) b)) Q e σ) : wpn P w0 (.seq (.parT (.quiet ⟨none, d, op⟩ k)) b) Q e σ := by
 have h : xis P w0 [.s ⟨d, op, []⟩] e σ (fun e' σ' => wpn P w0 (.seq (.parT k) b) Q e' σ') := h
 rw [zcm] at h
 exact h
theorem zbL {d : Option Nat} {op : AOp} {st : List ASt} {k : zbD} (h : wpn P w0 (.seq (.reg [.s ⟨d, op, st⟩]) (.seq (.parT k) b)) Q e σ) : wpn P w0 (.seq (.parT (.eff ⟨none, d, op⟩ st k)) b) Q e σ := by
 have h : xis P w0 [.s ⟨d, op, st⟩] e σ (fun e' σ' => wpn P w0 (.seq (.parT k) b) Q e' σ') := h
 rw [zlh] at h
 exact h
end
end Go.Ab
namespace Go.Ab
section
variable {P : Program} {w0 : Base} {e : Env} {τ σ : Hp} {Q : Exit → Env → Hp → Prop} {b : zbt} {r : List XI} {d : Option Nat}
theorem zfS {x : Opd} {f : FuncId} {first cap : Array Value} {args : List Opd} {as : Array Value} {hs vs : List Ob} {K : Value → Hp → List Ob → Prop} (hx : ev e x = .func (.func f) first cap) (hok : okF P f = true) (hO : Obs τ σ (hs ++ vs)) (hC : Ctr P f as τ vs K) (ha : first ++ (args.map (ev e)).toArray ++ cap = as)
  (k : ∀ v σ' τ' vs', Obs τ' σ' (hs ++ vs') → Hp.le τ τ' → K v τ' vs' → wpn P w0 (.seq (.reg r) b) Q (zN e d v) σ') : wpn P w0 (.seq (.reg (.s ⟨d, .callv x args, []⟩ :: r)) b) Q e σ :=
 zbC fun KK hK => by
  subst ha
  simp only [xop, hx]
  refine ⟨hok, (ACalls.fr hO hC).use fun v σ' ⟨τ', vs', h1, h2, h3⟩ => hK v σ' (k v σ' τ' vs' h1 h2 h3)⟩
end
end Go.Ab
namespace Go.Ab
theorem zoK {P : Program} {w0 : Base} {f : FuncId} {fn : Func} {af : zF} {args : List Value} {σ : Hp} {K : Value → Hp → Prop} {Kp : List PanicEntry → Hp → Prop} (hm : P.follows .mixedOrders = true) (hf : P.funcs[f]? = some fn) (hs : zH P fn = some af.fn) (ha : (af.body.ok && decide (args.length ≤ af.ntmps)) = true)
  (h : ∀ Q : Exit → Env → Hp → Prop, (∀ e σ' vs, resvs e σ' af.results = some vs → K (zcY vs) σ' → Q .ret e σ' ∧ Q .normal e σ') → wpn P w0 af.body Q (zda args) σ) : ACalls P w0 f args.toArray σ K Kp := by
 simp only [Bool.and_eq_true, decide_eq_true_eq] at ha
 refine zj4 hm hf hs ha.2 (zcU _ _ _ _ _ (zdi _ _ _ _ ha.1 (h (fun x e σ' => (x = .ret ∨ x = .normal) ∧ ∃ vs, resvs e σ' af.results = some vs ∧ K (zcY vs) σ') (fun e σ' vs h1 h2 => ⟨⟨.inl rfl, vs, h1, h2⟩, .inr rfl, vs, h1, h2⟩))) fun x e σ' hq => ?_)
 obtain ⟨rfl | rfl, h⟩ := hq
 ·exact h
 ·exact h
theorem zhW {P : Program} {f : FuncId} {fn : Func} {af : zF} {args : List Value} {τ : Hp} {vs : List Ob} {K : Value → Hp → List Ob → Prop} (hm : P.follows .mixedOrders = true) (hf : P.funcs[f]? = some fn) (hs : zH P fn = some af.fn) (ha : (af.body.ok && decide (args.length ≤ af.ntmps)) = true)
  (h : ∀ (w0 : Base) (σ : Hp), Obs τ σ vs → ∀ Q : Exit → Env → Hp → Prop, (∀ e σ' rs τ' vs', resvs e σ' af.results = some rs → Obs τ' σ' vs' → Hp.le τ τ' → K (zcY rs) τ' vs' → Q .ret e σ' ∧ Q .normal e σ') → wpn P w0 af.body Q (zda args) σ) : Ctr P f args.toArray τ vs K := fun w0 σ hO =>
 zoK hm hf hs ha fun Q hQ => h w0 σ hO Q fun e σ' rs τ' vs' h1 h2 h3 h4 => hQ e σ' rs h1 ⟨τ', vs', h2, h3, h4⟩
end Go.Ab
namespace Go.Ab
open Go.RowKit
set_option linter.unusedVariables false
set_option linter.unusedSimpArgs false
def zis (P : Program) (u : Value) (m : String) (as : Array Value) (τ : Hp) (vs : List Ob) (K : Value → Hp → List Ob → Prop) : Prop :=
 ∃ t v f, u = .iface t v ∧ (∀ w, Sem.run P (method (P.types.size + Made.depth) t v m) w = .ok (f, v) w) ∧ okF P f = true ∧ Ctr P f (v :: as.toList).toArray τ vs K
section
variable {P : Program} {w0 : Base} {e : Env} {τ σ : Hp} {Q : Exit → Env → Hp → Prop} {b : zbt} {r : List XI} {d : Option Nat} {os : List Ob}
theorem zm6 {x : Opd} {m : String} {args : List Opd} {as : Array Value} {u : Value} {hs vs : List Ob} {K : Value → Hp → List Ob → Prop} (hx : ev e x = u) (hO : Obs τ σ (hs ++ vs)) (hC : zis P u m as τ vs K) (ha : (args.map (ev e)).toArray = as)
  (k : ∀ v σ' τ' vs', Obs τ' σ' (hs ++ vs') → Hp.le τ τ' → K v τ' vs' → wpn P w0 (.seq (.reg r) b) Q (zN e d v) σ') : wpn P w0 (.seq (.reg (.s ⟨d, .inv x m args, []⟩ :: r)) b) Q e σ :=
 zbC fun KK hK => by
  subst ha
  obtain ⟨t, v, f, rfl, hm, hf, hC⟩ := hC
  show aop P w0 (.inv x m args) e σ KK zbm
  exact ⟨t, v, f, hx, hm, hf, (ACalls.fr hO hC).use fun v σ' ⟨τ', vs', h1, h2, h3⟩ => hK v σ' (k v σ' τ' vs' h1 h2 h3)⟩
theorem zkS {x : Opd} {m : String} {args : List Opd} {as : Array Value} {u : Value} {K : Value → Hp → List Ob → Prop} (hx : ev e x = u) (hO : Obs τ σ os) (hC : zis P u m as τ [] K) (ha : (args.map (ev e)).toArray = as)
  (k : ∀ v σ' τ' vs', Obs τ' σ' (os ++ vs') → Hp.le τ τ' → K v τ' vs' → wpn P w0 (.seq (.reg r) b) Q (zN e d v) σ') : wpn P w0 (.seq (.reg (.s ⟨d, .inv x m args, []⟩ :: r)) b) Q e σ :=
 zm6 (hs := os) (vs := []) hx (by rw [List.append_nil]; exact hO) hC ha k
end
end Go.Ab
namespace Go.Ab
open Go.RowKit
set_option linter.unusedVariables false
set_option linter.unusedSimpArgs false
end Go.Ab
