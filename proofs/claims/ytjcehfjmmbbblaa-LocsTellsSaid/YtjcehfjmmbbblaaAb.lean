import Derived.Below
import Derived.OwnWalk
import Derived.Maps.AppendAt
import Derived.Laws.OwnMore
import Derived.WalkKit
import Derived.KernelRfl
import Derived.Laws.BytesArg
import Derived.Laws.IdiomStrings
import Derived.RangeFuncIn
import Derived.RangeFuncRecord
import Derived.OrdersIn
import Derived.TacticsIn
import Derived.Laws.StructEq
import Derived.Scope
import Derived.Orders
import Derived.Deep.LoopGhost
namespace Go.Ab
theorem zkr {α : Type} {a : α} {q : Prop} (h : q) : a = a ∧ q := ⟨rfl, h⟩
theorem zkc {A0 : Type} {a0 : A0} : a0 = a0 ∧ True := ⟨rfl, trivial⟩
theorem zkd {A0 A1 : Type} {a0 : A0} {a1 : A1} : a0 = a0 ∧ a1 = a1 ∧ True := ⟨rfl, rfl, trivial⟩
theorem zke {A0 A1 A2 : Type} {a0 : A0} {a1 : A1} {a2 : A2} : a0 = a0 ∧ a1 = a1 ∧ a2 = a2 ∧ True := ⟨rfl, rfl, rfl, trivial⟩
theorem zkf {A0 A1 A2 A3 : Type} {a0 : A0} {a1 : A1} {a2 : A2} {a3 : A3} : a0 = a0 ∧ a1 = a1 ∧ a2 = a2 ∧ a3 = a3 ∧ True := ⟨rfl, rfl, rfl, rfl, trivial⟩
theorem zkg {A0 A1 A2 A3 A4 : Type} {a0 : A0} {a1 : A1} {a2 : A2} {a3 : A3} {a4 : A4} : a0 = a0 ∧ a1 = a1 ∧ a2 = a2 ∧ a3 = a3 ∧ a4 = a4 ∧ True := ⟨rfl, rfl, rfl, rfl, rfl, trivial⟩
theorem zkh {A0 A1 A2 A3 A4 A5 : Type} {a0 : A0} {a1 : A1} {a2 : A2} {a3 : A3} {a4 : A4} {a5 : A5} : a0 = a0 ∧ a1 = a1 ∧ a2 = a2 ∧ a3 = a3 ∧ a4 = a4 ∧ a5 = a5 ∧ True := ⟨rfl, rfl, rfl, rfl, rfl, rfl, trivial⟩
theorem zki {A0 A1 A2 A3 A4 A5 A6 : Type} {a0 : A0} {a1 : A1} {a2 : A2} {a3 : A3} {a4 : A4} {a5 : A5} {a6 : A6} : a0 = a0 ∧ a1 = a1 ∧ a2 = a2 ∧ a3 = a3 ∧ a4 = a4 ∧ a5 = a5 ∧ a6 = a6 ∧ True := ⟨rfl, rfl, rfl, rfl, rfl, rfl, rfl, trivial⟩
theorem zkj {A0 A1 A2 A3 A4 A5 A6 A7 : Type} {a0 : A0} {a1 : A1} {a2 : A2} {a3 : A3} {a4 : A4} {a5 : A5} {a6 : A6} {a7 : A7} : a0 = a0 ∧ a1 = a1 ∧ a2 = a2 ∧ a3 = a3 ∧ a4 = a4 ∧ a5 = a5 ∧ a6 = a6 ∧ a7 = a7 ∧ True := ⟨rfl, rfl, rfl, rfl, rfl, rfl, rfl, rfl, trivial⟩
theorem zkk {A0 A1 A2 A3 A4 A5 A6 A7 A8 : Type} {a0 : A0} {a1 : A1} {a2 : A2} {a3 : A3} {a4 : A4} {a5 : A5} {a6 : A6} {a7 : A7} {a8 : A8} : a0 = a0 ∧ a1 = a1 ∧ a2 = a2 ∧ a3 = a3 ∧ a4 = a4 ∧ a5 = a5 ∧ a6 = a6 ∧ a7 = a7 ∧ a8 = a8 ∧ True := ⟨rfl, rfl, rfl, rfl, rfl, rfl, rfl, rfl, rfl, trivial⟩
theorem zkl {A0 A1 A2 A3 A4 A5 A6 A7 A8 A9 : Type} {a0 : A0} {a1 : A1} {a2 : A2} {a3 : A3} {a4 : A4} {a5 : A5} {a6 : A6} {a7 : A7} {a8 : A8} {a9 : A9} : a0 = a0 ∧ a1 = a1 ∧ a2 = a2 ∧ a3 = a3 ∧ a4 = a4 ∧ a5 = a5 ∧ a6 = a6 ∧ a7 = a7 ∧ a8 = a8 ∧ a9 = a9 ∧ True := ⟨rfl, rfl, rfl, rfl, rfl, rfl, rfl, rfl, rfl, rfl, trivial⟩
theorem zkm {A0 A1 A2 A3 A4 A5 A6 A7 A8 A9 A10 : Type} {a0 : A0} {a1 : A1} {a2 : A2} {a3 : A3} {a4 : A4} {a5 : A5} {a6 : A6} {a7 : A7} {a8 : A8} {a9 : A9} {a10 : A10} : a0 = a0 ∧ a1 = a1 ∧ a2 = a2 ∧ a3 = a3 ∧ a4 = a4 ∧ a5 = a5 ∧ a6 = a6 ∧ a7 = a7 ∧ a8 = a8 ∧ a9 = a9 ∧ a10 = a10 ∧ True := ⟨rfl, rfl, rfl, rfl, rfl, rfl, rfl, rfl, rfl, rfl, rfl, trivial⟩
theorem zkn {A0 A1 A2 A3 A4 A5 A6 A7 A8 A9 A10 A11 : Type} {a0 : A0} {a1 : A1} {a2 : A2} {a3 : A3} {a4 : A4} {a5 : A5} {a6 : A6} {a7 : A7} {a8 : A8} {a9 : A9} {a10 : A10} {a11 : A11} : a0 = a0 ∧ a1 = a1 ∧ a2 = a2 ∧ a3 = a3 ∧ a4 = a4 ∧ a5 = a5 ∧ a6 = a6 ∧ a7 = a7 ∧ a8 = a8 ∧ a9 = a9 ∧ a10 = a10 ∧ a11 = a11 ∧ True := ⟨rfl, rfl, rfl, rfl, rfl, rfl, rfl, rfl, rfl, rfl, rfl, rfl, trivial⟩
theorem zko {A0 A1 A2 A3 A4 A5 A6 A7 A8 A9 A10 A11 A12 : Type} {a0 : A0} {a1 : A1} {a2 : A2} {a3 : A3} {a4 : A4} {a5 : A5} {a6 : A6} {a7 : A7} {a8 : A8} {a9 : A9} {a10 : A10} {a11 : A11} {a12 : A12} : a0 = a0 ∧ a1 = a1 ∧ a2 = a2 ∧ a3 = a3 ∧ a4 = a4 ∧ a5 = a5 ∧ a6 = a6 ∧ a7 = a7 ∧ a8 = a8 ∧ a9 = a9 ∧ a10 = a10 ∧ a11 = a11 ∧ a12 = a12 ∧ True := ⟨rfl, rfl, rfl, rfl, rfl, rfl, rfl, rfl, rfl, rfl, rfl, rfl, rfl, trivial⟩
theorem zkp {A0 A1 A2 A3 A4 A5 A6 A7 A8 A9 A10 A11 A12 A13 : Type} {a0 : A0} {a1 : A1} {a2 : A2} {a3 : A3} {a4 : A4} {a5 : A5} {a6 : A6} {a7 : A7} {a8 : A8} {a9 : A9} {a10 : A10} {a11 : A11} {a12 : A12} {a13 : A13} : a0 = a0 ∧ a1 = a1 ∧ a2 = a2 ∧ a3 = a3 ∧ a4 = a4 ∧ a5 = a5 ∧ a6 = a6 ∧ a7 = a7 ∧ a8 = a8 ∧ a9 = a9 ∧ a10 = a10 ∧ a11 = a11 ∧ a12 = a12 ∧ a13 = a13 ∧ True := ⟨rfl, rfl, rfl, rfl, rfl, rfl, rfl, rfl, rfl, rfl, rfl, rfl, rfl, rfl, trivial⟩
theorem zkq {A0 A1 A2 A3 A4 A5 A6 A7 A8 A9 A10 A11 A12 A13 A14 : Type} {a0 : A0} {a1 : A1} {a2 : A2} {a3 : A3} {a4 : A4} {a5 : A5} {a6 : A6} {a7 : A7} {a8 : A8} {a9 : A9} {a10 : A10} {a11 : A11} {a12 : A12} {a13 : A13} {a14 : A14} : a0 = a0 ∧ a1 = a1 ∧ a2 = a2 ∧ a3 = a3 ∧ a4 = a4 ∧ a5 = a5 ∧ a6 = a6 ∧ a7 = a7 ∧ a8 = a8 ∧ a9 = a9 ∧ a10 = a10 ∧ a11 = a11 ∧ a12 = a12 ∧ a13 = a13 ∧ a14 = a14 ∧ True := ⟨rfl, rfl, rfl, rfl, rfl, rfl, rfl, rfl, rfl, rfl, rfl, rfl, rfl, rfl, rfl, trivial⟩
abbrev zks (x : Int) : Value := .int .i64 x
abbrev zkt (b : Nat) : Value := .pointer (some ⟨b, 0, none⟩)
theorem zku {a b : Bool} (h : a = b) : Value.bool a = .bool b := h ▸ rfl
theorem zky {α β : Type} {o : Option α} {f : α → Option β} {r : β} (h : o.bind f = some r) : ∃ a, o = some a ∧ f a = some r := by cases o with | none => cases h | some a => exact ⟨a, rfl, h⟩
abbrev zkz {α : Type} (A : Option Addr) (l : List α) (c : Nat) : Value := .slice A l.length c
open Go.RowKit
set_option linter.unusedVariables false
structure Row where
 cells : List Value
 ty : TypeId
 size : Nat
 own : Bool
abbrev Hp := Nat → Option Row
def Hp.set (σ : Hp) (b : Nat) (r : Row) : Hp := fun k => if k = b then some r else σ k
def Hp.le (σ σ' : Hp) : Prop := ∀ b r, σ b = some r → σ' b = some r
structure Base where
 world : World
 hid : Nat → Option Obj
 /-- What a panic of the call that is walked through must keep. -/
 pan : List PanicEntry → Hp → Prop := fun _ _ => False
abbrev Base.heap (b : Base) := b.world.heap
def base (w : World) : Base := { world := w, hid := fun _ => none }
def Base.np (b : Base) : Base := { world := b.world, hid := b.hid }
structure Inv (w0 : Base) (σ : Hp) (w : World) : Prop where
 below : Below w0.heap.size w0.world w
 hid : ∀ b o, w0.hid b = some o → σ b = none ∧ w.heap[b]? = some o
 row : ∀ b r, σ b = some r → ∃ cs fr, w.heap[b]? = some (.cells cs r.ty fr) ∧ cs.size = r.size ∧ r.cells <+: cs.toList ∧ (r.own = true → w0.heap.size ≤ b ∧ fr = (0, 0))
def look (σ : Hp) (a : Addr) : Option Value := if a.spot.isSome then none else (σ a.block).bind fun r => r.cells[a.off]?
theorem Hp.set_eq (σ : Hp) (b : Nat) (r : Row) : σ.set b r b = some r := by simp [Hp.set]
theorem Hp.set_ne (σ : Hp) {b k : Nat} (r : Row) (h : k ≠ b) : σ.set b r k = σ k := by simp [Hp.set, h]
theorem Hp.le.refl (σ : Hp) : Hp.le σ σ := fun _ _ h => h
theorem Hp.le.trans {a b c : Hp} (h : Hp.le a b) (k : Hp.le b c) : Hp.le a c := fun x r e => k x r (h x r e)
theorem Hp.le_set {σ : Hp} {b : Nat} {r : Row} (h : σ b = none) : Hp.le σ (σ.set b r) := fun x q e => by
 by_cases hx : x = b
 ·subst hx; rw [h] at e; cases e
 ·rw [Hp.set_ne _ _ hx]; exact e
theorem zim {σ σ' : Hp} (h : Hp.le σ σ') {a : Addr} {v : Value} (hl : look σ a = some v) : look σ' a = some v := by
 unfold look at *
 split at hl
 ·cases hl
 ·rename_i hs
  rw [if_neg hs]
  cases hb : σ a.block with
  | none => rw [hb] at hl; cases hl
  | some r => rw [hb] at hl; rw [h _ _ hb]; exact hl
theorem Inv.lt {w0 : Base} {σ : Hp} {w : World} (h : Inv w0 σ w) {b : Nat} {r : Row} (hb : σ b = some r) : b < w.heap.size := by
 obtain ⟨cs, fr, hw, _⟩ := h.row b r hb
 exact (Array.getElem?_eq_some_iff.1 hw).1
theorem Inv.fresh {w0 : Base} {σ : Hp} {w : World} (h : Inv w0 σ w) : σ w.heap.size = none := by
 cases hb : σ w.heap.size with
 | none => rfl
 | some r => exact absurd (h.lt hb) (by omega)
theorem Inv.cell {w0 : Base} {σ : Hp} {w : World} (h : Inv w0 σ w) {a : Addr} {v : Value} (hl : look σ a = some v) : w.cell? a = some v := by
 unfold look at hl
 split at hl
 ·cases hl
 ·rename_i hs
  cases hb : σ a.block with
  | none => rw [hb] at hl; cases hl
  | some r =>
   rw [hb] at hl
   obtain ⟨cs, fr, hw, _, hp, _⟩ := h.row _ _ hb
   unfold World.cell?
   rw [hw]
   simp only
   rw [if_neg hs]
   have hl' : r.cells[a.off]? = some v := hl
   have hlt := (List.getElem?_eq_some_iff.1 hl').1
   rw [← Array.getElem?_toList]
   obtain ⟨t, ht⟩ := hp
   rw [← ht, List.getElem?_append_left hlt]
   exact hl'
theorem Inv.base_le {w0 : Base} {σ : Hp} {w : World} (h : Inv w0 σ w) : w0.heap.size ≤ w.heap.size := h.below.size
theorem Inv.drew {w0 : Base} {σ : Hp} {w : World} (h : Inv w0 σ w) : Inv w0 σ w.drew := ⟨h.below.drew, h.hid, h.row⟩
theorem Inv.repan {w0 w1 : Base} {σ : Hp} {w : World} (h : Inv w0 σ w) (e1 : w1.world = w0.world) (e2 : w1.hid = w0.hid) : Inv w1 σ w := ⟨by show Below w1.world.heap.size w1.world w; rw [e1]; exact h.below, fun b o ho => h.hid b o (by rw [← e2]; exact ho), fun b r hb => by show ∃ cs fr, _ ∧ _ ∧ _ ∧ (r.own = true → w1.world.heap.size ≤ b ∧ fr = (0, 0)); rw [e1]; exact h.row b r hb⟩
theorem Inv.alloc {w0 : Base} {σ : Hp} {w : World} (h : Inv w0 σ w) (cs : Array Value) (ty : TypeId) : Inv w0 (σ.set w.heap.size ⟨cs.toList, ty, cs.size, true⟩) (w.alloc (.cells cs ty)) := by
 refine ⟨h.below.alloc h.base_le _, fun b o ho => ?_, fun b r hb => ?_⟩
 ·obtain ⟨h1, h2⟩ := h.hid b o ho
  have hlt := (Array.getElem?_eq_some_iff.1 h2).1
  exact ⟨by rw [Hp.set_ne _ _ (by omega)]; exact h1, by rw [Below.heap_alloc _ _ _ hlt]; exact h2⟩
 by_cases hx : b = w.heap.size
 ·subst hx
  rw [Hp.set_eq] at hb
  injection hb with hb
  subst hb
  exact ⟨cs, (0, 0), by show (w.heap.push _)[w.heap.size]? = _; simp, rfl, List.prefix_refl _, fun _ => ⟨h.base_le, rfl⟩⟩
 ·rw [Hp.set_ne _ _ hx] at hb
  obtain ⟨cs', fr, hw, r1⟩ := h.row b r hb
  exact ⟨cs', fr, by rw [Below.heap_alloc _ _ _ (h.lt hb)]; exact hw, r1⟩
def ACalls (P : Program) (w0 : Base) (f : FuncId) (args : Array Value) (σ : Hp) (K : Value → Hp → Prop) (Kp : List PanicEntry → Hp → Prop) : Prop :=
 ∀ w, Inv w0 σ w → Calls P f args w fun e w' => match e with
  | .returned v => ∃ σ', Inv w0 σ' w' ∧ K v σ'
  | .panicked ch => ∃ σ', Inv w0 σ' w' ∧ Kp ch σ'
  | .outgrown => False
def zbg : List PanicEntry → Hp → Prop := fun _ _ => False
theorem ACalls.mono {P : Program} {w0 : Base} {f : FuncId} {args : Array Value} {σ : Hp} {K K' : Value → Hp → Prop} {Kp Kp' : List PanicEntry → Hp → Prop}
  (h : ACalls P w0 f args σ K Kp) (hk : ∀ v σ', K v σ' → K' v σ') (hp : ∀ ch σ', Kp ch σ' → Kp' ch σ') : ACalls P w0 f args σ K' Kp' := fun w hI =>
 (h w hI).mono fun e w' he => by
  cases e with
  | returned v => obtain ⟨s, hs, hk1⟩ := he; exact ⟨s, hs, hk _ _ hk1⟩
  | panicked ch => obtain ⟨s, hs, hk1⟩ := he; exact ⟨s, hs, hp _ _ hk1⟩
  | outgrown => exact he
theorem ACalls.use {P : Program} {w0 : Base} {f : FuncId} {args : Array Value} {σ : Hp} {K K' : Value → Hp → Prop} {Kp' : List PanicEntry → Hp → Prop}
  (h : ACalls P w0 f args σ K zbg) (hk : ∀ v σ', K v σ' → K' v σ') : ACalls P w0 f args σ K' Kp' := h.mono hk fun _ _ h => h.elim
theorem ACalls.repan {P : Program} {w0 w1 : Base} {f : FuncId} {args : Array Value} {σ : Hp} {K : Value → Hp → Prop} {Kp : List PanicEntry → Hp → Prop} (h : ACalls P w1 f args σ K Kp) (e1 : w1.world = w0.world) (e2 : w1.hid = w0.hid) : ACalls P w0 f args σ K Kp := fun w hI =>
 (h w (hI.repan e1 e2)).mono fun e w' he => by
  cases e with
  | returned v => obtain ⟨s, hs, hk1⟩ := he; exact ⟨s, hs.repan e1.symm e2.symm, hk1⟩
  | panicked ch => obtain ⟨s, hs, hk1⟩ := he; exact ⟨s, hs.repan e1.symm e2.symm, hk1⟩
  | outgrown => exact he
def zcY (P : Program) (w0 : Base) (l : Nat) (f : FuncId) (tmps : Array Value) (as bd : Code) (σ : Hp) (K : Value → Hp → Prop) (Kp : List PanicEntry → Hp → Prop) : Prop :=
 ∀ w, Inv w0 σ w → RoundIn Fence.wide 0 P l f tmps as bd w fun e w' => match e with
  | .returned v => ∃ σ', Inv w0 σ' w' ∧ K v σ'
  | .panicked ch => ∃ σ', Inv w0 σ' w' ∧ Kp ch σ'
  | .outgrown => False
theorem zcY.mono {P : Program} {w0 : Base} {l : Nat} {f : FuncId} {tmps : Array Value} {as bd : Code} {σ : Hp} {K K' : Value → Hp → Prop} {Kp Kp' : List PanicEntry → Hp → Prop}
  (h : zcY P w0 l f tmps as bd σ K Kp) (hk : ∀ v σ', K v σ' → K' v σ') (hp : ∀ ch σ', Kp ch σ' → Kp' ch σ') : zcY P w0 l f tmps as bd σ K' Kp' := fun w hI =>
 (h w hI).mono fun e w' he => by
  cases e with
  | returned v => obtain ⟨s, hs, hk1⟩ := he; exact ⟨s, hs, hk _ _ hk1⟩
  | panicked ch => obtain ⟨s, hs, hk1⟩ := he; exact ⟨s, hs, hp _ _ hk1⟩
  | outgrown => exact he
def zcg (P : Program) (w0 : Base) (l : Nat) (args : Array Value) (σ : Hp) (K : Value → Hp → Prop) (Kp : List PanicEntry → Hp → Prop) : Prop :=
 ∃ f tmps as bd, (∀ w, Inv w0 σ w → (Instr.yield l args).run P w = .ok (.round l f tmps as bd) w) ∧ zcY P w0 l f tmps as bd σ K Kp
theorem zcg.mono {P : Program} {w0 : Base} {l : Nat} {args : Array Value} {σ : Hp} {K K' : Value → Hp → Prop} {Kp Kp' : List PanicEntry → Hp → Prop}
  (h : zcg P w0 l args σ K Kp) (hk : ∀ v σ', K v σ' → K' v σ') (hp : ∀ ch σ', Kp ch σ' → Kp' ch σ') : zcg P w0 l args σ K' Kp' := by
 obtain ⟨f, tmps, as, bd, h1, h2⟩ := h
 exact ⟨f, tmps, as, bd, h1, h2.mono hk hp⟩
def SA {α : Type} (P : Program) (w0 : Base) (s : Sem α) (σ : Hp) (K : α → Hp → Prop) (Kp : Value → Hp → Prop) : Prop :=
 ∀ w, Inv w0 σ w → match s.run P w with
  | .ok x w' => ∃ σ', Inv w0 σ' w' ∧ K x σ'
  | .halt (.panic v) w' => ∃ σ', Inv w0 σ' w' ∧ Kp v σ'
  | .halt _ _ => False
section
variable {α β : Type} {P : Program} {w0 : Base} {σ : Hp} {K : α → Hp → Prop} {Kp : Value → Hp → Prop}
theorem SA.pure {x : α} (h : K x σ) : SA P w0 (Pure.pure x) σ K Kp := fun w hI => ⟨σ, hI, h⟩
theorem run_bind (s : Sem β) (f : β → Sem α) (w : World) : (s >>= f).run P w = match s.run P w with | .ok x w' => (f x).run P w' | .halt h w' => .halt h w' := by
 rw [Sem.run_bind]; cases s.run P w <;> rfl
theorem SA.bind {s : Sem β} {f : β → Sem α} (h : SA P w0 s σ (fun x σ' => SA P w0 (f x) σ' K Kp) Kp) : SA P w0 (s >>= f) σ K Kp := fun w hI => by
 have h1 := h w hI
 rw [run_bind]
 cases hs : s.run P w with
 | ok x w' =>
  rw [hs] at h1
  obtain ⟨σ', hI', hf⟩ := h1
  exact hf w' hI'
 | halt hh w' =>
  rw [hs] at h1
  cases hh <;> first | exact h1 | exact h1.elim
theorem SA.mono {s : Sem α} {K' : α → Hp → Prop} {Kp' : Value → Hp → Prop} (h : SA P w0 s σ K Kp) (hk : ∀ x σ', K x σ' → K' x σ') (hp : ∀ x σ', Kp x σ' → Kp' x σ') : SA P w0 s σ K' Kp' := fun w hI => by
 have h1 := h w hI
 cases hs : s.run P w with
 | ok x w' => rw [hs] at h1; obtain ⟨σ', hI', hf⟩ := h1; exact ⟨σ', hI', hk _ _ hf⟩
 | halt hh w' =>
  rw [hs] at h1
  cases hh with
  | panic v => obtain ⟨σ', hI', hf⟩ := h1; exact ⟨σ', hI', hp _ _ hf⟩
  | _ => exact h1.elim
theorem SA.run {s : Sem α} {x : α} (hr : ∀ w, s.run P w = .ok x w) (h : K x σ) : SA P w0 s σ K Kp := fun w hI => by rw [hr w]; exact ⟨σ, hI, h⟩
theorem SA.program {f : Program → Sem α} (h : SA P w0 (f P) σ K Kp) : SA P w0 (Go.program >>= f) σ K Kp := fun w hI => by
 have := h w hI
 rw [run_bind]
 exact this
theorem SA.load_ {a : Addr} {m : Mode} {v : Value} {K : Value → Hp → Prop} (hl : look σ a = some v) (h : K v σ) : SA P w0 (Go.load a m) σ K Kp := fun w hI => by
 have hc := hI.cell hl
 have : (Go.load a m).run P w = .ok v w := by simp [Go.load, Sem.run, hc]
 rw [this]
 exact ⟨σ, hI, h⟩
theorem SA.new {cs : Array Value} {ty : TypeId} {K : Nat → Hp → Prop} (h : ∀ b, σ b = none → w0.heap.size ≤ b → K b (σ.set b ⟨cs.toList, ty, cs.size, true⟩)) : SA P w0 (newObj (.cells cs ty)) σ K Kp := fun w hI => by
 have : (newObj (.cells cs ty)).run P w = .ok w.heap.size (w.alloc (.cells cs ty)) := rfl
 rw [this]
 exact ⟨_, hI.alloc cs ty, h _ hI.fresh hI.base_le⟩
theorem SA.choose_ {q : Question} {K : Nat → Hp → Prop} (h : ∀ t, K (q.cut t) σ) (h0 : q.forced = true → K 0 σ) : SA P w0 (Go.choose q) σ K Kp := fun w hI => by
 by_cases hf : q.forced = true
 ·have : (Go.choose q).run P w = .ok 0 w := by simp [Go.choose, Sem.run, hf]
  rw [this]
  exact ⟨σ, hI, h0 hf⟩
 ·have : (Go.choose q).run P w = .ok (q.cut (w.tape w.drawn q)) w.drew := by
   show Sem.run P (.choose q .pure) w = _
   unfold Sem.run
   rw [if_neg hf]
   rfl
  rw [this]
  exact ⟨σ, hI.drew, h _⟩
theorem SA.mark {m : Mark} {K : Unit → Hp → Prop} (h : K () σ) : SA P w0 (Go.mark m) σ K Kp := fun w hI => ⟨σ, hI, h⟩
theorem SA.panic_ {v : Value} (h : Kp v σ) : SA P w0 (goPanic v : Sem α) σ K Kp := fun w hI => ⟨σ, hI, h⟩
end
section
variable {P : Program} {w0 : Base} {σ : Hp} {Kp : Value → Hp → Prop}
theorem SA.underlying {t : TypeId} {d : TypeDesc} {K : TypeDesc → Hp → Prop} (hu : P.underlying t = some d) (h : K d σ) : SA P w0 (Go.underlying t) σ K Kp := by
 unfold Go.underlying
 refine SA.program ?_
 rw [hu]
 exact SA.pure h
theorem SA.typeInfo {t : TypeId} {d : TypeInfo} {K : TypeInfo → Hp → Prop} (hu : P.info? t = some d) (h : K d σ) : SA P w0 (Go.typeInfo t) σ K Kp := by
 unfold Go.typeInfo
 refine SA.program ?_
 rw [hu]
 exact SA.pure h
theorem SA.sizeOf {t : TypeId} {n : Nat} {K : Nat → Hp → Prop} (hu : (P.info? t).map (·.size) = some n) (h : K n σ) : SA P w0 (Go.sizeOf t) σ K Kp := by
 obtain ⟨d, hd, rfl⟩ := Option.map_eq_some_iff.1 hu
 unfold Go.sizeOf
 exact SA.bind (SA.typeInfo hd (SA.pure h))
theorem SA.zeroValue {t : TypeId} {z : Value} {K : Value → Hp → Prop} (hu : (P.info? t).bind (·.zero) = some z) (h : K z σ) : SA P w0 (Go.zeroValue t) σ K Kp := by
 obtain ⟨d, hd, hz⟩ := Option.bind_eq_some_iff.1 hu
 unfold Go.zeroValue
 refine SA.bind (SA.typeInfo hd ?_)
 rw [hz]
 exact SA.pure h
def zbS (P : Program) (t : TypeId) : Option Bool := (P.underlying t).map fun | .struct _ | .array _ _ => true | _ => false
theorem SA.isAgg {t : TypeId} {b : Bool} {K : Bool → Hp → Prop} (hu : zbS P t = some b) (h : K b σ) : SA P w0 (Go.isAgg t) σ K Kp := by
 obtain ⟨d, hd, hz⟩ := Option.map_eq_some_iff.1 hu
 unfold Go.isAgg
 refine SA.bind (SA.underlying hd ?_)
 subst hz
 split <;> rename_i h1 <;> exact SA.pure (by simpa using h)
def looks (σ : Hp) (a : Addr) : Nat → Nat → Option (List Value)
 | _, 0 => some []
 | i, n + 1 => (look σ (a.add i)).bind fun v => (looks σ a (i + 1) n).map (v :: ·)
theorem SA.loadCellsFrom {a : Addr} {K : Array Value → Hp → Prop} : ∀ (n i : Nat) (acc : Array Value) (cs : List Value), looks σ a i n = some cs → K (acc ++ cs.toArray) σ → SA P w0 (Go.loadCellsFrom a i n acc) σ K Kp
 | 0, i, acc, cs, hl, h => by
  injection hl with hl; subst hl
  unfold Go.loadCellsFrom
  exact SA.pure (by simpa using h)
 | n + 1, i, acc, cs, hl, h => by
  unfold looks at hl
  obtain ⟨v, hv, hr⟩ := Option.bind_eq_some_iff.1 hl
  obtain ⟨r, hr2, rfl⟩ := Option.map_eq_some_iff.1 hr
  unfold Go.loadCellsFrom
  refine SA.bind (SA.load_ hv ?_)
  exact SA.loadCellsFrom n (i + 1) (acc.push v) r hr2 (by simpa using h)
theorem SA.loadCells {a : Addr} {n : Nat} {cs : List Value} {K : Array Value → Hp → Prop} (hl : looks σ a 0 n = some cs) (h : K cs.toArray σ) : SA P w0 (Go.loadCells a n) σ K Kp := by
 unfold Go.loadCells
 exact SA.loadCellsFrom n 0 #[] cs hl (by simpa using h)
def zbi (σ : Hp) (a : Addr) (agg : Bool) (n : Nat) : Option Value := if agg then (looks σ a 0 n).map fun cs => .agg cs.toArray else look σ a
theorem SA.loadVar {t : TypeId} {agg : Bool} {n : Nat} {a : Addr} {v : Value} {K : Value → Hp → Prop} (ha : zbS P t = some agg) (hn : (P.info? t).map (·.size) = some n) (hl : zbi σ a agg n = some v) (h : K v σ) : SA P w0 (Go.loadVar t a) σ K Kp := by
 unfold Go.loadVar
 refine SA.bind (SA.isAgg ha ?_)
 unfold zbi at hl
 cases agg with
 | true =>
  simp only [if_true] at hl ⊢
  obtain ⟨cs, hcs, rfl⟩ := Option.map_eq_some_iff.1 hl
  exact SA.bind (SA.sizeOf hn (SA.bind (SA.loadCells hcs (SA.pure h))))
 | false =>
  simp only [Bool.false_eq_true, if_false] at hl ⊢
  exact SA.load_ hl h
end
def put1 (σ : Hp) (a : Addr) (v : Value) : Option Hp :=
 if a.spot.isSome then none else
 match σ a.block with
 | some r => if r.own && decide (a.off < r.cells.length) then some (σ.set a.block { r with cells := r.cells.set a.off v })
  else if r.own && decide (a.off = r.cells.length) && decide (a.off < r.size) then some (σ.set a.block { r with cells := r.cells ++ [v] }) else none
 | none => none
def one (v : Value) : Bool := match v with | .agg _ | .tuple _ => false | _ => true
theorem zjF (v : Value) (h : one v = true) : v.oneCell' = true := by cases v <;> first | rfl | (simp [one] at h)
theorem zif {l m : List Value} (h : l <+: m) (i : Nat) (v : Value) (hi : i < l.length) : l.set i v <+: m.set i v := by
 obtain ⟨t, rfl⟩ := h
 exact ⟨t, by rw [List.set_append_left _ _ hi]⟩
theorem ziZ {l m : List Value} (h : l <+: m) (v : Value) (hi : l.length < m.length) : l ++ [v] <+: m.set l.length v := by
 obtain ⟨t, rfl⟩ := h
 cases t with
 | nil => simp at hi
 | cons x t => exact ⟨t, by simp⟩
theorem Inv.put1 {w0 : Base} {σ σ' : Hp} {w : World} (h : Inv w0 σ w) {a : Addr} {v : Value} (hp : put1 σ a v = some σ') : (w.cell? a).isSome = true ∧ w.frozen? a = false ∧ Inv w0 σ' (w.setCell a v) := by
 unfold Ab.put1 at hp
 split at hp
 ·cases hp
 ·rename_i hs
  cases hb : σ a.block with
  | none => rw [hb] at hp; cases hp
  | some r =>
   rw [hb] at hp
   simp only at hp
   split at hp
   ·rename_i hc
    injection hp with hp
    subst hp
    simp only [Bool.and_eq_true, decide_eq_true_eq] at hc
    obtain ⟨cs, fr, hw, hsz, hpre, hown⟩ := h.row _ _ hb
    obtain ⟨hbase, rfl⟩ := hown hc.1
    have hlt : a.off < cs.size := by
     have := hpre.length_le
     simp at this
     omega
    refine ⟨?_, ?_, ?_⟩
    ·simp [World.cell?, hw, hs, hlt]
    ·simp [World.frozen?, hw]
    ·refine ⟨h.below.setCell hbase v, fun b o ho => by
      obtain ⟨h1, h2⟩ := h.hid b o ho
      have hx : b ≠ a.block := fun he => by subst he; rw [hb] at h1; cases h1
      exact ⟨by rw [Hp.set_ne _ _ hx]; exact h1, by rw [Below.heap_setCell _ _ _ _ hx]; exact h2⟩, fun b q hq => ?_⟩
     by_cases hx : b = a.block
     ·subst hx
      rw [Hp.set_eq] at hq
      injection hq with hq
      subst hq
      refine ⟨cs.setIfInBounds a.off v, (0, 0), ?_, by simpa using hsz, ?_, fun _ => ⟨hbase, rfl⟩⟩
      ·simp [World.setCell, Array.getElem?_modify, hw, hs]
      ·rw [Array.toList_setIfInBounds]
       exact zif hpre _ _ hc.2
     ·rw [Hp.set_ne _ _ hx] at hq
      obtain ⟨cs', fr', hw', r1⟩ := h.row b q hq
      exact ⟨cs', fr', by rw [Below.heap_setCell _ _ _ _ hx]; exact hw', r1⟩
   ·split at hp
    ·rename_i hc
     injection hp with hp
     subst hp
     simp only [Bool.and_eq_true, decide_eq_true_eq] at hc
     obtain ⟨cs, fr, hw, hsz, hpre, hown⟩ := h.row _ _ hb
     obtain ⟨hbase, rfl⟩ := hown hc.1.1
     have hlt : a.off < cs.size := by omega
     refine ⟨?_, ?_, ?_⟩
     ·simp [World.cell?, hw, hs, hlt]
     ·simp [World.frozen?, hw]
     ·refine ⟨h.below.setCell hbase v, fun b o ho => by
      obtain ⟨h1, h2⟩ := h.hid b o ho
      have hx : b ≠ a.block := fun he => by subst he; rw [hb] at h1; cases h1
      exact ⟨by rw [Hp.set_ne _ _ hx]; exact h1, by rw [Below.heap_setCell _ _ _ _ hx]; exact h2⟩, fun b q hq => ?_⟩
      by_cases hx : b = a.block
      ·subst hx
       rw [Hp.set_eq] at hq
       injection hq with hq
       subst hq
       refine ⟨cs.setIfInBounds a.off v, (0, 0), ?_, by simpa using hsz, ?_, fun _ => ⟨hbase, rfl⟩⟩
       ·simp [World.setCell, Array.getElem?_modify, hw, hs]
       ·rw [Array.toList_setIfInBounds, hc.1.2]
        exact ziZ hpre v (by simp; omega)
      ·rw [Hp.set_ne _ _ hx] at hq
       obtain ⟨cs', fr', hw', r1⟩ := h.row b q hq
       exact ⟨cs', fr', by rw [Below.heap_setCell _ _ _ _ hx]; exact hw', r1⟩
    ·cases hp
section
variable {P : Program} {w0 : Base} {σ : Hp} {Kp : Value → Hp → Prop}
theorem SA.store_ {σ' : Hp} {a : Addr} {v : Value} {m : Mode} {K : Unit → Hp → Prop} (h1 : one v = true) (hp : put1 σ a v = some σ') (h : K () σ') : SA P w0 (Go.store a v m) σ K Kp := fun w hI => by
 obtain ⟨hc, hf, hI'⟩ := hI.put1 hp
 have : (Go.store a v m).run P w = .ok () (w.setCell a v) := by
  rw [run_store P w a v m (zjF v h1)]
  obtain ⟨u, hu⟩ := Option.isSome_iff_exists.1 hc
  simp [hu, hf]
 rw [this]
 exact ⟨σ', hI', h⟩
def puts (σ : Hp) (a : Addr) : Nat → List Value → Option Hp
 | _, [] => some σ
 | i, v :: vs => (put1 σ (a.add i) v).bind fun σ' => puts σ' a (i + 1) vs
end
theorem SA.storeCells {P : Program} {w0 : Base} {Kp : Value → Hp → Prop} {a : Addr} {K : Unit → Hp → Prop} {σ' : Hp} : ∀ (vs : List Value) (i : Nat) (σ : Hp), vs.all one = true → puts σ a i vs = some σ' → K () σ' → SA P w0 (Go.storeCells a vs i) σ K Kp
 | [], i, σ, _, hp, h => by
  injection hp with hp; subst hp
  unfold Go.storeCells
  exact SA.pure h
 | v :: vs, i, σ, h1, hp, h => by
  simp only [List.all_cons, Bool.and_eq_true] at h1
  obtain ⟨σ1, hσ1, hr⟩ := Option.bind_eq_some_iff.1 hp
  unfold Go.storeCells
  exact SA.bind (SA.store_ h1.1 hσ1 (SA.storeCells vs (i + 1) σ1 h1.2 hr h))
theorem SA.storeVar {P : Program} {w0 : Base} {Kp : Value → Hp → Prop} {σ σ' : Hp} {t : TypeId} {n : Nat} {a : Addr} {v : Value} {K : Unit → Hp → Prop} (hn : (P.info? t).map (·.size) = some n) (hs : v.cells.size = n) (h1 : v.cells.toList.all one = true) (hp : puts σ a 0 v.cells.toList = some σ') (h : K () σ') : SA P w0 (Go.storeVar t a v) σ K Kp := by
 unfold Go.storeVar
 refine SA.bind (SA.sizeOf hn ?_)
 rw [if_neg (by simp [hs])]
 exact SA.storeCells _ 0 _ h1 hp h
inductive Opd where
 | t (n : Nat)
 | c (v : Value)
 | fn (f : FuncId)
 | g (n : Nat)
 deriving Inhabited
abbrev Env := Nat → Value
def ev (e : Env) : Opd → Value
 | .t n => e n
 | .c v => v
 | .fn f => .func (.func f) #[] #[]
 | .g n => .pointer (some ⟨n, 0, none⟩)
def zl : Operand → Opd
 | .tmp n => .t n
 | .const v => .c v
 | .func f => .fn f
 | .global g => .g g
def zR (a : Act) : Env := fun n => a.tmps.getD n undef
theorem zA (a : Act) (x : Operand) : ev (zR a) (zl x) = a.eval x := by cases x <;> rfl
def ibin (op : BinOp) (k : IntKind) (a b : Int) : Option Value :=
 match op with
 | .add => some (.int k (k.wrap (a + b)))
 | .sub => some (.int k (k.wrap (a - b)))
 | .mul => some (.int k (k.wrap (a * b)))
 | .quo => if b = 0 then none else some (.int k (k.wrap (a.tdiv b)))
 | .rem => if b = 0 then none else some (.int k (a.tmod b))
 | .and => some (.int k (k.wrap (BitVec.ofInt k.bits a &&& BitVec.ofInt k.bits b).toNat))
 | .or => some (.int k (k.wrap (BitVec.ofInt k.bits a ||| BitVec.ofInt k.bits b).toNat))
 | .xor => some (.int k (k.wrap (BitVec.ofInt k.bits a ^^^ BitVec.ofInt k.bits b).toNat))
 | .andNot => some (.int k (k.wrap (BitVec.ofInt k.bits a &&& ~~~ BitVec.ofInt k.bits b).toNat))
 | .eql => some (.bool (a == b))
 | .neq => some (.bool (a != b))
 | .lss => some (.bool (decide (a < b)))
 | .leq => some (.bool (decide (a ≤ b)))
 | .gtr => some (.bool (decide (a > b)))
 | .geq => some (.bool (decide (a ≥ b)))
 | _ => none
def shv (op : BinOp) (k : IntKind) (a b : Int) : Option Value :=
 if b < 0 then none else
 match op with
 | .shl => some (.int k (k.wrap (a * 2 ^ min b.toNat k.bits)))
 | .shr => some (.int k (a.fdiv (2 ^ min b.toNat k.bits)))
 | _ => none
def sbin (op : BinOp) (x y : ByteArray) : Option Value :=
 match op with
 | .add => if ((x.size + y.size : Nat) : Int) > IntKind.i64.max then none else some (.string (x ++ y))
 | .eql => some (.bool (x.toList == y.toList))
 | .neq => some (.bool (!(x.toList == y.toList)))
 | .lss => some (.bool (Op.bytesLess x.toList y.toList))
 | .leq => some (.bool (Op.bytesLess x.toList y.toList || x.toList == y.toList))
 | .gtr => some (.bool (!(Op.bytesLess x.toList y.toList || x.toList == y.toList)))
 | .geq => some (.bool (!(Op.bytesLess x.toList y.toList)))
 | _ => none
def zcE : BinOp → Bool
 | .shl | .shr => true
 | _ => false
def binv (op : BinOp) (x y : Value) : Option Value :=
 match x, y with
 | .int k a, .int k' b => if zcE op then shv op k a b else if k = k' then ibin op k a b else none
 | .string a, .string b => sbin op a b
 | _, _ => none
section
variable {P : Program} {w0 : Base} {σ : Hp} {Kp : Value → Hp → Prop}
theorem SA.intBin {op : BinOp} {k : IntKind} {a b : Int} {v : Value} {t : TypeId} {K : Value → Hp → Prop} (hs : zcE op = false) (hv : ibin op k a b = some v) (h : K v σ) : SA P w0 (binOp op t (.int k a) (.int k b)) σ K Kp := by
 cases op <;> simp only [zcE, Bool.true_eq_false] at hs <;> simp only [ibin, Option.some.injEq, reduceCtorEq] at hv <;>
  first
  | (subst hv; exact SA.run (fun w => by unfold binOp; simp [Op.intArith, Op.intBits, Op.intCmp, Sem.run]) h)
  | (
   split at hv
   ·cases hv
   ·rename_i hb
    injection hv with hv
    subst hv
    exact SA.run (fun w => by unfold binOp; simp [Op.intDiv, hb, Sem.run]) h)
theorem SA.shBin {op : BinOp} {k k' : IntKind} {a b : Int} {v : Value} {t : TypeId} {K : Value → Hp → Prop} (hs : zcE op = true) (hv : shv op k a b = some v) (h : K v σ) : SA P w0 (binOp op t (.int k a) (.int k' b)) σ K Kp := by
 unfold shv at hv
 split at hv
 ·cases hv
 ·rename_i hb
  cases op <;> simp only [zcE, Bool.false_eq_true] at hs <;> simp only [Option.some.injEq] at hv <;> subst hv <;>
   exact SA.run (fun w => by unfold binOp; simp [Op.shift, hb, Sem.run]) h
theorem SA.strBin {op : BinOp} {a b : ByteArray} {v : Value} {t : TypeId} {K : Value → Hp → Prop} (hv : sbin op a b = some v) (h : K v σ) : SA P w0 (binOp op t (.string a) (.string b)) σ K Kp := by
 cases op <;> simp only [sbin, Option.some.injEq, reduceCtorEq] at hv <;>
  first
  | (subst hv; exact SA.run (fun w => by unfold binOp; simp [Op.stringOp, Sem.run]) h)
  | (
   split at hv
   ·cases hv
   ·rename_i hb
    injection hv with hv
    subst hv
    exact SA.run (fun w => by
     unfold binOp
     show (Op.stringOp .add a b).run P w = _
     unfold Op.stringOp
     simp only []
     rw [if_neg hb]
     rfl) h)
theorem SA.binv {op : BinOp} {x y v : Value} {t : TypeId} {K : Value → Hp → Prop} (hv : binv op x y = some v) (h : K v σ) : SA P w0 (binOp op t x y) σ K Kp := by
 unfold Ab.binv at hv
 split at hv
 ·split at hv
  ·rename_i hs
   exact SA.shBin hs hv h
  ·rename_i hs
   split at hv
   ·rename_i hk
    subst hk
    exact SA.intBin (by simpa using hs) hv h
   ·cases hv
 ·exact SA.strBin hv h
 ·cases hv
theorem zjR {op : BinOp} {t : TypeId} {x y : Operand} {a b v : Value} (hv : binv op a b = some v) : eqGuard op t x y a b = pure () := by
 unfold Ab.binv at hv
 split at hv
 ·exact eqGuard_at_int _ _ _ _ _ _ _
 ·exact eqGuard_at_string _ _ _ _ _ _
 ·cases hv
end
def partv (agg : Bool) (off n : Nat) (cs : Array Value) : Option Value := if agg then some (.agg (cs.extract off (off + n))) else cs[off]?
section
variable {P : Program} {w0 : Base} {σ : Hp} {Kp : Value → Hp → Prop}
theorem SA.part {t : TypeId} {agg : Bool} {n off : Nat} {cs : Array Value} {v : Value} {K : Value → Hp → Prop} (ha : zbS P t = some agg) (hn : (P.info? t).map (·.size) = some n) (hv : partv agg off n cs = some v) (h : K v σ) : SA P w0 (Go.part t cs off) σ K Kp := by
 unfold Go.part
 refine SA.bind (SA.isAgg ha ?_)
 unfold partv at hv
 cases agg with
 | true =>
  simp only [if_true, Option.some.injEq] at hv ⊢
  subst hv
  exact SA.bind (SA.sizeOf hn (SA.pure h))
 | false =>
  simp only [Bool.false_eq_true, if_false] at hv ⊢
  rw [hv]
  exact SA.pure h
end
def zbD : List Value → List (Nat × Nat × Value) → Option (List Value)
 | cells, [] => some cells
 | cells, (off, n, v) :: r => if v.cells.size = n ∧ off + n ≤ cells.length then zbD (cells.take off ++ v.cells.toList ++ cells.drop (off + n)) r else none
theorem ziP (vs : List Value) : ∀ (cells : Array Value) (off k : Nat), off + k + vs.length ≤ cells.size →
  ((vs.zipIdx k).foldl (fun cs (c, j) => cs.setIfInBounds (off + j) c) cells).toList = cells.toList.take (off + k) ++ vs ++ cells.toList.drop (off + k + vs.length) := by
 induction vs with
 | nil => intro cells off k h; simp
 | cons v vs ih =>
  intro cells off k h
  simp only [List.length_cons] at h
  simp only [List.zipIdx_cons, List.foldl_cons]
  rw [ih _ off (k + 1) (by simp; omega)]
  simp only [Array.toList_setIfInBounds]
  have h1 : off + k < cells.toList.length := by simp; omega
  apply List.ext_getElem?
  intro i
  rw [List.append_assoc, List.append_assoc, List.getElem?_append, List.getElem?_append, List.getElem?_append, List.getElem?_append]
  simp only [List.length_take, List.length_set, List.getElem?_take, List.getElem?_drop, List.getElem?_set, Array.length_toList]
  have e1 : min (off + (k + 1)) cells.size = off + (k + 1) := by omega
  have e2 : min (off + k) cells.size = off + k := by omega
  simp only [e1, e2, List.length_cons]
  by_cases c1 : i < off + k
  ·simp only [c1, if_true, show i < off + (k + 1) from by omega, show ¬ (off + k = i) from by omega, if_false]
  ·by_cases c2 : i = off + k
   ·subst c2
    simp [show off + k < off + (k + 1) from by omega, show off + k < cells.size from by omega]
   ·simp only [c1, if_false, show ¬ (i < off + (k + 1)) from by omega]
    by_cases c3 : i - (off + (k + 1)) < vs.length
    ·simp only [c3, if_true, show i - (off + k) < vs.length + 1 from by omega]
     rw [show i - (off + k) = (i - (off + (k + 1))) + 1 from by omega, List.getElem?_cons_succ]
    ·simp only [c3, if_false, show ¬ (i - (off + k) < vs.length + 1) from by omega]
     rw [show off + (k + 1) + vs.length + (i - (off + (k + 1)) - vs.length) = off + k + (vs.length + 1) + (i - (off + k) - (vs.length + 1)) from by omega]
     rw [if_neg (by omega)]
theorem zei (place : Nat → Option (Nat × Nat)) : ∀ (parts : List (Nat × Value)) (cells : Array Value) (qs : List (Nat × Nat × Value)) (r : List Value),
  parts.length = qs.length → (∀ (i : Nat) (p : Nat × Value) (q : Nat × Nat × Value), parts[i]? = some p → qs[i]? = some q → place p.1 = some (q.1, q.2.1) ∧ p.2 = q.2.2) → zbD cells.toList qs = some r → Instr.fill place cells parts = some r.toArray
 | [], cells, [], r, _, _, h => by
  simp only [zbD, Option.some.injEq] at h
  subst h
  simp [Instr.fill]
 | (i, v) :: parts, cells, (off, n, v') :: qs, r, hl, hp, h => by
  obtain ⟨h1, h2⟩ := hp 0 _ _ rfl rfl
  simp only at h1 h2
  subst h2
  unfold zbD at h
  split at h
  ·rename_i hc
   unfold Instr.fill
   rw [h1]
   simp only
   rw [if_neg (by rw [hc.1]; simp at hc ⊢; omega)]
   refine zei place parts _ qs r (by simpa using hl) (fun j p q hj hq => hp (j + 1) p q (by simpa using hj) (by simpa using hq)) ?_
   have := ziP v.cells.toList cells off 0 (by have := hc.2; have := hc.1; simp at *; omega)
   rw [Nat.add_zero] at this
   rw [← Array.foldl_toList, Array.toList_zipIdx, this]
   rw [show v.cells.toList.length = n from by rw [Array.length_toList]; exact hc.1]
   exact h
  ·cases h
def Rd (σ : Hp) (v : Value) (sz n : Nat) (cells : List Value) : Prop :=
 ∃ A c, v = .slice A n c ∧ n ≤ c ∧ cells.length = n * sz ∧ ∀ j u, cells[j]? = some u → ∃ a, A = some a ∧ look σ (a.add j) = some u
def zck (ty sz : Nat) (σ : Hp) (v : Value) (n : Nat) (cells : List Value) : Prop :=
 cells.length = n * sz ∧ ((v = .slice none 0 0 ∧ n = 0) ∨ ∃ b cap, v = .slice (some ⟨b, 0, none⟩) n cap ∧ n ≤ cap ∧ cap ≤ maxLen ∧ σ b = some ⟨cells, ty, cap * sz, true⟩)
def zbE (ty sz : Nat) (σ : Hp) (v : Value) (n : Nat) (cells : List Value) : Prop :=
 cells.length = n * sz ∧ ((v = .slice none 0 0 ∧ n = 0) ∨ ∃ b cap rest, v = .slice (some ⟨b, 0, none⟩) n cap ∧ n ≤ cap ∧ cap ≤ maxLen ∧ σ b = some ⟨cells ++ rest, ty, cap * sz, true⟩)
def blk : Value → Option Nat
 | .slice (some a) _ _ => some a.block
 | _ => none
def Grow (σ : Hp) (v : Value) (σ' : Hp) (v' : Value) : Prop :=
 (∀ b r, blk v ≠ some b → σ b = some r → σ' b = some r) ∧ (blk v' = blk v ∨ ∃ b, blk v' = some b ∧ σ b = none) ∧
  ∀ A n c A' n' c', v = .slice A n c → v' = .slice A' n' c' → n' ≤ c → A' = A ∧ c' = c
def zbf (e : Env) (d : Int) : Option Opd → Option Int
 | none => some d
 | some o => match e |> (ev · o) with | .int _ i => some i | _ => none
def eqV : Nat → Value → Value → Option Bool
 | 0, .int k a, .int k' b => if k = k' then some (a == b) else none
 | 1, .bool a, .bool b => some (a == b)
 | 2, .string a, .string b => some (a.toList == b.toList)
 | _, _, _ => none
def zbc : List Nat → List Value → List Value → Option Bool
 | [], [], [] => some true
 | n :: ns, x :: xs, y :: ys => (eqV n x y).bind fun a => (zbc ns xs ys).map fun b => a && b
 | _, _, _ => none
inductive AOp where
 | mv (x : Opd)
 | pick (c a b : Opd)
 | bin (op : BinOp) (x y : Opd)
 | beq (neg : Bool) (x y : Opd)
 | aeq (neg : Bool) (n : List Nat) (x y : Opd)
 | snil (neg : Bool) (x : Opd)
 | pnil (neg : Bool) (x : Opd)
 | inil (neg : Bool) (x : Opd)
 | tas (t : TypeId) (z : Value) (x : Opd)
 | un (op : UnOp) (x : Opd)
 | cint (k : IntKind) (x : Opd)
 | tostr (x : Opd)
 | tobytes (ty : TypeId) (x : Opd)
 | field (agg : Bool) (off n : Nat) (x : Opd)
 | ext (i : Nat) (x : Opd)
 | sidx (x i : Opd)
 | aidx (agg : Bool) (len n : Nat) (x i : Opd)
 | mkif (t : TypeId) (x : Opd)
 | mkfn (fn : Fn) (first cap : List Opd)
 | build (zero : List Value) (parts : List (Nat × Nat × Opd))
 | box (ty : TypeId) (x : Opd)
 | alloc (ty : TypeId) (cells : List Value)
 | mkslice (ty : TypeId) (n bytes : Nat) (zero : List Value) (l c : Opd)
 | bslice (ty : TypeId) (len : Nat) (cells : List Value) (parts : List (Nat × Nat × Opd))
 | load (agg : Bool) (n : Nat) (x : Opd)
 | store (n : Nat) (x y : Opd)
 | faddr (off : Nat) (x : Opd)
 | idx (n : Nat) (x i : Opd)
 | aaddr (len n : Nat) (x i : Opd)
 | slcS (x : Opd) (lo hi : Option Opd)
 | slc (n : Nat) (x : Opd) (lo hi mx : Option Opd)
 | slcA (len n : Nat) (x : Opd) (lo hi mx : Option Opd)
 | nilchk (x : Opd)
 | lenS (x : Opd)
 | lenL (x : Opd)
 | lenA (n : Nat)
 | capL (x : Opd)
 | app (ty n bytes : Nat) (s x : Opd)
 | apps (ty bytes : Nat) (s x : Opd)
 | appz (ty n bytes : Nat) (zero : List Value) (s x : Opd)
 | copy (n : Nat) (d s : Opd)
 | minmax (mx : Bool) (x : Opd) (xs : List Opd)
 | call (f : FuncId) (args : List Opd)
 | callv (x : Opd) (args : List Opd)
 | inv (x : Opd) (m : String) (args : List Opd)
 | pan (x : Opd)
 deriving Inhabited
def zcU : Value → Bool
 | .pointer (some _) => true
 | .func (.func _) _ _ => true
 | .iface _ _ => true
 | _ => false
def minmaxv (mx : Bool) (k : IntKind) : Int → List Value → Option Int
 | a, [] => some a
 | a, .int _ b :: r => minmaxv mx k (if mx then (if b > a then b else a) else (if b < a then b else a)) r
 | _, _ => none
def unv (op : UnOp) (x : Value) : Option Value :=
 match op, x with
 | .neg, .int k n => some (.int k (k.wrap (0 - n)))
 | .xor, .int k n => some (.int k (k.wrap (BitVec.ofInt k.bits (if k.signed then -1 else k.max) ^^^ BitVec.ofInt k.bits n).toNat))
 | .not, .bool b => some (.bool !b)
 | _, _ => none
def okF (P : Program) (f : FuncId) : Bool := match P.funcs[f]? with
 | some fn => fn.body.isSome && !(fn.name == "runtime.NumGoroutine")
 | none => false
def ifn : Value → Option Bool
 | .nilIface => some true
 | .iface _ _ => some false
 | _ => none
def tasv (t : TypeId) (z : Value) : Value → Option Value
 | .nilIface => some (.tuple #[z, .bool false])
 | .iface t' v => some (if t' = t then .tuple #[v, .bool true] else .tuple #[z, .bool false])
 | _ => none
def aop (P : Program) (w0 : Base) (o : AOp) (e : Env) (σ : Hp) (K : Value → Hp → Prop) (Kp : List PanicEntry → Hp → Prop) : Prop :=
 match o with
 | .mv x => K (ev e x) σ
 | .pick c a b => ∃ t, ev e c = .bool t ∧ K (if t = true then ev e a else ev e b) σ
 | .bin op x y => ∃ v, binv op (ev e x) (ev e y) = some v ∧ K v σ
 | .beq neg x y => ∃ a b, ev e x = .bool a ∧ ev e y = .bool b ∧ K (.bool (if neg then !(a == b) else a == b)) σ
 | .aeq neg n x y => ∃ xs ys b, ev e x = .agg xs ∧ ev e y = .agg ys ∧ zbc n xs.toList ys.toList = some b ∧ K (.bool (if neg then !b else b)) σ
 | .snil neg x => ∃ A n c, ev e x = .slice A n c ∧ K (.bool (if neg then !A.isNone else A.isNone)) σ
 | .pnil neg x => ∃ A, ev e x = .pointer A ∧ K (.bool (if neg then !A.isNone else A.isNone)) σ
 | .inil neg x => ∃ b, ifn (ev e x) = some b ∧ K (.bool (if neg then !b else b)) σ
 | .tas t z x => ∃ v, tasv t z (ev e x) = some v ∧ K v σ
 | .un op x => ∃ v, unv op (ev e x) = some v ∧ K v σ
 | .cint k x => ∃ q n, ev e x = .int q n ∧ K (.int k (k.wrap n)) σ
 | .tostr x => ∃ (n : Nat) (l : List UInt8), Rd σ (ev e x) 1 n (l.map fun b => .int .u8 b.toNat) ∧ K (.string ⟨l.toArray⟩) σ
 | .tobytes ty x => ∃ s, ev e x = .string s ∧ ∀ (bb n cap : Nat), σ bb = none → s.size ≤ cap → K (.slice (some ⟨bb, 0, none⟩) s.size cap) (σ.set bb ⟨s.data.toList.map fun b => .int .u8 b.toNat, ty, n, false⟩)
 | .field agg off n x => ∃ cs v, ev e x = .agg cs ∧ partv agg off n cs = some v ∧ K v σ
 | .ext i x => ∃ vs v, ev e x = .tuple vs ∧ vs[i]? = some v ∧ K v σ
 | .sidx x i => ∃ s k n b, ev e x = .string s ∧ ev e i = .int k n ∧ 0 ≤ n ∧ s[n.toNat]? = some b ∧ K (.int .u8 b.toNat) σ
 | .aidx agg len n x i => ∃ cs k q v, ev e x = .agg cs ∧ ev e i = .int k q ∧ 0 ≤ q ∧ q < len ∧ partv agg (q.toNat * n) n cs = some v ∧ K v σ
 | .mkif t x => K (.iface t (ev e x)) σ
 | .mkfn fn first cap => K (.func fn (first.map (ev e)).toArray (cap.map (ev e)).toArray) σ
 | .build zero parts => ∃ cells, zbD zero (parts.map fun p => (p.1, p.2.1, ev e p.2.2)) = some cells ∧ K (.agg cells.toArray) σ
 | .box ty x => ∀ b, σ b = none → w0.heap.size ≤ b → K (.pointer (some ⟨b, 0, none⟩)) (σ.set b ⟨(ev e x).cells.toList, ty, (ev e x).cells.size, true⟩)
 | .alloc ty cells => ∀ b, σ b = none → w0.heap.size ≤ b → K (.pointer (some ⟨b, 0, none⟩)) (σ.set b ⟨cells, ty, cells.length, true⟩)
 | .mkslice ty n bytes zero l c => ∃ k k' ln cp, ev e l = .int k ln ∧ ev e c = .int k' cp ∧ 0 ≤ ln ∧ ln ≤ cp ∧ cp ≤ 9223372036854775807 ∧ cp * bytes ≤ 140737488355328 ∧
   ∀ b, σ b = none → w0.heap.size ≤ b → K (.slice (some ⟨b, 0, none⟩) ln.toNat cp.toNat) (σ.set b ⟨(List.replicate cp.toNat zero).flatten, ty, cp.toNat * n, true⟩)
 | .bslice ty len cells parts => ∃ cs, zbD cells (parts.map fun p => (p.1, p.2.1, ev e p.2.2)) = some cs ∧ ∀ b, σ b = none → w0.heap.size ≤ b → K (.slice (some ⟨b, 0, none⟩) len len) (σ.set b ⟨cs, ty, cs.length, true⟩)
 | .load agg n x => ∃ a v, ev e x = .pointer (some a) ∧ zbi σ a agg n = some v ∧ K v σ
 | .store n x y => ∃ a σ', ev e x = .pointer (some a) ∧ (ev e y).cells.size = n ∧ (ev e y).cells.toList.all one = true ∧ puts σ a 0 (ev e y).cells.toList = some σ' ∧ K undef σ'
 | .faddr off x => ∃ a, ev e x = .pointer (some a) ∧ K (.pointer (some (a.add off))) σ
 | .idx n x i => ∃ a ln c k q, ev e x = .slice (some a) ln c ∧ ev e i = .int k q ∧ 0 ≤ q ∧ q < ln ∧ K (.pointer (some (a.add (q.toNat * n)))) σ
 | .aaddr len n x i => ∃ a k q, ev e x = .pointer (some a) ∧ ev e i = .int k q ∧ 0 ≤ q ∧ q < len ∧ K (.pointer (some (a.add (q.toNat * n)))) σ
 | .slcS x lo hi => ∃ (s : ByteArray) (l h : Int), ev e x = .string s ∧ zbf e s.size hi = some h ∧ zbf e 0 lo = some l ∧ 0 ≤ l ∧ l ≤ h ∧ h ≤ s.size ∧ K (.string (s.extract l.toNat h.toNat)) σ
 | .slc n x lo hi mx => ∃ A ln c, ∃ (l h m : Int), ev e x = .slice A ln c ∧ zbf e c mx = some m ∧ zbf e ln hi = some h ∧ zbf e 0 lo = some l ∧ 0 ≤ l ∧ l ≤ h ∧ h ≤ m ∧ m ≤ c ∧
   K (.slice (if m.toNat = l.toNat then A else A.map (·.add (l.toNat * n))) (h.toNat - l.toNat) (m.toNat - l.toNat)) σ
 | .slcA len n x lo hi mx => ∃ a, ∃ (l h m : Int), ev e x = .pointer (some a) ∧ zbf e len mx = some m ∧ zbf e len hi = some h ∧ zbf e 0 lo = some l ∧ 0 ≤ l ∧ l ≤ h ∧ h ≤ m ∧ m ≤ len ∧
   K (.slice (some (if m.toNat = l.toNat then a else a.add (l.toNat * n))) (h.toNat - l.toNat) (m.toNat - l.toNat)) σ
 | .nilchk x => zcU (ev e x) = true ∧ K (ev e x) σ
 | .lenS x => ∃ s, ev e x = .string s ∧ K (.int .i64 s.size) σ
 | .lenL x => ∃ A n c, ev e x = .slice A n c ∧ K (.int .i64 n) σ
 | .lenA n => K (.int .i64 n) σ
 | .capL x => ∃ A n c, ev e x = .slice A n c ∧ K (.int .i64 c) σ
 | .app ty n bytes s x => ∃ k cells m ys, zbE ty n σ (ev e s) k cells ∧ Rd σ (ev e x) n m ys ∧ ys.all one = true ∧ (k + m) * bytes ≤ 140737488355328 ∧ ∀ v' σ', Grow σ (ev e s) σ' v' → zck ty n σ' v' (k + m) (cells ++ ys) → K v' σ'
 | .apps ty bytes s x => ∃ k cells q, zbE ty 1 σ (ev e s) k cells ∧ ev e x = .string q ∧ (k + q.size) * bytes ≤ 140737488355328 ∧ ∀ v' σ', Grow σ (ev e s) σ' v' → zck ty 1 σ' v' (k + q.size) (cells ++ q.data.toList.map fun b => .int .u8 b.toNat) → K v' σ'
 | .appz ty n bytes zero s x => ∃ (k : Nat) (cells : List Value) (q : IntKind) (m : Nat), zero.all one = true ∧ zbE ty n σ (ev e s) k cells ∧ ev e x = .int q (m : Int) ∧ (k + m) * bytes ≤ 140737488355328 ∧ ∀ v' σ', Grow σ (ev e s) σ' v' → zck ty n σ' v' (k + m) (cells ++ (List.replicate m zero).flatten) → K v' σ'
 | .copy n d s => ∃ a dn dc sn ys σ', ev e d = .slice (some a) dn dc ∧ Rd σ (ev e s) n sn ys ∧ ys.all one = true ∧ puts σ a 0 (ys.take (Nat.min sn dn * n)) = some σ' ∧ K (.int .i64 (Nat.min sn dn : Nat)) σ'
 | .minmax mx x xs => ∃ k a r, ev e x = .int k a ∧ minmaxv mx k a (xs.map (ev e)) = some r ∧ K (.int k r) σ
 | .call f args => ACalls P w0 f (args.map (ev e)).toArray σ K Kp
 | .callv x args => (∃ f first cap, ev e x = .func (.func f) first cap ∧ okF P f = true ∧ ACalls P w0 f (first ++ (args.map (ev e)).toArray ++ cap) σ K Kp) ∨ (∃ l first cap, ev e x = .func (.yield l) first cap ∧ zcg P w0 l (first ++ (args.map (ev e)).toArray) σ K Kp)
 | .inv x m args => ∃ t v f, ev e x = .iface t v ∧ (∀ w, Sem.run P (method (P.types.size + Made.depth) t v m) w = .ok (f, v) w) ∧ okF P f = true ∧ ACalls P w0 f (v :: args.map (ev e)).toArray σ K Kp
 | .pan x => ∃ t v, ev e x = .iface t v ∧ Kp [{ v := .iface t v, recovered := false }] σ
def zV (P : Program) (t : TypeId) : Option Nat := (P.info? t).map (·.size)
def zbj (P : Program) (t : TypeId) : Option Value := (P.info? t).bind (·.zero)
def zcH (P : Program) (t : TypeId) : Option Nat := (P.info? t).map (·.bytes)
def zbK (P : Program) (t : TypeId) : Option IntKind := match P.underlying t with | some (.int k) => some k | _ => none
def zbh (P : Program) (t : TypeId) : Option TypeId := match P.underlying t with | some (.slice e) => some e | _ => none
def zcc (P : Program) (t : TypeId) : Option (Array Field) := match P.underlying t with | some (.struct fs) => some fs | _ => none
def zbV (P : Program) (t : TypeId) : Option (Nat × TypeId) := match P.underlying t with | some (.array n e) => some (n, e) | _ => none
def zcu (P : Program) (t : TypeId) : Bool := match P.underlying t with | some .string => true | _ => false
def zcj (P : Program) (t : TypeId) : Bool := match P.underlying t with | some (.interface _) => true | none => true | _ => false
theorem zfn {P : Program} {t : TypeId} {k : IntKind} (h : zbK P t = some k) : P.underlying t = some (.int k) := by
 unfold zbK at h; split at h <;> simp_all
theorem zbL {P : Program} {t e : TypeId} (h : zbh P t = some e) : P.underlying t = some (.slice e) := by
 unfold zbh at h; split at h <;> simp_all
theorem zgE {P : Program} {t : TypeId} {e : Array Field} (h : zcc P t = some e) : P.underlying t = some (.struct e) := by
 unfold zcc at h; split at h <;> simp_all
theorem zdY {P : Program} {t : TypeId} {e : Nat × TypeId} (h : zbV P t = some e) : P.underlying t = some (.array e.1 e.2) := by
 unfold zbV at h; split at h <;> simp_all
 subst h; simp_all
theorem ze3 {P : Program} {t : TypeId} (h : zcu P t = true) : P.underlying t = some .string := by
 unfold zcu at h; split at h <;> simp_all
theorem zib {P : Program} {t : TypeId} (h : zcj P t = false) : ∃ d, P.underlying t = some d ∧ ∀ ms, d ≠ .interface ms := by
 unfold zcj at h
 cases hd : P.underlying t with
 | none => rw [hd] at h; simp at h
 | some d => rw [hd] at h; exact ⟨d, rfl, fun ms e => by subst e; simp at h⟩
def nxt (P : Program) (w0 : Base) (K : Value → Hp → Prop) (Kp : List PanicEntry → Hp → Prop) : Next → Hp → Prop
 | .value v, σ => K v σ
 | .skip, σ => K undef σ
 | .enter f args, σ => ACalls P w0 f args σ K Kp
 | .round l f tmps as bd, σ => zcY P w0 l f tmps as bd σ K Kp
 | _, _ => False
abbrev zd5 (Kp : List PanicEntry → Hp → Prop) : Value → Hp → Prop := fun v σ => Kp [{ v, recovered := false }] σ
def SAN (P : Program) (w0 : Base) (s : Sem Next) (σ : Hp) (K : Value → Hp → Prop) (Kp : List PanicEntry → Hp → Prop) : Prop := SA P w0 s σ (nxt P w0 K Kp) (zd5 Kp)
section
variable {P : Program} {w0 : Base} {σ : Hp} {K : Value → Hp → Prop} {Kp : List PanicEntry → Hp → Prop}
theorem SAN.val {s : Sem Value} (h : SA P w0 s σ K (zd5 Kp)) : SAN P w0 (do pure (.value (← s))) σ K Kp := SA.bind (h.mono (fun x σ' hx => SA.pure hx) (fun _ _ hx => hx))
theorem SAN.unit {s : Sem Unit} (h : SA P w0 s σ (fun _ σ' => K undef σ') (zd5 Kp)) : SAN P w0 (do s; pure .skip) σ K Kp := SA.bind (h.mono (fun x σ' hx => SA.pure hx) (fun _ _ hx => hx))
theorem SA.asBool {b : Bool} {K : Bool → Hp → Prop} {Kp : Value → Hp → Prop} (h : K b σ) : SA P w0 (Go.asBool (.bool b)) σ K Kp := SA.pure h
theorem SA.asIntOf {k : IntKind} {n : Int} {K : IntKind × Int → Hp → Prop} {Kp : Value → Hp → Prop} (h : K (k, n) σ) : SA P w0 (Go.asIntOf (.int k n)) σ K Kp := SA.pure h
theorem SA.asInt {k : IntKind} {n : Int} {K : Int → Hp → Prop} {Kp : Value → Hp → Prop} (h : K n σ) : SA P w0 (Go.asInt (.int k n)) σ K Kp := SA.bind (SA.asIntOf (SA.pure h))
theorem SA.field_ {t : TypeId} {i : Nat} {fs : Array Field} {f : Field} {agg : Bool} {n : Nat} {cs : Array Value} {v : Value} {Kp : Value → Hp → Prop} (hu : zcc P t = some fs) (hf : fs[i]? = some f) (ha : zbS P f.type = some agg) (hn : zV P f.type = some n) (hv : partv agg f.offset n cs = some v) (h : K v σ) :
  SA P w0 (Instr.field t (.agg cs) i) σ K Kp := by
 unfold Instr.field
 refine SA.bind (SA.underlying (zgE hu) ?_)
 simp only [hf]
 exact SA.bind (SA.pure (SA.part ha hn hv h))
theorem SA.ext_ {vs : Array Value} {i : Nat} {v : Value} {Kp : Value → Hp → Prop} (hv : vs[i]? = some v) (h : K v σ) : SA P w0 (Instr.extract (.tuple vs) i) σ K Kp := by
 unfold Instr.extract
 simp only [hv]
 exact SA.pure h
theorem SA.sidx_ {t : TypeId} {s : ByteArray} {k : IntKind} {n : Int} {b : UInt8} {Kp : Value → Hp → Prop} (ht : zcu P t = true) (h0 : 0 ≤ n) (hb : s[n.toNat]? = some b) (h : K (.int .u8 b.toNat) σ) : SA P w0 (Instr.index t (.string s) (.int k n)) σ K Kp := by
 unfold Instr.index
 refine SA.bind (SA.asIntOf (SA.bind (SA.underlying (ze3 ht) ?_)))
 simp only [h0, if_true, hb]
 exact SA.pure h
theorem SA.aidx_ {t : TypeId} {p : Nat × TypeId} {agg : Bool} {n : Nat} {cs : Array Value} {k : IntKind} {q : Int} {v : Value} {Kp : Value → Hp → Prop} (hu : zbV P t = some p) (ha : zbS P p.2 = some agg) (hn : zV P p.2 = some n) (h0 : 0 ≤ q) (h1 : q < p.1) (hv : partv agg (q.toNat * n) n cs = some v) (h : K v σ) :
  SA P w0 (Instr.index t (.agg cs) (.int k q)) σ K Kp := by
 unfold Instr.index
 refine SA.bind (SA.asIntOf (SA.bind (SA.underlying (zdY hu) ?_)))
 simp only
 rw [if_pos ⟨h0, h1⟩]
 exact SA.bind (SA.sizeOf hn (SA.part ha hn hv h))
theorem SA.mkif_ {t : TypeId} {x : Value} {Kp : Value → Hp → Prop} (ht : zcj P t = false) (h : K (.iface t x) σ) : SA P w0 (Instr.makeInterface t x) σ K Kp := by
 obtain ⟨d, hd, hne⟩ := zib ht
 unfold Instr.makeInterface
 refine SA.bind (SA.underlying hd ?_)
 cases d <;> first | exact SA.pure h | exact absurd rfl (hne _)
theorem SA.newVar_ {t : TypeId} {x : Value} {K : Addr → Hp → Prop} {Kp : Value → Hp → Prop} (h : ∀ b, σ b = none → w0.heap.size ≤ b → K ⟨b, 0, none⟩ (σ.set b ⟨x.cells.toList, t, x.cells.size, true⟩)) : SA P w0 (newVar t x) σ K Kp := by
 unfold newVar newRow
 exact SA.bind (SA.new fun b h1 h2 => SA.pure (h b h1 h2))
theorem SA.box_ {t : TypeId} {x : Value} {Kp : Value → Hp → Prop} (h : ∀ b, σ b = none → w0.heap.size ≤ b → K (.pointer (some ⟨b, 0, none⟩)) (σ.set b ⟨x.cells.toList, t, x.cells.size, true⟩)) : SA P w0 (Instr.box t x) σ K Kp := by
 unfold Instr.box
 exact SA.bind (SA.newVar_ fun b h1 h2 => SA.pure (h b h1 h2))
theorem SA.alloc_ {t : TypeId} {z : Value} {Kp : Value → Hp → Prop} (hz : zbj P t = some z) (h : ∀ b, σ b = none → w0.heap.size ≤ b → K (.pointer (some ⟨b, 0, none⟩)) (σ.set b ⟨z.cells.toList, t, z.cells.size, true⟩)) : SA P w0 (Instr.alloc t true (.tuple #[])) σ K Kp := by
 unfold Instr.alloc
 refine SA.bind (SA.zeroValue hz ?_)
 exact SA.bind (SA.newVar_ fun b h1 h2 => SA.pure (h b h1 h2))
theorem SA.load__ {t : TypeId} {agg : Bool} {n : Nat} {a : Addr} {v : Value} {Kp : Value → Hp → Prop} (ha : zbS P t = some agg) (hn : zV P t = some n) (hl : zbi σ a agg n = some v) (h : K v σ) : SA P w0 (Instr.loadAt t (.pointer (some a))) σ K Kp := by
 unfold Instr.loadAt
 exact SA.bind (SA.pure (SA.loadVar ha hn hl h))
theorem SA.store__ {t : TypeId} {n : Nat} {a : Addr} {v : Value} {σ' : Hp} {K : Unit → Hp → Prop} {Kp : Value → Hp → Prop} (hn : zV P t = some n) (hs : v.cells.size = n) (h1 : v.cells.toList.all one = true) (hp : puts σ a 0 v.cells.toList = some σ') (h : K () σ') : SA P w0 (Instr.storeAt t (.pointer (some a)) v) σ K Kp := by
 unfold Instr.storeAt
 exact SA.bind (SA.pure (SA.storeVar hn hs h1 hp h))
theorem SA.faddr_ {t : TypeId} {i : Nat} {fs : Array Field} {f : Field} {n : Nat} {a : Addr} {Kp : Value → Hp → Prop} (hu : zcc P t = some fs) (hf : fs[i]? = some f) (hn : zV P f.type = some n) (h0 : n ≠ 0) (h : K (.pointer (some (a.add f.offset))) σ) :
  SA P w0 (Instr.fieldAt t (.pointer (some a)) i) σ K Kp := by
 unfold Instr.fieldAt
 refine SA.bind (SA.underlying (zgE hu) ?_)
 simp only [hf]
 refine SA.bind (SA.pure (SA.bind ?_))
 unfold fieldPlace
 refine SA.bind (SA.sizeOf hn ?_)
 rw [if_neg h0]
 exact SA.pure (SA.pure h)
theorem SA.idx_ {t el : TypeId} {n : Nat} {a : Addr} {ln c : Nat} {k : IntKind} {q : Int} {Kp : Value → Hp → Prop} (hu : zbh P t = some el) (hn : zV P el = some n) (h0 : 0 ≤ q) (h1 : q < ln) (h : K (.pointer (some (a.add (q.toNat * n)))) σ) :
  SA P w0 (Instr.indexAt t (.slice (some a) ln c) (.int k q)) σ K Kp := by
 unfold Instr.indexAt
 refine SA.bind (SA.asIntOf (SA.bind (SA.underlying (zbL hu) ?_)))
 refine SA.bind (SA.pure ?_)
 refine SA.bind (SA.underlying (zbL hu) ?_)
 dsimp only
 rw [if_pos ⟨h0, h1⟩]
 exact SA.bind (SA.sizeOf hn (SA.pure h))
theorem SA.aaddr_ {t : TypeId} {p : Nat × TypeId} {n : Nat} {a : Addr} {k : IntKind} {q : Int} {Kp : Value → Hp → Prop} (hu : zbV P t = some p) (hn : zV P p.2 = some n) (h0 : 0 ≤ q) (h1 : q < p.1) (h : K (.pointer (some (a.add (q.toNat * n)))) σ) :
  SA P w0 (Instr.indexAt t (.pointer (some a)) (.int k q)) σ K Kp := by
 unfold Instr.indexAt
 refine SA.bind (SA.asIntOf (SA.bind (SA.underlying (zdY hu) ?_)))
 refine SA.bind (SA.pure (SA.bind (SA.pure ?_)))
 refine SA.bind (SA.underlying (zdY hu) ?_)
 dsimp only
 rw [if_pos ⟨h0, h1⟩]
 exact SA.bind (SA.sizeOf hn (SA.pure h))
theorem SA.bound {k : IntKind} {i : Int} {y : Nat} {code : BoundsCode} {K : Nat → Hp → Prop} {Kp : Value → Hp → Prop} (h0 : 0 ≤ i) (h1 : i ≤ y) (h : K i.toNat σ) : SA P w0 (Instr.sliceBound (.int k i) y code) σ K Kp := by
 unfold Instr.sliceBound
 refine SA.bind (SA.asIntOf ?_)
 dsimp only
 rw [if_pos ⟨h0, h1⟩]
 exact SA.pure h
def zbs (d : Int) : Option Value → Option Int
 | none => some d
 | some (.int _ i) => some i
 | _ => none
theorem zeM {d i : Int} {v : Value} (h : zbs d (some v) = some i) : ∃ k, v = .int k i := by
 cases v <;> simp [zbs] at h
 subst h
 exact ⟨_, rfl⟩
theorem SA.bounds {isSlice : Bool} {len cap : Nat} {lo hi mx : Option Value} {l h m : Int} {K : Nat × Nat × Nat → Hp → Prop} {Kp : Value → Hp → Prop} (hm : zbs cap mx = some m) (hh : zbs len hi = some h) (hl : zbs 0 lo = some l) (h0 : 0 ≤ l) (h1 : l ≤ h) (h2 : h ≤ m) (h3 : m ≤ cap)
  (hx : mx = none ∨ hi ≠ none) (hK : K (l.toNat, h.toNat, m.toNat) σ) : SA P w0 (Instr.sliceBounds isSlice len cap lo hi mx) σ K Kp := by
 have step3 : ∀ (code : BoundsCode) (f : Nat → Sem (Nat × Nat × Nat)), (∀ l' : Nat, l' = l.toNat → SA P w0 (f l') σ K Kp) →
   SA P w0 (match lo with | some v => (do let l ← Instr.sliceBound v h.toNat code; f l) | none => (do let l ← (Pure.pure 0 : Sem Nat); f l)) σ K Kp := by
  intro code f hf
  cases lo with
  | none =>
   injection hl with hl
   exact SA.bind (SA.pure (hf 0 (by omega)))
  | some v =>
   obtain ⟨k, rfl⟩ := zeM hl
   exact SA.bind (SA.bound h0 (by omega) (hf _ rfl))
 unfold Instr.sliceBounds
 cases mx with
 | none =>
  injection hm with hm
  refine SA.bind (SA.pure ?_)
  cases hi with
  | none =>
   injection hh with hh
   refine SA.bind (SA.pure ?_)
   rw [show len = h.toNat from by omega, show cap = m.toNat from by omega]
   exact step3 _ _ fun l' hl' => by subst hl'; exact SA.pure hK
  | some v =>
   obtain ⟨k, rfl⟩ := zeM hh
   refine SA.bind (SA.bound (by omega) (by omega) ?_)
   rw [show cap = m.toNat from by omega]
   exact step3 _ _ fun l' hl' => by subst hl'; exact SA.pure hK
 | some v =>
  obtain ⟨k, rfl⟩ := zeM hm
  refine SA.bind (SA.bound (by omega) h3 ?_)
  cases hi with
  | none => rcases hx with hx | hx <;> simp at hx
  | some v =>
   obtain ⟨k, rfl⟩ := zeM hh
   refine SA.bind (SA.bound (by omega) (by omega) ?_)
   exact step3 _ _ fun l' hl' => by subst hl'; exact SA.pure hK
end
section
variable {P : Program} {w0 : Base} {σ : Hp} {K : Value → Hp → Prop} {Kp : Value → Hp → Prop}
theorem SA.slcS_ {t : TypeId} {s : ByteArray} {lo hi : Option Value} {l h : Int} (ht : zcu P t = true) (hh : zbs s.size hi = some h) (hl : zbs 0 lo = some l) (h0 : 0 ≤ l) (h1 : l ≤ h) (h2 : h ≤ s.size) (hK : K (.string (s.extract l.toNat h.toNat)) σ) :
  SA P w0 (Instr.sliceAt t (.string s) lo hi none) σ K Kp := by
 unfold Instr.sliceAt
 refine SA.bind (SA.underlying (ze3 ht) ?_)
 dsimp only
 unfold Instr.slice
 refine SA.bind (SA.underlying (ze3 ht) ?_)
 dsimp only
 simp only [Option.isSome_none, Bool.false_eq_true, if_false]
 exact SA.bind (SA.bounds (m := s.size) rfl hh hl h0 h1 h2 (Int.le_refl _) (.inl rfl) (SA.pure hK))
theorem SA.slc_ {t el : TypeId} {n : Nat} {A : Option Addr} {ln c : Nat} {lo hi mx : Option Value} {l h m : Int} (ht : zbh P t = some el) (hn : zV P el = some n) (hm : zbs c mx = some m) (hh : zbs ln hi = some h) (hl : zbs 0 lo = some l) (h0 : 0 ≤ l) (h1 : l ≤ h) (h2 : h ≤ m) (h3 : m ≤ c)
  (hx : mx = none ∨ hi ≠ none) (hK : K (.slice (if m.toNat = l.toNat then A else A.map (·.add (l.toNat * n))) (h.toNat - l.toNat) (m.toNat - l.toNat)) σ) : SA P w0 (Instr.sliceAt t (.slice A ln c) lo hi mx) σ K Kp := by
 unfold Instr.sliceAt
 refine SA.bind (SA.underlying (zbL ht) ?_)
 dsimp only
 unfold Instr.slice
 refine SA.bind (SA.underlying (zbL ht) ?_)
 dsimp only
 exact SA.bind (SA.bounds hm hh hl h0 h1 h2 h3 hx (SA.bind (SA.sizeOf hn (SA.pure hK))))
theorem SA.slcA_ {t : TypeId} {p : Nat × TypeId} {n : Nat} {a : Addr} {lo hi mx : Option Value} {l h m : Int} (ht : zbV P t = some p) (hn : zV P p.2 = some n) (hm : zbs p.1 mx = some m) (hh : zbs p.1 hi = some h) (hl : zbs 0 lo = some l) (h0 : 0 ≤ l) (h1 : l ≤ h) (h2 : h ≤ m) (h3 : m ≤ p.1)
  (hx : mx = none ∨ hi ≠ none) (hK : K (.slice (some (if m.toNat = l.toNat then a else a.add (l.toNat * n))) (h.toNat - l.toNat) (m.toNat - l.toNat)) σ) : SA P w0 (Instr.sliceAt t (.pointer (some a)) lo hi mx) σ K Kp := by
 unfold Instr.sliceAt
 refine SA.bind (SA.underlying (zdY ht) ?_)
 dsimp only
 refine SA.bind (SA.pure ?_)
 exact SA.bind (SA.bounds hm hh hl h0 h1 h2 h3 hx (SA.bind (SA.sizeOf hn (SA.pure hK))))
theorem zfD (z : Array Value) : ∀ c, ((Array.range (c * z.size)).map (z[· % z.size]!)).toList = (List.replicate c z.toList).flatten := by
 intro c
 induction c with
 | zero => simp
 | succ c ih =>
  have e : (List.replicate (c + 1) z.toList).flatten = (List.replicate c z.toList).flatten ++ z.toList := by
   rw [List.replicate_succ', List.flatten_append]; simp
  rw [e, ← ih]
  apply List.ext_getElem?
  intro i
  rw [List.getElem?_append]
  simp only [Array.toList_map, Array.toList_range, List.length_map, List.length_range, List.getElem?_map]
  by_cases h1 : i < c * z.size
  ·simp [h1, show i < (c + 1) * z.size from by rw [Nat.succ_mul]; omega]
  ·simp only [h1, if_false]
   by_cases h2 : i < (c + 1) * z.size
   ·have h3 : i - c * z.size < z.size := by rw [Nat.succ_mul] at h2; omega
    have h4 : i % z.size = i - c * z.size := by
     have : i = (i - c * z.size) + z.size * c := by rw [Nat.mul_comm z.size c]; omega
     rw [this, Nat.add_mul_mod_self_left, Nat.mod_eq_of_lt h3]
     rw [Nat.mul_comm z.size c]; omega
    rw [List.getElem?_range h2]
    simp [h4, h3]
   ·have h3 : z.toList.length ≤ i - c * z.size := by rw [Nat.succ_mul] at h2; simp; omega
    rw [List.getElem?_eq_none (by simpa using h2), List.getElem?_eq_none h3]
    rfl
theorem SA.mkslice_ {t el : TypeId} {n bytes : Nat} {z : Value} {k k' : IntKind} {ln cp : Int} (ht : zbh P t = some el) (hn : zV P el = some n) (hb : zcH P el = some bytes) (hz : zbj P el = some z) (hzs : z.cells.size = n)
  (h0 : 0 ≤ ln) (h1 : ln ≤ cp) (h2 : cp ≤ 9223372036854775807) (h3 : cp * bytes ≤ 140737488355328)
  (hK : ∀ b, σ b = none → w0.heap.size ≤ b → K (.slice (some ⟨b, 0, none⟩) ln.toNat cp.toNat) (σ.set b ⟨(List.replicate cp.toNat z.cells.toList).flatten, el, cp.toNat * n, true⟩)) :
  SA P w0 (Instr.makeSlice t (.int k ln) (.int k' cp)) σ K Kp := by
 obtain ⟨i, hi, rfl⟩ := Option.map_eq_some_iff.1 hb
 have hw : ∀ x : Int, 0 ≤ x → x ≤ 9223372036854775807 → IntKind.i64.wrap x = x := by
  intro x a b
  have h1 : x % 18446744073709551616 = x := Int.emod_eq_of_lt a (by omega)
  show (if (true && decide (x % 18446744073709551616 ≥ 9223372036854775808)) = true then x % 18446744073709551616 - 18446744073709551616 else x % 18446744073709551616) = x
  rw [h1, if_neg (by simp; omega)]
 unfold Instr.makeSlice
 refine SA.bind (SA.underlying (zbL ht) ?_)
 dsimp only
 refine SA.bind (SA.asInt (SA.bind (SA.asInt (SA.bind (SA.typeInfo hi ?_)))))
 rw [hw ln h0 (by omega), hw cp (by omega) h2]
 have hc : (decide (cp < 0) || decide ((i.bytes : Int) * cp > 2 ^ 48)) = false := by
  rw [Int.mul_comm]
  simp; omega
 simp only [hc, Bool.false_or]
 rw [if_neg (by simp; omega)]
 refine SA.bind (s := askRoom _) ?_
 have room : ∀ (k : Nat) (K : Unit → Hp → Prop), K () σ → SA P w0 (askRoom k) σ K Kp := by
  intro k K h
  unfold askRoom
  split
  ·exact SA.mark h
  ·exact SA.pure h
 refine room _ _ ?_
 refine SA.bind (SA.sizeOf hn ?_)
 have fin : ∀ cells : Array Value, cells.toList = (List.replicate cp.toNat z.cells.toList).flatten → cells.size = cp.toNat * n →
   SA P w0 (do let a ← newRow el cells; Pure.pure (Value.slice (some a) ln.toNat cp.toNat)) σ K Kp := by
  intro cells hc1 hc2
  unfold newRow
  refine SA.bind (SA.bind (SA.new fun b hb1 hb2 => SA.pure (SA.pure ?_)))
  rw [hc1, hc2]
  exact hK b hb1 hb2
 by_cases hnz : cp.toNat * n = 0
 ·rw [if_pos hnz]
  refine SA.bind (SA.pure (fin _ ?_ ?_))
  ·rw [hnz]
   rcases Nat.mul_eq_zero.1 hnz with h | h
   ·rw [h]; simp
   ·have : z.cells.toList = [] := by apply List.eq_nil_of_length_eq_zero; rw [Array.length_toList, hzs]; exact h
    rw [this]; simp
  ·simp
 ·rw [if_neg hnz]
  refine SA.bind (SA.zeroValue hz (SA.bind (SA.pure (fin _ ?_ ?_))))
  ·rw [← hzs]; exact zfD _ _
  ·simp
theorem SA.bslice_ {t el : TypeId} {n len : Nat} {z : Value} {parts : List (Nat × Value)} {qs : List (Nat × Nat × Value)} {cs : List Value} (ht : zbh P t = some el) (hn : zV P el = some n) (hz : zbj P el = some z) (hzs : z.cells.size = n) (hl : len * n ≤ 2 ^ 24)
  (hq : parts.map (fun p => (p.1 * n, n, p.2)) = qs) (hf : zbD (List.replicate len z.cells.toList).flatten qs = some cs)
  (hK : ∀ b, σ b = none → w0.heap.size ≤ b → K (.slice (some ⟨b, 0, none⟩) len len) (σ.set b ⟨cs, el, cs.length, true⟩)) : SA P w0 (Instr.buildSlice t len parts.toArray) σ K Kp := by
 subst hq
 unfold Instr.buildSlice
 refine SA.bind (SA.underlying (zbL ht) ?_)
 dsimp only
 refine SA.bind (SA.sizeOf hn ?_)
 rw [if_neg (by omega)]
 have fin : ∀ cells : Array Value, cells.toList = (List.replicate len z.cells.toList).flatten →
   SA P w0 (match Instr.fill (fun i => some (i * n, n)) cells parts.toArray.toList with
    | some cells => (do Pure.pure (Value.slice (some (← newRow el cells)) len len))
    | _ => stuck "buildSlice: a part of the wrong size") σ K Kp := by
  intro cells hc
  rw [zei (fun i => some (i * n, n)) _ cells (parts.map (fun p => (p.1 * n, n, p.2))) cs (by simp) ?_ (by rw [hc]; exact hf)]
  ·dsimp only
   unfold newRow
   refine SA.bind (SA.bind (SA.new fun b hb1 hb2 => SA.pure (SA.pure ?_)))
   simpa using hK b hb1 hb2
  ·intro i p q hp hq
   simp only [List.getElem?_map] at hq
   rw [show parts[i]? = some p from by simpa using hp] at hq
   simp at hq
   subst hq
   exact ⟨rfl, rfl⟩
 by_cases hnz : len * n = 0
 ·rw [if_pos hnz]
  refine SA.bind (SA.pure (fin _ ?_))
  rw [hnz]
  rcases Nat.mul_eq_zero.1 hnz with h | h
  ·rw [h]; simp
  ·have : z.cells.toList = [] := by apply List.eq_nil_of_length_eq_zero; rw [Array.length_toList, hzs]; exact h
   rw [this]; simp
 ·rw [if_neg hnz]
  refine SA.bind (SA.zeroValue hz (SA.bind (SA.pure (fin _ ?_))))
  rw [← hzs]; exact zfD _ _
theorem SA.listMapM {α β : Type} (f : α → Sem β) (g : α → Option β) (hf : ∀ a b (K : β → Hp → Prop), g a = some b → K b σ → SA P w0 (f a) σ K Kp) : ∀ (l : List α) (r : List β) (K : List β → Hp → Prop), l.mapM g = some r → K r σ → SA P w0 (l.mapM f) σ K Kp
 | [], r, K, h, hK => by
  simp at h
  subst h
  simp
  exact SA.pure hK
 | a :: l, r, K, h, hK => by
  rw [List.mapM_cons] at h
  obtain ⟨b, hb, h⟩ := Option.bind_eq_some_iff.1 h
  obtain ⟨r', hr', h⟩ := Option.bind_eq_some_iff.1 h
  injection h with h
  subst h
  rw [List.mapM_cons]
  exact SA.bind (hf a b _ hb (SA.bind (SA.listMapM f g hf l r' _ hr' (SA.pure hK))))
theorem SA.buildS_ {t : TypeId} {fs : Array Field} {z : Value} {places : List (Nat × Nat)} {parts : List (Nat × Value)} {qs : List (Nat × Nat × Value)} {cs : List Value} (ht : zcc P t = some fs) (hz : zbj P t = some z)
  (hp : fs.toList.mapM (fun f => (zV P f.type).map fun n => (f.offset, n)) = some places)
  (hl : parts.length = qs.length) (hq : ∀ (i : Nat) (p : Nat × Value) (q : Nat × Nat × Value), parts[i]? = some p → qs[i]? = some q → places[p.1]? = some (q.1, q.2.1) ∧ p.2 = q.2.2) (hf : zbD z.cells.toList qs = some cs) (hK : K (.agg cs.toArray) σ) :
  SA P w0 (Instr.build t parts.toArray) σ K Kp := by
 unfold Instr.build
 refine SA.bind (SA.zeroValue hz ?_)
 dsimp only
 refine SA.bind (SA.underlying (zgE ht) ?_)
 dsimp only
 refine SA.bind ?_
 rw [← Array.toArray_toList (xs := fs), List.mapM_toArray]
 refine SA.bind (SA.listMapM _ _ ?_ _ _ _ hp ?_)
 ·intro f b K hb hk
  obtain ⟨n, hn, rfl⟩ := Option.map_eq_some_iff.1 hb
  exact SA.bind (SA.sizeOf hn (SA.pure hk))
 ·refine SA.pure ?_
  rw [zei _ parts z.cells qs cs hl ?_ hf]
  ·exact SA.pure hK
  ·intro i p q h1 h2
   obtain ⟨a, b⟩ := hq i p q h1 h2
   exact ⟨by simpa using a, b⟩
theorem SA.buildA_ {t : TypeId} {p : Nat × TypeId} {n : Nat} {z : Value} {parts : List (Nat × Value)} {qs : List (Nat × Nat × Value)} {cs : List Value} (ht : zbV P t = some p) (hn : zV P p.2 = some n) (hz : zbj P t = some z)
  (hq : parts.map (fun p => (p.1 * n, n, p.2)) = qs) (hf : zbD z.cells.toList qs = some cs) (hK : K (.agg cs.toArray) σ) :
  SA P w0 (Instr.build t parts.toArray) σ K Kp := by
 subst hq
 unfold Instr.build
 refine SA.bind (SA.zeroValue hz ?_)
 dsimp only
 refine SA.bind (SA.underlying (zdY ht) ?_)
 dsimp only
 refine SA.bind (SA.sizeOf hn ?_)
 rw [zei _ parts z.cells _ cs (by simp) ?_ hf]
 ·exact SA.pure hK
 ·intro i p q hp hq
  simp only [List.getElem?_map] at hq
  rw [hp] at hq
  simp at hq
  subst hq
  exact ⟨rfl, rfl⟩
end
theorem zbl (b o k : Nat) : (⟨b, o, none⟩ : Addr).add k = ⟨b, o + k, none⟩ := by
 unfold Addr.add
 split
 ·rename_i h; subst h; rfl
 ·rfl
theorem zeN (σ : Hp) (b : Nat) (r : Row) (o : Nat) : look (σ.set b r) ⟨b, o, none⟩ = r.cells[o]? := by simp [look, Hp.set_eq]
theorem Rd.le {σ σ' : Hp} {v : Value} {sz n : Nat} {cells : List Value} (h : Rd σ v sz n cells) (hle : Hp.le σ σ') : Rd σ' v sz n cells := by
 obtain ⟨A, c, hv, h1, h2, h3⟩ := h
 exact ⟨A, c, hv, h1, h2, fun j u hu => by obtain ⟨a, ha, hl⟩ := h3 j u hu; exact ⟨a, ha, zim hle hl⟩⟩
theorem ze2 {σ : Hp} {a : Addr} : ∀ (cs : List Value) (i : Nat), (∀ j u, cs[j]? = some u → look σ (a.add (i + j)) = some u) → looks σ a i cs.length = some cs
 | [], i, _ => rfl
 | c :: cs, i, h => by
  have h0 := h 0 c rfl
  rw [Nat.add_zero] at h0
  simp only [List.length_cons, looks, h0, Option.bind_some]
  rw [ze2 cs (i + 1) (fun j u hu => by have := h (j + 1) u (by simpa using hu); rwa [show i + 1 + j = i + (j + 1) from by omega])]
  rfl
theorem Rd.looks {σ : Hp} {A : Option Addr} {n c sz : Nat} {cells : List Value} {a : Addr} (h : Rd σ (.slice (some a) n c) sz n cells) : looks σ a 0 (n * sz) = some cells := by
 obtain ⟨A', c', hv, h1, h2, h3⟩ := h
 injection hv with hA _ _
 subst hA
 rw [← h2]
 refine ze2 cells 0 fun j u hu => ?_
 obtain ⟨a', ha, hl⟩ := h3 j u hu
 injection ha with ha
 subst ha
 rw [Nat.zero_add]
 exact hl
section
variable {P : Program} {w0 : Base} {σ : Hp} {K : Value → Hp → Prop} {Kp : Value → Hp → Prop}
theorem SA.first {v : Value} {sz n : Nat} {cells : List Value} {K : Array Value → Hp → Prop} (h : Rd σ v sz n cells) (hK : K cells.toArray σ) : SA P w0 (Builtin.firstCells sz n v) σ K Kp := by
 obtain ⟨A, c, rfl, h1, h2, h3⟩ := h
 unfold Builtin.firstCells
 cases A with
 | none =>
  have : cells = [] := by
   cases cells with
   | nil => rfl
   | cons x xs => obtain ⟨a, ha, _⟩ := h3 0 x rfl; cases ha
  subst this
  exact SA.pure hK
 | some a => exact SA.loadCells (Rd.looks (A := some a) ⟨_, c, rfl, h1, h2, h3⟩) hK
theorem zgo (ty : Nat) : ∀ (news : List Value) (τ : Hp) (b : Nat) (cells : List Value) (size i off : Nat), off + i = cells.length → cells.length + news.length ≤ size →
  puts (τ.set b ⟨cells, ty, size, true⟩) ⟨b, off, none⟩ i news = some (τ.set b ⟨cells ++ news, ty, size, true⟩)
 | [], τ, b, cells, size, i, off, _, _ => by simp [puts]
 | v :: news, τ, b, cells, size, i, off, h1, h2 => by
  simp only [List.length_cons] at h2
  have : put1 (τ.set b ⟨cells, ty, size, true⟩) ((⟨b, off, none⟩ : Addr).add i) v = some (τ.set b ⟨cells ++ [v], ty, size, true⟩) := by
   rw [zbl]
   unfold put1
   simp only [Option.isSome_none, Bool.false_eq_true, if_false, Hp.set_eq]
   rw [if_neg (by simp; omega), if_pos (by simp; omega)]
   congr 1
   funext k
   simp only [Hp.set]
   split <;> rfl
  simp only [puts, this, Option.bind_some]
  rw [zgo ty news τ b (cells ++ [v]) size (i + 1) off (by simp; omega) (by simp; omega)]
  simp
theorem SA.askRoom_ {k : Nat} {K : Unit → Hp → Prop} (h : K () σ) : SA P w0 (askRoom k) σ K Kp := by
 unfold askRoom
 split
 ·exact SA.mark h
 ·exact SA.pure h
theorem zhT (z : Array Value) (n : Nat) : (Builtin.zeroCells z n).size = n * z.size := by simp [Builtin.zeroCells]
theorem SA.pureBind {α β : Type} {v v' : β} {f : β → Sem α} {K : α → Hp → Prop} {Kp : Value → Hp → Prop} (e : v = v') (h : SA P w0 (f v') σ K Kp) : SA P w0 (Pure.pure v >>= f) σ K Kp := by subst e; exact SA.bind (SA.pure h)
theorem Inv.less {w : World} {b : Nat} {cs : List Value} {ty size : Nat} {r : Row} (h : Inv w0 (σ.set b r) w) (hp : cs <+: r.cells) (ho : r.own = true) : Inv w0 (σ.set b ⟨cs, r.ty, r.size, true⟩) w := by
 refine ⟨h.below, fun k o ho => ?_, fun k q hq => ?_⟩
 ·obtain ⟨h1, h2⟩ := h.hid k o ho
  have hx : k ≠ b := fun he => by subst he; rw [Hp.set_eq] at h1; cases h1
  exact ⟨by rw [Hp.set_ne _ _ hx] at h1 ⊢; exact h1, h2⟩
 by_cases hx : k = b
 ·subst hx
  rw [Hp.set_eq] at hq
  injection hq with hq
  subst hq
  obtain ⟨c, fr, h1, h2, h3, h4⟩ := h.row k r (Hp.set_eq _ _ _)
  exact ⟨c, fr, h1, h2, hp.trans h3, fun _ => h4 ho⟩
 ·rw [Hp.set_ne _ _ hx] at hq
  exact h.row k q (by rw [Hp.set_ne _ _ hx]; exact hq)
theorem SA.newPre {cs : Array Value} {cells : List Value} {ty : TypeId} {K : Nat → Hp → Prop} (hp : cells <+: cs.toList) (h : ∀ b, σ b = none → w0.heap.size ≤ b → K b (σ.set b ⟨cells, ty, cs.size, true⟩)) : SA P w0 (newObj (.cells cs ty)) σ K Kp := fun w hI => by
 have : (newObj (.cells cs ty)).run P w = .ok w.heap.size (w.alloc (.cells cs ty)) := rfl
 rw [this]
 exact ⟨_, (hI.alloc cs ty).less (ty := ty) (size := cs.size) hp rfl, h _ hI.fresh hI.base_le⟩
theorem Hp.set_same {σ : Hp} {b : Nat} {r : Row} (h : σ b = some r) : σ.set b r = σ := by
 funext k
 simp only [Hp.set]
 split
 ·rename_i he; subst he; exact h.symm
 ·rfl
theorem zbE.rd {ty sz n : Nat} {σ : Hp} {v : Value} {cells : List Value} (h : zbE ty sz σ v n cells) : Rd σ v sz n cells := by
 obtain ⟨hl, hv | ⟨b, cap, rest, hv, hc, _, hb⟩⟩ := h
 ·obtain ⟨rfl, rfl⟩ := hv
  have : cells = [] := List.eq_nil_of_length_eq_zero (by simpa using hl)
  subst this
  exact ⟨none, 0, rfl, Nat.le_refl _, hl, fun j u hu => by simp at hu⟩
 ·refine ⟨_, cap, hv, hc, hl, fun j u hu => ⟨_, rfl, ?_⟩⟩
  rw [zbl, Nat.zero_add]
  simp only [look, hb, Option.isSome_none, Bool.false_eq_true, if_false, Option.bind_some]
  rw [List.getElem?_append_left (List.getElem?_eq_some_iff.1 hu).1]
  exact hu
theorem Grow.refl (σ : Hp) (v : Value) : Grow σ v σ v := ⟨fun _ _ _ h => h, .inl rfl, fun A n c A' n' c' h1 h2 _ => by rw [h1] at h2; injection h2 with h3 _ h4; exact ⟨h3.symm, h4.symm⟩⟩
theorem Grow.fresh {σ : Hp} {A : Option Addr} {n c b n' c' : Nat} {r : Row} (hb : σ b = none) (hn : c < n') : Grow σ (.slice A n c) (σ.set b r) (.slice (some ⟨b, 0, none⟩) n' c') :=
 ⟨fun x q hx hq => Hp.le_set hb x q hq, .inr ⟨b, rfl, hb⟩, fun A1 n1 c1 A2 n2 c2 h1 h2 h3 => by injection h1 with _ _ h4; injection h2 with _ h5 _; omega⟩
theorem Grow.longer {σ : Hp} {a : Addr} {n n' c : Nat} {r : Row} : Grow σ (.slice (some a) n c) (σ.set a.block r) (.slice (some a) n' c) :=
 ⟨fun x q hx hq => by rw [Hp.set_ne _ _ (fun he => hx (by rw [he]; rfl))]; exact hq, .inl rfl, fun A1 n1 c1 A2 n2 c2 h1 h2 h3 => by injection h1 with h4 _ h5; injection h2 with h6 _ h7; exact ⟨by rw [← h6, ← h4], by rw [← h7, ← h5]⟩⟩
theorem SA.trim {α : Type} {s : Sem α} {b ty size : Nat} {cells rest : List Value} {K : α → Hp → Prop} {Kp : Value → Hp → Prop} (hb : σ b = some ⟨cells ++ rest, ty, size, true⟩) (h : SA P w0 s (σ.set b ⟨cells, ty, size, true⟩) K Kp) : SA P w0 s σ K Kp := fun w hI => by
 rw [← Hp.set_same hb] at hI
 exact h w (hI.less (ty := 0) (size := 0) (List.prefix_append cells rest) rfl)
theorem zbE.appended {ty sz k m : Nat} {σ : Hp} {v : Value} {cells ys : List Value} (h : zbE ty sz σ v k cells) (hy : ys.length = m * sz) : (cells ++ ys).length = (k + m) * sz := by
 rw [List.length_append, h.1, hy, Nat.add_mul]
theorem SA.app_core {t tx ty el sz bytes k m : Nat} {z : Value} {s x : Value} {cells ys : List Value} {d : TypeDesc} (ht : zbh P t = some el) (hx : P.underlying tx = some d) (hxi : ∀ q, d ≠ .int q) (hn : zV P el = some sz) (hb : zcH P el = some bytes) (hz : zbj P el = some z) (hzs : z.cells.size = sz)
  (hs0 : 0 < sz) (hb0 : 0 < bytes) (hO : zbE el sz σ s k cells) (hlen : ∀ (K : Nat → Hp → Prop), K m σ → SA P w0 (Builtin.lenOf x) σ K Kp) (hcells : ∀ (K : Array Value → Hp → Prop), K ys.toArray σ → SA P w0 (Builtin.firstCells sz m x) σ K Kp) (hy : ys.length = m * sz) (h1 : ys.all one = true) (hlim : (k + m) * bytes ≤ 140737488355328)
  (hK : ∀ v' σ', Grow σ s σ' v' → zck el sz σ' v' (k + m) (cells ++ ys) → K v' σ') : SA P w0 (Builtin.append_ #[t, tx] ty #[s, x]) σ K Kp := by
 obtain ⟨i, hi, rfl⟩ := Option.map_eq_some_iff.1 hb
 obtain ⟨A, c, rfl, hkc, hcl, hcc⟩ := hO.rd
 unfold Builtin.append_
 simp only [List.getElem?_toArray, List.getElem?_cons_zero, List.getElem?_cons_succ]
 refine SA.bind (SA.underlying (zbL ht) ?_)
 dsimp only
 refine SA.bind (SA.sizeOf hn ?_)
 refine SA.bind (SA.underlying hx ?_)
 refine SA.pureBind (v' := false) (by cases d <;> first | rfl | exact absurd rfl (hxi _)) ?_
 simp only [Bool.false_eq_true, if_false]
 refine SA.bind (hlen _ ?_)
 simp only [Bool.not_false, if_true]
 by_cases hfit : k + m ≤ c
 ·rw [if_pos hfit]
  refine SA.bind (hcells _ ?_)
  rcases hO.2 with ⟨hv, rfl⟩ | ⟨b, cap, rest, hv, hkcap, hcap, hrow⟩
  ·injection hv with hA _ hc0
   subst hA
   refine SA.pure ?_
   have hm : m = 0 := by omega
   subst hm
   have : ys = [] := List.eq_nil_of_length_eq_zero (by simpa using hy)
   subst this
   subst hc0
   exact hK _ _ (Grow.refl _ _) ⟨by simpa using hO.1, .inl ⟨rfl, rfl⟩⟩
  ·injection hv with hA _ hc0
   subst hA; subst hc0
   have hO1 := hO.1
   refine SA.trim hrow (SA.bind (SA.storeCells _ 0 _ (by simpa using h1) (σ' := σ.set b ⟨cells ++ ys, el, c * sz, true⟩) ?_ (SA.pure ?_)))
   ·rw [zbl]
    have := zgo el ys σ b cells (c * sz) 0 (0 + k * sz) (by omega) (by rw [hO1, hy, ← Nat.add_mul]; exact Nat.mul_le_mul_right _ hfit)
    simpa using this
   ·exact hK _ _ (Grow.longer (a := ⟨b, 0, none⟩)) ⟨hO.appended hy, .inr ⟨b, c, rfl, hfit, hcap, Hp.set_eq _ _ _⟩⟩
 ·rw [if_neg hfit]
  refine SA.bind (SA.typeInfo hi ?_)
  have hbz : (0 : Nat) < k + m := by omega
  rw [if_neg (fun h => by rcases h.2 with h2 | h2 <;> first | cases h2 | omega)]
  refine SA.bind (SA.typeInfo hi ?_)
  rw [if_neg (by
   have := growslice_fits (old := c) (bytes := i.bytes) (show c < k + m from by omega) hlim
   omega)]
  refine SA.bind (SA.choose_ ?_ (fun h => by cases h))
  intro tp
  have hneed : (k + m : Nat) ≤ 140737488355328 := Nat.le_trans (Nat.le_mul_of_pos_right _ hb0) hlim
  obtain ⟨nc, hnc⟩ : ∃ nc, Question.cut (.appendCap (k + m) c el) tp = nc := ⟨_, rfl⟩
  rw [hnc]
  have hnc1 : k + m ≤ nc := by rw [← hnc]; exact Nat.le_add_right _ _
  have hnc2 : nc ≤ maxLen := by
   rw [← hnc]
   show k + m + tp % (2 ^ 63 - (k + m)) ≤ 2 ^ 63 - 1
   have := Nat.mod_lt tp (show 0 < 2 ^ 63 - (k + m) from by omega)
   omega
  refine SA.bind (SA.typeInfo hi (SA.bind (SA.askRoom_ ?_)))
  refine SA.bind (SA.first hO.rd (SA.bind (hcells _ (SA.bind (SA.zeroValue hz ?_)))))
  unfold newRow
  refine SA.bind (SA.bind (SA.newPre (cells := cells ++ ys) (by simp) fun b hb1 hb2 => SA.pure (SA.pure (hK _ _ (Grow.fresh hb1 (by omega)) ?_))))
  have hsize : (cells.toArray ++ ys.toArray ++ Builtin.zeroCells z.cells (nc - (k + m))).size = nc * sz := by
   have h1 := hO.appended hy
   simp only [Array.size_append, List.size_toArray, zhT, hzs]
   rw [List.length_append] at h1
   rw [h1, ← Nat.add_mul]
   congr 1
   omega
  rw [hsize]
  exact ⟨hO.appended hy, .inr ⟨b, nc, rfl, hnc1, hnc2, Hp.set_eq _ _ _⟩⟩
theorem SA.app_ {t ty el sz bytes k m : Nat} {z : Value} {s x : Value} {cells ys : List Value} (ht : zbh P t = some el) (hn : zV P el = some sz) (hb : zcH P el = some bytes) (hz : zbj P el = some z) (hzs : z.cells.size = sz)
  (hs0 : 0 < sz) (hb0 : 0 < bytes) (hO : zbE el sz σ s k cells) (hR : Rd σ x sz m ys) (h1 : ys.all one = true) (hlim : (k + m) * bytes ≤ 140737488355328)
  (hK : ∀ v' σ', Grow σ s σ' v' → zck el sz σ' v' (k + m) (cells ++ ys) → K v' σ') : SA P w0 (Builtin.append_ #[t, t] ty #[s, x]) σ K Kp := by
 refine SA.app_core ht (zbL ht) (fun q h => by cases h) hn hb hz hzs hs0 hb0 hO ?_ (fun K h => SA.first hR h) ?_ h1 hlim hK
 ·obtain ⟨A, c, rfl, _⟩ := hR
  intro K h
  exact SA.pure h
 ·obtain ⟨A, c, rfl, _, hl, _⟩ := hR
  exact hl
theorem SA.apps_ {t tx ty el bytes k : Nat} {z : Value} {s : Value} {q : ByteArray} {cells : List Value} (ht : zbh P t = some el) (htx : zcu P tx = true) (hn : zV P el = some 1) (hb : zcH P el = some bytes) (hz : zbj P el = some z) (hzs : z.cells.size = 1)
  (hb0 : 0 < bytes) (hO : zbE el 1 σ s k cells) (hlim : (k + q.size) * bytes ≤ 140737488355328)
  (hK : ∀ v' σ', Grow σ s σ' v' → zck el 1 σ' v' (k + q.size) (cells ++ q.data.toList.map fun b => .int .u8 b.toNat) → K v' σ') : SA P w0 (Builtin.append_ #[t, tx] ty #[s, .string q]) σ K Kp := by
 refine SA.app_core (m := q.size) ht (ze3 htx) (fun q h => by cases h) hn hb hz hzs (by omega) hb0 hO (fun K h => SA.pure h) ?_ ?_ ?_ hlim hK
 ·intro K h
  unfold Builtin.firstCells
  refine SA.pure ?_
  have : ((q.extract 0 q.size).data.map fun b => Value.int .u8 b.toNat) = (q.data.toList.map fun b => Value.int .u8 b.toNat).toArray := by
   apply Array.ext'
   simp [ByteArray.extract_zero_size]
  rw [this]
  exact h
 ·simp
 ·rw [List.all_eq_true]
  intro v hv
  obtain ⟨b, _, rfl⟩ := List.mem_map.1 hv
  rfl
theorem SA.appz_ {t tx ty el sz bytes k m : Nat} {z : Value} {s : Value} {cells : List Value} {kq q : IntKind} (ht : zbh P t = some el) (hx : P.underlying tx = some (.int kq)) (hn : zV P el = some sz) (hb : zcH P el = some bytes) (hz : zbj P el = some z) (hzs : z.cells.size = sz)
  (hs0 : 0 < sz) (hb0 : 0 < bytes) (hone : z.cells.toList.all one = true) (hO : zbE el sz σ s k cells) (hlim : (k + m) * bytes ≤ 140737488355328)
  (hK : ∀ v' σ', Grow σ s σ' v' → zck el sz σ' v' (k + m) (cells ++ (List.replicate m z.cells.toList).flatten) → K v' σ') : SA P w0 (Builtin.append_ #[t, tx] ty #[s, .int q (m : Int)]) σ K Kp := by
 obtain ⟨i, hi, rfl⟩ := Option.map_eq_some_iff.1 hb
 obtain ⟨A, c, rfl, hkc, hcl, hcc⟩ := hO.rd
 have hmb : m * i.bytes ≤ 140737488355328 := Nat.le_trans (Nat.mul_le_mul_right _ (Nat.le_add_left m k)) hlim
 have hm : m ≤ 140737488355328 := Nat.le_trans (Nat.le_mul_of_pos_right _ hb0) hmb
 have hw : IntKind.i64.wrap (m : Int) = m := by
  have h1 : (m : Int) % 18446744073709551616 = m := Int.emod_eq_of_lt (by omega) (by omega)
  show (if (true && decide ((m : Int) % 18446744073709551616 ≥ 9223372036854775808)) = true then (m : Int) % 18446744073709551616 - 18446744073709551616 else (m : Int) % 18446744073709551616) = _
  rw [h1, if_neg (by simp; omega)]
 have hylen : (List.replicate m z.cells.toList).flatten.length = m * sz := by simp [hzs]
 have hcells : ∀ (K : Array Value → Hp → Prop), K (List.replicate m z.cells.toList).flatten.toArray σ → SA P w0 (if m * sz = 0 then (Pure.pure #[] : Sem (Array Value)) else (do Pure.pure (Builtin.zeroCells (← Go.zeroValue el).cells m))) σ K Kp := fun K h => by
  split
  ·rename_i h0
   have : (List.replicate m z.cells.toList).flatten = [] := List.eq_nil_of_length_eq_zero (by rw [hylen]; exact h0)
   rw [this] at h
   exact SA.pure h
  ·refine SA.bind (SA.zeroValue hz (SA.pure ?_))
   have : Builtin.zeroCells z.cells m = (List.replicate m z.cells.toList).flatten.toArray := by
    apply Array.ext'
    simp only [Builtin.zeroCells]
    have := zfD z.cells m
    simpa using this
   rw [this]
   exact h
 have h1 : (List.replicate m z.cells.toList).flatten.all one = true := by
  rw [List.all_eq_true] at hone ⊢
  intro v hv
  obtain ⟨l, hl, hv⟩ := List.mem_flatten.1 hv
  rw [List.eq_of_mem_replicate hl] at hv
  exact hone v hv
 unfold Builtin.append_
 simp only [List.getElem?_toArray, List.getElem?_cons_zero, List.getElem?_cons_succ]
 refine SA.bind (SA.underlying (zbL ht) ?_)
 dsimp only
 refine SA.bind (SA.sizeOf hn ?_)
 refine SA.bind (SA.underlying hx ?_)
 refine SA.pureBind (v' := true) rfl ?_
 simp only [if_true]
 refine SA.bind (SA.asInt ?_)
 rw [hw, if_neg (by omega)]
 refine SA.bind (SA.typeInfo hi ?_)
 have hmb' : (m : Int) * (i.bytes : Int) ≤ 140737488355328 := by rw [← Int.natCast_mul]; omega
 rw [if_neg (by omega)]
 refine SA.bind (SA.pure ?_)
 rw [Int.toNat_natCast]
 generalize hY : (List.replicate m z.cells.toList).flatten = ys at *
 simp only [Bool.not_true, Bool.false_eq_true, if_false]
 by_cases hfit : k + m ≤ c
 ·rw [if_pos hfit]
  refine SA.bind (hcells _ ?_)
  rcases hO.2 with ⟨hv, rfl⟩ | ⟨b, cap, rest, hv, hkcap, hcap, hrow⟩
  ·injection hv with hA _ hc0
   subst hA
   refine SA.pure ?_
   have hm : m = 0 := by omega
   subst hm
   have : ys = [] := List.eq_nil_of_length_eq_zero (by simpa using hylen)
   subst this
   subst hc0
   exact hK _ _ (Grow.refl _ _) ⟨by simpa using hO.1, .inl ⟨rfl, rfl⟩⟩
  ·injection hv with hA _ hc0
   subst hA; subst hc0
   have hO1 := hO.1
   refine SA.trim hrow (SA.bind (SA.storeCells _ 0 _ (by simpa using h1) (σ' := σ.set b ⟨cells ++ ys, el, c * sz, true⟩) ?_ (SA.pure ?_)))
   ·rw [zbl]
    have := zgo el ys σ b cells (c * sz) 0 (0 + k * sz) (by omega) (by rw [hO1, hylen, ← Nat.add_mul]; exact Nat.mul_le_mul_right _ hfit)
    simpa using this
   ·exact hK _ _ (Grow.longer (a := ⟨b, 0, none⟩)) ⟨hO.appended hylen, .inr ⟨b, c, rfl, hfit, hcap, Hp.set_eq _ _ _⟩⟩
 ·rw [if_neg hfit]
  refine SA.bind (SA.typeInfo hi ?_)
  have hneed : (k + m : Nat) ≤ 140737488355328 := Nat.le_trans (Nat.le_mul_of_pos_right _ hb0) hlim
  rw [if_neg (fun h => by
   have h1 := h.1
   have : IntKind.i64.max = 9223372036854775807 := rfl
   omega)]
  refine SA.bind (SA.typeInfo hi ?_)
  rw [if_neg (by
   have := growslice_fits (old := c) (bytes := i.bytes) (show c < k + m from by omega) hlim
   omega)]
  refine SA.bind (SA.choose_ ?_ (fun h => by cases h))
  intro tp
  obtain ⟨nc, hnc⟩ : ∃ nc, Question.cut (.appendCap (k + m) c el) tp = nc := ⟨_, rfl⟩
  rw [hnc]
  have hnc1 : k + m ≤ nc := by rw [← hnc]; exact Nat.le_add_right _ _
  have hnc2 : nc ≤ maxLen := by
   rw [← hnc]
   show k + m + tp % (2 ^ 63 - (k + m)) ≤ 2 ^ 63 - 1
   have := Nat.mod_lt tp (show 0 < 2 ^ 63 - (k + m) from by omega)
   omega
  refine SA.bind (SA.typeInfo hi (SA.bind (SA.askRoom_ ?_)))
  refine SA.bind (SA.first hO.rd (SA.bind (hcells _ (SA.bind (SA.zeroValue hz ?_)))))
  unfold newRow
  refine SA.bind (SA.bind (SA.newPre (cells := cells ++ ys) (by simp) fun b hb1 hb2 => SA.pure (SA.pure (hK _ _ (Grow.fresh hb1 (by omega)) ?_))))
  have hsize : (cells.toArray ++ ys.toArray ++ Builtin.zeroCells z.cells (nc - (k + m))).size = nc * sz := by
   have h1 := hO.appended hylen
   simp only [Array.size_append, List.size_toArray, zhT, hzs]
   rw [List.length_append] at h1
   rw [h1, ← Nat.add_mul]
   congr 1
   omega
  rw [hsize]
  exact ⟨hO.appended hylen, .inr ⟨b, nc, rfl, hnc1, hnc2, Hp.set_eq _ _ _⟩⟩
theorem SA.copy_ {t tx ty el sz dn dc sn : Nat} {a : Addr} {s : Value} {ys : List Value} {σ' : Hp} (ht : zbh P t = some el) (hn : zV P el = some sz) (hR : Rd σ s sz sn ys) (h1 : ys.all one = true)
  (hp : puts σ a 0 (ys.take (Nat.min sn dn * sz)) = some σ') (hK : K (.int .i64 (Nat.min sn dn : Nat)) σ') : SA P w0 (Builtin.copy_ #[t, tx] ty #[.slice (some a) dn dc, s]) σ K Kp := by
 obtain ⟨A, c, rfl, hle, hl, hc⟩ := hR
 unfold Builtin.copy_
 simp only [List.getElem?_toArray, List.getElem?_cons_zero, List.getElem?_cons_succ]
 refine SA.bind (SA.underlying (zbL ht) ?_)
 dsimp only
 refine SA.bind (SA.pure ?_)
 refine SA.bind (SA.sizeOf hn (SA.bind ?_))
 have hR' : Rd σ (.slice A (Nat.min sn dn) c) sz (Nat.min sn dn) (ys.take (Nat.min sn dn * sz)) := by
  refine ⟨A, c, rfl, Nat.le_trans (Nat.min_le_left _ _) hle, ?_, fun j u hu => ?_⟩
  ·rw [List.length_take, hl]
   exact Nat.min_eq_left (Nat.mul_le_mul_right _ (Nat.min_le_left _ _))
  ·rw [List.getElem?_take] at hu
   split at hu
   ·exact hc j u hu
   ·cases hu
 have hfirst : SA P w0 (Builtin.firstCells sz (Nat.min sn dn) (.slice A sn c)) σ (fun x σ'' => x = (ys.take (Nat.min sn dn * sz)).toArray ∧ σ'' = σ) Kp := by
  have := SA.first (P := P) (w0 := w0) (K := fun x σ'' => x = (ys.take (Nat.min sn dn * sz)).toArray ∧ σ'' = σ) (Kp := Kp) hR' ⟨rfl, rfl⟩
  cases A <;> exact this
 refine hfirst.mono (fun x σ'' hx => ?_) (fun _ _ h => h)
 obtain ⟨rfl, rfl⟩ := hx
 refine SA.bind (SA.storeCells _ 0 _ ?_ hp (SA.pure hK))
 rw [List.all_eq_true] at h1 ⊢
 intro v hv
 exact h1 v (List.mem_of_mem_take hv)
theorem SA.minmax2 {k : IntKind} {a b : Int} {q : IntKind} (mx : Bool) (hK : K (.int k (if mx then (if b > a then b else a) else (if b < a then b else a))) σ) : SA P w0 ((if mx then Builtin.max2 else Builtin.min2) (.int k a) (.int q b)) σ K Kp := by
 cases mx <;> exact SA.pure hK
theorem SA.foldmm (mx : Bool) {k : IntKind} : ∀ (xs : List Value) (a r : Int), minmaxv mx k a xs = some r → K (.int k r) σ → SA P w0 (xs.foldlM (if mx then Builtin.max2 else Builtin.min2) (.int k a)) σ K Kp
 | [], a, r, h, hK => by
  simp only [minmaxv, Option.some.injEq] at h
  subst h
  exact SA.pure hK
 | x :: xs, a, r, h, hK => by
  cases x <;> simp only [minmaxv, reduceCtorEq] at h
  rw [List.foldlM_cons]
  exact SA.bind (SA.minmax2 mx (SA.foldmm mx xs _ r h hK))
end
def req (b : Bool) : Option Unit := if b then some () else none
theorem zby {b : Bool} {α : Type} {f : Unit → α} {r : α} (h : (req b).map f = some r) : b = true ∧ f () = r := by
 unfold req at h
 split at h
 ·rename_i hb; exact ⟨hb, by simpa using h⟩
 ·cases h
theorem zeJ {b : Bool} {α : Type} {f : Unit → Option α} {r : α} (h : (req b).bind f = some r) : b = true ∧ f () = some r := by
 unfold req at h
 split at h
 ·rename_i hb; exact ⟨hb, h⟩
 ·cases h
def zfb (P : Program) (fs : Array Field) (parts : List (Nat × Operand)) : Option (List (Nat × Nat × Opd)) :=
 parts.mapM fun p => (fs[p.1]?).bind fun f => (zV P f.type).map fun n => (f.offset, n, zl p.2)
def zen (n : Nat) (parts : List (Nat × Operand)) : List (Nat × Nat × Opd) := parts.map fun p => (p.1 * n, n, zl p.2)
def zgw (P : Program) (t : TypeId) (parts : Array (Nat × Operand)) : Option AOp := match P.underlying t with
 | some (.struct fs) => (zbj P t).bind fun z => (fs.toList.mapM (fun f => (zV P f.type).map fun n => (f.offset, n))).bind fun _ => (zfb P fs parts.toList).map fun ps => .build z.cells.toList ps
 | some (.array _ e) => (zbj P t).bind fun z => (zV P e).map fun n => .build z.cells.toList (zen n parts.toList)
 | _ => none
def zi1 (P : Program) (t : TypeId) (len : Nat) (parts : Array (Nat × Operand)) : Option AOp :=
 (zbh P t).bind fun e => (zV P e).bind fun n => (zbj P e).bind fun z => (req (z.cells.size == n && decide (len * n ≤ 16777216))).bind fun _ =>
   some (.bslice e len (List.replicate len z.cells.toList).flatten (zen n parts.toList))
def zcT : Operand → Bool
 | .const (.slice none n c) => n == 0 && c == 0
 | _ => false
theorem zjX {x : Operand} (h : zcT x = true) : x = .const (.slice none 0 0) := by
 cases x with
 | const v => cases v with
  | slice a n c => cases a with
   | none => simp [zcT] at h; rw [h.1, h.2]
   | some a => simp [zcT] at h
  | _ => simp [zcT] at h
 | _ => simp [zcT] at h
def zdS : Operand → Bool
 | .const (.pointer none) => true
 | _ => false
theorem zju {x : Operand} (h : zdS x = true) : x = .const (.pointer none) := by
 cases x with
 | const v => cases v with
  | pointer a => cases a with
   | none => rfl
   | some a => simp [zdS] at h
  | _ => simp [zdS] at h
 | _ => simp [zdS] at h
def zes : Operand → Bool
 | .const .nilIface => true
 | _ => false
theorem ziJ {x : Operand} (h : zes x = true) : x = .const .nilIface := by
 cases x with
 | const v => cases v with
  | nilIface => rfl
  | _ => simp [zes] at h
 | _ => simp [zes] at h
inductive BK where | num | bool | slc | ptr | ifc | no
def bk (P : Program) (t : TypeId) : BK := match P.underlying t with
 | some (.int _) => .num
 | some .string => .num
 | some .bool => .bool
 | some (.slice _) => .slc
 | some (.pointer _) => .ptr
 | some (.interface _) => .ifc
 | _ => .no
def zbP : BinOp → Option Bool
 | .eql => some false
 | .neq => some true
 | _ => none
def scK (P : Program) (t : TypeId) : Option Nat := match P.underlying t with
 | some (.int _) => some 0
 | some .bool => some 1
 | some .string => some 2
 | _ => none
def zez (P : Program) : List Field → Nat → Option (List Nat)
 | [], _ => some []
 | f :: fs, i => (req (f.name != "_" && f.offset == i)).bind fun _ => (scK P f.type).bind fun k => (zez P fs (i + 1)).map fun ks => k :: ks
def zdB (P : Program) : List Field → Nat → Option (List Nat)
 | [], _ => some []
 | f :: fs, i => (req (f.name != "_" && f.offset == i)).bind fun _ => match scK P f.type with
  | some k => (zdB P fs (i + 1)).map fun ks => k :: ks
  | none => match P.underlying f.type with
   | some (.struct gs) => (req (!P.stoodInHeld f.type)).bind fun _ => (zez P gs.toList 0).bind fun ks => (req (zV P f.type == some ks.length)).bind fun _ => (zdB P fs (i + ks.length)).map fun rs => ks ++ rs
   | _ => none
def zdv (P : Program) (t : TypeId) : Option (List Nat) := match P.underlying t with
 | some (.struct fs) => (req (!P.stoodInHeld t && !P.eqGuardType P.depth t)).bind fun _ => zdB P fs.toList 0
 | _ => none
def zge (P : Program) (op : BinOp) (t : TypeId) (x y : Operand) : Option AOp := match bk P t with
 | .num => some (.bin op (zl x) (zl y))
 | .bool => (zbP op).map fun n => .beq n (zl x) (zl y)
 | .slc => (zbP op).bind fun n => (req (zcT y)).map fun _ => .snil n (zl x)
 | .ptr => (zbP op).bind fun n => (req (zdS y)).map fun _ => .pnil n (zl x)
 | .ifc => (zbP op).bind fun n => (req (zes y)).map fun _ => .inil n (zl x)
 | .no => (zdv P t).bind fun k => (zbP op).map fun n => .aeq n k (zl x) (zl y)
def zgf (P : Program) (s d : TypeId) (x : Operand) : Option AOp := match P.underlying s, P.underlying d with
 | some (.int _), some (.int k) => some (.cint k (zl x))
 | some (.slice e), some .string => (zbK P e).bind fun k => (req (k == .u8)).map fun _ => .tostr (zl x)
 | some .string, some (.slice e) => (zbK P e).bind fun k => (req (k == .u8)).map fun _ => .tobytes e (zl x)
 | _, _ => none
def ziF (P : Program) (t : TypeId) (l c : Operand) : Option AOp := (zbh P t).bind fun e => (zV P e).bind fun n => (zcH P e).bind fun b => (zbj P e).bind fun z => (req (z.cells.size == n)).map fun _ => .mkslice e n b z.cells.toList (zl l) (zl c)
def ziQ (P : Program) (t : TypeId) (x : Operand) (lo hi mx : Option Operand) : Option AOp := (req (mx.isNone || hi.isSome)).bind fun _ => match P.underlying t with
 | some .string => (req mx.isNone).map fun _ => .slcS (zl x) (lo.map zl) (hi.map zl)
 | some (.slice e) => (zV P e).map fun n => .slc n (zl x) (lo.map zl) (hi.map zl) (mx.map zl)
 | some (.array len e) => (zV P e).map fun n => .slcA len n (zl x) (lo.map zl) (hi.map zl) (mx.map zl)
 | _ => none
def zgh (P : Program) (t : TypeId) (x i : Operand) : Option AOp := match P.underlying t with
 | some (.slice e) => (zV P e).map fun n => .idx n (zl x) (zl i)
 | some (.array len e) => (zV P e).map fun n => .aaddr len n (zl x) (zl i)
 | _ => none
def zfG (P : Program) (t : TypeId) (x i : Operand) : Option AOp := match P.underlying t with
 | some .string => some (.sidx (zl x) (zl i))
 | some (.array len e) => (zbS P e).bind fun g => (zV P e).map fun n => .aidx g len n (zl x) (zl i)
 | _ => none
def zh5 (P : Program) (t : TypeId) (x : Operand) : Option AOp := match P.underlying t with
 | some .string => some (.lenS (zl x))
 | some (.slice _) => some (.lenL (zl x))
 | some (.array n _) => some (.lenA n)
 | _ => none
def ziH (P : Program) (t u : TypeId) (s x : Operand) : Option AOp := (zbh P t).bind fun e => (zV P e).bind fun n => (zcH P e).bind fun b => (zbj P e).bind fun z => (req (z.cells.size == n && decide (0 < n) && decide (0 < b))).bind fun _ =>
 if t = u then some (.app e n b (zl s) (zl x)) else if zcu P u then (req (n == 1)).map fun _ => .apps e b (zl s) (zl x) else (zbK P u).map fun _ => .appz e n b z.cells.toList (zl s) (zl x)
def zfx (P : Program) (b : Builtin) (x : Operand) (t : TypeId) : Option AOp := match b with
 | .len => zh5 P t x
 | .cap => (zbh P t).map fun _ => .capL (zl x)
 | .panic => some (.pan (zl x))
 | .max => (zbK P t).map fun _ => .minmax true (zl x) []
 | .min => (zbK P t).map fun _ => .minmax false (zl x) []
 | _ => none
def zfz (P : Program) (b : Builtin) (x y : Operand) (t u : TypeId) : Option AOp := match b with
 | .append => ziH P t u x y
 | .copy => (zbh P t).bind fun e => (zbh P u).bind fun _ => (zV P e).map fun n => .copy n (zl x) (zl y)
 | .max => (zbK P t).map fun _ => .minmax true (zl x) [zl y]
 | .min => (zbK P t).map fun _ => .minmax false (zl x) [zl y]
 | _ => none
def zgt (P : Program) (b : Builtin) (x y z : Operand) (t : TypeId) : Option AOp := match b with
 | .max => (zbK P t).map fun _ => .minmax true (zl x) [zl y, zl z]
 | .min => (zbK P t).map fun _ => .minmax false (zl x) [zl y, zl z]
 | _ => none
def zfw (P : Program) (c : Call) : Option AOp := match c.callee with
 | .value (.func f) => (req (okF P f)).map fun _ => .call f (c.args.toList.map zl)
 | .value x => some (.callv (zl x) (c.args.toList.map zl))
 | .invoke x m => some (.inv (zl x) m (c.args.toList.map zl))
 | .builtin b => match c.args.toList, c.argTypes.toList with
  | [x], [t] => zfx P b x t
  | [x, y], [t, u] => zfz P b x y t u
  | [x, y, z], [t, _, _] => zgt P b x y z t
  | _, _ => none
def zdN (P : Program) : Op → Option AOp
 | .move x => some (.mv (zl x))
 | .assign x => some (.mv (zl x))
 | .pick c a b => some (.pick (zl c) (zl a) (zl b))
 | .alloc t => (zbj P t).map fun z => .alloc t z.cells.toList
 | .box t x => some (.box t (zl x))
 | .build t parts => zgw P t parts
 | .buildSlice t len parts => zi1 P t len parts
 | .load t x => (zbS P t).bind fun g => (zV P t).map fun n => .load g n (zl x)
 | .store t x y => (zV P t).map fun n => .store n (zl x) (zl y)
 | .nilCheck x => some (.nilchk (zl x))
 | .binOp op t x y _ => zge P op t x y
 | .unOp op _ x => some (.un op (zl x))
 | .convert s d x => zgf P s d x
 | .makeInterface t x => (req (!zcj P t)).map fun _ => .mkif t (zl x)
 | .makeFunc fn first cap => some (.mkfn fn (first.toList.map zl) (cap.toList.map zl))
 | .makeSlice t l c => ziF P t l c
 | .slice t x lo hi mx => ziQ P t x lo hi mx
 | .fieldAddr t x i => (zcc P t).bind fun fs => (fs[i]?).bind fun f => (zV P f.type).bind fun n => (req (n != 0)).map fun _ => .faddr f.offset (zl x)
 | .field t x i => (zcc P t).bind fun fs => (fs[i]?).bind fun f => (zbS P f.type).bind fun g => (zV P f.type).map fun n => .field g f.offset n (zl x)
 | .indexAddr t x i => zgh P t x i
 | .index t x i => zfG P t x i
 | .extract x i => some (.ext i (zl x))
 | .typeAssert x _ t true => (P.underlying t).bind fun _ => (req (!zcj P t)).bind fun _ => (zbj P t).map fun z => .tas t z (zl x)
 | .panic x => some (.pan (zl x))
 | .call c => zfw P c
 | _ => none
section
variable {P : Program} {w0 : Base} {σ : Hp}
theorem SA.eqBool {t : TypeId} {a b : Bool} {K : Bool → Hp → Prop} {Kp : Value → Hp → Prop} (ht : P.underlying t = some .bool) (hK : K (a == b) σ) : SA P w0 (Op.equal t (.bool a) (.bool b)) σ K Kp := by
 show SA P w0 (Op.equalIn (9999 + 1) t (.bool a) (.bool b)) σ K Kp
 unfold Op.equalIn
 refine SA.bind (SA.underlying ht ?_)
 exact SA.pure hK
theorem zeY {t : TypeId} {k : Nat} {w : World} (hs : scK P t = some k) {xs : Array Value} {off : Nat} {v : Value} (hx : xs[off]? = some v) : (part t xs off).run P w = .ok v w := by
 unfold scK at hs
 cases hu : P.underlying t with
 | none => simp [hu] at hs
 | some d => cases d <;> simp [hu] at hs <;> simp [part, isAgg, run_underlying hu, hx]
theorem zhv {t : TypeId} {k : Nat} {w : World} {d : Nat} (hs : scK P t = some k) {x y : Value} {b : Bool} (hb : eqV k x y = some b) : (Op.equalIn (d + 1) t x y).run P w = .ok b w := by
 unfold scK at hs
 cases hu : P.underlying t with
 | none => simp [hu] at hs
 | some u =>
  cases u <;> simp [hu] at hs <;> subst hs <;> cases x <;> cases y <;> simp only [eqV, reduceCtorEq, Option.some.injEq, Option.ite_none_right_eq_some] at hb <;> simp [Op.equalIn, run_underlying hu, beq_toListBytes, hb]
theorem ziK {w : World} {d : Nat} {xs ys : Array Value} : ∀ (fs : List Field) (i : Nat) (ks : List Nat) (b : Bool), zez P fs i = some ks → zbc ks (xs.toList.drop i) (ys.toList.drop i) = some b → (Op.eqFields (d + 1) xs ys fs).run P w = .ok b w := by
 intro fs
 induction fs with
 | nil =>
  intro i ks b hf h
  injection hf with hf
  subst hf
  cases h1 : xs.toList.drop i <;> cases h2 : ys.toList.drop i <;> simp [h1, h2, zbc] at h
  subst h
  rfl
 | cons f fs ih =>
  intro i ks b hf h
  simp only [zez] at hf
  obtain ⟨_, hq, hf⟩ := Option.bind_eq_some_iff.1 hf
  obtain ⟨k, hs, hf⟩ := Option.bind_eq_some_iff.1 hf
  obtain ⟨kr, hr, rfl⟩ := Option.map_eq_some_iff.1 hf
  have hq : (f.name != "_" && f.offset == i) = true := by
   unfold req at hq
   split at hq
   ·assumption
   ·cases hq
  simp only [Bool.and_eq_true, bne_iff_ne, ne_eq, beq_iff_eq] at hq
  obtain ⟨hn, ho⟩ := hq
  cases h1 : xs.toList.drop i with
  | nil => simp [h1, zbc] at h
  | cons x xr => cases h2 : ys.toList.drop i with
   | nil => simp [h1, h2, zbc] at h
   | cons y yr =>
    rw [h1, h2] at h
    simp only [zbc] at h
    obtain ⟨a, ha, h⟩ := Option.bind_eq_some_iff.1 h
    obtain ⟨c, hc, rfl⟩ := Option.map_eq_some_iff.1 h
    have hx : xs[f.offset]? = some x := by
     have := congrArg (·[0]?) h1
     simp only [List.getElem?_drop, Nat.add_zero, List.getElem?_cons_zero] at this
     rw [ho, ← Array.getElem?_toList]; exact this
    have hy : ys[f.offset]? = some y := by
     have := congrArg (·[0]?) h2
     simp only [List.getElem?_drop, Nat.add_zero, List.getElem?_cons_zero] at this
     rw [ho, ← Array.getElem?_toList]; exact this
    have e1 : xs.toList.drop (i + 1) = xr := by rw [← List.tail_drop, h1]; rfl
    have e2 : ys.toList.drop (i + 1) = yr := by rw [← List.tail_drop, h2]; rfl
    have hrec := ih (i + 1) kr c hr (by rw [e1, e2]; exact hc)
    simp only [Op.eqFields, ne_eq, hn, not_false_eq_true, if_true, Sem.run_bind, zeY hs hx, zeY hs hy, Result.andThen_ok, zhv hs ha]
    cases a
    ·simp
    ·simpa using hrec
theorem zhy : ∀ (ks rs : List Nat) (xs ys : List Value) (b : Bool), zbc (ks ++ rs) xs ys = some b → ∃ c d, zbc ks (xs.take ks.length) (ys.take ks.length) = some c ∧ zbc rs (xs.drop ks.length) (ys.drop ks.length) = some d ∧ b = (c && d)
 | [], rs, xs, ys, b, h => ⟨true, b, by simp [zbc], by simpa using h, by simp⟩
 | k :: ks, rs, [], ys, b, h => by simp [zbc] at h
 | k :: ks, rs, x :: xs, [], b, h => by simp [zbc] at h
 | k :: ks, rs, x :: xs, y :: ys, b, h => by
  simp only [List.cons_append, zbc] at h
  obtain ⟨a, ha, h⟩ := Option.bind_eq_some_iff.1 h
  obtain ⟨q, hq, rfl⟩ := Option.map_eq_some_iff.1 h
  obtain ⟨c, d, h1, h2, rfl⟩ := zhy ks rs xs ys q hq
  refine ⟨a && c, d, ?_, by simpa using h2, by cases a <;> simp⟩
  simp only [List.length_cons, List.take_succ_cons, zbc, ha, h1, Option.bind_some, Option.map_some]
theorem ziE {w : World} {d : Nat} {xs ys : Array Value} : ∀ (fs : List Field) (i : Nat) (ks : List Nat) (b : Bool), zdB P fs i = some ks → zbc ks (xs.toList.drop i) (ys.toList.drop i) = some b → (Op.eqFields (d + 3) xs ys fs).run P w = .ok b w := by
 intro fs
 induction fs with
 | nil =>
  intro i ks b hf h
  injection hf with hf
  subst hf
  cases h1 : xs.toList.drop i <;> cases h2 : ys.toList.drop i <;> simp [h1, h2, zbc] at h
  subst h
  rfl
 | cons f fs ih =>
  intro i ks b hf h
  simp only [zdB] at hf
  obtain ⟨_, hq, hf⟩ := Option.bind_eq_some_iff.1 hf
  have hq : (f.name != "_" && f.offset == i) = true := by
   unfold req at hq
   split at hq
   ·assumption
   ·cases hq
  simp only [Bool.and_eq_true, bne_iff_ne, ne_eq, beq_iff_eq] at hq
  obtain ⟨hn, ho⟩ := hq
  split at hf
  ·rename_i k hs
   obtain ⟨kr, hr, rfl⟩ := Option.map_eq_some_iff.1 hf
   cases h1 : xs.toList.drop i with
   | nil => simp [h1, zbc] at h
   | cons x xr => cases h2 : ys.toList.drop i with
    | nil => simp [h1, h2, zbc] at h
    | cons y yr =>
     rw [h1, h2] at h
     simp only [zbc] at h
     obtain ⟨a, ha, h⟩ := Option.bind_eq_some_iff.1 h
     obtain ⟨c, hc, rfl⟩ := Option.map_eq_some_iff.1 h
     have hx : xs[f.offset]? = some x := by
      have := congrArg (·[0]?) h1
      simp only [List.getElem?_drop, Nat.add_zero, List.getElem?_cons_zero] at this
      rw [ho, ← Array.getElem?_toList]; exact this
     have hy : ys[f.offset]? = some y := by
      have := congrArg (·[0]?) h2
      simp only [List.getElem?_drop, Nat.add_zero, List.getElem?_cons_zero] at this
      rw [ho, ← Array.getElem?_toList]; exact this
     have e1 : xs.toList.drop (i + 1) = xr := by rw [← List.tail_drop, h1]; rfl
     have e2 : ys.toList.drop (i + 1) = yr := by rw [← List.tail_drop, h2]; rfl
     have hrec := ih (i + 1) kr c hr (by rw [e1, e2]; exact hc)
     simp only [Op.eqFields, ne_eq, hn, not_false_eq_true, if_true, Sem.run_bind, zeY hs hx, zeY hs hy, Result.andThen_ok, zhv hs ha]
     cases a
     ·simp
     ·simpa using hrec
  ·split at hf
   ·rename_i gs hu
    obtain ⟨_, hp, hf⟩ := Option.bind_eq_some_iff.1 hf
    have hp : (!P.stoodInHeld f.type) = true := by
     unfold req at hp
     split at hp
     ·assumption
     ·cases hp
    simp only [Bool.not_eq_true'] at hp
    obtain ⟨kg, hg, hf⟩ := Option.bind_eq_some_iff.1 hf
    obtain ⟨_, hz, hf⟩ := Option.bind_eq_some_iff.1 hf
    have hz : (zV P f.type == some kg.length) = true := by
     unfold req at hz
     split at hz
     ·assumption
     ·cases hz
    obtain ⟨rs, hr, rfl⟩ := Option.map_eq_some_iff.1 hf
    obtain ⟨c, dd, h1, h2, rfl⟩ := zhy kg rs _ _ b h
    obtain ⟨inf, hi, hsz⟩ := Option.map_eq_some_iff.1 (beq_iff_eq.1 hz)
    have hpart : ∀ cs : Array Value, (part f.type cs f.offset).run P w = .ok (.agg (cs.extract f.offset (f.offset + kg.length))) w := fun cs => by
     have hti : (typeInfo f.type).run P w = .ok inf w := by simp [typeInfo, hi]
     simp [part, isAgg, run_underlying hu, sizeOf, hti, hsz]
    have hfo : P.fieldsOf f.type = gs := by simp [Program.fieldsOf, hu]
    have hin : (Op.equalIn (d + 3) f.type (.agg (xs.extract f.offset (f.offset + kg.length))) (.agg (ys.extract f.offset (f.offset + kg.length)))).run P w = .ok c w := by
     rw [run_equalIn_struct w (d + 2) f.type _ _ (by rw [hfo]; exact hu) hp, hfo]
     refine ziK (d := d + 1) gs.toList 0 kg c hg ?_
     rw [Array.toList_extract, Array.toList_extract, List.drop_zero, List.drop_zero, ho, List.extract_eq_take_drop, List.extract_eq_take_drop, Nat.add_sub_cancel_left]
     exact h1
    rw [List.drop_drop, List.drop_drop] at h2
    have hrec := ih (i + kg.length) rs dd hr h2
    simp only [Op.eqFields, ne_eq, hn, not_false_eq_true, if_true, Sem.run_bind, hpart, Result.andThen_ok, hin]
    cases c
    ·simp
    ·simpa using hrec
   ·cases hf
theorem SA.eqAgg {t : TypeId} {ks : List Nat} {xs ys : Array Value} {b : Bool} {K : Bool → Hp → Prop} {Kp : Value → Hp → Prop} (ht : zdv P t = some ks) (he : zbc ks xs.toList ys.toList = some b) (hK : K b σ) : SA P w0 (Op.equal t (.agg xs) (.agg ys)) σ K Kp := by
 unfold zdv at ht
 split at ht
 ·rename_i fs hu
  obtain ⟨_, hq, hf⟩ := Option.bind_eq_some_iff.1 ht
  have hq : (!P.stoodInHeld t && !P.eqGuardType P.depth t) = true := by
   unfold req at hq
   split at hq
   ·assumption
   ·cases hq
  simp only [Bool.and_eq_true, Bool.not_eq_true'] at hq
  have hfo : P.fieldsOf t = fs := by simp [Program.fieldsOf, hu]
  refine SA.run (fun w => ?_) hK
  show (Op.equalIn (9999 + 1) t (.agg xs) (.agg ys)).run P w = _
  rw [run_equalIn_struct w 9999 t xs ys (by rw [hfo]; exact hu) hq.1, hfo]
  exact ziE (d := 9996) fs.toList 0 ks b hf (by simpa using he)
 ·cases ht
theorem ziw {t : TypeId} {ks : List Nat} (ht : zdv P t = some ks) : P.eqGuardType P.depth t = false := by
 unfold zdv at ht
 split at ht
 ·obtain ⟨_, hq, hf⟩ := Option.bind_eq_some_iff.1 ht
  unfold req at hq
  split at hq
  ·rename_i hq2; simp only [Bool.and_eq_true, Bool.not_eq_true'] at hq2; exact hq2.2
  ·cases hq
 ·cases ht
theorem SA.eqNil {t e : TypeId} {A : Option Addr} {n c : Nat} {K : Bool → Hp → Prop} {Kp : Value → Hp → Prop} (ht : P.underlying t = some (.slice e)) (hK : K A.isNone σ) : SA P w0 (Op.equal t (.slice A n c) (.slice none 0 0)) σ K Kp := by
 show SA P w0 (Op.equalIn (9999 + 1) t (.slice A n c) (.slice none 0 0)) σ K Kp
 unfold Op.equalIn
 refine SA.bind (SA.underlying ht ?_)
 cases A <;> exact SA.pure hK
theorem SA.eqNilP {t e : TypeId} {A : Option Addr} {K : Bool → Hp → Prop} {Kp : Value → Hp → Prop} (ht : P.underlying t = some (.pointer e)) (hK : K A.isNone σ) : SA P w0 (Op.equal t (.pointer A) (.pointer none)) σ K Kp := by
 show SA P w0 (Op.equalIn (9999 + 1) t (.pointer A) (.pointer none)) σ K Kp
 unfold Op.equalIn
 refine SA.bind (SA.underlying ht ?_)
 cases A <;> exact SA.pure hK
theorem SA.eqNilI {t : TypeId} {ms : _} {x : Value} {b : Bool} {K : Bool → Hp → Prop} {Kp : Value → Hp → Prop} (ht : P.underlying t = some (.interface ms)) (hx : ifn x = some b) (hK : K b σ) : SA P w0 (Op.equal t x .nilIface) σ K Kp := by
 show SA P w0 (Op.equalIn (9999 + 1) t x .nilIface) σ K Kp
 unfold Op.equalIn
 refine SA.bind (SA.underlying ht ?_)
 cases x <;> simp only [ifn, Option.some.injEq, reduceCtorEq] at hx <;> subst hx <;> exact SA.pure hK
theorem SA.tas_ {t xt : TypeId} {dsc : TypeDesc} {x z v : Value} {K : Value → Hp → Prop} {Kp : Value → Hp → Prop} (hu : P.underlying t = some dsc) (hi : zcj P t = false) (hz : zbj P t = some z) (hv : tasv t z x = some v) (hK : K v σ) : SA P w0 (Instr.typeAssert x xt t true) σ K Kp := by
 unfold Instr.typeAssert
 refine SA.bind (SA.underlying hu ?_)
 have hn : ∀ ms, dsc ≠ .interface ms := fun ms h => by
  subst h
  unfold zcj at hi
  rw [hu] at hi
  cases hi
 have hzero : ∀ {K' : Value → Hp → Prop}, K' (.tuple #[z, .bool false]) σ → SA P w0 (do Pure.pure (Value.tuple #[← Go.zeroValue t, .bool false]) : Sem Value) σ K' Kp := fun h => SA.bind (SA.zeroValue hz (SA.pure h))
 cases x with
 | nilIface =>
  injection hv with hv
  subst hv
  cases dsc <;> first | exact absurd rfl (hn _) | exact hzero hK
 | iface t' u =>
  injection hv with hv
  by_cases ht : t' = t
  ·rw [if_pos ht] at hv
   subst hv
   cases dsc <;> first | exact absurd rfl (hn _) | (simp only [if_pos ht, if_true]; exact SA.pure hK)
  ·rw [if_neg ht] at hv
   subst hv
   cases dsc <;> first | exact absurd rfl (hn _) | (simp only [if_neg ht]; exact hzero hK)
 | _ => cases hv
theorem SA.run_ {α : Type} {s : Sem α} {r : α} {K : α → Hp → Prop} {Kp : Value → Hp → Prop} (h : ∀ w, s.run P w = .ok r w) (hK : K r σ) : SA P w0 s σ K Kp := fun w hI => by
 rw [h w]
 exact ⟨σ, hI, hK⟩
theorem SA.callFunc_ {f : FuncId} {args : Array Value} {K : Value → Hp → Prop} {Kp : List PanicEntry → Hp → Prop} (hf : okF P f = true) (hK : ACalls P w0 f args σ K Kp) : SAN P w0 (callFunc f args) σ K Kp := by
 unfold callFunc
 refine SA.program ?_
 unfold okF at hf
 cases hp : P.funcs[f]? with
 | none => rw [hp] at hf; cases hf
 | some fn =>
  rw [hp] at hf
  simp only [Bool.and_eq_true, Bool.not_eq_true', beq_eq_false_iff_ne, ne_eq] at hf
  dsimp only
  rw [if_neg (by simpa using hf.2), if_neg (by cases hb : fn.body <;> simp_all)]
  exact SA.pure hK
theorem SA.tobytes_ {el : TypeId} {s : ByteArray} {K : Value → Hp → Prop} {Kp : Value → Hp → Prop} (hK : ∀ (bb n cap : Nat), σ bb = none → s.size ≤ cap → K (.slice (some ⟨bb, 0, none⟩) s.size cap) (σ.set bb ⟨s.data.toList.map fun b => .int .u8 b.toNat, el, n, false⟩)) : SA P w0 (Conv.stringToBytes el s) σ K Kp := by
 unfold Conv.stringToBytes
 refine SA.bind (SA.choose_ (fun tp => ?_) (fun h => by cases h))
 obtain ⟨nc, hnc⟩ : ∃ nc, Question.cut (.appendCap s.size 0 el) tp = nc := ⟨_, rfl⟩
 rw [hnc]
 have hnc1 : s.size ≤ nc := by rw [← hnc]; exact Nat.le_add_right _ _
 dsimp only
 unfold newRow
 refine SA.bind (SA.bind ?_)
 refine SA.mono (K := fun b σ' => σ b = none ∧ σ' = σ.set b ⟨(s.data.map (fun b => Value.int .u8 b.toNat) ++ Array.replicate (nc - s.size) (Value.int .u8 0)).toList, el, (s.data.map (fun b => Value.int .u8 b.toNat) ++ Array.replicate (nc - s.size) (Value.int .u8 0)).size, true⟩)
  (Kp := Kp) (SA.new fun b h1 _ => ⟨h1, rfl⟩) (fun b σ' hb => ?_) (fun _ _ h => h)
 obtain ⟨hb, rfl⟩ := hb
 refine SA.pure (SA.bind ?_)
 intro w hI
 obtain ⟨cs, fr, hw, hsz, hpre, hown⟩ := hI.row b _ (Hp.set_eq _ _ _)
 have hrun : (markStringish ⟨b, 0, none⟩).run P w = .ok () (w.freeze ⟨b, cs.size, none⟩ 1) := by
  unfold markStringish
  rw [run_bind]
  have : (shape b).run P w = .ok (some (el, cs.size)) w := by
   show (Sem.shape b Sem.pure).run P w = _
   simp [Sem.run, World.shape?, hw]
  rw [this]
  rfl
 rw [hrun]
 have hI' : Inv w0 (σ.set b ⟨s.data.toList.map (fun b => Value.int .u8 b.toNat), el, cs.size, false⟩) (w.freeze ⟨b, cs.size, none⟩ 1) := by
  have hbase := (hown rfl).1
  have hne : ∀ k, k ≠ b → (w.freeze ⟨b, cs.size, none⟩ 1).heap[k]? = w.heap[k]? := fun k hk => by
   simp only [World.freeze]
   rw [if_neg (by omega)]
   simp only [Array.getElem?_modify]
   rw [if_neg (by omega)]
  refine ⟨⟨by simp [World.freeze, hI.below.os], by simp [World.freeze, hI.below.tape], by simp [World.freeze, hI.below.output], by simp only [World.freeze]; rw [if_neg (by omega)]; simpa using hI.below.size, fun k hk => by rw [hne k (by omega)]; exact hI.below.block k hk⟩, fun k o ho => ?_, fun k q hq => ?_⟩
  ·obtain ⟨h1, h2⟩ := hI.hid k o ho
   have hx : k ≠ b := fun he => by subst he; rw [Hp.set_eq] at h1; cases h1
   exact ⟨by rw [Hp.set_ne _ _ hx] at h1 ⊢; exact h1, by rw [hne k hx]; exact h2⟩
  by_cases hx : k = b
  ·subst hx
   rw [Hp.set_eq] at hq
   injection hq with hq
   subst hq
   refine ⟨cs, (if fr.1 == fr.2 then (cs.size, cs.size + 1) else (min fr.1 cs.size, max fr.2 (cs.size + 1))), ?_, rfl, ?_, fun h => by cases h⟩
   ·simp only [World.freeze]
    rw [if_neg (by omega)]
    simp [Array.getElem?_modify, hw]
   ·refine List.IsPrefix.trans ?_ hpre
    simp
  ·rw [Hp.set_ne _ _ hx] at hq
   obtain ⟨cs', fr', hw', r1⟩ := hI.row k q (by rw [Hp.set_ne _ _ hx]; exact hq)
   exact ⟨cs', fr', by rw [hne k hx]; exact hw', r1⟩
 exact ⟨_, hI', SA.pure (hK _ _ _ hb hnc1)⟩
theorem zhk {fs : Array Field} {ρ : Operand → Value} {e : Env} (hρ : ∀ x, ev e (zl x) = ρ x) : ∀ (parts : List (Nat × Operand)) (ps : List (Nat × Nat × Opd)), zfb P fs parts = some ps →
  ps.length = parts.length ∧ ∀ places, fs.toList.mapM (fun f => (zV P f.type).map fun n => (f.offset, n)) = some places → ∀ (i : Nat) (p : Nat × Value) (q : Nat × Nat × Value),
   (parts.map fun x => (x.1, ρ x.2))[i]? = some p → (ps.map fun x => (x.1, x.2.1, ev e x.2.2))[i]? = some q → places[p.1]? = some (q.1, q.2.1) ∧ p.2 = q.2.2
 | [], ps, h => by
  simp [zfb] at h
  subst h
  exact ⟨rfl, fun _ _ i p q hp _ => by simp at hp⟩
 | x :: parts, ps, h => by
  unfold zfb at h
  rw [List.mapM_cons] at h
  obtain ⟨y, hy, h⟩ := Option.bind_eq_some_iff.1 h
  obtain ⟨ps', hps, h⟩ := Option.bind_eq_some_iff.1 h
  injection h with h
  subst h
  obtain ⟨h1, h2⟩ := zhk hρ parts ps' hps
  refine ⟨by simp [h1], fun places hpl i p q hp hq => ?_⟩
  cases i with
  | succ i => exact h2 places hpl i p q (by simpa using hp) (by simpa using hq)
  | zero =>
   simp at hp hq
   subst hp; subst hq
   obtain ⟨f, hf, hy⟩ := Option.bind_eq_some_iff.1 hy
   obtain ⟨n, hn, rfl⟩ := Option.map_eq_some_iff.1 hy
   refine ⟨?_, (hρ _).symm⟩
   have hl : ∀ (l : List Field) (r : List (Nat × Nat)) (k : Nat) (f : Field), l.mapM (fun f => (zV P f.type).map fun n => (f.offset, n)) = some r → l[k]? = some f → ∀ n, zV P f.type = some n → r[k]? = some (f.offset, n) := by
    intro l
    induction l with
    | nil => intro r k f _ hk; simp at hk
    | cons a l ih =>
     intro r k f hr hk n hn
     rw [List.mapM_cons] at hr
     obtain ⟨b, hb, hr⟩ := Option.bind_eq_some_iff.1 hr
     obtain ⟨r', hr', hr⟩ := Option.bind_eq_some_iff.1 hr
     injection hr with hr
     subst hr
     cases k with
     | zero =>
      simp at hk
      subst hk
      rw [hn] at hb
      injection hb with hb
      subst hb
      rfl
     | succ k => exact ih r' k f hr' (by simpa using hk) n hn
   exact hl _ _ _ f hpl (by simpa using hf) n hn
end
section
variable {P : Program} {w0 : Base} {σ : Hp} {K : Value → Hp → Prop} {Kp : List PanicEntry → Hp → Prop} {e : Env} {a : Act}
theorem zcv {d : Int} {o : Option Operand} {i : Int} (h : zbf (zR a) d (o.map zl) = some i) : zbs d (o.map a.eval) = some i := by
 cases o with
 | none => exact h
 | some x =>
  simp only [zbf, Option.map_some, zA] at h
  simp only [Option.map_some]
  revert h
  cases a.eval x <;> simp [zbs]
theorem zjj (l : List Operand) : (l.map zl).map (ev (zR a)) = l.map a.eval := by
 rw [List.map_map]; exact List.map_congr_left fun x _ => zA a x
theorem zep (l : Array Operand) : ((l.toList.map zl).map (ev (zR a))).toArray = l.map a.eval := by
 rw [zjj]; apply Array.ext'; simp
theorem zin {o : Oper} {ao : AOp} (h : zdN P o.op = some ao) (hK : aop P w0 ao (zR a) σ K Kp) : SAN P w0 (execOp a.eval o) σ K Kp := by
 unfold execOp
 obtain ⟨dst, op, ty, pos, after, guard⟩ := o
 cases op with
 | move x => injection h with h; subst h; simp only [aop, zA] at hK; exact SA.pure hK
 | assign x => injection h with h; subst h; simp only [aop, zA] at hK; exact SA.pure hK
 | pick c x y =>
  injection h with h; subst h
  simp only [aop, zA] at hK
  obtain ⟨t, ht, hK⟩ := hK
  dsimp only
  rw [ht]
  exact SA.bind (SA.asBool (SA.pure hK))
 | alloc t =>
  obtain ⟨z, hz, rfl⟩ := Option.map_eq_some_iff.1 h
  exact SAN.val (SA.alloc_ hz hK)
 | box t x =>
  injection h with h; subst h
  simp only [aop, zA] at hK
  exact SAN.val (SA.box_ hK)
 | build t parts =>
  refine SAN.val ?_
  replace h : zgw P t parts = some ao := h
  unfold zgw at h
  split at h
  ·rename_i fs hu
   obtain ⟨z, hz, h⟩ := Option.bind_eq_some_iff.1 h
   obtain ⟨pl, hpl, h⟩ := Option.bind_eq_some_iff.1 h
   obtain ⟨ps, hps, rfl⟩ := Option.map_eq_some_iff.1 h
   obtain ⟨cells, hf, hK⟩ := hK
   obtain ⟨h1, h2⟩ := zhk (ρ := a.eval) (e := zR a) (zA a) _ _ hps
   have hq := h2 pl hpl
   have : (parts.map fun x => (x.1, a.eval x.2)) = (parts.toList.map fun x => (x.1, a.eval x.2)).toArray := by apply Array.ext'; simp
   rw [this]
   exact SA.buildS_ (qs := ps.map fun x => (x.1, x.2.1, ev (zR a) x.2.2)) (by unfold zcc; rw [hu]) hz hpl (by simp [h1]) (fun i p q => hq i p q) hf hK
  ·rename_i n' el hu
   obtain ⟨z, hz, h⟩ := Option.bind_eq_some_iff.1 h
   obtain ⟨n, hn, rfl⟩ := Option.map_eq_some_iff.1 h
   obtain ⟨cells, hf, hK⟩ := hK
   have : (parts.map fun x => (x.1, a.eval x.2)) = (parts.toList.map fun x => (x.1, a.eval x.2)).toArray := by apply Array.ext'; simp
   rw [this]
   refine SA.buildA_ (p := (n', el)) (by unfold zbV; rw [hu]) hn hz rfl ?_ hK
   rw [← hf]
   simp [zen, Function.comp_def, zA]
  ·cases h
 | buildSlice t len parts =>
  refine SAN.val ?_
  obtain ⟨el, he, h⟩ := Option.bind_eq_some_iff.1 h
  obtain ⟨n, hn, h⟩ := Option.bind_eq_some_iff.1 h
  obtain ⟨z, hz, h⟩ := Option.bind_eq_some_iff.1 h
  obtain ⟨hb, h⟩ := zeJ h
  injection h with h; subst h
  obtain ⟨cs, hf, hK⟩ := hK
  simp only [Bool.and_eq_true, beq_iff_eq, decide_eq_true_eq] at hb
  have : (parts.map fun x => (x.1, a.eval x.2)) = (parts.toList.map fun x => (x.1, a.eval x.2)).toArray := by apply Array.ext'; simp
  rw [this]
  refine SA.bslice_ he hn hz hb.1 (by omega) rfl ?_ hK
  rw [← hf]
  simp [zen, Function.comp_def, zA]
 | load t x =>
  obtain ⟨g, hg, h⟩ := Option.bind_eq_some_iff.1 h
  obtain ⟨n, hn, rfl⟩ := Option.map_eq_some_iff.1 h
  simp only [aop, zA] at hK
  obtain ⟨ad, v, hx, hl, hK⟩ := hK
  dsimp only
  rw [hx]
  exact SAN.val (SA.load__ hg hn hl hK)
 | store t x y =>
  obtain ⟨n, hn, rfl⟩ := Option.map_eq_some_iff.1 h
  simp only [aop, zA] at hK
  obtain ⟨ad, σ', hx, hs, h1, hp, hK⟩ := hK
  dsimp only
  rw [hx]
  exact SAN.unit (SA.store__ hn hs h1 hp hK)
 | nilCheck x =>
  injection h with h; subst h
  simp only [aop, zA] at hK
  obtain ⟨h1, h2⟩ := hK
  dsimp only
  generalize a.eval x = q at h1 h2 ⊢
  cases q with
  | pointer p => cases p with
   | none => simp [zcU] at h1
   | some p => exact SA.pure h2
  | func fn f c => cases fn <;> first | (simp [zcU] at h1; done) | exact SA.pure h2
  | iface t v => exact SA.pure h2
  | _ => simp [zcU] at h1
 | binOp op t x y yt =>
  refine SAN.val ?_
  replace h : zge P op t x y = some ao := h
  unfold zge bk at h
  have viaBin : ∀ {op : BinOp}, aop P w0 (.bin op (zl x) (zl y)) (zR a) σ K Kp → SA P w0 (do eqGuard op t x y (a.eval x) (a.eval y); binOp op t (a.eval x) (a.eval y)) σ K (zd5 Kp) := by
   intro op hK
   simp only [aop, zA] at hK
   obtain ⟨v, hv, hK⟩ := hK
   rw [zjR hv]
   exact SA.bind (SA.pure (SA.binv hv hK))
  split at h
  ·injection h with h; subst h; exact viaBin hK
  ·rename_i hbk
   have hu : P.underlying t = some .bool := by
    split at hbk <;> first | assumption | cases hbk
   obtain ⟨n, hn, rfl⟩ := Option.map_eq_some_iff.1 h
   simp only [aop, zA] at hK
   obtain ⟨p, q, hp, hq, hK⟩ := hK
   rw [hp, hq, eqGuard_at_bool]
   refine SA.bind (SA.pure ?_)
   cases op <;> simp only [zbP, Option.some.injEq, reduceCtorEq] at hn <;> subst hn <;> unfold binOp <;> exact SA.bind (SA.eqBool hu (SA.pure hK))
  ·rename_i hbk
   obtain ⟨el, hu⟩ : ∃ el, P.underlying t = some (.slice el) := by
    split at hbk <;> first | exact ⟨_, by assumption⟩ | cases hbk
   obtain ⟨n, hn, h⟩ := Option.bind_eq_some_iff.1 h
   obtain ⟨hy, rfl⟩ := zby h
   have := zjX hy
   subst this
   simp only [aop, zA] at hK
   obtain ⟨A, k, c, hp, hK⟩ := hK
   rw [hp, eqGuard_at_slice]
   refine SA.bind (SA.pure ?_)
   cases op <;> simp only [zbP, Option.some.injEq, reduceCtorEq] at hn <;> subst hn <;> unfold binOp <;> exact SA.bind (SA.eqNil hu (SA.pure hK))
  ·rename_i hbk
   obtain ⟨el, hu⟩ : ∃ el, P.underlying t = some (.pointer el) := by
    split at hbk <;> first | exact ⟨_, by assumption⟩ | cases hbk
   obtain ⟨n, hn, h⟩ := Option.bind_eq_some_iff.1 h
   obtain ⟨hy, rfl⟩ := zby h
   have := zju hy
   subst this
   simp only [aop, zA] at hK
   obtain ⟨A, hp, hK⟩ := hK
   rw [hp, eqGuard_at_pointer]
   refine SA.bind (SA.pure ?_)
   cases op <;> simp only [zbP, Option.some.injEq, reduceCtorEq] at hn <;> subst hn <;> unfold binOp <;> exact SA.bind (SA.eqNilP hu (SA.pure hK))
  ·rename_i hbk
   obtain ⟨el, hu⟩ : ∃ el, P.underlying t = some (.interface el) := by
    split at hbk <;> first | exact ⟨_, by assumption⟩ | cases hbk
   obtain ⟨n, hn, h⟩ := Option.bind_eq_some_iff.1 h
   obtain ⟨hy, rfl⟩ := zby h
   have := ziJ hy
   subst this
   simp only [aop, zA] at hK
   obtain ⟨b, hp, hK⟩ := hK
   have hg : eqGuard op t x (.const .nilIface) (a.eval x) (a.eval (.const .nilIface)) = pure () := by
    show eqGuard op t x (.const .nilIface) (a.eval x) .nilIface = pure ()
    revert hp
    cases a.eval x <;> simp only [ifn, reduceCtorEq, false_implies] <;> intro _ <;> cases op <;> first | rfl | (cases x <;> rfl)
   rw [hg]
   refine SA.bind (SA.pure ?_)
   show SA P w0 (binOp op t (a.eval x) .nilIface) σ _ _
   have hb : ∀ {n : Bool}, zbP op = some n → SA P w0 (binOp op t (a.eval x) .nilIface) σ K (zd5 Kp) ∨ True := fun _ => .inr trivial
   revert hp
   cases hx : a.eval x <;> simp only [ifn, Option.some.injEq, reduceCtorEq, false_implies] <;> intro hp <;> subst hp <;> cases op <;> simp only [zbP, Option.some.injEq, reduceCtorEq] at hn <;> subst hn <;> unfold binOp <;> exact SA.bind (SA.eqNilI hu rfl (SA.pure hK))
  ·obtain ⟨ks, hfs, h⟩ := Option.bind_eq_some_iff.1 h
   obtain ⟨n, hn, rfl⟩ := Option.map_eq_some_iff.1 h
   simp only [aop, zA] at hK
   obtain ⟨xs, ys, b, hp, hq, hb, hK⟩ := hK
   rw [hp, hq]
   refine SA.bind (SA.run (fun w => run_eqGuard_agg w op t x y xs ys (ziw hfs)) ?_)
   cases op <;> simp only [zbP, Option.some.injEq, reduceCtorEq] at hn <;> subst hn <;> unfold binOp <;> exact SA.bind (SA.eqAgg hfs hb (SA.pure hK))
 | unOp op t x =>
  injection h with h; subst h
  simp only [aop, zA] at hK
  obtain ⟨v, hv, hK⟩ := hK
  refine SAN.val ?_
  revert hv
  cases a.eval x <;> cases op <;> simp only [unv, Option.some.injEq, reduceCtorEq, false_implies] <;> (intro hv; subst hv; exact SA.pure hK)
 | makeFunc fn first cap =>
  injection h with h; subst h
  simp only [aop, zep] at hK
  exact SAN.val (SA.pure hK)
 | typeAssert x xt t ok =>
  cases ok with
  | false => cases h
  | true =>
   replace h : ((P.underlying t).bind fun _ => (req (!zcj P t)).bind fun _ => (zbj P t).map fun z => AOp.tas t z (zl x)) = some ao := h
   obtain ⟨dsc, hu, h⟩ := Option.bind_eq_some_iff.1 h
   obtain ⟨hi, h⟩ := zeJ h
   obtain ⟨z, hz, rfl⟩ := Option.map_eq_some_iff.1 h
   simp only [aop, zA] at hK
   obtain ⟨v, hv, hK⟩ := hK
   exact SAN.val (SA.tas_ hu (by simpa using hi) hz hv hK)
 | extract x i =>
  injection h with h; subst h
  simp only [aop, zA] at hK
  obtain ⟨vs, v, hx, hv, hK⟩ := hK
  dsimp only
  rw [hx]
  exact SAN.val (SA.ext_ hv hK)
 | convert s d x =>
  refine SAN.val ?_
  replace h : zgf P s d x = some ao := h
  unfold zgf at h
  split at h
  ·rename_i q k hs hd
   injection h with h; subst h
   simp only [aop, zA] at hK
   obtain ⟨q, n, hx, hK⟩ := hK
   rw [hx]
   unfold convert
   refine SA.bind (SA.underlying hs (SA.bind (SA.underlying hd ?_)))
   exact SA.pure hK
  ·rename_i el hs hd
   obtain ⟨k, hk, h⟩ := Option.bind_eq_some_iff.1 h
   obtain ⟨hk8, rfl⟩ := zby h
   have : k = .u8 := by simpa using hk8
   subst this
   simp only [aop, zA] at hK
   obtain ⟨n, l, hR, hK⟩ := hK
   obtain ⟨A, c, hx, hle, hlen, hc⟩ := hR
   rw [hx]
   intro w hI
   have he := zfn hk
   have hn : l.length = n := by simpa using hlen
   subst hn
   cases A with
   | none =>
    have : l = [] := by
     cases l with
     | nil => rfl
     | cons b l => obtain ⟨a, ha, _⟩ := hc 0 _ rfl; cases ha
    subst this
    rw [run_convert_bytes_nil w s el hs he _ _ d hd]
    exact ⟨σ, hI, hK⟩
   | some ad =>
    rw [run_convert_bytes_back w s d el ad c l hs he hd (fun j hj => ?_)]
    ·exact ⟨σ, hI, hK⟩
    ·obtain ⟨a', ha, hl⟩ := hc j (.int .u8 (l[j].toNat : Int)) (by simp [List.getElem?_eq_getElem hj])
     injection ha with ha
     subst ha
     exact hI.cell hl
  ·rename_i el hs hd
   obtain ⟨k, hk, h⟩ := Option.bind_eq_some_iff.1 h
   obtain ⟨hk8, rfl⟩ := zby h
   have : k = .u8 := by simpa using hk8
   subst this
   simp only [aop, zA] at hK
   obtain ⟨s, hx, hK⟩ := hK
   rw [hx]
   unfold convert
   refine SA.bind (SA.underlying hs (SA.bind (SA.underlying hd ?_)))
   dsimp only
   refine SA.bind (SA.underlying (zfn hk) ?_)
   dsimp only
   exact SA.tobytes_ hK
  ·cases h
 | makeInterface t x =>
  obtain ⟨hi, rfl⟩ := zby h
  simp only [aop, zA] at hK
  exact SAN.val (SA.mkif_ (by simpa using hi) hK)
 | makeSlice t l c =>
  refine SAN.val ?_
  obtain ⟨el, he, h⟩ := Option.bind_eq_some_iff.1 h
  obtain ⟨n, hn, h⟩ := Option.bind_eq_some_iff.1 h
  obtain ⟨b, hb, h⟩ := Option.bind_eq_some_iff.1 h
  obtain ⟨z, hz, h⟩ := Option.bind_eq_some_iff.1 h
  obtain ⟨hzs, rfl⟩ := zby h
  simp only [aop, zA] at hK
  obtain ⟨k, k', ln, cp, hl, hc, h0, h1, h2, h3, hK⟩ := hK
  rw [hl, hc]
  exact SA.mkslice_ he hn hb hz (by simpa using hzs) h0 h1 h2 h3 hK
 | slice t x lo hi mx =>
  refine SAN.val ?_
  obtain ⟨hreq, h⟩ := zeJ (show (req (mx.isNone || hi.isSome)).bind _ = some ao from h)
  have hx : mx.map a.eval = none ∨ hi.map a.eval ≠ none := by
   cases mx <;> cases hi <;> simp at hreq ⊢
  split at h
  ·rename_i hu
   obtain ⟨hm, rfl⟩ := zby h
   have : mx = none := by simpa using hm
   subst this
   simp only [aop, zA] at hK
   obtain ⟨s, l, h, hs, hh, hl, h0, h1, h2, hK⟩ := hK
   rw [hs]
   exact SA.slcS_ (by unfold zcu; rw [hu]) (zcv hh) (zcv hl) h0 h1 h2 hK
  ·rename_i el hu
   obtain ⟨n, hn, rfl⟩ := Option.map_eq_some_iff.1 h
   simp only [aop, zA] at hK
   obtain ⟨A, ln, c, l, h, m, hs, hm, hh, hl, h0, h1, h2, h3, hK⟩ := hK
   rw [hs]
   exact SA.slc_ (by unfold zbh; rw [hu]) hn (zcv hm) (zcv hh) (zcv hl) h0 h1 h2 h3 hx hK
  ·rename_i len el hu
   obtain ⟨n, hn, rfl⟩ := Option.map_eq_some_iff.1 h
   simp only [aop, zA] at hK
   obtain ⟨ad, l, h, m, hs, hm, hh, hl, h0, h1, h2, h3, hK⟩ := hK
   rw [hs]
   exact SA.slcA_ (p := (len, el)) (by unfold zbV; rw [hu]) hn (zcv hm) (zcv hh) (zcv hl) h0 h1 h2 h3 hx hK
  ·cases h
 | fieldAddr t x i =>
  refine SAN.val ?_
  obtain ⟨fs, hfs, h⟩ := Option.bind_eq_some_iff.1 h
  obtain ⟨f, hf, h⟩ := Option.bind_eq_some_iff.1 h
  obtain ⟨n, hn, h⟩ := Option.bind_eq_some_iff.1 h
  obtain ⟨h0, rfl⟩ := zby h
  simp only [aop, zA] at hK
  obtain ⟨ad, hx, hK⟩ := hK
  rw [hx]
  exact SA.faddr_ hfs hf hn (by simpa using h0) hK
 | field t x i =>
  refine SAN.val ?_
  obtain ⟨fs, hfs, h⟩ := Option.bind_eq_some_iff.1 h
  obtain ⟨f, hf, h⟩ := Option.bind_eq_some_iff.1 h
  obtain ⟨g, hg, h⟩ := Option.bind_eq_some_iff.1 h
  obtain ⟨n, hn, rfl⟩ := Option.map_eq_some_iff.1 h
  simp only [aop, zA] at hK
  obtain ⟨cs, v, hx, hv, hK⟩ := hK
  rw [hx]
  exact SA.field_ hfs hf hg hn hv hK
 | indexAddr t x i =>
  refine SAN.val ?_
  replace h : zgh P t x i = some ao := h
  unfold zgh at h
  split at h
  ·rename_i el hu
   obtain ⟨n, hn, rfl⟩ := Option.map_eq_some_iff.1 h
   simp only [aop, zA] at hK
   obtain ⟨ad, ln, c, k, q, hx, hi, h0, h1, hK⟩ := hK
   rw [hx, hi]
   exact SA.idx_ (by unfold zbh; rw [hu]) hn h0 h1 hK
  ·rename_i len el hu
   obtain ⟨n, hn, rfl⟩ := Option.map_eq_some_iff.1 h
   simp only [aop, zA] at hK
   obtain ⟨ad, k, q, hx, hi, h0, h1, hK⟩ := hK
   rw [hx, hi]
   exact SA.aaddr_ (p := (len, el)) (by unfold zbV; rw [hu]) hn h0 h1 hK
  ·cases h
 | index t x i =>
  refine SAN.val ?_
  replace h : zfG P t x i = some ao := h
  unfold zfG at h
  split at h
  ·rename_i hu
   injection h with h; subst h
   simp only [aop, zA] at hK
   obtain ⟨s, k, n, b, hx, hi, h0, hb, hK⟩ := hK
   rw [hx, hi]
   exact SA.sidx_ (by unfold zcu; rw [hu]) h0 hb hK
  ·rename_i len el hu
   obtain ⟨g, hg, h⟩ := Option.bind_eq_some_iff.1 h
   obtain ⟨n, hn, rfl⟩ := Option.map_eq_some_iff.1 h
   simp only [aop, zA] at hK
   obtain ⟨cs, k, q, v, hx, hi, h0, h1, hv, hK⟩ := hK
   rw [hx, hi]
   exact SA.aidx_ (p := (len, el)) (by unfold zbV; rw [hu]) hg hn h0 h1 hv hK
  ·cases h
 | panic x =>
  injection h with h; subst h
  simp only [aop, zA] at hK
  obtain ⟨t, v, hx, hK⟩ := hK
  refine SAN.val ?_
  rw [hx]
  exact SA.panic_ hK
 | call c =>
  replace h : zfw P c = some ao := h
  obtain ⟨callee, args, ats⟩ := c
  unfold zfw at h
  have harr : ∀ (l : List Operand), args.toList = l → args = l.toArray := fun l hl => by subst hl; simp
  dsimp only at h
  split at h
  ·rename_i f
   obtain ⟨hf, rfl⟩ := zby h
   simp only [aop, zep] at hK
   refine SA.bind (SA.pure ?_)
   show SAN P w0 (callFunc f (#[] ++ args.map a.eval ++ #[])) σ K Kp
   simp only [Array.empty_append, Array.append_empty]
   exact SA.callFunc_ hf hK
  ·rename_i x hx
   injection h with h; subst h
   simp only [aop, zep, zA] at hK
   rcases hK with ⟨f, first, cap, hx, hf, hK⟩ | ⟨y, first, cap, hx, f, tmps, as, bd, hr, hK⟩
   ·unfold resolve
    dsimp only
    rw [hx]
    refine SA.bind (SA.pure ?_)
    exact SA.callFunc_ hf hK
   ·unfold resolve
    dsimp only
    rw [hx]
    refine SA.bind (SA.pure ?_)
    show SAN P w0 (Instr.yield y _) σ K Kp
    intro w hI
    rw [show first ++ args.map a.eval = first ++ _ from rfl, hr w hI]
    exact ⟨σ, hI, hK⟩
  ·rename_i x m
   injection h with h; subst h
   simp only [aop, zep, zA] at hK
   obtain ⟨t, v, f, hx, hm, hf, hK⟩ := hK
   refine SA.bind (SA.pure ?_)
   show SAN P w0 (invoke (.fn (.method m) #[]) (#[a.eval x] ++ args.map a.eval)) σ K Kp
   rw [hx]
   have hex : (#[Value.iface t v] ++ args.map a.eval).extract 1 (#[Value.iface t v] ++ args.map a.eval).size = args.map a.eval := by
    apply Array.ext'; simp [List.take_of_length_le]
   unfold invoke
   dsimp only
   have h0 : (#[Value.iface t v] ++ args.map a.eval)[0]? = some (.iface t v) := by rw [Array.getElem?_append_left (by simp)]; rfl
   rw [h0]
   dsimp only
   rw [hex]
   unfold callMethod
   dsimp only
   refine SA.program ?_
   refine SA.bind (SA.run_ hm ?_)
   have ha : #[v] ++ args.map a.eval = (v :: (args.map a.eval).toList).toArray := by apply Array.ext'; simp
   rw [ha]
   have hl : List.map (ev (zR a)) (List.map zl args.toList) = (args.map a.eval).toList := by
    rw [List.map_map, Array.toList_map]
    exact List.map_congr_left fun x _ => zA a x
   rw [show List.map (ev (zR a)) (List.map zl args.toList) = _ from hl] at hK
   exact SA.callFunc_ hf hK
  ·rename_i b
   refine SA.bind (SA.pure ?_)
   show SAN P w0 (builtin b ats ty _ (args.map a.eval)) σ K Kp
   split at h
   ·rename_i x t hx ht
    have hx := harr _ hx
    have ht : ats = #[t] := by apply Array.ext'; simpa using ht
    subst hx; subst ht
    simp only [List.map_toArray, List.map_cons, List.map_nil]
    replace h : zfx P b x t = some ao := h
    cases b <;> simp only [zfx, reduceCtorEq] at h
    case len =>
     refine SAN.val (s := Builtin.len_ #[t] ty #[a.eval x]) ?_
     unfold zh5 at h
     unfold Builtin.len_
     simp only [List.getElem?_toArray, List.getElem?_cons_zero]
     split at h
     ·rename_i hu
      injection h with h; subst h
      simp only [aop, zA] at hK
      obtain ⟨s, hs, hK⟩ := hK
      rw [hs]
      exact SA.bind (SA.underlying hu (SA.pure hK))
     ·rename_i hu
      injection h with h; subst h
      simp only [aop, zA] at hK
      obtain ⟨A, n, c, hs, hK⟩ := hK
      rw [hs]
      exact SA.bind (SA.underlying hu (SA.pure hK))
     ·rename_i hu
      injection h with h; subst h
      exact SA.bind (SA.underlying hu (SA.pure hK))
     ·cases h
    case cap =>
     obtain ⟨el, he, rfl⟩ := Option.map_eq_some_iff.1 h
     refine SAN.val (s := Builtin.cap_ #[t] ty #[a.eval x]) ?_
     unfold Builtin.cap_
     simp only [List.getElem?_toArray, List.getElem?_cons_zero]
     simp only [aop, zA] at hK
     obtain ⟨A, n, c, hs, hK⟩ := hK
     rw [hs]
     exact SA.bind (SA.underlying (zbL he) (SA.pure hK))
    case panic =>
     injection h with h; subst h
     simp only [aop, zA] at hK
     obtain ⟨tt, v, hx, hK⟩ := hK
     refine SAN.val (s := Instr.panic (a.eval x)) ?_
     rw [hx]
     exact SA.panic_ hK
    case max =>
     obtain ⟨k, hk, rfl⟩ := Option.map_eq_some_iff.1 h
     refine SAN.val (s := Builtin.max_ #[t] ty #[a.eval x]) ?_
     simp only [aop, zA] at hK
     obtain ⟨k, p, r, hx, hr, hK⟩ := hK
     rw [hx]
     exact SA.foldmm true [] p r hr hK
    case min =>
     obtain ⟨k, hk, rfl⟩ := Option.map_eq_some_iff.1 h
     refine SAN.val (s := Builtin.min_ #[t] ty #[a.eval x]) ?_
     simp only [aop, zA] at hK
     obtain ⟨k, p, r, hx, hr, hK⟩ := hK
     rw [hx]
     exact SA.foldmm false [] p r hr hK
   ·rename_i x y t u hx ht
    have hx := harr _ hx
    have ht : ats = #[t, u] := by apply Array.ext'; simpa using ht
    subst hx; subst ht
    simp only [List.map_toArray, List.map_cons, List.map_nil]
    replace h : zfz P b x y t u = some ao := h
    cases b <;> simp only [zfz, reduceCtorEq] at h
    case append =>
     refine SAN.val (s := Builtin.append_ #[t, u] ty #[a.eval x, a.eval y]) ?_
     obtain ⟨el, he, h⟩ := Option.bind_eq_some_iff.1 h
     obtain ⟨n, hn, h⟩ := Option.bind_eq_some_iff.1 h
     obtain ⟨bt, hb, h⟩ := Option.bind_eq_some_iff.1 h
     obtain ⟨z, hz, h⟩ := Option.bind_eq_some_iff.1 h
     obtain ⟨hr, h'⟩ := zeJ h
     clear h
     simp only [Bool.and_eq_true, beq_iff_eq, decide_eq_true_eq] at hr
     split at h'
     ·rename_i htu
      subst htu
      injection h' with h'; subst h'
      simp only [aop, zA] at hK
      obtain ⟨k, cells, m, ys, hO, hR, h1, hlim, hK⟩ := hK
      exact SA.app_ he hn hb hz hr.1.1 hr.1.2 hr.2 hO hR h1 hlim hK
     ·split at h'
      ·rename_i hs
       obtain ⟨hr2, rfl⟩ := zby h'
       simp only [beq_iff_eq] at hr2
       simp only [aop, zA] at hK
       obtain ⟨k, cells, q, hO, hq, hlim, hK⟩ := hK
       rw [hq]
       subst hr2
       exact SA.apps_ he hs hn hb hz hr.1.1 hr.2 hO hlim hK
      ·obtain ⟨q0, hq0, rfl⟩ := Option.map_eq_some_iff.1 h'
       simp only [aop, zA] at hK
       obtain ⟨k, cells, q, m, hone, hO, hq, hlim, hK⟩ := hK
       rw [hq]
       exact SA.appz_ he (zfn hq0) hn hb hz hr.1.1 hr.1.2 hr.2 hone hO hlim hK
    case copy =>
     refine SAN.val (s := Builtin.copy_ #[t, u] ty #[a.eval x, a.eval y]) ?_
     obtain ⟨el, he, h⟩ := Option.bind_eq_some_iff.1 h
     obtain ⟨_, _, h⟩ := Option.bind_eq_some_iff.1 h
     obtain ⟨n, hn, rfl⟩ := Option.map_eq_some_iff.1 h
     simp only [aop, zA] at hK
     obtain ⟨ad, dn, dc, sn, ys, σ', hd, hR, h1, hp, hK⟩ := hK
     rw [hd]
     exact SA.copy_ he hn hR h1 hp hK
    case max =>
     obtain ⟨k, hk, rfl⟩ := Option.map_eq_some_iff.1 h
     refine SAN.val (s := Builtin.max_ #[t, u] ty #[a.eval x, a.eval y]) ?_
     simp only [aop, zA, List.map_cons, List.map_nil] at hK
     obtain ⟨k, p, r, hx, hr, hK⟩ := hK
     rw [hx]
     exact SA.foldmm true [a.eval y] p r hr hK
    case min =>
     obtain ⟨k, hk, rfl⟩ := Option.map_eq_some_iff.1 h
     refine SAN.val (s := Builtin.min_ #[t, u] ty #[a.eval x, a.eval y]) ?_
     simp only [aop, zA, List.map_cons, List.map_nil] at hK
     obtain ⟨k, p, r, hx, hr, hK⟩ := hK
     rw [hx]
     exact SA.foldmm false [a.eval y] p r hr hK
   ·rename_i x y z t u v hx ht
    have hx := harr _ hx
    have ht : ats = #[t, u, v] := by apply Array.ext'; simpa using ht
    subst hx; subst ht
    simp only [List.map_toArray, List.map_cons, List.map_nil]
    replace h : zgt P b x y z t = some ao := h
    cases b <;> simp only [zgt, reduceCtorEq] at h
    case max =>
     obtain ⟨k, hk, rfl⟩ := Option.map_eq_some_iff.1 h
     refine SAN.val (s := Builtin.max_ #[t, u, v] ty #[a.eval x, a.eval y, a.eval z]) ?_
     simp only [aop, zA, List.map_cons, List.map_nil] at hK
     obtain ⟨k, p, r, hx, hr, hK⟩ := hK
     rw [hx]
     exact SA.foldmm true [a.eval y, a.eval z] p r hr hK
    case min =>
     obtain ⟨k, hk, rfl⟩ := Option.map_eq_some_iff.1 h
     refine SAN.val (s := Builtin.min_ #[t, u, v] ty #[a.eval x, a.eval y, a.eval z]) ?_
     simp only [aop, zA, List.map_cons, List.map_nil] at hK
     obtain ⟨k, p, r, hx, hr, hK⟩ := hK
     rw [hx]
     exact SA.foldmm false [a.eval y, a.eval z] p r hr hK
   ·cases h
 | _ => cases h
end
structure ASt where
 gd : Option (Nat × Bool)
 dst : Option Nat
 op : AOp
 deriving Inhabited
inductive zbb where
 | done
 | top
 | quiet (s : ASt) (k : zbb)
 | eff (s : ASt) (stab : List ASt) (k : zbb)
 | both (a b : zbb)
 deriving Inhabited
inductive zbq where
 | skip
 | reg (ops : List ASt)
 | par (t : zbb)
 | seq (a b : zbq)
 | cond (c : Opd) (a b : zbq)
 | block (id : Nat) (c : zbq)
 | loop (c : zbq)
 | exit (id : Nat)
 | ret
def zbx : AOp → Bool
 | .tobytes .. | .box .. | .alloc .. | .mkslice .. | .bslice .. | .store .. | .app .. | .apps .. | .appz .. | .copy .. | .call .. | .callv .. | .inv .. | .pan .. => false
 | _ => true
def zdq : AOp → Bool
 | .load .. | .tostr .. => true
 | _ => false
def zt : Opd → List Nat
 | .t n => [n]
 | _ => []
def zb0 : Option Opd → List Nat
 | some o => zt o
 | none => []
def zL : AOp → List Nat
 | .mv x => zt x
 | .pick c a b => zt c ++ zt a ++ zt b
 | .bin _ x y => zt x ++ zt y
 | .beq _ x y => zt x ++ zt y
 | .aeq _ _ x y => zt x ++ zt y
 | .snil _ x => zt x
 | .pnil _ x => zt x
 | .inil _ x => zt x
 | .tas _ _ x => zt x
 | .un _ x => zt x
 | .cint _ x => zt x
 | .tostr x => zt x
 | .tobytes _ x => zt x
 | .field _ _ _ x => zt x
 | .ext _ x => zt x
 | .sidx x i => zt x ++ zt i
 | .aidx _ _ _ x i => zt x ++ zt i
 | .mkif _ x => zt x
 | .mkfn _ a b => a.flatMap zt ++ b.flatMap zt
 | .build _ ps => ps.flatMap fun p => zt p.2.2
 | .box _ x => zt x
 | .alloc _ _ => []
 | .mkslice _ _ _ _ l c => zt l ++ zt c
 | .bslice _ _ _ ps => ps.flatMap fun p => zt p.2.2
 | .load _ _ x => zt x
 | .store _ x y => zt x ++ zt y
 | .faddr _ x => zt x
 | .idx _ x i => zt x ++ zt i
 | .aaddr _ _ x i => zt x ++ zt i
 | .slcS x a b => zt x ++ zb0 a ++ zb0 b
 | .slc _ x a b c => zt x ++ zb0 a ++ zb0 b ++ zb0 c
 | .slcA _ _ x a b c => zt x ++ zb0 a ++ zb0 b ++ zb0 c
 | .nilchk x => zt x
 | .lenS x => zt x
 | .lenL x => zt x
 | .lenA _ => []
 | .capL x => zt x
 | .app _ _ _ s x => zt s ++ zt x
 | .apps _ _ s x => zt s ++ zt x
 | .appz _ _ _ _ s x => zt s ++ zt x
 | .copy _ d s => zt d ++ zt s
 | .minmax _ x xs => zt x ++ xs.flatMap zt
 | .call _ xs => xs.flatMap zt
 | .callv f xs => zt f ++ xs.flatMap zt
 | .inv x _ xs => zt x ++ xs.flatMap zt
 | .pan x => zt x
def stT (s : ASt) : List Nat := zL s.op ++ (match s.gd with | some (t, _) => [t] | none => [])
def zm (e : Env) (d : Option Nat) (v : Value) : Env := match d with
 | some d => fun k => if k = d then v else e k
 | none => e
def isB (v : Value) (b : Bool) : Bool := match v with
 | .bool c => c == b
 | _ => false
section
variable (P : Program) (w0 : Base)
def step (s : ASt) (e : Env) (σ : Hp) (K : Env → Hp → Prop) (Kp : List PanicEntry → Hp → Prop) : Prop := match s.gd with
 | none => aop P w0 s.op e σ (fun v σ' => K (zm e s.dst v) σ') Kp
 | some (t, want) => (isB (e t) want = true → aop P w0 s.op e σ (fun v σ' => K (zm e s.dst v) σ') Kp) ∧ (isB (e t) want = false → K (zm e s.dst undef) σ)
def aops : List ASt → Env → Hp → (Env → Hp → Prop) → (List PanicEntry → Hp → Prop) → Prop
 | [], e, σ, K, _ => K e σ
 | s :: r, e, σ, K, Kp => step P w0 s e σ (fun e' σ' => aops r e' σ' K Kp) Kp
def again (s : ASt) (e : Env) (σ : Hp) : Prop := match s.dst with
 | none => True
 | some d => match s.gd with
  | none => aop P w0 s.op e σ (fun v σ' => v = e d ∧ σ' = σ) zbg
  | some (t, want) => isB (e t) want = true → aop P w0 s.op e σ (fun v σ' => v = e d ∧ σ' = σ) zbg
def agains : List ASt → Env → Hp → Prop
 | [], _, _ => True
 | s :: r, e, σ => again P w0 s e σ ∧ agains r e σ
def atree : zbb → Env → Hp → (Env → Hp → Prop) → (List PanicEntry → Hp → Prop) → Prop
 | .done, e, σ, K, _ => K e σ
 | .top, _, _, _, _ => True
 | .quiet s k, e, σ, K, Kp => step P w0 s e σ (fun e' σ' => atree k e' σ' K Kp) Kp
 | .eff s st k, e, σ, K, Kp => step P w0 s e σ (fun e' σ' => agains P w0 st e' σ' ∧ atree k e' σ' K Kp) Kp
 | .both a b, e, σ, K, Kp => atree a e σ K Kp ∧ atree b e σ K Kp
def thn (K : Env → Hp → Prop) (Q : Exit → Env → Hp → Prop) : Exit → Env → Hp → Prop
 | .normal, e, σ => K e σ
 | x, e, σ => Q x e σ
def inb (id : Nat) (Q : Exit → Env → Hp → Prop) : Exit → Env → Hp → Prop
 | .exit k, e, σ => if k = id then Q .normal e σ else Q (.exit k) e σ
 | x, e, σ => Q x e σ
def awp : zbq → (Exit → Env → Hp → Prop) → Env → Hp → Prop
 | .skip, Q, e, σ => Q .normal e σ
 | .reg ops, Q, e, σ => aops P w0 ops e σ (fun e' σ' => Q .normal e' σ') (fun ch σ' => ∀ e', Q (.panic ch) e' σ')
 | .par t, Q, e, σ => atree P w0 t e σ (fun e' σ' => Q .normal e' σ') (fun ch σ' => ∀ e', Q (.panic ch) e' σ')
 | .seq a b, Q, e, σ => awp a (thn (fun e' σ' => awp b Q e' σ') Q) e σ
 | .cond c a b, Q, e, σ => ∃ t, ev e c = .bool t ∧ (t = true → awp a Q e σ) ∧ (t = false → awp b Q e σ)
 | .block id c, Q, e, σ => awp c (inb id Q) e σ
 | .loop c, Q, e, σ => ∃ I : Nat → Env → Hp → Prop, (∃ n, I n e σ) ∧ ∀ n e σ, I n e σ → awp c (thn (fun e' σ' => ∃ n', n' < n ∧ I n' e' σ') Q) e σ
 | .exit id, Q, e, σ => Q (.exit id) e σ
 | .ret, Q, e, σ => Q .ret e σ
end
def zcC (ops : Array Oper) (n : Nat) : Option (Nat × Bool) → Option (Option (Nat × Bool))
 | none => some none
 | some (j, want) => ((ops[j]?).bind (·.dst)).bind fun t => if t < n then some (some (t, want)) else none
def zcB (P : Program) (n : Nat) (ops : Array Oper) (o : Oper) : Option ASt :=
 (zdN P o.op).bind fun ao => (zcC ops n o.guard).bind fun g => (req (match o.dst with | some d => decide (d < n) | none => true)).map fun _ => ⟨g, o.dst, ao⟩
def zC (ops : Array Oper) : List (List Nat) := ops.toList.map fun o => (o.after.toList.filter (Region.binds .any)).map (·.on)
def subset (a b : List Nat) : Bool := a.all fun x => b.contains x
def zfY : List Nat → List Nat → List Nat
 | acc, [] => acc
 | acc, x :: r => zfY (if acc.contains x then acc else x :: acc) r
def closure : List (List Nat) → List (List Nat) → List (List Nat)
 | acc, [] => acc
 | acc, d :: r => closure (acc ++ [zfY d (d.flatMap fun j => acc.getD j [])]) r
def hazard (ops : List ASt) (deps : List (List Nat)) (i : Nat) : Bool := match (ops[i]?).bind (·.dst) with
 | some d => (deps.getD i []).any fun j => j != i && match ops[j]? with | some q => (stT q).contains d | none => false
 | none => false
def isQ (ops : List ASt) (deps : List (List Nat)) (i : Nat) : Bool := match ops[i]? with | some s => zbx s.op && !hazard ops deps i | none => false
def isR (ops : List ASt) (i : Nat) : Bool := match ops[i]? with | some s => zdq s.op | none => false
def zbU (ops : List ASt) (deps : List (List Nat)) (D : List Nat) : Option Nat := (List.range ops.length).find? fun i => !D.contains i && isQ ops deps i && subset (deps.getD i []) D
def zfy (ops : List ASt) (deps : List (List Nat)) (D : List Nat) : List Nat := (List.range ops.length).filter fun i => !D.contains i && !isQ ops deps i && subset (deps.getD i []) D
def zf5 (ops : List ASt) (clos : List (List Nat)) (D : List Nat) (i : Nat) : List Nat := D.filter fun j => isR ops j && !(clos.getD i []).contains j
def zbm (ops : List ASt) (deps clos : List (List Nat)) : Nat → List Nat → zbb
 | 0, _ => .done
 | n + 1, D => match zbU ops deps D with
  | some i => .quiet (ops.getD i default) (zbm ops deps clos n (i :: D))
  | none => if D.length = ops.length then .done else (zfy ops deps D).foldr (fun i t => .both (.eff (ops.getD i default) ((zf5 ops clos D i).map fun j => ops.getD j default) (zbm ops deps clos n (i :: D))) t) .top
def zbF : zbb → zbb
 | .both a .top => zbF a
 | .both a b => .both (zbF a) (zbF b)
 | .quiet s k => .quiet s (zbF k)
 | .eff s st k => if zbx s.op && st.isEmpty then .quiet s (zbF k) else .eff s st (zbF k)
 | t => t
def ze1 (ops : List ASt) (deps : List (List Nat)) : Bool :=
 (List.range ops.length).all fun i => (List.range ops.length).all fun j => match ops[i]?, ops[j]? with
  | some s, some q => if i = j then !zbx s.op || (match s.dst with | some d => !(stT s).contains d | none => false) else
   (match q.dst with
   | none => true
   | some d => !((stT s ++ s.dst.toList).contains d) || (deps.getD i []).contains j || (!(isQ ops deps i && isQ ops deps j) && (deps.getD j []).contains i))
  | _, _ => true
def zfI (deps : List (List Nat)) : Bool := (List.range deps.length).all fun i => (deps.getD i []).all fun j => decide (j < i)
def slim (P : Program) (n : Nat) : Code → Option zbq
 | .skip => some .skip
 | .region _ ops draw => (ops.toList.mapM (zcB P n ops)).bind fun l =>
  if draw then (req (ze1 l (zC ops) && zfI (zC ops))).map fun _ => .par (zbF (zbm l (zC ops) (closure [] (zC ops)) (l.length + 1) [])) else some (.reg l)
 | .seq a b => (slim P n a).bind fun x => (slim P n b).map fun y => .seq x y
 | .cond c a b => (slim P n a).bind fun x => (slim P n b).map fun y => .cond (zl c) x y
 | .block id c => (slim P n c).map fun x => .block id x
 | .loop c => (slim P n c).map fun x => .loop x
 | .exit id => some (.exit id)
 | .scope c => slim P n c
 | .ret => some .ret
 | _ => none
structure Ds where
 ds : List Deferred
 fx : Nat → Option Value := fun _ => none
def Ds.ok (φ : Ds) (a : Act) : Prop := a.defers = φ.ds ∧ ∀ j v, φ.fx j = some v → zR a j = v
abbrev dsl (l : List Deferred) : Ds := { ds := l }
theorem dsok {a : Act} {l : List Deferred} (h : a.defers = l) : (dsl l).ok a := ⟨h, fun _ _ h => by cases h⟩
def Code.free (fx : Nat → Option Value) : Code → Prop
 | .region _ ops _ => ∀ (i : Nat) (o : Oper), ops[i]? = some o → ∀ d, o.dst = some d → fx d = none
 | .seq a b => Code.free fx a ∧ Code.free fx b
 | .cond _ a b => Code.free fx a ∧ Code.free fx b
 | .block _ c => Code.free fx c
 | .loop c => Code.free fx c
 | .scope c => Code.free fx c
 | _ => True
theorem Code.free_none : ∀ c : Code, Code.free (fun _ => none) c
 | .region _ _ _ => fun _ _ _ _ _ => rfl
 | .seq a b => ⟨Code.free_none a, Code.free_none b⟩
 | .cond _ a b => ⟨Code.free_none a, Code.free_none b⟩
 | .block _ c => Code.free_none c
 | .loop c => Code.free_none c
 | .scope c => Code.free_none c
 | .skip => trivial
 | .exit _ => trivial
 | .ret => trivial
 | .rangeFunc .. => trivial
 | .label _ => trivial
 | .goto _ => trivial
 | .refuse _ => trivial
def lft (N : Nat) (ds : Ds) (w0 : Base) (Q : Exit → Env → Hp → Prop) : Exit → Act → World → Prop := fun x a w => a.tmps.size = N ∧ ds.ok a ∧ match x with
 | .outgrown => False
 | .goto _ => False
 | x => ∃ σ, Inv w0 σ w ∧ Q x (zR a) σ
def zdI (N : Nat) (ds : Ds) (w0 : Base) (K : Env → Hp → Prop) : Act → World → Prop := fun a w => a.tmps.size = N ∧ ds.ok a ∧ ∃ σ, Inv w0 σ w ∧ K (zR a) σ
theorem zgi {a : Act} {d : Option Nat} {v : Value} {N : Nat} (hN : a.tmps.size = N) (hd : (match d with | some d => decide (d < N) | none => true) = true) : zR (a.put d v) = zm (zR a) d v := by
 cases d with
 | none => rfl
 | some d =>
  have hd : d < a.tmps.size := by rw [hN]; simpa using hd
  funext k
  simp only [zR, Act.put, zm]
  by_cases h : k = d
  ·subst h
   simp [hd]
  ·rw [if_neg h]
   simp [Array.getD_eq_getD_getElem?, Array.getElem?_setIfInBounds, show ¬ d = k from fun e => h e.symm]
theorem zi4 (a : Act) (d : Option Nat) (v : Value) : (a.put d v).tmps.size = a.tmps.size := by cases d <;> simp [Act.put]
theorem zj4 (a : Act) (d : Option Nat) (v : Value) : (a.put d v).defers = a.defers := by cases d <;> rfl
theorem ziN {P : Program} {N : Nat} {ops : Array Oper} {o : Oper} {s : ASt} (h : zcB P N ops o = some s) :
  zdN P o.op = some s.op ∧ zcC ops N o.guard = some s.gd ∧ s.dst = o.dst ∧ (match o.dst with | some d => decide (d < N) | none => true) = true := by
 unfold zcB at h
 obtain ⟨ao, h1, h⟩ := Option.bind_eq_some_iff.1 h
 obtain ⟨g, h2, h⟩ := Option.bind_eq_some_iff.1 h
 obtain ⟨h3, rfl⟩ := zby h
 exact ⟨h1, h2, rfl, h3⟩
theorem ziu {o : Oper} {y : Nat → Option Bool} (h : o.guard = none) : Region.wanted o y = true := by simp [Region.wanted, h]
theorem zig {ops : Array Oper} {a : Act} {N : Nat} (hN : a.tmps.size = N) {o : Oper} {t : Nat} {want : Bool} (h : zcC ops N o.guard = some (some (t, want))) : Region.wanted o (yielded ops a.tmps) = isB (zR a t) want := by
 cases hg : o.guard with
 | none => rw [hg] at h; simp [zcC] at h
 | some g =>
  obtain ⟨j, w⟩ := g
  rw [hg] at h
  simp only [zcC] at h
  obtain ⟨t', ht, h⟩ := Option.bind_eq_some_iff.1 h
  split at h
  ·rename_i hlt
   injection h with h
   injection h with h
   injection h with h1 h2
   subst h1; subst h2
   simp only [Region.wanted, hg, yielded, ht, Option.bind_some]
   have hlt' : t' < a.tmps.size := by rw [hN]; exact hlt
   have : a.tmps[t']? = some (a.tmps[t']'hlt') := Array.getElem?_eq_getElem hlt'
   rw [this]
   have he : zR a t' = a.tmps[t']'hlt' := by simp [zR, hlt']
   rw [he]
   cases a.tmps[t']'hlt' <;> simp [isB]
  ·cases h
theorem zik {ops : Array Oper} {N : Nat} {o : Oper} (h : zcC ops N o.guard = some none) : o.guard = none := by
 cases hg : o.guard with
 | none => rfl
 | some g =>
  obtain ⟨j, w⟩ := g
  rw [hg] at h
  simp only [zcC] at h
  obtain ⟨t', ht, h⟩ := Option.bind_eq_some_iff.1 h
  split at h <;> simp at h
abbrev Rf (r : Option Nat) : Fence := { Fence.wide with round := r }
theorem ziD {P : Program} {o : Op} {ao : AOp} (h : zdN P o = some ao) : ∀ c, o ≠ .defer c := by
 rintro c rfl
 cases h
theorem ziq {F : Fence} {n : Nat} {P : Program} {ops : Array Oper} {Q : Exit → Act → World → Prop} {o : Oper} {rest : List Oper} {a : Act} {w : World} (hF : ∀ f, F.fn f)
  (h : ∀ K : Act → World → Prop, (∀ a w, wpListIn F n P ops Q rest a w → K a w) → if Region.wanted o (yielded ops a.tmps) = true then o.wpIn F n P a w K Q else K (a.put o.dst undef) w) : wpListIn F n P ops Q (o :: rest) a w := by
 have := h _ (fun _ _ h => h)
 unfold wpListIn
 split
 ·rename_i hw; rw [if_pos hw] at this; exact this
 ·rename_i hw; rw [if_neg hw] at this; exact ⟨fun f _ => hF f, this⟩
section
variable {P : Program} {w0 : Base} {N : Nat} {ds : Ds} {ro : Option Nat}
theorem Ds.put {φ : Ds} {a : Act} {N : Nat} (h : φ.ok a) (hN : a.tmps.size = N) {d : Option Nat} (v : Value) (hd : (match d with | some d => decide (d < N) | none => true) = true) (hf : ∀ k, d = some k → φ.fx k = none) : φ.ok (a.put d v) := by
 refine ⟨by rw [zj4]; exact h.1, fun j u hj => ?_⟩
 rw [zgi hN hd]
 cases d with
 | none => exact h.2 j u hj
 | some d =>
  simp only [zm]
  rw [if_neg]
  ·exact h.2 j u hj
  ·rintro rfl
   rw [hf _ rfl] at hj
   cases hj
theorem zh1 {o : Oper} {ao : AOp} {a : Act} {w : World} {σ : Hp} {K : Value → Hp → Prop} {Kp : List PanicEntry → Hp → Prop} {next : Act → World → Prop} {Q : Exit → Act → World → Prop}
  (h : zdN P o.op = some ao) (hI : Inv w0 σ w) (hK : aop P w0 ao (zR a) σ K Kp)
  (h1 : ∀ v w' σ', Inv w0 σ' w' → K v σ' → next (a.put o.dst v) w') (h2 : ∀ ch w' σ', Inv w0 σ' w' → Kp ch σ' → Q (.panic ch) a w') : o.wpIn (Rf ro) 0 P a w next Q := by
 have hs := zin h hK w hI
 refine ⟨fun f _ => trivial, ?_⟩
 rw [Oper.semAt_eq _ _ _ (ziD h)]
 generalize (execOp a.eval o).run P w = r at hs
 cases r with
 | ok n w' =>
  obtain ⟨σ', hI', hn⟩ := hs
  cases n with
  | value v => exact h1 v w' σ' hI' hn
  | skip => exact h1 undef w' σ' hI' hn
  | enter f args =>
   refine ⟨fun h => (by cases h), ?_⟩
   show CallsIn Fence.wide (0 - 1) P f args w' _
   refine callsIn_wide.2 ((hn w' hI').mono fun e w'' he => ?_)
   cases e with
   | returned v => obtain ⟨σ2, hI2, hk⟩ := he; exact h1 v w'' σ2 hI2 hk
   | panicked ch => obtain ⟨σ2, hI2, hk⟩ := he; exact h2 ch w'' σ2 hI2 hk
   | outgrown => exact he.elim
  | round l f tmps as bd =>
   refine ⟨fun h => (by cases h), ?_⟩
   show RoundIn Fence.wide (0 - 1) P l f tmps as bd w' _
   refine (hn w' hI').mono fun e w'' he => ?_
   cases e with
   | returned v => obtain ⟨σ2, hI2, hk⟩ := he; exact h1 v w'' σ2 hI2 hk
   | panicked ch => obtain ⟨σ2, hI2, hk⟩ := he; exact h2 ch w'' σ2 hI2 hk
   | outgrown => exact he.elim
  | _ => exact hn.elim
 | halt hh w' =>
  cases hh with
  | panic v => obtain ⟨σ', hI', hk⟩ := hs; exact h2 _ w' σ' hI' hk
  | _ => exact hs.elim
theorem zgr {ops : Array Oper} {o : Oper} {s : ASt} {a : Act} {w : World} {σ : Hp} {K : Env → Hp → Prop} {Kp : List PanicEntry → Hp → Prop} {next : Act → World → Prop} {Q : Exit → Act → World → Prop}
  (h : zcB P N ops o = some s) (hfx : ∀ d, o.dst = some d → ds.fx d = none) (hN : a.tmps.size = N) (hd : ds.ok a) (hI : Inv w0 σ w) (hK : step P w0 s (zR a) σ K Kp)
  (h1 : ∀ a' w', zdI N ds w0 K a' w' → next a' w') (h2 : ∀ ch w' σ', Inv w0 σ' w' → Kp ch σ' → Q (.panic ch) a w') :
  if Region.wanted o (yielded ops a.tmps) = true then o.wpIn (Rf ro) 0 P a w next Q else next (a.put o.dst undef) w := by
 obtain ⟨hop, hg, hdst, hlt⟩ := ziN h
 have fin : ∀ v w' σ', Inv w0 σ' w' → K (zm (zR a) s.dst v) σ' → next (a.put o.dst v) w' := fun v w' σ' hI' hk =>
  h1 _ _ ⟨by rw [zi4]; exact hN, Ds.put hd hN v hlt hfx, σ', hI', by rw [zgi hN hlt, ← hdst]; exact hk⟩
 unfold step at hK
 cases hgd : s.gd with
 | none =>
  rw [hgd] at hK hg
  rw [if_pos (ziu (zik hg))]
  exact zh1 hop hI hK fin h2
 | some g =>
  obtain ⟨t, want⟩ := g
  rw [hgd] at hK hg
  dsimp only at hK
  rw [zig hN hg]
  split
  ·rename_i hb
   exact zh1 hop hI (hK.1 hb) fin h2
  ·rename_i hb
   exact fin _ _ _ hI (hK.2 (by simpa using hb))
theorem zhu {ops : Array Oper} {Q : Exit → Act → World → Prop} {K : Env → Hp → Prop} {Kp : List PanicEntry → Hp → Prop} : ∀ (l : List Oper) (ls : List ASt) (a : Act) (w : World) (σ : Hp), l.mapM (zcB P N ops) = some ls → (∀ o ∈ l, ∀ d, o.dst = some d → ds.fx d = none) →
  a.tmps.size = N → ds.ok a → Inv w0 σ w → aops P w0 ls (zR a) σ K Kp → (∀ a' w', zdI N ds w0 K a' w' → Q .normal a' w') → (∀ ch a' w' σ', a'.tmps.size = N → ds.ok a' → Inv w0 σ' w' → Kp ch σ' → Q (.panic ch) a' w') → wpListIn (Rf ro) 0 P ops Q l a w
 | [], ls, a, w, σ, hl, hfx, hN, hd, hI, hK, h1, h2 => by
  simp at hl
  subst hl
  exact h1 _ _ ⟨hN, hd, σ, hI, hK⟩
 | o :: l, ls, a, w, σ, hl, hfx, hN, hd, hI, hK, h1, h2 => by
  rw [List.mapM_cons] at hl
  obtain ⟨s, hs, hl⟩ := Option.bind_eq_some_iff.1 hl
  obtain ⟨r, hr, hl⟩ := Option.bind_eq_some_iff.1 hl
  injection hl with hl
  subst hl
  refine ziq (fun _ => trivial) fun K' hK' => zgr hs (hfx o (List.mem_cons_self ..)) hN hd hI hK (fun a' w' hk => hK' _ _ ?_) (fun ch w' σ' hI' hk => h2 ch a w' σ' hN hd hI' hk)
  obtain ⟨hN', hd', σ', hI', hk'⟩ := hk
  exact zhu l r a' w' σ' hr (fun q hq => hfx q (List.mem_cons_of_mem _ hq)) hN' hd' hI' hk' h1 h2
end
theorem zz {e e' : Env} {x : Opd} (h : ∀ n ∈ zt x, e n = e' n) : ev e x = ev e' x := by
 cases x with
 | t n => exact h n (by simp [zt])
 | _ => rfl
theorem zce {e e' : Env} {x : Option Opd} {d : Int} (h : ∀ n ∈ zb0 x, e n = e' n) : zbf e d x = zbf e' d x := by
 cases x with
 | none => rfl
 | some x => simp only [zbf]; rw [zz (e' := e') h]
theorem zc7 {e e' : Env} {xs : List Opd} (h : ∀ n ∈ xs.flatMap zt, e n = e' n) : xs.map (ev e) = xs.map (ev e') :=
 List.map_congr_left fun x hx => zz fun n hn => h n (List.mem_flatMap.2 ⟨x, hx, hn⟩)
theorem zhi {e e' : Env} {ps : List (Nat × Nat × Opd)} (h : ∀ n ∈ ps.flatMap (fun p => zt p.2.2), e n = e' n) : (ps.map fun p => (p.1, p.2.1, ev e p.2.2)) = ps.map fun p => (p.1, p.2.1, ev e' p.2.2) :=
 List.map_congr_left fun x hx => by rw [zz fun n hn => h n (List.mem_flatMap.2 ⟨x, hx, hn⟩)]
section
variable {P : Program} {w0 : Base}
theorem zcd {o : AOp} {e e' : Env} {σ : Hp} {K : Value → Hp → Prop} {Kp : List PanicEntry → Hp → Prop} (h : ∀ n ∈ zL o, e n = e' n) (hK : aop P w0 o e σ K Kp) : aop P w0 o e' σ K Kp := by
 cases o with
 | mv x =>
  simp only [zL, List.mem_append] at h
  simp only [aop] at hK ⊢
  have hx := zz (e := e) (e' := e') (x := x) (fun n hn => h n (by simp [hn]))
  simp only [← hx]
  exact hK
 | pick c a b =>
  simp only [zL, List.mem_append] at h
  simp only [aop] at hK ⊢
  have hc := zz (e := e) (e' := e') (x := c) (fun n hn => h n (by simp [hn]))
  have ha := zz (e := e) (e' := e') (x := a) (fun n hn => h n (by simp [hn]))
  have hb := zz (e := e) (e' := e') (x := b) (fun n hn => h n (by simp [hn]))
  simp only [← hc, ← ha, ← hb]
  exact hK
 | bin _ x y =>
  simp only [zL, List.mem_append] at h
  simp only [aop] at hK ⊢
  have hx := zz (e := e) (e' := e') (x := x) (fun n hn => h n (by simp [hn]))
  have hy := zz (e := e) (e' := e') (x := y) (fun n hn => h n (by simp [hn]))
  simp only [← hx, ← hy]
  exact hK
 | beq _ x y =>
  simp only [zL, List.mem_append] at h
  simp only [aop] at hK ⊢
  have hx := zz (e := e) (e' := e') (x := x) (fun n hn => h n (by simp [hn]))
  have hy := zz (e := e) (e' := e') (x := y) (fun n hn => h n (by simp [hn]))
  simp only [← hx, ← hy]
  exact hK
 | aeq _ _ x y =>
  simp only [zL, List.mem_append] at h
  simp only [aop] at hK ⊢
  have hx := zz (e := e) (e' := e') (x := x) (fun n hn => h n (by simp [hn]))
  have hy := zz (e := e) (e' := e') (x := y) (fun n hn => h n (by simp [hn]))
  simp only [← hx, ← hy]
  exact hK
 | snil _ x =>
  simp only [zL, List.mem_append] at h
  simp only [aop] at hK ⊢
  have hx := zz (e := e) (e' := e') (x := x) (fun n hn => h n (by simp [hn]))
  simp only [← hx]
  exact hK
 | pnil _ x =>
  simp only [zL, List.mem_append] at h
  simp only [aop] at hK ⊢
  have hx := zz (e := e) (e' := e') (x := x) (fun n hn => h n (by simp [hn]))
  simp only [← hx]
  exact hK
 | inil _ x =>
  simp only [zL, List.mem_append] at h
  simp only [aop] at hK ⊢
  have hx := zz (e := e) (e' := e') (x := x) (fun n hn => h n (by simp [hn]))
  simp only [← hx]
  exact hK
 | tas _ _ x =>
  simp only [zL, List.mem_append] at h
  simp only [aop] at hK ⊢
  have hx := zz (e := e) (e' := e') (x := x) (fun n hn => h n (by simp [hn]))
  simp only [← hx]
  exact hK
 | un _ x =>
  simp only [zL, List.mem_append] at h
  simp only [aop] at hK ⊢
  have hx := zz (e := e) (e' := e') (x := x) (fun n hn => h n (by simp [hn]))
  simp only [← hx]
  exact hK
 | cint _ x =>
  simp only [zL, List.mem_append] at h
  simp only [aop] at hK ⊢
  have hx := zz (e := e) (e' := e') (x := x) (fun n hn => h n (by simp [hn]))
  simp only [← hx]
  exact hK
 | tostr x =>
  simp only [zL, List.mem_append] at h
  simp only [aop] at hK ⊢
  have hx := zz (e := e) (e' := e') (x := x) (fun n hn => h n (by simp [hn]))
  simp only [← hx]
  exact hK
 | tobytes _ x =>
  simp only [zL, List.mem_append] at h
  simp only [aop] at hK ⊢
  have hx := zz (e := e) (e' := e') (x := x) (fun n hn => h n (by simp [hn]))
  simp only [← hx]
  exact hK
 | field _ _ _ x =>
  simp only [zL, List.mem_append] at h
  simp only [aop] at hK ⊢
  have hx := zz (e := e) (e' := e') (x := x) (fun n hn => h n (by simp [hn]))
  simp only [← hx]
  exact hK
 | ext _ x =>
  simp only [zL, List.mem_append] at h
  simp only [aop] at hK ⊢
  have hx := zz (e := e) (e' := e') (x := x) (fun n hn => h n (by simp [hn]))
  simp only [← hx]
  exact hK
 | sidx x i =>
  simp only [zL, List.mem_append] at h
  simp only [aop] at hK ⊢
  have hx := zz (e := e) (e' := e') (x := x) (fun n hn => h n (by simp [hn]))
  have hi := zz (e := e) (e' := e') (x := i) (fun n hn => h n (by simp [hn]))
  simp only [← hx, ← hi]
  exact hK
 | aidx _ _ _ x i =>
  simp only [zL, List.mem_append] at h
  simp only [aop] at hK ⊢
  have hx := zz (e := e) (e' := e') (x := x) (fun n hn => h n (by simp [hn]))
  have hi := zz (e := e) (e' := e') (x := i) (fun n hn => h n (by simp [hn]))
  simp only [← hx, ← hi]
  exact hK
 | mkif _ x =>
  simp only [zL, List.mem_append] at h
  simp only [aop] at hK ⊢
  have hx := zz (e := e) (e' := e') (x := x) (fun n hn => h n (by simp [hn]))
  simp only [← hx]
  exact hK
 | mkfn _ a b =>
  simp only [zL, List.mem_append] at h
  simp only [aop] at hK ⊢
  have ha := zc7 (e := e) (e' := e') (xs := a) (fun n hn => h n (by simp [hn]))
  have hb := zc7 (e := e) (e' := e') (xs := b) (fun n hn => h n (by simp [hn]))
  simp only [← ha, ← hb]
  exact hK
 | build _ ps =>
  simp only [zL, List.mem_append] at h
  simp only [aop] at hK ⊢
  have hps := zhi (e := e) (e' := e') (ps := ps) (fun n hn => h n (by simp [hn]))
  simp only [← hps]
  exact hK
 | box _ x =>
  simp only [zL, List.mem_append] at h
  simp only [aop] at hK ⊢
  have hx := zz (e := e) (e' := e') (x := x) (fun n hn => h n (by simp [hn]))
  simp only [← hx]
  exact hK
 | alloc _ _ => exact hK
 | mkslice _ _ _ _ l c =>
  simp only [zL, List.mem_append] at h
  simp only [aop] at hK ⊢
  have hl := zz (e := e) (e' := e') (x := l) (fun n hn => h n (by simp [hn]))
  have hc := zz (e := e) (e' := e') (x := c) (fun n hn => h n (by simp [hn]))
  simp only [← hl, ← hc]
  exact hK
 | bslice _ _ _ ps =>
  simp only [zL, List.mem_append] at h
  simp only [aop] at hK ⊢
  have hps := zhi (e := e) (e' := e') (ps := ps) (fun n hn => h n (by simp [hn]))
  simp only [← hps]
  exact hK
 | load _ _ x =>
  simp only [zL, List.mem_append] at h
  simp only [aop] at hK ⊢
  have hx := zz (e := e) (e' := e') (x := x) (fun n hn => h n (by simp [hn]))
  simp only [← hx]
  exact hK
 | store _ x y =>
  simp only [zL, List.mem_append] at h
  simp only [aop] at hK ⊢
  have hx := zz (e := e) (e' := e') (x := x) (fun n hn => h n (by simp [hn]))
  have hy := zz (e := e) (e' := e') (x := y) (fun n hn => h n (by simp [hn]))
  simp only [← hx, ← hy]
  exact hK
 | faddr _ x =>
  simp only [zL, List.mem_append] at h
  simp only [aop] at hK ⊢
  have hx := zz (e := e) (e' := e') (x := x) (fun n hn => h n (by simp [hn]))
  simp only [← hx]
  exact hK
 | idx _ x i =>
  simp only [zL, List.mem_append] at h
  simp only [aop] at hK ⊢
  have hx := zz (e := e) (e' := e') (x := x) (fun n hn => h n (by simp [hn]))
  have hi := zz (e := e) (e' := e') (x := i) (fun n hn => h n (by simp [hn]))
  simp only [← hx, ← hi]
  exact hK
 | aaddr _ _ x i =>
  simp only [zL, List.mem_append] at h
  simp only [aop] at hK ⊢
  have hx := zz (e := e) (e' := e') (x := x) (fun n hn => h n (by simp [hn]))
  have hi := zz (e := e) (e' := e') (x := i) (fun n hn => h n (by simp [hn]))
  simp only [← hx, ← hi]
  exact hK
 | slcS x a b =>
  simp only [zL, List.mem_append] at h
  simp only [aop] at hK ⊢
  have hx := zz (e := e) (e' := e') (x := x) (fun n hn => h n (by simp [hn]))
  have ha := fun d => zce (e := e) (e' := e') (x := a) (d := d) (fun n hn => h n (by simp [hn]))
  have hb := fun d => zce (e := e) (e' := e') (x := b) (d := d) (fun n hn => h n (by simp [hn]))
  simp only [← hx, ← ha, ← hb]
  exact hK
 | slc _ x a b c =>
  simp only [zL, List.mem_append] at h
  simp only [aop] at hK ⊢
  have hx := zz (e := e) (e' := e') (x := x) (fun n hn => h n (by simp [hn]))
  have ha := fun d => zce (e := e) (e' := e') (x := a) (d := d) (fun n hn => h n (by simp [hn]))
  have hb := fun d => zce (e := e) (e' := e') (x := b) (d := d) (fun n hn => h n (by simp [hn]))
  have hc := fun d => zce (e := e) (e' := e') (x := c) (d := d) (fun n hn => h n (by simp [hn]))
  simp only [← hx, ← ha, ← hb, ← hc]
  exact hK
 | slcA _ _ x a b c =>
  simp only [zL, List.mem_append] at h
  simp only [aop] at hK ⊢
  have hx := zz (e := e) (e' := e') (x := x) (fun n hn => h n (by simp [hn]))
  have ha := fun d => zce (e := e) (e' := e') (x := a) (d := d) (fun n hn => h n (by simp [hn]))
  have hb := fun d => zce (e := e) (e' := e') (x := b) (d := d) (fun n hn => h n (by simp [hn]))
  have hc := fun d => zce (e := e) (e' := e') (x := c) (d := d) (fun n hn => h n (by simp [hn]))
  simp only [← hx, ← ha, ← hb, ← hc]
  exact hK
 | nilchk x =>
  simp only [zL, List.mem_append] at h
  simp only [aop] at hK ⊢
  have hx := zz (e := e) (e' := e') (x := x) (fun n hn => h n (by simp [hn]))
  simp only [← hx]
  exact hK
 | lenS x =>
  simp only [zL, List.mem_append] at h
  simp only [aop] at hK ⊢
  have hx := zz (e := e) (e' := e') (x := x) (fun n hn => h n (by simp [hn]))
  simp only [← hx]
  exact hK
 | lenL x =>
  simp only [zL, List.mem_append] at h
  simp only [aop] at hK ⊢
  have hx := zz (e := e) (e' := e') (x := x) (fun n hn => h n (by simp [hn]))
  simp only [← hx]
  exact hK
 | lenA _ => exact hK
 | capL x =>
  simp only [zL, List.mem_append] at h
  simp only [aop] at hK ⊢
  have hx := zz (e := e) (e' := e') (x := x) (fun n hn => h n (by simp [hn]))
  simp only [← hx]
  exact hK
 | app _ _ _ s x =>
  simp only [zL, List.mem_append] at h
  simp only [aop] at hK ⊢
  have hs := zz (e := e) (e' := e') (x := s) (fun n hn => h n (by simp [hn]))
  have hx := zz (e := e) (e' := e') (x := x) (fun n hn => h n (by simp [hn]))
  simp only [← hs, ← hx]
  exact hK
 | apps _ _ s x =>
  simp only [zL, List.mem_append] at h
  simp only [aop] at hK ⊢
  have hs := zz (e := e) (e' := e') (x := s) (fun n hn => h n (by simp [hn]))
  have hx := zz (e := e) (e' := e') (x := x) (fun n hn => h n (by simp [hn]))
  simp only [← hs, ← hx]
  exact hK
 | appz _ _ _ _ s x =>
  simp only [zL, List.mem_append] at h
  simp only [aop] at hK ⊢
  have hs := zz (e := e) (e' := e') (x := s) (fun n hn => h n (by simp [hn]))
  have hx := zz (e := e) (e' := e') (x := x) (fun n hn => h n (by simp [hn]))
  simp only [← hs, ← hx]
  exact hK
 | copy _ d s =>
  simp only [zL, List.mem_append] at h
  simp only [aop] at hK ⊢
  have hd := zz (e := e) (e' := e') (x := d) (fun n hn => h n (by simp [hn]))
  have hs := zz (e := e) (e' := e') (x := s) (fun n hn => h n (by simp [hn]))
  simp only [← hd, ← hs]
  exact hK
 | minmax _ x xs =>
  simp only [zL, List.mem_append] at h
  simp only [aop] at hK ⊢
  have hx := zz (e := e) (e' := e') (x := x) (fun n hn => h n (by simp [hn]))
  have hxs := zc7 (e := e) (e' := e') (xs := xs) (fun n hn => h n (by simp [hn]))
  simp only [← hx, ← hxs]
  exact hK
 | call _ xs =>
  simp only [zL, List.mem_append] at h
  simp only [aop] at hK ⊢
  have hxs := zc7 (e := e) (e' := e') (xs := xs) (fun n hn => h n (by simp [hn]))
  simp only [← hxs]
  exact hK
 | callv f xs =>
  simp only [zL, List.mem_append] at h
  simp only [aop] at hK ⊢
  have hf := zz (e := e) (e' := e') (x := f) (fun n hn => h n (by simp [hn]))
  have hxs := zc7 (e := e) (e' := e') (xs := xs) (fun n hn => h n (by simp [hn]))
  simp only [← hf, ← hxs]
  exact hK
 | inv f _ xs =>
  simp only [zL, List.mem_append] at h
  simp only [aop] at hK ⊢
  have hf := zz (e := e) (e' := e') (x := f) (fun n hn => h n (by simp [hn]))
  have hxs := zc7 (e := e) (e' := e') (xs := xs) (fun n hn => h n (by simp [hn]))
  simp only [← hf, ← hxs]
  exact hK
 | pan x =>
  simp only [zL, List.mem_append] at h
  simp only [aop] at hK ⊢
  have hx := zz (e := e) (e' := e') (x := x) (fun n hn => h n (by simp [hn]))
  simp only [← hx]
  exact hK
theorem zbB {o : AOp} {e : Env} {σ : Hp} {K K' : Value → Hp → Prop} {Kp Kp' : List PanicEntry → Hp → Prop} (h : aop P w0 o e σ K Kp) (hk : ∀ v σ', K v σ' → K' v σ') (hp : ∀ c σ', Kp c σ' → Kp' c σ') : aop P w0 o e σ K' Kp' := by
 cases o with
 | call f xs => exact ACalls.mono h hk hp
 | callv f xs =>
  rcases h with ⟨f, x, c, h1, h2, h⟩ | ⟨l, x, c, h1, h⟩
  ·exact .inl ⟨f, x, c, h1, h2, ACalls.mono h hk hp⟩
  ·exact .inr ⟨l, x, c, h1, zcg.mono h hk hp⟩
 | inv x m xs => obtain ⟨t, v, f, h1, h2, h3, h⟩ := h; exact ⟨t, v, f, h1, h2, h3, ACalls.mono h hk hp⟩
 | pan x => obtain ⟨t, v, h1, h⟩ := h; exact ⟨t, v, h1, hp _ _ h⟩
 | tobytes t x => obtain ⟨s, h1, h⟩ := h; exact ⟨s, h1, fun bb n cap a b => hk _ _ (h bb n cap a b)⟩
 | box t x => exact fun b h1 h2 => hk _ _ (h b h1 h2)
 | alloc t x => exact fun b h1 h2 => hk _ _ (h b h1 h2)
 | mkslice ty n bytes zero l c => obtain ⟨k, k', ln, cp, a1, a2, a3, a4, a5, a6, h⟩ := h; exact ⟨k, k', ln, cp, a1, a2, a3, a4, a5, a6, fun b h1 h2 => hk _ _ (h b h1 h2)⟩
 | bslice ty len cells parts => obtain ⟨cs, h1, h⟩ := h; exact ⟨cs, h1, fun b h2 h3 => hk _ _ (h b h2 h3)⟩
 | store n x y => obtain ⟨a, σ', h1, h2, h3, h4, h⟩ := h; exact ⟨a, σ', h1, h2, h3, h4, hk _ _ h⟩
 | app ty n bytes s x => obtain ⟨a2, a3, a4, a5, a6, a7, a8, a9, h⟩ := h; exact ⟨a2, a3, a4, a5, a6, a7, a8, a9, fun v σ' h0 h1 => hk _ _ (h v σ' h0 h1)⟩
 | apps ty bytes s x => obtain ⟨a2, a3, a4, a5, a6, a7, h⟩ := h; exact ⟨a2, a3, a4, a5, a6, a7, fun v σ' h0 h1 => hk _ _ (h v σ' h0 h1)⟩
 | appz ty n bytes z s x => obtain ⟨a2, a3, a4, a5, a6, a7, a8, a9, h⟩ := h; exact ⟨a2, a3, a4, a5, a6, a7, a8, a9, fun v σ' h0 h1 => hk _ _ (h v σ' h0 h1)⟩
 | copy n d s => obtain ⟨a1, a2, a3, a4, a5, a6, a7, a8, a9, a10, h⟩ := h; exact ⟨a1, a2, a3, a4, a5, a6, a7, a8, a9, a10, hk _ _ h⟩
 | _ =>
  dsimp only [aop] at h ⊢
  first
  | (exact hk _ _ h)
  | (obtain ⟨x0, h⟩ := h; exact ⟨x0, hk _ _ h⟩)
  | (obtain ⟨x0, x1, h⟩ := h; exact ⟨x0, x1, hk _ _ h⟩)
  | (obtain ⟨x0, x1, x2, h⟩ := h; exact ⟨x0, x1, x2, hk _ _ h⟩)
  | (obtain ⟨x0, x1, x2, x3, h⟩ := h; exact ⟨x0, x1, x2, x3, hk _ _ h⟩)
  | (obtain ⟨x0, x1, x2, x3, x4, h⟩ := h; exact ⟨x0, x1, x2, x3, x4, hk _ _ h⟩)
  | (obtain ⟨x0, x1, x2, x3, x4, x5, h⟩ := h; exact ⟨x0, x1, x2, x3, x4, x5, hk _ _ h⟩)
  | (obtain ⟨x0, x1, x2, x3, x4, x5, x6, h⟩ := h; exact ⟨x0, x1, x2, x3, x4, x5, x6, hk _ _ h⟩)
  | (obtain ⟨x0, x1, x2, x3, x4, x5, x6, x7, h⟩ := h; exact ⟨x0, x1, x2, x3, x4, x5, x6, x7, hk _ _ h⟩)
  | (obtain ⟨x0, x1, x2, x3, x4, x5, x6, x7, x8, h⟩ := h; exact ⟨x0, x1, x2, x3, x4, x5, x6, x7, x8, hk _ _ h⟩)
  | (obtain ⟨x0, x1, x2, x3, x4, x5, x6, x7, x8, x9, h⟩ := h; exact ⟨x0, x1, x2, x3, x4, x5, x6, x7, x8, x9, hk _ _ h⟩)
  | (obtain ⟨x0, x1, x2, x3, x4, x5, x6, x7, x8, x9, x10, h⟩ := h; exact ⟨x0, x1, x2, x3, x4, x5, x6, x7, x8, x9, x10, hk _ _ h⟩)
  | (obtain ⟨x0, x1, x2, x3, x4, x5, x6, x7, x8, x9, x10, x11, h⟩ := h; exact ⟨x0, x1, x2, x3, x4, x5, x6, x7, x8, x9, x10, x11, hk _ _ h⟩)
  | (obtain ⟨x0, x1, x2, x3, x4, x5, x6, x7, x8, x9, x10, x11, x12, h⟩ := h; exact ⟨x0, x1, x2, x3, x4, x5, x6, x7, x8, x9, x10, x11, x12, hk _ _ h⟩)
  | (obtain ⟨x0, x1, x2, x3, x4, x5, x6, x7, x8, x9, x10, x11, x12, x13, h⟩ := h; exact ⟨x0, x1, x2, x3, x4, x5, x6, x7, x8, x9, x10, x11, x12, x13, hk _ _ h⟩)
  | (obtain ⟨x0, x1, x2, x3, x4, x5, x6, x7, x8, x9, x10, x11, x12, x13, x14, h⟩ := h; exact ⟨x0, x1, x2, x3, x4, x5, x6, x7, x8, x9, x10, x11, x12, x13, x14, hk _ _ h⟩)
theorem zhq {o : AOp} {e : Env} {σ : Hp} {K : Value → Hp → Prop} {Kp : List PanicEntry → Hp → Prop} (hq : zbx o = true) (h : aop P w0 o e σ K Kp) : ∃ v, aop P w0 o e σ (fun v' σ' => v' = v ∧ σ' = σ) zbg ∧ K v σ := by
 cases o <;> simp only [zbx, Bool.false_eq_true] at hq <;> dsimp only [aop] at h ⊢ <;> first
  | (exact ⟨_, ⟨rfl, rfl⟩, h⟩)
  | (obtain ⟨x0, h⟩ := h; exact ⟨_, ⟨x0, rfl, rfl⟩, h⟩)
  | (obtain ⟨x0, x1, h⟩ := h; exact ⟨_, ⟨x0, x1, rfl, rfl⟩, h⟩)
  | (obtain ⟨x0, x1, x2, h⟩ := h; exact ⟨_, ⟨x0, x1, x2, rfl, rfl⟩, h⟩)
  | (obtain ⟨x0, x1, x2, x3, h⟩ := h; exact ⟨_, ⟨x0, x1, x2, x3, rfl, rfl⟩, h⟩)
  | (obtain ⟨x0, x1, x2, x3, x4, h⟩ := h; exact ⟨_, ⟨x0, x1, x2, x3, x4, rfl, rfl⟩, h⟩)
  | (obtain ⟨x0, x1, x2, x3, x4, x5, h⟩ := h; exact ⟨_, ⟨x0, x1, x2, x3, x4, x5, rfl, rfl⟩, h⟩)
  | (obtain ⟨x0, x1, x2, x3, x4, x5, x6, h⟩ := h; exact ⟨_, ⟨x0, x1, x2, x3, x4, x5, x6, rfl, rfl⟩, h⟩)
  | (obtain ⟨x0, x1, x2, x3, x4, x5, x6, x7, h⟩ := h; exact ⟨_, ⟨x0, x1, x2, x3, x4, x5, x6, x7, rfl, rfl⟩, h⟩)
  | (obtain ⟨x0, x1, x2, x3, x4, x5, x6, x7, x8, h⟩ := h; exact ⟨_, ⟨x0, x1, x2, x3, x4, x5, x6, x7, x8, rfl, rfl⟩, h⟩)
  | (obtain ⟨x0, x1, x2, x3, x4, x5, x6, x7, x8, x9, h⟩ := h; exact ⟨_, ⟨x0, x1, x2, x3, x4, x5, x6, x7, x8, x9, rfl, rfl⟩, h⟩)
  | (obtain ⟨x0, x1, x2, x3, x4, x5, x6, x7, x8, x9, x10, h⟩ := h; exact ⟨_, ⟨x0, x1, x2, x3, x4, x5, x6, x7, x8, x9, x10, rfl, rfl⟩, h⟩)
  | (obtain ⟨x0, x1, x2, x3, x4, x5, x6, x7, x8, x9, x10, x11, h⟩ := h; exact ⟨_, ⟨x0, x1, x2, x3, x4, x5, x6, x7, x8, x9, x10, x11, rfl, rfl⟩, h⟩)
  | (obtain ⟨x0, x1, x2, x3, x4, x5, x6, x7, x8, x9, x10, x11, x12, h⟩ := h; exact ⟨_, ⟨x0, x1, x2, x3, x4, x5, x6, x7, x8, x9, x10, x11, x12, rfl, rfl⟩, h⟩)
  | (obtain ⟨x0, x1, x2, x3, x4, x5, x6, x7, x8, x9, x10, x11, x12, x13, h⟩ := h; exact ⟨_, ⟨x0, x1, x2, x3, x4, x5, x6, x7, x8, x9, x10, x11, x12, x13, rfl, rfl⟩, h⟩)
  | (obtain ⟨x0, x1, x2, x3, x4, x5, x6, x7, x8, x9, x10, x11, x12, x13, x14, h⟩ := h; exact ⟨_, ⟨x0, x1, x2, x3, x4, x5, x6, x7, x8, x9, x10, x11, x12, x13, x14, rfl, rfl⟩, h⟩)
theorem zhG {o : AOp} {e : Env} {σ σ1 : Hp} {v : Value} (hq : zbx o = true) (hr : zdq o = false) (h : aop P w0 o e σ (fun v' σ' => v' = v ∧ σ' = σ) zbg) : aop P w0 o e σ1 (fun v' σ' => v' = v ∧ σ' = σ1) zbg := by
 cases o <;> simp only [zbx, Bool.false_eq_true] at hq <;> simp only [zdq, Bool.true_eq_false] at hr <;> dsimp only [aop] at h ⊢ <;> first
  | (obtain ⟨h1, h2⟩ := h; exact ⟨h1, rfl⟩)
  | (obtain ⟨x0, h1, h2⟩ := h; exact ⟨x0, h1, rfl⟩)
  | (obtain ⟨x0, x1, h1, h2⟩ := h; exact ⟨x0, x1, h1, rfl⟩)
  | (obtain ⟨x0, x1, x2, h1, h2⟩ := h; exact ⟨x0, x1, x2, h1, rfl⟩)
  | (obtain ⟨x0, x1, x2, x3, h1, h2⟩ := h; exact ⟨x0, x1, x2, x3, h1, rfl⟩)
  | (obtain ⟨x0, x1, x2, x3, x4, h1, h2⟩ := h; exact ⟨x0, x1, x2, x3, x4, h1, rfl⟩)
  | (obtain ⟨x0, x1, x2, x3, x4, x5, h1, h2⟩ := h; exact ⟨x0, x1, x2, x3, x4, x5, h1, rfl⟩)
  | (obtain ⟨x0, x1, x2, x3, x4, x5, x6, h1, h2⟩ := h; exact ⟨x0, x1, x2, x3, x4, x5, x6, h1, rfl⟩)
  | (obtain ⟨x0, x1, x2, x3, x4, x5, x6, x7, h1, h2⟩ := h; exact ⟨x0, x1, x2, x3, x4, x5, x6, x7, h1, rfl⟩)
  | (obtain ⟨x0, x1, x2, x3, x4, x5, x6, x7, x8, h1, h2⟩ := h; exact ⟨x0, x1, x2, x3, x4, x5, x6, x7, x8, h1, rfl⟩)
  | (obtain ⟨x0, x1, x2, x3, x4, x5, x6, x7, x8, x9, h1, h2⟩ := h; exact ⟨x0, x1, x2, x3, x4, x5, x6, x7, x8, x9, h1, rfl⟩)
  | (obtain ⟨x0, x1, x2, x3, x4, x5, x6, x7, x8, x9, x10, h1, h2⟩ := h; exact ⟨x0, x1, x2, x3, x4, x5, x6, x7, x8, x9, x10, h1, rfl⟩)
  | (obtain ⟨x0, x1, x2, x3, x4, x5, x6, x7, x8, x9, x10, x11, h1, h2⟩ := h; exact ⟨x0, x1, x2, x3, x4, x5, x6, x7, x8, x9, x10, x11, h1, rfl⟩)
  | (obtain ⟨x0, x1, x2, x3, x4, x5, x6, x7, x8, x9, x10, x11, x12, h1, h2⟩ := h; exact ⟨x0, x1, x2, x3, x4, x5, x6, x7, x8, x9, x10, x11, x12, h1, rfl⟩)
  | (obtain ⟨x0, x1, x2, x3, x4, x5, x6, x7, x8, x9, x10, x11, x12, x13, h1, h2⟩ := h; exact ⟨x0, x1, x2, x3, x4, x5, x6, x7, x8, x9, x10, x11, x12, x13, h1, rfl⟩)
  | (obtain ⟨x0, x1, x2, x3, x4, x5, x6, x7, x8, x9, x10, x11, x12, x13, x14, h1, h2⟩ := h; exact ⟨x0, x1, x2, x3, x4, x5, x6, x7, x8, x9, x10, x11, x12, x13, x14, h1, rfl⟩)
end
section
variable {P : Program} {w0 : Base} {N : Nat}
def pend (P : Program) (w0 : Base) (s : ASt) (e : Env) (σ : Hp) : Prop := ∃ d, s.dst = some d ∧ match s.gd with
 | none => aop P w0 s.op e σ (fun v σ' => v = e d ∧ σ' = σ) zbg
 | some (t, want) => (isB (e t) want = true → aop P w0 s.op e σ (fun v σ' => v = e d ∧ σ' = σ) zbg) ∧ (isB (e t) want = false → e d = undef)
theorem zhr {s : ASt} {e e' : Env} {σ : Hp} (h : ∀ n ∈ stT s ++ s.dst.toList, e n = e' n) (hp : pend P w0 s e σ) : pend P w0 s e' σ := by
 obtain ⟨d, hd, hp⟩ := hp
 have hdd : e d = e' d := h d (by simp [hd])
 have hop : ∀ n ∈ zL s.op, e n = e' n := fun n hn => h n (by simp [stT, hn])
 refine ⟨d, hd, ?_⟩
 cases hg : s.gd with
 | none =>
  rw [hg] at hp
  dsimp only at hp ⊢
  rw [← hdd]
  exact zcd hop hp
 | some g =>
  obtain ⟨t, want⟩ := g
  rw [hg] at hp
  dsimp only at hp ⊢
  have ht : e t = e' t := h t (by simp [stT, hg])
  rw [← hdd, ← ht]
  exact ⟨fun hb => zcd hop (hp.1 hb), hp.2⟩
theorem ziU {s : ASt} {e : Env} {σ σ1 : Hp} (hq : zbx s.op = true) (hr : zdq s.op = false) (hp : pend P w0 s e σ) : pend P w0 s e σ1 := by
 obtain ⟨d, hd, hp⟩ := hp
 refine ⟨d, hd, ?_⟩
 cases hg : s.gd with
 | none =>
  rw [hg] at hp
  exact zhG hq hr hp
 | some g =>
  obtain ⟨t, want⟩ := g
  rw [hg] at hp
  exact ⟨fun hb => zhG hq hr (hp.1 hb), hp.2⟩
theorem zjJ {s : ASt} {e e' : Env} {σ σ1 : Hp} (h : ∀ n ∈ stT s ++ s.dst.toList, e n = e' n) (hp : pend P w0 s e σ) (ha : again P w0 s e' σ1) : pend P w0 s e' σ1 := by
 obtain ⟨d, hd, hp⟩ := hp
 have hdd : e d = e' d := h d (by simp [hd])
 refine ⟨d, hd, ?_⟩
 unfold again at ha
 rw [hd] at ha
 cases hg : s.gd with
 | none =>
  rw [hg] at ha
  exact ha
 | some g =>
  obtain ⟨t, want⟩ := g
  rw [hg] at ha hp
  have ht : e t = e' t := h t (by simp [stT, hg])
  refine ⟨ha, fun hb => ?_⟩
  rw [← hdd]
  exact hp.2 (by rw [ht]; exact hb)
theorem zjt {s : ASt} {e : Env} {σ : Hp} {K : Env → Hp → Prop} {Kp : List PanicEntry → Hp → Prop} {d : Nat} (hq : zbx s.op = true) (hd : s.dst = some d) (hself : d ∉ stT s) (h : step P w0 s e σ K Kp) :
  ∃ v, pend P w0 s (zm e s.dst v) σ ∧ K (zm e s.dst v) σ := by
 have hne : ∀ v, ∀ n ∈ stT s, e n = zm e s.dst v n := fun v n hn => by
  rw [hd]
  simp only [zm]
  rw [if_neg (show ¬ n = d from fun he => hself (by rw [← he]; exact hn))]
 have hdv : ∀ v, zm e s.dst v d = v := fun v => by rw [hd]; simp [zm]
 unfold step at h
 cases hg : s.gd with
 | none =>
  rw [hg] at h
  obtain ⟨v, hv, hk⟩ := zhq hq h
  refine ⟨v, ⟨d, hd, ?_⟩, hk⟩
  rw [hg]
  dsimp only
  rw [hdv]
  exact zcd (fun n hn => hne v n (by simp [stT, hn])) hv
 | some g =>
  obtain ⟨t, want⟩ := g
  rw [hg] at h
  dsimp only at h
  have ht : ∀ v, zm e s.dst v t = e t := fun v => (hne v t (by simp [stT, hg])).symm
  cases hb : isB (e t) want with
  | true =>
   obtain ⟨v, hv, hk⟩ := zhq hq (h.1 hb)
   refine ⟨v, ⟨d, hd, ?_⟩, hk⟩
   rw [hg]
   dsimp only
   rw [hdv, ht]
   exact ⟨fun _ => zcd (fun n hn => hne v n (by simp [stT, hn])) hv, (fun h0 => by rw [hb] at h0; cases h0)⟩
  | false =>
   refine ⟨undef, ⟨d, hd, ?_⟩, h.2 hb⟩
   rw [hg]
   dsimp only
   rw [hdv, ht]
   exact ⟨(fun h0 => by rw [hb] at h0; cases h0), fun _ => rfl⟩
theorem zb1 {s : ASt} {e : Env} {σ : Hp} {K K' : Env → Hp → Prop} {Kp Kp' : List PanicEntry → Hp → Prop} (h : step P w0 s e σ K Kp) (hk : ∀ e σ', K e σ' → K' e σ') (hp : ∀ c σ', Kp c σ' → Kp' c σ') : step P w0 s e σ K' Kp' := by
 unfold step at h ⊢
 cases hg : s.gd with
 | none => rw [hg] at h; exact zbB h (fun v σ' x => hk _ _ x) hp
 | some g => rw [hg] at h; exact ⟨fun hb => zbB (h.1 hb) (fun v σ' x => hk _ _ x) hp, fun hb => hk _ _ (h.2 hb)⟩
theorem zix {s : ASt} {e e' : Env} {σ : Hp} {K : Env → Hp → Prop} {Kp : List PanicEntry → Hp → Prop} (h : ∀ n ∈ stT s, e n = e' n) (hs : step P w0 s e σ K Kp) :
  step P w0 s e' σ (fun e2 σ' => ∃ v, e2 = zm e' s.dst v ∧ K (zm e s.dst v) σ') Kp := by
 unfold step at hs ⊢
 cases hg : s.gd with
 | none =>
  rw [hg] at hs
  dsimp only at hs ⊢
  have := zcd (fun n hn => h n (by simp [stT, hn])) hs
  exact zbB this (fun v σ' hk => ⟨v, rfl, hk⟩) (fun _ _ hk => hk)
 | some g =>
  obtain ⟨t, want⟩ := g
  rw [hg] at hs
  dsimp only at hs ⊢
  rw [← h t (by simp [stT, hg])]
  exact ⟨fun hb => zbB (zcd (fun n hn => h n (by simp [stT, hn])) (hs.1 hb)) (fun v σ' hk => ⟨v, rfl, hk⟩) (fun _ _ hk => hk), fun hb => ⟨undef, rfl, hs.2 hb⟩⟩
theorem zit {s : ASt} {e e' : Env} {σ : Hp} (h : ∀ n ∈ stT s, e n = e' n) (hp : pend P w0 s e σ) : ∃ d, s.dst = some d ∧ step P w0 s e' σ (fun e2 σ' => e2 = zm e' s.dst (e d) ∧ σ' = σ) zbg := by
 obtain ⟨d, hd, hp⟩ := hp
 refine ⟨d, hd, ?_⟩
 unfold step
 cases hg : s.gd with
 | none =>
  rw [hg] at hp
  exact zbB (zcd (fun n hn => h n (by simp [stT, hn])) hp) (fun v σ' hk => ⟨by rw [hk.1], hk.2⟩) (fun _ _ hk => hk)
 | some g =>
  obtain ⟨t, want⟩ := g
  rw [hg] at hp
  dsimp only at hp ⊢
  rw [← h t (by simp [stT, hg])]
  exact ⟨fun hb => zbB (zcd (fun n hn => h n (by simp [stT, hn])) (hp.1 hb)) (fun v σ' hk => ⟨by rw [hk.1], hk.2⟩) (fun _ _ hk => hk), fun hb => ⟨by rw [hp.2 hb], rfl⟩⟩
end
theorem zgp {α β : Type} {f : α → Option β} : ∀ (l : List α) (r : List β), l.mapM f = some r → r.length = l.length ∧ ∀ (i : Nat) (a : α), l[i]? = some a → ∃ b, f a = some b ∧ r[i]? = some b
 | [], r, h => by
  simp at h
  subst h
  exact ⟨rfl, fun i a h => by simp at h⟩
 | x :: l, r, h => by
  rw [List.mapM_cons] at h
  obtain ⟨b, hb, h⟩ := Option.bind_eq_some_iff.1 h
  obtain ⟨r', hr', h⟩ := Option.bind_eq_some_iff.1 h
  injection h with h
  subst h
  obtain ⟨h1, h2⟩ := zgp l r' hr'
  refine ⟨by simp [h1], fun i a ha => ?_⟩
  cases i with
  | zero => simp at ha; subst ha; exact ⟨b, hb, rfl⟩
  | succ i => exact h2 i a (by simpa using ha)
theorem zdp : ∀ (n : Nat) (D : List Nat), D.Nodup → (∀ i ∈ D, i < n) → D.length ≤ n
 | 0, D, _, h => by
  cases D with
  | nil => simp
  | cons x D => exact absurd (h x (List.mem_cons_self ..)) (by omega)
 | n + 1, D, hd, h => by
  have h1 := zdp n (D.erase n) (hd.erase n) (fun i hi => by
   have h2 := (List.Nodup.mem_erase_iff hd).1 hi
   have := h i h2.2
   have := h2.1
   omega)
  rw [List.length_erase] at h1
  split at h1 <;> omega
theorem zgR : ∀ (X D : List Nat), X.Nodup → (∀ i ∈ X, i ∈ D) → X.length ≤ D.length
 | [], D, _, _ => by simp
 | x :: X, D, h, hs => by
  have hx := hs x (List.mem_cons_self ..)
  have h1 := List.nodup_cons.1 h
  have := zgR X (D.erase x) h1.2 (fun i hi => (List.mem_erase_of_ne (fun he => h1.1 (by rw [← he]; exact hi))).2 (hs i (List.mem_cons_of_mem _ hi)))
  rw [List.length_erase_of_mem hx] at this
  have := List.length_pos_of_mem hx
  simp
  omega
section
variable {P : Program} {w0 : Base} {N : Nat} {ds : Ds} {ops : Array Oper} {l : List ASt} {deps clos : List (List Nat)}
structure Reg (P : Program) (N : Nat) (ops : Array Oper) (l : List ASt) : Prop where
 map : ops.toList.mapM (zcB P N ops) = some l
 ok : ze1 l (zC ops) = true
 dep : zfI (zC ops) = true
theorem Reg.len (R : Reg P N ops l) : l.length = ops.size := by simpa using (zgp _ _ R.map).1
theorem Reg.get (R : Reg P N ops l) {i : Nat} {o : Oper} (h : ops[i]? = some o) : ∃ s, zcB P N ops o = some s ∧ l[i]? = some s := (zgp _ _ R.map).2 i o (by simpa using h)
theorem Reg.dlt (R : Reg P N ops l) {i j : Nat} (h : j ∈ (zC ops).getD i []) : j < i := by
 have := R.dep
 simp only [zfI, List.all_eq_true, List.mem_range, decide_eq_true_eq] at this
 by_cases hi : i < (zC ops).length
 ·exact this i hi j h
 ·rw [List.getD_eq_getElem?_getD, List.getElem?_eq_none (by omega)] at h
  simp at h
theorem Reg.pair (R : Reg P N ops l) {i j : Nat} {s q : ASt} (hi : l[i]? = some s) (hj : l[j]? = some q) (hne : i ≠ j) {d : Nat} (hd : q.dst = some d) (hm : d ∈ stT s ++ s.dst.toList) :
  j ∈ (zC ops).getD i [] ∨ ((isQ l (zC ops) i = false ∨ isQ l (zC ops) j = false) ∧ i ∈ (zC ops).getD j []) := by
 have := R.ok
 simp only [ze1, List.all_eq_true, List.mem_range] at this
 have h := this i (List.getElem?_eq_some_iff.1 hi).1 j (List.getElem?_eq_some_iff.1 hj).1
 rw [hi, hj] at h
 dsimp only at h
 rw [if_neg hne, hd] at h
 dsimp only at h
 simp only [Bool.or_eq_true, Bool.not_eq_true', List.contains_eq_mem, decide_eq_false_iff_not, Bool.and_eq_true, decide_eq_true_eq] at h
 rcases h with (h | h) | h
 ·exact absurd hm h
 ·exact .inl h
 ·refine .inr ⟨?_, h.2⟩
  have h1 := h.1
  cases h2 : isQ l (zC ops) i <;> cases h3 : isQ l (zC ops) j <;> simp_all
theorem Reg.self (R : Reg P N ops l) {i : Nat} {s : ASt} (hi : l[i]? = some s) (hq : zbx s.op = true) : ∃ d, s.dst = some d ∧ d ∉ stT s := by
 have := R.ok
 simp only [ze1, List.all_eq_true, List.mem_range] at this
 have h := this i (List.getElem?_eq_some_iff.1 hi).1 i (List.getElem?_eq_some_iff.1 hi).1
 rw [hi] at h
 dsimp only at h
 rw [if_pos rfl, hq] at h
 cases hd : s.dst with
 | none => rw [hd] at h; simp at h
 | some d => rw [hd] at h; exact ⟨d, rfl, by simpa using h⟩
structure Far (P : Program) (w0 : Base) (N : Nat) (ds : Ds) (ops : Array Oper) (l : List ASt) (L : Nat → Prop) (D : List Nat) (a : Act) (w : World) (e : Env) (σ : Hp) : Prop where
 size : a.tmps.size = N
 defers : ds.ok a
 inv : Inv w0 σ w
 nd : D.Nodup
 lt : ∀ i ∈ D, i < l.length
 sub : ∀ i, L i → i ∈ D
 eff : ∀ i ∈ D, ∀ s, l[i]? = some s → isQ l (zC ops) i = false → L i
 dcl : ∀ i ∈ D, ∀ j ∈ (zC ops).getD i [], j ∈ D
 lcl : ∀ i, L i → ∀ j ∈ (zC ops).getD i [], L j
 agree : ∀ x, (∀ j ∈ D, ∀ s, l[j]? = some s → ¬ L j → s.dst ≠ some x) → zR a x = e x
 pending : ∀ j ∈ D, ∀ s, l[j]? = some s → ¬ L j → pend P w0 s e σ
variable {K : Env → Hp → Prop} {Kp : List PanicEntry → Hp → Prop}
theorem zey {i : Nat} {s : ASt} (hs : l[i]? = some s) (h : isQ l deps i = true) : zbx s.op = true := by
 unfold isQ at h
 rw [hs] at h
 simp only [Bool.and_eq_true] at h
 exact h.1
theorem zjq {D : List Nat} {i : Nat} (h : zbU l deps D = some i) : i < l.length ∧ i ∉ D ∧ isQ l deps i = true ∧ ∀ j ∈ deps.getD i [], j ∈ D := by
 unfold zbU at h
 have h1 := List.find?_some h
 have h2 := List.mem_of_find?_eq_some h
 simp only [Bool.and_eq_true, Bool.not_eq_true', List.contains_eq_mem, decide_eq_false_iff_not, subset, List.all_eq_true, decide_eq_true_eq] at h1
 exact ⟨List.mem_range.1 h2, h1.1.1, h1.1.2, h1.2⟩
theorem zia {D : List Nat} (h : zbU l deps D = none) {i : Nat} (hi : i < l.length) (hD : i ∉ D) (hq : isQ l deps i = true) : ¬ ∀ j ∈ deps.getD i [], j ∈ D := by
 unfold zbU at h
 rw [List.find?_eq_none] at h
 have := h i (List.mem_range.2 hi)
 simp only [Bool.and_eq_true, Bool.not_eq_true', List.contains_eq_mem, decide_eq_false_iff_not, subset, List.all_eq_true, decide_eq_true_eq, not_and] at this
 exact this ⟨hD, hq⟩
theorem Far.saturate (R : Reg P N ops l) {L : Nat → Prop} {a : Act} {w : World} : ∀ (n : Nat) (D : List Nat) (e : Env) (σ : Hp), Far P w0 N ds ops l L D a w e σ → D.length + n = l.length + 1 → atree P w0 (zbm l (zC ops) clos n D) e σ K Kp →
  ∃ n' D' e', Far P w0 N ds ops l L D' a w e' σ ∧ D'.length + n' = l.length + 1 ∧ atree P w0 (zbm l (zC ops) clos n' D') e' σ K Kp ∧ zbU l (zC ops) D' = none
 | 0, D, e, σ, F, hn, ht => by
  have := zdp l.length D F.nd F.lt
  omega
 | n + 1, D, e, σ, F, hn, ht => by
  cases hr : zbU l (zC ops) D with
  | none => exact ⟨n + 1, D, e, F, hn, ht, hr⟩
  | some i =>
   obtain ⟨hi, hD, hq, hdeps⟩ := zjq hr
   obtain ⟨s, hs⟩ : ∃ s, l[i]? = some s := ⟨_, List.getElem?_eq_getElem hi⟩
   have hq' : zbx s.op = true := zey hs hq
   obtain ⟨d, hd, hself⟩ := R.self hs hq'
   have ht' : step P w0 s e σ (fun e' σ' => atree P w0 (zbm l (zC ops) clos n (i :: D)) e' σ' K Kp) Kp := by
    have : zbm l (zC ops) clos (n + 1) D = .quiet s (zbm l (zC ops) clos n (i :: D)) := by
     simp only [zbm, hr]
     rw [List.getD_eq_getElem?_getD, hs]
     rfl
    rw [this] at ht
    exact ht
   obtain ⟨v, hp, hk⟩ := zjt hq' hd hself ht'
   refine Far.saturate R n (i :: D) _ σ ?_ (by simp; omega) hk
   have hnL : ¬ L i := fun h => hD (F.sub i h)
   refine ⟨F.size, F.defers, F.inv, List.nodup_cons.2 ⟨hD, F.nd⟩, ?_, fun j hj => List.mem_cons_of_mem _ (F.sub j hj), ?_, ?_, F.lcl, ?_, ?_⟩
   ·intro j hj
    rcases List.mem_cons.1 hj with rfl | hj
    ·exact hi
    ·exact F.lt j hj
   ·intro j hj q hq2 hqq
    rcases List.mem_cons.1 hj with rfl | hj
    ·rw [hq] at hqq; cases hqq
    ·exact F.eff j hj q hq2 hqq
   ·intro j hj k hkk
    rcases List.mem_cons.1 hj with rfl | hj
    ·exact List.mem_cons_of_mem _ (hdeps k hkk)
    ·exact List.mem_cons_of_mem _ (F.dcl j hj k hkk)
   ·intro x hx
    have hxd : x ≠ d := fun he => hx i (List.mem_cons_self ..) s hs hnL (by rw [hd, he])
    rw [F.agree x (fun j hj q hq2 hnl => hx j (List.mem_cons_of_mem _ hj) q hq2 hnl), hd]
    simp only [zm]
    rw [if_neg hxd]
   ·intro j hj q hq2 hnl
    rcases List.mem_cons.1 hj with rfl | hj
    ·rw [hs] at hq2; injection hq2 with hq2; subst hq2; exact hp
    ·refine zhr (fun x hx => ?_) (F.pending j hj q hq2 hnl)
     rw [hd]
     simp only [zm]
     rw [if_neg]
     intro he
     subst he
     have hji : j ≠ i := fun he => hD (he ▸ hj)
     rcases R.pair hq2 hs hji hd hx with h | ⟨h, h2⟩
     ·exact hD (F.dcl j hj i h)
     ·rcases h with h | h
      ·exact hnl (F.eff j hj q hq2 h)
      ·rw [hq] at h; cases h
theorem zcN : ∀ (t : zbb) (e : Env) (σ : Hp) (K : Env → Hp → Prop) (Kp : List PanicEntry → Hp → Prop), atree P w0 (zbF t) e σ K Kp → atree P w0 t e σ K Kp
 | .done, _, _, _, _, h => h
 | .top, _, _, _, _, h => h
 | .quiet s k, e, σ, K, Kp, h => by
  simp only [zbF, atree] at h ⊢
  exact zb1 h (fun e' σ' hk => zcN k _ _ _ _ hk) (fun _ _ hk => hk)
 | .eff s st k, e, σ, K, Kp, h => by
  simp only [zbF] at h
  split at h
  ·rename_i hq
   simp only [Bool.and_eq_true, List.isEmpty_iff] at hq
   obtain ⟨_, rfl⟩ := hq
   simp only [atree] at h ⊢
   exact zb1 h (fun e' σ' hk => ⟨trivial, zcN k _ _ _ _ hk⟩) (fun _ _ hk => hk)
  ·simp only [atree] at h ⊢
   exact zb1 h (fun e' σ' hk => ⟨hk.1, zcN k _ _ _ _ hk.2⟩) (fun _ _ hk => hk)
 | .both a b, e, σ, K, Kp, h => by
  unfold zbF at h
  split at h
  ·rename_i x heq
   injection heq with h1 h2
   subst h1; subst h2
   exact ⟨zcN _ _ _ _ _ h, trivial⟩
  ·rename_i x y hne heq
   injection heq with h1 h2
   subst h1; subst h2
   exact ⟨zcN _ _ _ _ _ h.1, zcN _ _ _ _ _ h.2⟩
  ·rename_i heq; cases heq
  ·rename_i heq; cases heq
  ·rename_i h1 h2 h3 h4; exact absurd rfl (h2 a b)
end
section
variable {P : Program} {w0 : Base} {N : Nat} {ds : Ds} {ro : Option Nat} {ops : Array Oper} {l : List ASt} {K : Env → Hp → Prop} {Kp : List PanicEntry → Hp → Prop} {Q : Exit → Act → World → Prop}
theorem zg7 {j : Nat} : ∀ (r acc : List Nat), j ∈ zfY acc r → j ∈ acc ∨ j ∈ r
 | [], acc, h => .inl h
 | x :: r, acc, h => by
  rcases zg7 r _ h with h | h
  ·split at h
   ·exact .inl h
   ·rcases List.mem_cons.1 h with rfl | h
    ·exact .inr (List.mem_cons_self ..)
    ·exact .inl h
  ·exact .inr (List.mem_cons_of_mem _ h)
theorem zho {L : Nat → Prop} : ∀ (r acc : List (List Nat)), (∀ i, ∀ j ∈ acc.getD i [], L i → L j) → (∀ k, ∀ j ∈ r.getD k [], L (acc.length + k) → L j) → (∀ i, ∀ j ∈ (closure acc r).getD i [], L i → L j)
 | [], acc, h1, h2 => h1
 | d :: r, acc, h1, h2 => by
  unfold closure
  refine zho r _ (fun i j hj hi => ?_) (fun k j hj hk => h2 (k + 1) j (by simpa using hj) (by rw [List.length_append] at hk; simpa [Nat.add_assoc, Nat.add_comm 1 k] using hk))
  by_cases hlt : i < acc.length
  ·rw [List.getD_eq_getElem?_getD, List.getElem?_append_left hlt, ← List.getD_eq_getElem?_getD] at hj
   exact h1 i j hj hi
  ·by_cases he : i = acc.length
   ·subst he
    rw [List.getD_eq_getElem?_getD, List.getElem?_append_right (Nat.le_refl _)] at hj
    simp only [Nat.sub_self, List.getElem?_cons_zero, Option.getD_some] at hj
    replace hj := zg7 _ _ hj
    simp only [List.mem_flatMap] at hj
    have hd : ∀ j ∈ d, L j := fun j hj => h2 0 j (by simpa using hj) (by simpa using hi)
    rcases hj with hj | ⟨k, hk, hj⟩
    ·exact hd j hj
    ·exact h1 k j hj (hd k hk)
   ·rw [List.getD_eq_getElem?_getD, List.getElem?_eq_none (by simp; omega)] at hj
    simp at hj
theorem zgP {f : Nat → zbb} {e : Env} {σ : Hp} : ∀ (is : List Nat) (i : Nat), i ∈ is → atree P w0 (is.foldr (fun i t => .both (f i) t) .top) e σ K Kp → atree P w0 (f i) e σ K Kp
 | x :: is, i, hi, h => by
  rcases List.mem_cons.1 hi with rfl | hi
  ·exact h.1
  ·exact zgP is i hi h.2
theorem zjA {e : Env} {σ : Hp} : ∀ (is : List ASt) (s : ASt), s ∈ is → agains P w0 is e σ → again P w0 s e σ := by
 intro is
 induction is with
 | nil => intro s hi _; cases hi
 | cons x is ih =>
  intro s hi h
  rw [agains] at h
  rcases List.mem_cons.1 hi with he | hi
  ·rw [he]; exact h.1
  ·exact ih s hi h.2
theorem Far.next (R : Reg P N ops l) (hfx : ∀ (i : Nat) (o : Oper), ops[i]? = some o → ∀ d, o.dst = some d → ds.fx d = none) {L : Nat → Prop} {D : List Nat} {a : Act} {w : World} {e : Env} {σ : Hp} {n : Nat} {i : Nat} {o : Oper} {next : Act → World → Prop}
  (F : Far P w0 N ds ops l L D a w e σ) (hn : D.length + n = l.length + 1) (ht : atree P w0 (zbm l (zC ops) (closure [] (zC ops)) n D) e σ K Kp) (hr : zbU l (zC ops) D = none)
  (ho : ops[i]? = some o) (hL : ¬ L i) (hdep : ∀ j ∈ (zC ops).getD i [], L j)
  (h1 : ∀ a' w' D' e' σ' n', Far P w0 N ds ops l (fun k => k = i ∨ L k) D' a' w' e' σ' → D'.length + n' = l.length + 1 → atree P w0 (zbm l (zC ops) (closure [] (zC ops)) n' D') e' σ' K Kp → next a' w')
  (h2 : ∀ ch w' σ', Inv w0 σ' w' → Kp ch σ' → Q (.panic ch) a w') :
  if Region.wanted o (yielded ops a.tmps) = true then o.wpIn (Rf ro) 0 P a w next Q else next (a.put o.dst undef) w := by
 obtain ⟨s, hslim, hs⟩ := R.get ho
 have hilt : i < l.length := (List.getElem?_eq_some_iff.1 hs).1
 have hiD : ∀ j ∈ (zC ops).getD i [], j ∈ D := fun j hj => F.sub j (hdep j hj)
 -- what it reads is as it is in the order of the tree
 have hagree : ∀ x ∈ stT s, e x = zR a x := fun x hx => by
  refine (F.agree x (fun j hj q hq hnl hd => ?_)).symm
  by_cases hji : j = i
  ·subst hji
   rw [hs] at hq
   injection hq with hq
   subst hq
   cases hqq : isQ l (zC ops) j with
   | true =>
    obtain ⟨d, hd', hself⟩ := R.self hs (zey hs hqq)
    rw [hd] at hd'
    injection hd' with hd'
    subst hd'
    exact hself hx
   | false => exact hnl (F.eff j hj s hs hqq)
  ·rcases R.pair hs hq (fun h => hji h.symm) hd (List.mem_append_left _ hx) with h | ⟨h, h'⟩
   ·exact hnl (hdep j h)
   ·have hiD' : i ∈ D := F.dcl j hj i h'
    rcases h with h | h
    ·exact hL (F.eff i hiD' s hs h)
    ·exact hnl (F.eff j hj q hq h)
 cases hqq : isQ l (zC ops) i with
 | true =>
  -- it was done ahead
  have hin : i ∈ D := by
   by_cases hm : i ∈ D
   ·exact hm
   ·exact absurd hiD (zia hr hilt hm hqq)
  obtain ⟨d, hd, hself⟩ := R.self hs (zey hs hqq)
  obtain ⟨d', hd', hst⟩ := zit hagree (F.pending i hin s hs hL)
  rw [hd] at hd'
  injection hd' with hd'
  subst hd'
  refine zgr hslim (hfx i o ho) F.size F.defers F.inv hst (fun a' w' hk => ?_) (fun _ _ _ _ h => h.elim)
  obtain ⟨hN, hdf, σ', hI, he, hσ⟩ := hk
  subst hσ
  refine h1 a' w' D e σ' n ⟨hN, hdf, hI, F.nd, F.lt, ?_, ?_, F.dcl, ?_, ?_, ?_⟩ hn ht
  ·rintro k (rfl | hk)
   ·exact hin
   ·exact F.sub k hk
  ·exact fun j hj q hq h => .inr (F.eff j hj q hq h)
  ·rintro k (rfl | hk) j hj
   ·exact .inr (hdep j hj)
   ·exact .inr (F.lcl k hk j hj)
  ·intro x hx
   rw [he, hd]
   simp only [zm]
   by_cases hxd : x = d
   ·rw [if_pos hxd, hxd]
   ·rw [if_neg hxd]
    refine F.agree x (fun j hj q hq hnl => ?_)
    by_cases hji : j = i
    ·subst hji
     rw [hs] at hq
     injection hq with hq
     subst hq
     rw [hd]
     exact fun h => hxd (by injection h with h; exact h.symm)
    ·exact hx j hj q hq (fun h => h.elim hji hnl)
  ·exact fun j hj q hq hnl => F.pending j hj q hq (fun h => hnl (.inr h))
 | false =>
  have hnin : i ∉ D := fun h => hL (F.eff i h s hs hqq)
  have hlen : D.length < l.length := by
   have := zdp l.length (i :: D) (List.nodup_cons.2 ⟨hnin, F.nd⟩) (fun j hj => by
    rcases List.mem_cons.1 hj with rfl | hj
    ·exact hilt
    ·exact F.lt j hj)
   simp at this
   omega
  obtain ⟨m, rfl⟩ : ∃ m, n = m + 1 := ⟨n - 1, by omega⟩
  have hre : i ∈ zfy l (zC ops) D := by
   unfold zfy
   rw [List.mem_filter]
   refine ⟨List.mem_range.2 hilt, ?_⟩
   simp only [Bool.and_eq_true, Bool.not_eq_true', List.contains_eq_mem, decide_eq_false_iff_not, subset, List.all_eq_true, decide_eq_true_eq]
   exact ⟨⟨hnin, hqq⟩, hiD⟩
  have hst : step P w0 s e σ (fun e' σ' => agains P w0 ((zf5 l (closure [] (zC ops)) D i).map fun j => l.getD j default) e' σ' ∧ atree P w0 (zbm l (zC ops) (closure [] (zC ops)) m (i :: D)) e' σ' K Kp) Kp := by
   simp only [zbm, hr] at ht
   rw [if_neg (by omega)] at ht
   have := zgP _ i hre ht
   have hg : l.getD i default = s := by rw [List.getD_eq_getElem?_getD, hs]; rfl
   rw [hg] at this
   exact this
  have hst' := zix hagree hst
  refine zgr hslim (hfx i o ho) F.size F.defers F.inv hst' (fun a' w' hk => ?_) h2
  obtain ⟨hN, hdf, σ', hI, v, he, hag, htree⟩ := hk
  have hLj : ∀ j, j ∈ D → ∀ q, l[j]? = some q → ¬ L j → ∀ d, s.dst = some d → d ∉ stT q ++ q.dst.toList := by
   intro j hj q hq hnl d hd hm
   have hji : j ≠ i := fun h => hnin (h ▸ hj)
   rcases R.pair hq hs hji hd hm with h | ⟨_, h⟩
   ·exact hnin (F.dcl j hj i h)
   ·exact hnl (hdep j h)
  refine h1 a' w' (i :: D) (zm e s.dst v) σ' m ⟨hN, hdf, hI, List.nodup_cons.2 ⟨hnin, F.nd⟩, ?_, ?_, ?_, ?_, ?_, ?_, ?_⟩ (by simp; omega) htree
  ·intro j hj
   rcases List.mem_cons.1 hj with rfl | hj
   ·exact hilt
   ·exact F.lt j hj
  ·rintro k (rfl | hk)
   ·exact List.mem_cons_self ..
   ·exact List.mem_cons_of_mem _ (F.sub k hk)
  ·intro j hj q hq h
   rcases List.mem_cons.1 hj with rfl | hj
   ·exact .inl rfl
   ·exact .inr (F.eff j hj q hq h)
  ·intro j hj k hk
   rcases List.mem_cons.1 hj with rfl | hj
   ·exact List.mem_cons_of_mem _ (hiD k hk)
   ·exact List.mem_cons_of_mem _ (F.dcl j hj k hk)
  ·rintro k (rfl | hk) j hj
   ·exact .inr (hdep j hj)
   ·exact .inr (F.lcl k hk j hj)
  ·intro x hx
   rw [he]
   cases hd : s.dst with
   | none => exact F.agree x (fun j hj q hq hnl => hx j (List.mem_cons_of_mem _ hj) q hq (fun h => h.elim (fun h => hnin (h ▸ hj)) hnl))
   | some d =>
    simp only [zm]
    by_cases hxd : x = d
    ·rw [if_pos hxd, if_pos hxd]
    ·rw [if_neg hxd, if_neg hxd]
     exact F.agree x (fun j hj q hq hnl => hx j (List.mem_cons_of_mem _ hj) q hq (fun h => h.elim (fun h => hnin (h ▸ hj)) hnl))
  ·intro j hj q hq hnl
   rcases List.mem_cons.1 hj with rfl | hj
   ·exact absurd (.inl rfl) hnl
   have hnl' : ¬ L j := fun h => hnl (.inr h)
   have hp := F.pending j hj q hq hnl'
   have hsame : ∀ x ∈ stT q ++ q.dst.toList, e x = zm e s.dst v x := fun x hx => by
    cases hd : s.dst with
    | none => rfl
    | some d =>
     simp only [zm]
     rw [if_neg]
     intro he
     subst he
     exact hLj j hj q hq hnl' x hd hx
   have hq2 : zbx q.op = true := by
    cases h : isQ l (zC ops) j with
    | true => exact zey hq h
    | false => exact absurd (F.eff j hj q hq h) hnl'
   cases hrd : zdq q.op with
   | false => exact ziU hq2 hrd (zhr hsame hp)
   | true =>
    refine zjJ hsame hp (zjA _ q ?_ hag)
    refine List.mem_map.2 ⟨j, ?_, by rw [List.getD_eq_getElem?_getD, hq]; rfl⟩
    unfold zf5
    rw [List.mem_filter]
    refine ⟨hj, ?_⟩
    simp only [Bool.and_eq_true, Bool.not_eq_true', List.contains_eq_mem, decide_eq_false_iff_not]
    refine ⟨by simpa [isR, hq] using hrd, fun hc => ?_⟩
    have := zho (L := fun k => k = i ∨ L k) (zC ops) [] (fun _ j hj _ => by simp at hj) (fun k j' hj' hk => by
     rw [List.length_nil, Nat.zero_add] at hk
     rcases hk with rfl | hk
     ·exact .inr (hdep j' hj')
     ·exact .inr (F.lcl k hk j' hj')) i j hc (.inl rfl)
    rcases this with h | h
    ·exact hnin (h ▸ hj)
    ·exact hnl' h
end
section
variable {P : Program} {w0 : Base} {N : Nat} {ds : Ds} {ro : Option Nat} {ops : Array Oper} {l : List ASt} {K : Env → Hp → Prop} {Kp : List PanicEntry → Hp → Prop} {Q : Exit → Act → World → Prop}
def isL (listed : Array Bool) (i : Nat) : Prop := listed.getD i false = true
def unl (n : Nat) (listed : Array Bool) : Nat := ((List.range n).filter fun i => !listed.getD i false).length
theorem zi9 {n i : Nat} {listed : Array Bool} (hs : listed.size = n) (hi : i < n) (h : listed.getD i false = false) : unl n (listed.setIfInBounds i true) + 1 = unl n listed := by
 unfold unl
 have e : ∀ j, (listed.setIfInBounds i true).getD j false = (listed.getD j false || decide (j = i)) := fun j => by
  simp only [Array.getD_eq_getD_getElem?, Array.getElem?_setIfInBounds]
  by_cases hj : i = j
  ·subst hj
   simp [hs, hi]
  ·simp [hj, show ¬ j = i from fun h => hj h.symm]
 have h2 : ((List.range n).filter fun j => !(listed.setIfInBounds i true).getD j false) = ((List.range n).filter fun j => !listed.getD j false).filter fun j => decide (j ≠ i) := by
  rw [List.filter_filter]
  apply List.filter_congr
  intro j _
  rw [e]
  cases listed.getD j false <;> by_cases hj : j = i <;> simp [hj]
 rw [h2]
 have hm : i ∈ (List.range n).filter fun j => !listed.getD j false := List.mem_filter.2 ⟨List.mem_range.2 hi, by simp [h]⟩
 have hnd : ((List.range n).filter fun j => !listed.getD j false).Nodup := List.nodup_range.filter _
 generalize ((List.range n).filter fun j => !listed.getD j false) = X at hm hnd
 have : X.filter (fun j => decide (j ≠ i)) = X.erase i := by
  rw [List.Nodup.erase_eq_filter hnd]
  apply List.filter_congr
  intro j _
  simp [bne, BEq.beq]
 rw [this, List.length_erase_of_mem hm]
 have := List.length_pos_of_mem hm
 omega
theorem zis {n : Nat} {listed : Array Bool} (h : unl n listed = 0) {i : Nat} (hi : i < n) : isL listed i := by
 unfold unl at h
 have h1 := List.eq_nil_of_length_eq_zero h
 rw [List.filter_eq_nil_iff] at h1
 have := h1 i (List.mem_range.2 hi)
 unfold isL
 simpa using this
theorem zgI {listed : Array Bool} (hs : listed.size = ops.size) {i : Nat} : i ∈ Region.ready .any ops listed ↔ i < ops.size ∧ ¬ isL listed i ∧ ∀ j ∈ (zC ops).getD i [], isL listed j := by
 unfold Region.ready isL
 rw [List.mem_filter, List.mem_range]
 constructor
 ·rintro ⟨h1, h2⟩
  simp only [Bool.and_eq_true, Bool.not_eq_true'] at h2
  have hlt : i < listed.size := by omega
  refine ⟨h1, ?_, ?_⟩
  ·have := h2.1
   simp [hlt] at this ⊢
   exact this
  ·intro j hj
   have h3 := h2.2
   rw [Array.getElem?_eq_getElem h1] at h3
   simp only [Option.map_some, Option.getD_some, Array.all_eq_true] at h3
   have hg : (zC ops).getD i [] = (ops[i].after.toList.filter (Region.binds .any)).map (·.on) := by
    simp [zC, List.getD_eq_getElem?_getD, h1]
   rw [hg] at hj
   obtain ⟨ed, hed, rfl⟩ := List.mem_map.1 hj
   obtain ⟨he1, he2⟩ := List.mem_filter.1 hed
   obtain ⟨k, hk, hk2⟩ := List.mem_iff_getElem.1 he1
   have := h3 k (by simpa using hk)
   rw [Array.getElem_toList] at hk2
   rw [hk2, he2] at this
   simpa using this
 ·rintro ⟨h1, h2, h3⟩
  refine ⟨h1, ?_⟩
  simp only [Bool.and_eq_true, Bool.not_eq_true']
  have hlt : i < listed.size := by omega
  refine ⟨by simp [hlt] at h2 ⊢; exact h2, ?_⟩
  rw [Array.getElem?_eq_getElem h1]
  simp only [Option.map_some, Option.getD_some, Array.all_eq_true]
  intro k hk
  cases hb : Region.binds .any ops[i].after[k] with
  | false => rfl
  | true =>
   have : isL listed ops[i].after[k].on := h3 _ (by
    have hg : (zC ops).getD i [] = (ops[i].after.toList.filter (Region.binds .any)).map (·.on) := by
     simp [zC, List.getD_eq_getElem?_getD, h1]
    rw [hg]
    exact List.mem_map.2 ⟨_, List.mem_filter.2 ⟨by simp, hb⟩, rfl⟩)
   unfold isL at this
   rw [this]
   rfl
theorem zhh (R : Reg P N ops l) {listed : Array Bool} {D : List Nat} {a : Act} {w : World} {e : Env} {σ : Hp} {n : Nat} (hsz : listed.size = ops.size) (F : Far P w0 N ds ops l (isL listed) D a w e σ) (hn : D.length + n = l.length + 1)
  (ht : atree P w0 (zbm l (zC ops) (closure [] (zC ops)) n D) e σ K Kp) (hr : zbU l (zC ops) D = none) (hnil : Region.ready .any ops listed = []) : zdI N ds w0 K a w := by
 have hall : ∀ i, i < ops.size → isL listed i := by
  intro i
  induction i using Nat.strongRecOn with
  | _ i ih =>
   intro hi
   by_cases hL : isL listed i
   ·exact hL
   ·have := (zgI (ops := ops) hsz).2 ⟨hi, hL, fun j hj => ih j (R.dlt hj) (Nat.lt_trans (R.dlt hj) hi)⟩
    rw [hnil] at this
    cases this
 have hlen : l.length ≤ D.length := by
  have h1 := zdp D.length (List.range l.length) List.nodup_range
  by_cases hlt : l.length ≤ D.length
  ·exact hlt
  ·exfalso
   have hsub : ∀ i ∈ List.range l.length, i ∈ D := fun i hi => F.sub i (hall i (by rw [← R.len]; exact List.mem_range.1 hi))
   have : (List.range l.length).length ≤ D.length := by
    clear h1
    have := List.nodup_range (n := l.length)
    generalize List.range l.length = X at this hsub
    exact zgR X D this hsub
   simp at this
   omega
 have hD := zdp l.length D F.nd F.lt
 obtain rfl : n = 1 := by omega
 simp only [zbm, hr] at ht
 rw [if_pos (by omega)] at ht
 refine ⟨F.size, F.defers, σ, F.inv, ?_⟩
 have : zR a = e := funext fun x => F.agree x fun j hj q hq hnl => absurd (hall j (by rw [← R.len]; exact F.lt j hj)) hnl
 rw [this]
 exact ht
theorem zhl (R : Reg P N ops l) (hfx : ∀ (i : Nat) (o : Oper), ops[i]? = some o → ∀ d, o.dst = some d → ds.fx d = none) (h1 : ∀ a' w', zdI N ds w0 K a' w' → Q .normal a' w') (h2 : ∀ ch a' w' σ', a'.tmps.size = N → ds.ok a' → Inv w0 σ' w' → Kp ch σ' → Q (.panic ch) a' w') :
  ∀ (fuel : Nat) (listed : Array Bool) (a : Act) (w : World) (D : List Nat) (e : Env) (σ : Hp) (n : Nat), listed.size = ops.size → unl ops.size listed ≤ fuel → Far P w0 N ds ops l (isL listed) D a w e σ → D.length + n = l.length + 1 →
   atree P w0 (zbm l (zC ops) (closure [] (zC ops)) n D) e σ K Kp → zbU l (zC ops) D = none → wpAnyIn (Rf ro) 0 P .any ops Q fuel listed a w
 | 0, listed, a, w, D, e, σ, n, hsz, hf, F, hn, ht, hr => by
  have hnil : Region.ready .any ops listed = [] := by
   cases hrd : Region.ready .any ops listed with
   | nil => rfl
   | cons i is =>
    have hi := (zgI hsz).1 (show i ∈ Region.ready .any ops listed from by rw [hrd]; exact List.mem_cons_self ..)
    exact absurd (zis (by omega) hi.1) hi.2.1
  exact ⟨hnil, h1 _ _ (zhh R hsz F hn ht hr hnil)⟩
 | fuel + 1, listed, a, w, D, e, σ, n, hsz, hf, F, hn, ht, hr => by
  refine ⟨fun hnil => h1 _ _ (zhh R hsz F hn ht hr hnil), fun i hi => ?_⟩
  obtain ⟨hi1, hi2, hi3⟩ := (zgI hsz).1 hi
  have ho : ops[i]? = some ops[i] := Array.getElem?_eq_getElem hi1
  have hset : ∀ k, isL (listed.setIfInBounds i true) k ↔ (k = i ∨ isL listed k) := fun k => by
   unfold isL
   simp only [Array.getD_eq_getD_getElem?, Array.getElem?_setIfInBounds]
   by_cases hk : i = k
   ·subst hk
    simp [hsz, hi1]
   ·simp [hk, show ¬ k = i from fun h => hk h.symm]
  have hcore := Far.next (ro := ro) (K := K) (Kp := Kp) (Q := Q) (next := wpAnyIn (Rf ro) 0 P .any ops Q fuel (listed.setIfInBounds i true)) R hfx F hn ht hr ho hi2 hi3 (fun a' w' D' e' σ' n' F' hn' ht' => by
   obtain ⟨n2, D2, e2, F2, hn2, ht2, hr2⟩ := Far.saturate (K := K) (Kp := Kp) R n' D' e' σ' F' hn' ht'
   refine zhl R hfx h1 h2 fuel _ a' w' D2 e2 σ' n2 (by simpa using hsz) ?_ ?_ hn2 ht2 hr2
   ·have := zi9 hsz hi1 (by unfold isL at hi2; simpa using hi2)
    omega
   ·have : isL (listed.setIfInBounds i true) = fun k => k = i ∨ isL listed k := funext fun k => propext (hset k)
    rw [this]
    exact F2) (fun ch w' σ' hI hk => h2 ch a w' σ' F.size F.defers hI hk)
  unfold wpOpIn
  rw [ho]
  dsimp only
  split
  ·rename_i hw
   rw [if_pos hw] at hcore
   exact hcore
  ·rename_i hw
   rw [if_neg hw] at hcore
   exact ⟨fun _ _ => trivial, hcore⟩
theorem ziG {id : Nat} (hm : P.follows .mixedOrders = true) (R : Reg P N ops l) (hfx : ∀ (i : Nat) (o : Oper), ops[i]? = some o → ∀ d, o.dst = some d → ds.fx d = none) {a : Act} {w : World} {σ : Hp} (hN : a.tmps.size = N) (hd : ds.ok a) (hI : Inv w0 σ w)
  (hK : atree P w0 (zbF (zbm l (zC ops) (closure [] (zC ops)) (l.length + 1) [])) (zR a) σ K Kp)
  (h1 : ∀ a' w', zdI N ds w0 K a' w' → Q .normal a' w') (h2 : ∀ ch a' w' σ', a'.tmps.size = N → ds.ok a' → Inv w0 σ' w' → Kp ch σ' → Q (.panic ch) a' w') : (Code.region id ops true).wpIn (Rf ro) 0 P Q a w := by
 refine wpIn_region_any hm ?_
 have hnone : ∀ i, ¬ isL (Array.replicate ops.size false) i := fun i h => by
  unfold isL at h
  simp [Array.getD_eq_getD_getElem?, Array.getElem?_replicate] at h
  split at h <;> simp at h
 have F : Far P w0 N ds ops l (isL (Array.replicate ops.size false)) [] a w.drew (zR a) σ :=
  { size := hN, defers := hd, inv := hI.drew, nd := List.nodup_nil, lt := (fun i h => by cases h), sub := fun i h => absurd h (hnone i), eff := (fun i h => by cases h), dcl := (fun i h => by cases h), lcl := fun i h => absurd h (hnone i), agree := fun x _ => rfl, pending := (fun j h => by cases h) }
 obtain ⟨n2, D2, e2, F2, hn2, ht2, hr2⟩ := Far.saturate (K := K) (Kp := Kp) R (l.length + 1) [] (zR a) σ F (by simp) (zcN _ _ _ _ _ hK)
 exact zhl R hfx h1 h2 ops.size _ a w.drew D2 e2 σ n2 (by simp) (by unfold unl; exact Nat.le_trans (List.length_filter_le _ _) (by simp)) F2 hn2 ht2 hr2
end
section
variable {P : Program} {w0 : Base} {N : Nat} {ds : Ds} {ro : Option Nat}
theorem zi0 {b : Frame} {a : Act} {k : List Item} {cs : List Frame} {w : World} {c : Code} : Go.step P (lone (b.atR a (.code (.scope c) :: k)) cs w) = .next (lone (b.atR a (.code c :: .inScope c :: k)) cs w) := step_lone_go (by simp [stepG, stepG.exec, Frame.atR])
theorem zi6 {b : Frame} {a : Act} {k : List Item} {cs : List Frame} {w : World} {c : Code} : Go.step P (lone (b.atR a (.inScope c :: k)) cs w) = .next (lone (b.atR a k) cs w) := step_lone_go (by simp [stepG, stepG.exec, Frame.atR])
theorem zjc {F : Fence} {m : Nat} {c : Code} {Q : Exit → Act → World → Prop} {a : Act} {w : World} (h : c.wpIn F m P (Exit.noGoto Q) a w) : (Code.scope c).wpIn F m P Q a w := by
 intro b k cs hro hb hr
 obtain ⟨e, a₁, w₁, hq, harr⟩ := h b (.inScope c :: k) cs hro hb hr
 have s0 : StepsIn (Machine.fenced P F) P (lone (b.atR a (.code (.scope c) :: k)) cs w) (lone (b.atR a (.code c :: .inScope c :: k)) cs w) := .one (fenced_calm hb hr rfl) zi0
 cases e with
 | normal => exact ⟨.normal, a₁, w₁, hq, StepsIn.trans s0 (StepsIn.trans harr (.one (fenced_calm hb hr rfl) zi6))⟩
 | exit id => exact ⟨.exit id, a₁, w₁, hq, .of_steps s0 (⟨fun k' hk => harr.1 k' (by simp [exitTo, hk]), fun h1 h2 => harr.2 h1 (by simp [exitTo, h2])⟩ : ArrivesIn (Machine.fenced P F) P _ b k cs (.exit id) a₁ w₁)⟩
 | goto l => exact hq.elim
 | ret => exact ⟨_, a₁, w₁, hq, .of_steps s0 harr⟩
 | panic ch => exact ⟨_, a₁, w₁, hq, .of_steps s0 harr⟩
 | outgrown => exact ⟨_, a₁, w₁, hq, .of_steps s0 harr⟩
theorem zjw {F : Fence} {m : Nat} {c : Code} {Q : Exit → Act → World → Prop} {a : Act} {w : World} (I : Nat → Act → World → Prop) (n : Nat) (h0 : I n a w)
  (round : ∀ n a w, I n a w → c.wpIn F m P (Exit.then (fun a' w' => ∃ n', n' < n ∧ I n' a' w') Q) a w) : (Code.loop c).wpIn F m P Q a w := by
 intro b k cs hro hb hr
 have key : ∀ j a w, I j a w → ∃ e a' w', Q e a' w' ∧ ArrivesIn (Machine.fenced P F) P (lone (b.atR a (.code c :: .inLoop c :: k)) cs w) b k cs e a' w' := by
  intro j
  induction j using Nat.strongRecOn with
  | _ j ih =>
   intro a w hI
   obtain ⟨e, a₁, w₁, hq, harr⟩ := round j a w hI b (.inLoop c :: k) cs hro hb hr
   cases e with
   | normal =>
    obtain ⟨n', hlt, hI₁⟩ := hq
    obtain ⟨e₂, a₂, w₂, hq₂, harr₂⟩ := ih n' hlt a₁ w₁ hI₁
    exact ⟨e₂, a₂, w₂, hq₂, .of_steps (StepsIn.trans harr (.one (fenced_calm hb hr rfl) stepR_inLoop)) harr₂⟩
   | exit id => exact ⟨_, a₁, w₁, hq, .pass (x := .inLoop c) rfl (fun _ _ => .inl (by simp)) harr⟩
   | goto l => exact ⟨_, a₁, w₁, hq, .pass (x := .inLoop c) rfl (fun _ _ => .inl (by simp)) harr⟩
   | ret => exact ⟨_, a₁, w₁, hq, .pass (x := .inLoop c) rfl (fun _ _ => .inl (by simp)) harr⟩
   | panic ch => exact ⟨_, a₁, w₁, hq, .pass (x := .inLoop c) rfl (fun _ _ => .inl (by simp)) harr⟩
   | outgrown => exact ⟨_, a₁, w₁, hq, .pass (x := .inLoop c) rfl (fun _ _ => .inl (by simp)) harr⟩
 obtain ⟨e, a', w', hq, harr⟩ := key n a w h0
 exact ⟨e, a', w', hq, .of_steps (.one (fenced_calm hb hr rfl) stepR_loop) harr⟩
theorem zb9 (hm : P.follows .mixedOrders = true) : ∀ (c : Code) (ac : zbq) (Q : Exit → Env → Hp → Prop) (a : Act) (w : World) (σ : Hp), slim P N c = some ac → Code.free ds.fx c → a.tmps.size = N → ds.ok a → Inv w0 σ w → awp P w0 ac Q (zR a) σ → c.wpIn (Rf ro) 0 P (lft N ds w0 Q) a w
 | .skip, ac, Q, a, w, σ, h, hf, hN, hd, hI, hK => by
  injection h with h; subst h
  exact wpIn_skip ⟨hN, hd, σ, hI, hK⟩
 | .region id ops draw, ac, Q, a, w, σ, h, hf, hN, hd, hI, hK => by
  unfold slim at h
  obtain ⟨l, hl, h⟩ := Option.bind_eq_some_iff.1 h
  split at h
  ·rename_i hdr
   obtain ⟨hok, rfl⟩ := zby h
   simp only [Bool.and_eq_true] at hok
   subst hdr
   exact ziG hm ⟨hl, hok.1, hok.2⟩ hf hN hd hI hK (fun a' w' hk => hk) (fun ch a' w' σ' hN' hd' hI' hk => ⟨hN', hd', σ', hI', hk _⟩)
  ·rename_i hdr
   injection h with h; subst h
   have : draw = false := by simpa using hdr
   subst this
   refine wpIn_region_list (zhu (K := fun e' σ' => Q .normal e' σ') (Kp := fun ch σ' => ∀ e', Q (.panic ch) e' σ') _ _ _ _ _ hl (fun o ho => by
    obtain ⟨i, hi, rfl⟩ := List.mem_iff_getElem.1 ho
    exact hf i _ (by rw [← Array.getElem?_toList, List.getElem?_eq_getElem hi])) hN hd hI ?_ (fun a' w' hk => hk) (fun ch a' w' σ' hN' hd' hI' hk => ⟨hN', hd', σ', hI', hk _⟩))
   exact hK
 | .seq x y, ac, Q, a, w, σ, h, hf, hN, hd, hI, hK => by
  unfold slim at h
  obtain ⟨ax, hx, h⟩ := Option.bind_eq_some_iff.1 h
  obtain ⟨ay, hy, rfl⟩ := Option.map_eq_some_iff.1 h
  refine wpIn_seq (wpIn_mono (zb9 hm x ax _ a w σ hx hf.1 hN hd hI hK) fun ex a' w' hq => ?_)
  obtain ⟨hN', hd', hq⟩ := hq
  cases ex with
  | normal =>
   obtain ⟨σ', hI', hq⟩ := hq
   exact zb9 hm y ay Q a' w' σ' hy hf.2 hN' hd' hI' hq
  | outgrown => exact hq.elim
  | goto l => exact hq.elim
  | exit id => exact ⟨hN', hd', hq⟩
  | ret => exact ⟨hN', hd', hq⟩
  | panic ch => exact ⟨hN', hd', hq⟩
 | .cond c x y, ac, Q, a, w, σ, h, hf, hN, hd, hI, hK => by
  unfold slim at h
  obtain ⟨ax, hx, h⟩ := Option.bind_eq_some_iff.1 h
  obtain ⟨ay, hy, rfl⟩ := Option.map_eq_some_iff.1 h
  obtain ⟨t, ht, h1, h2⟩ := hK
  rw [zA] at ht
  exact wpIn_cond_split ht (fun he => zb9 hm x ax Q a w σ hx hf.1 hN hd hI (h1 he)) (fun he => zb9 hm y ay Q a w σ hy hf.2 hN hd hI (h2 he))
 | .block id c, ac, Q, a, w, σ, h, hf, hN, hd, hI, hK => by
  unfold slim at h
  obtain ⟨ax, hx, rfl⟩ := Option.map_eq_some_iff.1 h
  refine wpIn_block (wpIn_mono (zb9 hm c ax _ a w σ hx hf hN hd hI hK) fun ex a' w' hq => ?_)
  obtain ⟨hN', hd', hq⟩ := hq
  cases ex with
  | exit k =>
   obtain ⟨σ', hI', hq⟩ := hq
   simp only [inb] at hq
   simp only [Exit.inBlock]
   split
   ·rename_i hk
    rw [if_pos hk] at hq
    exact ⟨hN', hd', σ', hI', hq⟩
   ·rename_i hk
    rw [if_neg hk] at hq
    exact ⟨hN', hd', σ', hI', hq⟩
  | normal => exact ⟨hN', hd', hq⟩
  | outgrown => exact hq.elim
  | goto l => exact hq.elim
  | ret => exact ⟨hN', hd', hq⟩
  | panic ch => exact ⟨hN', hd', hq⟩
 | .loop c, ac, Q, a, w, σ, h, hf, hN, hd, hI, hK => by
  unfold slim at h
  obtain ⟨ax, hx, rfl⟩ := Option.map_eq_some_iff.1 h
  obtain ⟨I, ⟨n, hn⟩, hround⟩ := hK
  refine zjw (fun n a w => a.tmps.size = N ∧ ds.ok a ∧ ∃ σ, Inv w0 σ w ∧ I n (zR a) σ) n ⟨hN, hd, σ, hI, hn⟩ ?_
  rintro n a w ⟨hN, hd, σ, hI, hn⟩
  refine wpIn_mono (zb9 hm c ax _ a w σ hx hf hN hd hI (hround n _ _ hn)) fun ex a' w' hq => ?_
  obtain ⟨hN', hd', hq⟩ := hq
  cases ex with
  | normal =>
   obtain ⟨σ', hI', n', hlt, hq⟩ := hq
   exact ⟨n', hlt, hN', hd', σ', hI', hq⟩
  | outgrown => exact hq.elim
  | goto l => exact hq.elim
  | exit id => exact ⟨hN', hd', hq⟩
  | ret => exact ⟨hN', hd', hq⟩
  | panic ch => exact ⟨hN', hd', hq⟩
 | .exit id, ac, Q, a, w, σ, h, hf, hN, hd, hI, hK => by
  injection h with h; subst h
  exact wpIn_exit ⟨hN, hd, σ, hI, hK⟩
 | .scope c, ac, Q, a, w, σ, h, hf, hN, hd, hI, hK => by
  refine zjc (wpIn_mono (zb9 hm c ac Q a w σ h hf hN hd hI hK) fun ex a' w' hq => ?_)
  obtain ⟨hN', hd', hq⟩ := hq
  cases ex <;> first | exact ⟨hN', hd', hq⟩ | exact hq.elim
 | .ret, ac, Q, a, w, σ, h, hf, hN, hd, hI, hK => by
  injection h with h; subst h
  exact wpIn_ret ⟨hN, hd, σ, hI, hK⟩
 | .rangeFunc .., ac, Q, a, w, σ, h, hf, hN, hd, hI, hK => by cases h
 | .label _, ac, Q, a, w, σ, h, hf, hN, hd, hI, hK => by cases h
 | .goto _, ac, Q, a, w, σ, h, hf, hN, hd, hI, hK => by cases h
 | .refuse _, ac, Q, a, w, σ, h, hf, hN, hd, hI, hK => by cases h
theorem zcS {ds : List Deferred} (hm : P.follows .mixedOrders = true) (c : Code) (ac : zbq) (Q : Exit → Env → Hp → Prop) (a : Act) (w : World) (σ : Hp) (h : slim P N c = some ac) (hN : a.tmps.size = N) (hd : a.defers = ds) (hI : Inv w0 σ w) (hK : awp P w0 ac Q (zR a) σ) : c.wpIn (Rf ro) 0 P (lft N (dsl ds) w0 Q) a w :=
 zb9 hm c ac Q a w σ h (Code.free_none c) hN (dsok hd) hI hK
inductive zbH where
 | t (n : Nat)
 | c (n : Nat) (agg : Bool) (size : Nat)
def zfe (P : Program) : ResultVar → Option zbH
 | .tmp t => some (.t t)
 | .cell a t => (zbS P t).bind fun g => (zV P t).map fun n => .c a g n
def resv (e : Env) (σ : Hp) : zbH → Option Value
 | .t n => some (e n)
 | .c n g k => match e n with
  | .pointer (some a) => zbi σ a g k
  | _ => none
def resvs (e : Env) (σ : Hp) : List zbH → Option (List Value)
 | [] => some []
 | r :: rs => (resv e σ r).bind fun v => (resvs e σ rs).map (v :: ·)
def zbN (vs : List Value) : Value := match vs with
 | [v] => v
 | vs => .tuple vs.toArray
def apost (rs : List zbH) (K : Value → Hp → Prop) (Kp : List PanicEntry → Hp → Prop) : Exit → Env → Hp → Prop
 | .normal, e, σ => ∃ vs, resvs e σ rs = some vs ∧ K (zbN vs) σ
 | .ret, e, σ => ∃ vs, resvs e σ rs = some vs ∧ K (zbN vs) σ
 | .panic ch, _, σ => Kp ch σ
 | _, _, _ => False
def zbX (args : List Value) : Env := fun n => args.getD n undef
structure zfA where
 ntmps : Nat
 results : List zbH
 body : zbq
end
def zI (P : Program) (fn : Func) : Option zfA := fn.body.bind fun c => (slim P fn.ntmps c).bind fun ac => (fn.results.toList.mapM (zfe P)).map fun rs => ⟨fn.ntmps, rs, ac⟩
section
variable {P : Program} {w0 : Base} {N : Nat} {ds : Ds}
theorem zhX {σ : Hp} {w : World} (hI : Inv w0 σ w) {a : Addr} {v : Value} (h : look σ a = some v) : (Go.load a).run P w = .ok v w := by
 have hc := hI.cell h
 simp [Go.load, Sem.run, hc]
theorem zg5 {σ : Hp} {w : World} (hI : Inv w0 σ w) {a : Addr} : ∀ (n i : Nat) (acc : Array Value) (cs : List Value), looks σ a i n = some cs → (Go.loadCellsFrom a i n acc).run P w = .ok (acc ++ cs.toArray) w
 | 0, i, acc, cs, h => by
  injection h with h; subst h
  unfold Go.loadCellsFrom
  simp
 | n + 1, i, acc, cs, h => by
  unfold looks at h
  obtain ⟨v, hv, hr⟩ := Option.bind_eq_some_iff.1 h
  obtain ⟨r, hr2, rfl⟩ := Option.map_eq_some_iff.1 hr
  unfold Go.loadCellsFrom
  rw [run_bind, zhX hI hv]
  dsimp only
  rw [zg5 hI n (i + 1) (acc.push v) r hr2]
  simp
theorem zjY {σ : Hp} {w : World} (hI : Inv w0 σ w) {t : TypeId} {g : Bool} {k : Nat} {a : Addr} {v : Value} (hg : zbS P t = some g) (hk : zV P t = some k) (h : zbi σ a g k = some v) : (Go.loadVar t a).run P w = .ok v w := by
 obtain ⟨d, hd, hgd⟩ := Option.map_eq_some_iff.1 hg
 obtain ⟨i, hi, rfl⟩ := Option.map_eq_some_iff.1 hk
 unfold Go.loadVar
 have h1 : (Go.isAgg t).run P w = .ok g w := by
  unfold Go.isAgg Go.underlying
  rw [run_bind, run_bind, show Go.program.run P w = .ok P w from rfl]
  dsimp only
  rw [hd]
  dsimp only
  rw [show (Pure.pure d : Sem TypeDesc).run P w = .ok d w from rfl]
  dsimp only
  subst hgd
  cases d <;> rfl
 rw [run_bind, h1]
 dsimp only
 unfold zbi at h
 cases g with
 | true =>
  simp only [if_true] at h ⊢
  obtain ⟨cs, hcs, rfl⟩ := Option.map_eq_some_iff.1 h
  have h2 : (Go.sizeOf t).run P w = .ok i.size w := by
   unfold Go.sizeOf Go.typeInfo
   rw [run_bind, run_bind, show Go.program.run P w = .ok P w from rfl]
   dsimp only
   rw [hi]
   rfl
  rw [run_bind, h2]
  dsimp only
  unfold Go.loadCells
  rw [run_bind, zg5 hI _ 0 #[] cs hcs]
  simp
 | false =>
  simp only [Bool.false_eq_true, if_false] at h ⊢
  exact zhX hI h
theorem zg9 {σ : Hp} {w : World} (hI : Inv w0 σ w) {a : Act} (f : ResultVar → Sem Value) (hf : ∀ t, f (.tmp t) = Pure.pure (a.tmps.getD t undef)) (hf2 : ∀ x t, f (.cell x t) = (do loadVar t (← asAddr (a.tmps.getD x undef)))) : ∀ (rs : List ResultVar) (ars : List zbH) (vs : List Value), rs.mapM (zfe P) = some ars → resvs (zR a) σ ars = some vs → (rs.mapM f).run P w = .ok vs w
 | [], ars, vs, h, hv => by
  simp at h
  subst h
  injection hv with hv
  subst hv
  simp
 | r :: rs, ars, vs, h, hv => by
  rw [List.mapM_cons] at h
  obtain ⟨b, hb, h⟩ := Option.bind_eq_some_iff.1 h
  obtain ⟨r', hr', h⟩ := Option.bind_eq_some_iff.1 h
  injection h with h
  subst h
  obtain ⟨v, hv1, hv⟩ := Option.bind_eq_some_iff.1 hv
  obtain ⟨vs', hvs, rfl⟩ := Option.map_eq_some_iff.1 hv
  have h1 : (f r).run P w = .ok v w := by
   cases r with
   | tmp t =>
    injection hb with hb; subst hb
    injection hv1 with hv1
    subst hv1
    rw [hf]
    rfl
   | cell x t =>
    obtain ⟨g, hg, hb⟩ := Option.bind_eq_some_iff.1 hb
    obtain ⟨k, hk, rfl⟩ := Option.map_eq_some_iff.1 hb
    simp only [resv] at hv1
    split at hv1
    ·rename_i ad had
     have had' : a.tmps.getD x undef = .pointer (some ad) := had
     rw [hf2, had', run_bind]
     exact zjY hI hg hk hv1
    ·cases hv1
  rw [List.mapM_cons, run_bind, h1]
  dsimp only
  rw [run_bind, zg9 hI f hf hf2 rs r' vs' hr' hvs]
  rfl
theorem zeH {σ : Hp} {w : World} (hI : Inv w0 σ w) {fn : Func} {a : Act} {ars : List zbH} {vs : List Value} (h : fn.results.toList.mapM (zfe P) = some ars) (hv : resvs (zR a) σ ars = some vs) : (results fn a.tmps).run P w = .ok (zbN vs) w := by
 unfold results
 rw [run_bind, ← Array.toArray_toList (xs := fn.results), List.mapM_toArray, Sem.run_map, zg9 hI _ (fun _ => rfl) (fun _ _ => rfl) _ _ _ h hv]
 cases vs with
 | nil => rfl
 | cons v vs => cases vs <;> rfl
theorem zg1 {f : FuncId} {fn : Func} {af : zfA} {args : List Value} {σ : Hp} {K : Value → Hp → Prop} {Kp : List PanicEntry → Hp → Prop} (hm : P.follows .mixedOrders = true) (hf : P.funcs[f]? = some fn) (hs : zI P fn = some af) (ha : args.length ≤ af.ntmps)
  (h : awp P w0 af.body (apost af.results K Kp) (zbX args) σ) : ACalls P w0 f args.toArray σ K Kp := by
 intro w hI
 unfold zI at hs
 obtain ⟨c, hc, hs⟩ := Option.bind_eq_some_iff.1 hs
 obtain ⟨ac, hac, hs⟩ := Option.bind_eq_some_iff.1 hs
 obtain ⟨rs, hrs, rfl⟩ := Option.map_eq_some_iff.1 hs
 dsimp only at ha h
 have he : zR { tmps := args.toArray ++ Array.replicate (fn.ntmps - args.toArray.size) undef, defers := [] } = zbX args := by
  funext k
  simp only [zR, zbX, Array.getD_eq_getD_getElem?, List.getD_eq_getElem?_getD, Array.getElem?_append, List.size_toArray, Array.getElem?_replicate]
  by_cases hk : k < args.length
  ·simp [hk]
  ·simp only [hk, if_false, List.getElem?_eq_none (show args.length ≤ k from by omega)]
   split <;> rfl
 refine (callsIn_wide (n := 0)).1 (callsIn_of_wp (F := Rf none) hf hc trivial (wpIn_mono (zcS hm c ac _ _ w σ hac (by simp; omega) rfl hI (he ▸ h)) fun ex a' w' hq => ?_))
 obtain ⟨hN', hd', hq⟩ := hq
 cases ex with
 | normal =>
  obtain ⟨σ', hI', vs, hvs, hk⟩ := hq
  exact ⟨hd'.1, _, zeH hI' hrs hvs, σ', hI', hk⟩
 | ret =>
  obtain ⟨σ', hI', vs, hvs, hk⟩ := hq
  exact ⟨hd'.1, _, zeH hI' hrs hvs, σ', hI', hk⟩
 | panic ch =>
  obtain ⟨σ', hI', hk⟩ := hq
  exact ⟨hd'.1, σ', hI', hk⟩
 | exit id => obtain ⟨σ', hI', hk⟩ := hq; exact hk.elim
 | goto l => exact hq.elim
 | outgrown => exact hq.elim
end
def zf9 (σ : Hp) (A : Option Addr) (g : Bool) (n : Nat) : Option Value := A.bind fun a => zbi σ a g n
def zjy (σ : Hp) (A : Option Addr) (vs : List Value) : Option Hp := A.bind fun a => puts σ a 0 vs
def zj9 : Value → Bool
 | .slice .. => true
 | _ => false
section
variable (P : Program) (w0 : Base)
def xop (o : AOp) (e : Env) (σ : Hp) (K : Value → Hp → Prop) : Prop :=
 match o with
 | .mv x => K (ev e x) σ
 | .pick c a b => match ev e c with
  | .bool t => K (if t = true then ev e a else ev e b) σ
  | _ => False
 | .bin op x y => ∃ v, binv op (ev e x) (ev e y) = some v ∧ K v σ
 | .beq neg x y => match ev e x, ev e y with
  | .bool a, .bool b => K (.bool (if neg then !(a == b) else a == b)) σ
  | _, _ => False
 | .aeq neg n x y => match ev e x, ev e y with
  | .agg xs, .agg ys => ∃ b, zbc n xs.toList ys.toList = some b ∧ K (.bool (if neg then !b else b)) σ
  | _, _ => False
 | .snil neg x => match ev e x with
  | .slice A _ _ => K (.bool (if neg then !A.isNone else A.isNone)) σ
  | _ => False
 | .pnil neg x => match ev e x with
  | .pointer A => K (.bool (if neg then !A.isNone else A.isNone)) σ
  | _ => False
 | .inil neg x => ∃ b, ifn (ev e x) = some b ∧ K (.bool (if neg then !b else b)) σ
 | .tas t z x => ∃ v, tasv t z (ev e x) = some v ∧ K v σ
 | .un op x => ∃ v, unv op (ev e x) = some v ∧ K v σ
 | .cint k x => match ev e x with
  | .int _ n => K (.int k (k.wrap n)) σ
  | _ => False
 | .field agg off n x => match ev e x with
  | .agg cs => ∃ v, partv agg off n cs = some v ∧ K v σ
  | _ => False
 | .ext i x => match ev e x with
  | .tuple vs => ∃ v, vs[i]? = some v ∧ K v σ
  | _ => False
 | .sidx x i => match ev e x, ev e i with
  | .string s, .int _ n => 0 ≤ n ∧ ∃ b, s[n.toNat]? = some b ∧ K (.int .u8 b.toNat) σ
  | _, _ => False
 | .aidx agg len n x i => match ev e x, ev e i with
  | .agg cs, .int _ q => 0 ≤ q ∧ q < len ∧ ∃ v, partv agg (q.toNat * n) n cs = some v ∧ K v σ
  | _, _ => False
 | .load agg n x => match ev e x with
  | .pointer A => ∃ v, zf9 σ A agg n = some v ∧ K v σ
  | _ => False
 | .store n x y => match ev e x with
  | .pointer A => (ev e y).cells.size = n ∧ (ev e y).cells.toList.all one = true ∧ ∃ σ', zjy σ A (ev e y).cells.toList = some σ' ∧ K undef σ'
  | _ => False
 | .faddr off x => match ev e x with
  | .pointer A => A.isSome = true ∧ K (.pointer (A.map (·.add off))) σ
  | _ => False
 | .idx n x i => match ev e x, ev e i with
  | .slice A ln _, .int _ q => 0 ≤ q ∧ q < ln ∧ A.isSome = true ∧ K (.pointer (A.map (·.add (q.toNat * n)))) σ
  | _, _ => False
 | .aaddr len n x i => match ev e x, ev e i with
  | .pointer A, .int _ q => 0 ≤ q ∧ q < len ∧ A.isSome = true ∧ K (.pointer (A.map (·.add (q.toNat * n)))) σ
  | _, _ => False
 | .slcS x lo hi => match ev e x with
  | .string s => ∃ l h, zbf e s.size hi = some h ∧ zbf e 0 lo = some l ∧ 0 ≤ l ∧ l ≤ h ∧ h ≤ s.size ∧ K (.string (s.extract l.toNat h.toNat)) σ
  | _ => False
 | .slc n x lo hi mx => match ev e x with
  | .slice A ln c => ∃ l h m, zbf e c mx = some m ∧ zbf e ln hi = some h ∧ zbf e 0 lo = some l ∧ 0 ≤ l ∧ l ≤ h ∧ h ≤ m ∧ m ≤ c ∧ K (.slice (if m.toNat = l.toNat then A else A.map (·.add (l.toNat * n))) (h.toNat - l.toNat) (m.toNat - l.toNat)) σ
  | _ => False
 | .nilchk x => zcU (ev e x) = true ∧ K (ev e x) σ
 | .lenS x => match ev e x with
  | .string s => K (.int .i64 s.size) σ
  | _ => False
 | .lenL x => match ev e x with
  | .slice _ n _ => K (.int .i64 n) σ
  | _ => False
 | .capL x => match ev e x with
  | .slice _ _ c => K (.int .i64 c) σ
  | _ => False
 | .minmax mx x xs => match ev e x with
  | .int k a => ∃ r, minmaxv mx k a (xs.map (ev e)) = some r ∧ K (.int k r) σ
  | _ => False
 | .mkslice ty n bytes zero l c => match ev e l, ev e c with
  | .int _ ln, .int _ cp => 0 ≤ ln ∧ ln ≤ cp ∧ cp ≤ 9223372036854775807 ∧ cp * bytes ≤ 140737488355328 ∧
   ∀ b, σ b = none → w0.heap.size ≤ b → K (.slice (some ⟨b, 0, none⟩) ln.toNat cp.toNat) (σ.set b ⟨(List.replicate cp.toNat zero).flatten, ty, cp.toNat * n, true⟩)
  | _, _ => False
 | .callv x args => match ev e x with
  | .func (.func f) first cap => okF P f = true ∧ ACalls P w0 f (first ++ (args.map (ev e)).toArray ++ cap) σ K w0.pan
  | .func (.yield l) first cap => zcg P w0 l (first ++ (args.map (ev e)).toArray) σ K w0.pan
  | _ => False
 | o => aop P w0 o e σ K w0.pan
def xstep (s : ASt) (e : Env) (σ : Hp) (K : Env → Hp → Prop) : Prop := match s.gd with
 | none => xop P w0 s.op e σ (fun v σ' => K (zm e s.dst v) σ')
 | some (t, want) => (isB (e t) want = true → xop P w0 s.op e σ (fun v σ' => K (zm e s.dst v) σ')) ∧ (isB (e t) want = false → K (zm e s.dst undef) σ)
def xtree : zbb → Env → Hp → (Env → Hp → Prop) → Prop
 | .done, e, σ, K => K e σ
 | .top, _, _, _ => True
 | .quiet s k, e, σ, K => xstep P w0 s e σ (fun e' σ' => xtree k e' σ' K)
 | .eff s st k, e, σ, K => xstep P w0 s e σ (fun e' σ' => agains P w0 st e' σ' ∧ xtree k e' σ' K)
 | .both a b, e, σ, K => xtree a e σ K ∧ xtree b e σ K
end
section
variable {P : Program} {w0 : Base}
theorem zc5 {o : AOp} {e : Env} {σ : Hp} {K : Value → Hp → Prop} (h : xop P w0 o e σ K) : aop P w0 o e σ K w0.pan := by
 have some_of : ∀ {A : Option Addr}, A.isSome = true → ∃ a, A = some a := fun {A} h => Option.isSome_iff_exists.1 h
 cases o <;> unfold xop at h <;> dsimp only at h <;> dsimp only [aop] <;> try exact h
 case pick c a b => split at h <;> first | exact ⟨_, by assumption, h⟩ | exact h.elim
 case beq n x y => split at h <;> first | exact ⟨_, _, by assumption, by assumption, h⟩ | exact h.elim
 case aeq neg n x y => split at h <;> first | (obtain ⟨b, h1, h2⟩ := h; exact ⟨_, _, b, by assumption, by assumption, h1, h2⟩) | exact h.elim
 case snil n x => split at h <;> first | exact ⟨_, _, _, by assumption, h⟩ | exact h.elim
 case pnil n x => split at h <;> first | exact ⟨_, by assumption, h⟩ | exact h.elim
 case cint k x => split at h <;> first | exact ⟨_, _, by assumption, h⟩ | exact h.elim
 case field g o n x => split at h <;> first | (obtain ⟨v, h1, h2⟩ := h; exact ⟨_, v, by assumption, h1, h2⟩) | exact h.elim
 case ext i x => split at h <;> first | (obtain ⟨v, h1, h2⟩ := h; exact ⟨_, v, by assumption, h1, h2⟩) | exact h.elim
 case sidx x i => split at h <;> first | (obtain ⟨h0, b, h1, h2⟩ := h; exact ⟨_, _, _, b, by assumption, by assumption, h0, h1, h2⟩) | exact h.elim
 case aidx g l n x i => split at h <;> first | (obtain ⟨h0, h1, v, h2, h3⟩ := h; exact ⟨_, _, _, v, by assumption, by assumption, h0, h1, h2, h3⟩) | exact h.elim
 case load g n x =>
  split at h
  ·rename_i A hA
   obtain ⟨v, h1, h2⟩ := h
   obtain ⟨a, rfl, h1⟩ := Option.bind_eq_some_iff.1 h1
   exact ⟨a, v, hA, h1, h2⟩
  ·exact h.elim
 case store n x y =>
  split at h
  ·rename_i A hA
   obtain ⟨h1, h2, σ', h3, h4⟩ := h
   obtain ⟨a, rfl, h3⟩ := Option.bind_eq_some_iff.1 h3
   exact ⟨a, σ', hA, h1, h2, h3, h4⟩
  ·exact h.elim
 case faddr off x =>
  split at h
  ·rename_i A hA
   obtain ⟨a, rfl⟩ := some_of h.1
   exact ⟨a, hA, h.2⟩
  ·exact h.elim
 case idx n x i =>
  split at h
  ·rename_i A ln c k q hA hi
   obtain ⟨h0, h1, h2, h3⟩ := h
   obtain ⟨a, rfl⟩ := some_of h2
   exact ⟨a, ln, c, k, q, hA, hi, h0, h1, h3⟩
  ·exact h.elim
 case aaddr len n x i =>
  split at h
  ·rename_i A k q hA hi
   obtain ⟨h0, h1, h2, h3⟩ := h
   obtain ⟨a, rfl⟩ := some_of h2
   exact ⟨a, k, q, hA, hi, h0, h1, h3⟩
  ·exact h.elim
 case slcS x lo hi => split at h <;> first | (obtain ⟨l, h', h⟩ := h; exact ⟨_, l, h', by assumption, h⟩) | exact h.elim
 case slc n x lo hi mx => split at h <;> first | (obtain ⟨l, h', m, h⟩ := h; exact ⟨_, _, _, l, h', m, by assumption, h⟩) | exact h.elim
 case lenS x => split at h <;> first | exact ⟨_, by assumption, h⟩ | exact h.elim
 case lenL x => split at h <;> first | exact ⟨_, _, _, by assumption, h⟩ | exact h.elim
 case capL x => split at h <;> first | exact ⟨_, _, _, by assumption, h⟩ | exact h.elim
 case minmax m x xs => split at h <;> first | (obtain ⟨r, h⟩ := h; exact ⟨_, _, r, by assumption, h⟩) | exact h.elim
 case mkslice ty n bytes zero l c => split at h <;> first | exact ⟨_, _, _, _, by assumption, by assumption, h⟩ | exact h.elim
 case callv x args => split at h <;> first | exact .inl ⟨_, _, _, by assumption, h⟩ | exact .inr ⟨_, _, _, by assumption, h⟩ | exact h.elim
theorem zcM {o : AOp} {e : Env} {σ : Hp} {K K' : Value → Hp → Prop} (h : xop P w0 o e σ K) (hk : ∀ v σ', K v σ' → K' v σ') : xop P w0 o e σ K' := by
 cases o <;> unfold xop at h ⊢ <;> dsimp only at h ⊢
 case mv => exact hk _ _ h
 case pick => split at h <;> first | exact hk _ _ h | exact h.elim
 case bin => obtain ⟨v, h1, h2⟩ := h; exact ⟨v, h1, hk _ _ h2⟩
 case beq => split at h <;> first | exact hk _ _ h | exact h.elim
 case aeq => split at h <;> first | (obtain ⟨b, h1, h2⟩ := h; exact ⟨b, h1, hk _ _ h2⟩) | exact h.elim
 case snil => split at h <;> first | exact hk _ _ h | exact h.elim
 case pnil => split at h <;> first | exact hk _ _ h | exact h.elim
 case inil => obtain ⟨b, h1, h2⟩ := h; exact ⟨b, h1, hk _ _ h2⟩
 case tas => obtain ⟨b, h1, h2⟩ := h; exact ⟨b, h1, hk _ _ h2⟩
 case un => obtain ⟨v, h1, h2⟩ := h; exact ⟨v, h1, hk _ _ h2⟩
 case cint => split at h <;> first | exact hk _ _ h | exact h.elim
 case field => split at h <;> first | (obtain ⟨v, h1, h2⟩ := h; exact ⟨v, h1, hk _ _ h2⟩) | exact h.elim
 case ext => split at h <;> first | (obtain ⟨v, h1, h2⟩ := h; exact ⟨v, h1, hk _ _ h2⟩) | exact h.elim
 case sidx => split at h <;> first | (obtain ⟨h0, b, h1, h2⟩ := h; exact ⟨h0, b, h1, hk _ _ h2⟩) | exact h.elim
 case aidx => split at h <;> first | (obtain ⟨h0, h1, b, h2, h3⟩ := h; exact ⟨h0, h1, b, h2, hk _ _ h3⟩) | exact h.elim
 case load => split at h <;> first | (obtain ⟨v, h1, h2⟩ := h; exact ⟨v, h1, hk _ _ h2⟩) | exact h.elim
 case store => split at h <;> first | (obtain ⟨h0, h1, s, h2, h3⟩ := h; exact ⟨h0, h1, s, h2, hk _ _ h3⟩) | exact h.elim
 case faddr => split at h <;> first | exact ⟨h.1, hk _ _ h.2⟩ | exact h.elim
 case idx => split at h <;> first | exact ⟨h.1, h.2.1, h.2.2.1, hk _ _ h.2.2.2⟩ | exact h.elim
 case aaddr => split at h <;> first | exact ⟨h.1, h.2.1, h.2.2.1, hk _ _ h.2.2.2⟩ | exact h.elim
 case slcS => split at h <;> first | (obtain ⟨l, h', a1, a2, a3, a4, a5, a6⟩ := h; exact ⟨l, h', a1, a2, a3, a4, a5, hk _ _ a6⟩) | exact h.elim
 case slc => split at h <;> first | (obtain ⟨l, h', m, a1, a2, a3, a4, a5, a6, a7, a8⟩ := h; exact ⟨l, h', m, a1, a2, a3, a4, a5, a6, a7, hk _ _ a8⟩) | exact h.elim
 case nilchk => exact ⟨h.1, hk _ _ h.2⟩
 case lenS => split at h <;> first | exact hk _ _ h | exact h.elim
 case lenL => split at h <;> first | exact hk _ _ h | exact h.elim
 case capL => split at h <;> first | exact hk _ _ h | exact h.elim
 case minmax => split at h <;> first | (obtain ⟨r, h1, h2⟩ := h; exact ⟨r, h1, hk _ _ h2⟩) | exact h.elim
 case mkslice => split at h <;> first | (obtain ⟨a1, a2, a3, a4, a5⟩ := h; exact ⟨a1, a2, a3, a4, fun b h1 h2 => hk _ _ (a5 b h1 h2)⟩) | exact h.elim
 case callv => split at h <;> first | exact ⟨h.1, h.2.mono hk (fun _ _ h => h)⟩ | exact zcg.mono h hk (fun _ _ h => h) | exact h.elim
 all_goals exact zbB h hk (fun _ _ h => h)
theorem zh2 {s : ASt} {e : Env} {σ : Hp} {K K' : Env → Hp → Prop} (h : xstep P w0 s e σ K) (hk : ∀ e σ, K e σ → K' e σ) : step P w0 s e σ K' w0.pan := by
 unfold xstep at h
 unfold step
 cases hg : s.gd with
 | none => rw [hg] at h; exact zbB (zc5 h) (fun v σ' x => hk _ _ x) (fun _ _ h => h)
 | some g => rw [hg] at h; exact ⟨fun hb => zbB (zc5 (h.1 hb)) (fun v σ' x => hk _ _ x) (fun _ _ h => h), fun hb => hk _ _ (h.2 hb)⟩
theorem zdX : ∀ (t : zbb) (e : Env) (σ : Hp) (K : Env → Hp → Prop), xtree P w0 t e σ K → atree P w0 t e σ K w0.pan
 | .done, e, σ, K, h => h
 | .top, e, σ, K, h => h
 | .quiet s k, e, σ, K, h => zh2 h fun e' σ' h => zdX k e' σ' K h
 | .eff s st k, e, σ, K, h => zh2 h fun e' σ' h => ⟨h.1, zdX k e' σ' K h.2⟩
 | .both a b, e, σ, K, h => ⟨zdX a e σ K h.1, zdX b e σ K h.2⟩
end
structure XJ where
 d : Option Nat
 op : AOp
 st : List ASt := []
inductive XI where
 | s (x : XJ)
 | g (t : Nat) (b : Bool) (l : List XJ)
inductive zO where
 | skip
 | reg (l : List XI)
 | par (l : List XI)
 | parT (t : zbb)
 | seq (a b : zO)
 | cond (c : Opd) (a b : zO)
 | block (id : Nat) (c : zO)
 | loop (c : zO)
 | exit (id : Nat)
 | ret
def XI.flat : XI → List ASt
 | .s x => [⟨none, x.d, x.op⟩]
 | .g t b l => l.map fun x => ⟨some (t, b), x.d, x.op⟩
def mkT (s : ASt) (st : List ASt) (k : zbb) : zbb := if zbx s.op && st.isEmpty then .quiet s k else .eff s st k
def XI.tree : XI → zbb → zbb
 | .s x, k => mkT ⟨none, x.d, x.op⟩ x.st k
 | .g t b l, k => l.foldr (fun x k => mkT ⟨some (t, b), x.d, x.op⟩ x.st k) k
def zO.code : zO → zbq
 | .skip => .skip
 | .reg l => .reg (l.flatMap XI.flat)
 | .par l => .par (l.foldr XI.tree .done)
 | .parT t => .par t
 | .seq a b => .seq a.code b.code
 | .cond c a b => .cond c a.code b.code
 | .block id c => .block id c.code
 | .loop c => .loop c.code
 | .exit id => .exit id
 | .ret => .ret
def okI : XI → Bool
 | .s _ => true
 | .g t _ l => l.all fun x => x.d != some t
def zO.ok : zO → Bool
 | .reg l => l.all okI
 | .par l => l.all okI
 | .seq a b => a.ok && b.ok
 | .cond _ a b => a.ok && b.ok
 | .block _ c => c.ok
 | .loop c => c.ok
 | _ => true
section
variable (P : Program) (w0 : Base)
def xjs : List XJ → Env → Hp → (Env → Hp → Prop) → Prop
 | [], e, σ, K => K e σ
 | x :: r, e, σ, K => xop P w0 x.op e σ (fun v σ' => agains P w0 x.st (zm e x.d v) σ' ∧ xjs r (zm e x.d v) σ' K)
def undefs : List XJ → Env → Env
 | [], e => e
 | x :: r, e => undefs r (zm e x.d undef)
def agU : List XJ → Env → Hp → Prop
 | [], _, _ => True
 | x :: r, e, σ => agains P w0 x.st (zm e x.d undef) σ ∧ agU r (zm e x.d undef) σ
def xis : List XI → Env → Hp → (Env → Hp → Prop) → Prop
 | [], e, σ, K => K e σ
 | .s x :: r, e, σ, K => xop P w0 x.op e σ (fun v σ' => agains P w0 x.st (zm e x.d v) σ' ∧ xis r (zm e x.d v) σ' K)
 | .g t b l :: r, e, σ, K => (isB (e t) b = true → xjs P w0 l e σ (fun e' σ' => xis r e' σ' K)) ∧ (isB (e t) b = false → agU P w0 l e σ ∧ xis r (undefs l e) σ K)
def wpn : zO → (Exit → Env → Hp → Prop) → Env → Hp → Prop
 | .skip, Q, e, σ => Q .normal e σ
 | .reg ops, Q, e, σ => xis P w0 ops e σ (fun e' σ' => Q .normal e' σ')
 | .par ops, Q, e, σ => xis P w0 ops e σ (fun e' σ' => Q .normal e' σ')
 | .parT t, Q, e, σ => xtree P w0 t e σ (fun e' σ' => Q .normal e' σ')
 | .seq a b, Q, e, σ => wpn a (thn (fun e' σ' => wpn b Q e' σ') Q) e σ
 | .cond c a b, Q, e, σ => ∃ t, ev e c = .bool t ∧ (t = true → wpn a Q e σ) ∧ (t = false → wpn b Q e σ)
 | .block id c, Q, e, σ => wpn c (inb id Q) e σ
 | .loop c, Q, e, σ => ∃ I : Nat → Env → Hp → Prop, (∃ n, I n e σ) ∧ ∀ n e σ, I n e σ → wpn c (thn (fun e' σ' => ∃ n', n' < n ∧ I n' e' σ') Q) e σ
 | .exit id, Q, e, σ => Q (.exit id) e σ
 | .ret, Q, e, σ => Q .ret e σ
end
section
variable {P : Program} {w0 : Base}
theorem zhC {t : Nat} {b : Bool} {K : Env → Hp → Prop} {k : zbb} : ∀ (l : List XJ) (e : Env) (σ : Hp), (l.all fun x => x.d != some t) = true → isB (e t) b = true → xjs P w0 l e σ (fun e' σ' => atree P w0 k e' σ' K w0.pan) →
  atree P w0 (l.foldr (fun x k => mkT ⟨some (t, b), x.d, x.op⟩ x.st k) k) e σ K w0.pan
 | [], e, σ, _, _, h => h
 | x :: r, e, σ, ho, hb, h => by
  simp only [List.all_cons, Bool.and_eq_true, bne_iff_ne, ne_eq] at ho
  have hk : ∀ v, isB (zm e x.d v t) b = true := fun v => by
   cases hd : x.d with
   | none => exact hb
   | some d =>
    simp only [zm]
    rw [if_neg (fun he => ho.1 (by rw [hd, he]))]
    exact hb
  have hs : step P w0 ⟨some (t, b), x.d, x.op⟩ e σ (fun e' σ' => agains P w0 x.st e' σ' ∧ atree P w0 (r.foldr (fun x k => mkT ⟨some (t, b), x.d, x.op⟩ x.st k) k) e' σ' K w0.pan) w0.pan := by
   refine ⟨fun _ => zbB (zc5 h) (fun v σ' hv => ⟨hv.1, zhC r _ _ ho.2 (hk v) hv.2⟩) (fun _ _ h => h), fun h0 => by rw [hb] at h0; cases h0⟩
  simp only [List.foldr_cons]
  unfold mkT
  split
  ·exact zb1 hs (fun _ _ h => h.2) (fun _ _ h => h)
  ·exact hs
theorem zh8 {t : Nat} {b : Bool} {K : Env → Hp → Prop} {k : zbb} : ∀ (l : List XJ) (e : Env) (σ : Hp), (l.all fun x => x.d != some t) = true → isB (e t) b = false → agU P w0 l e σ → atree P w0 k (undefs l e) σ K w0.pan →
  atree P w0 (l.foldr (fun x k => mkT ⟨some (t, b), x.d, x.op⟩ x.st k) k) e σ K w0.pan
 | [], e, σ, _, _, _, h => h
 | x :: r, e, σ, ho, hb, hst, h => by
  simp only [List.all_cons, Bool.and_eq_true, bne_iff_ne, ne_eq] at ho
  have hk : ∀ v, isB (zm e x.d v t) b = false := fun v => by
   cases hd : x.d with
   | none => exact hb
   | some d =>
    simp only [zm]
    rw [if_neg (fun he => ho.1 (by rw [hd, he]))]
    exact hb
  have hs : step P w0 ⟨some (t, b), x.d, x.op⟩ e σ (fun e' σ' => agains P w0 x.st e' σ' ∧ atree P w0 (r.foldr (fun x k => mkT ⟨some (t, b), x.d, x.op⟩ x.st k) k) e' σ' K w0.pan) w0.pan :=
   ⟨(fun h0 => by rw [hb] at h0; cases h0), fun _ => ⟨hst.1, zh8 r _ _ ho.2 (hk _) hst.2 h⟩⟩
  simp only [List.foldr_cons]
  unfold mkT
  split
  ·exact zb1 hs (fun _ _ h => h.2) (fun _ _ h => h)
  ·exact hs
theorem zhE {t : Nat} {b : Bool} {K : Env → Hp → Prop} {r' : List ASt} : ∀ (l : List XJ) (e : Env) (σ : Hp), (l.all fun x => x.d != some t) = true → isB (e t) b = true → xjs P w0 l e σ (fun e' σ' => aops P w0 r' e' σ' K w0.pan) →
  aops P w0 ((l.map fun x => ⟨some (t, b), x.d, x.op⟩) ++ r') e σ K w0.pan
 | [], e, σ, _, _, h => h
 | x :: r, e, σ, ho, hb, h => by
  simp only [List.all_cons, Bool.and_eq_true, bne_iff_ne, ne_eq] at ho
  have hk : ∀ v, isB (zm e x.d v t) b = true := fun v => by
   cases hd : x.d with
   | none => exact hb
   | some d =>
    simp only [zm]
    rw [if_neg (fun he => ho.1 (by rw [hd, he]))]
    exact hb
  exact ⟨fun _ => zbB (zc5 h) (fun v σ' hv => zhE r _ _ ho.2 (hk v) hv.2) (fun _ _ h => h), fun h0 => by rw [hb] at h0; cases h0⟩
theorem zg4 {t : Nat} {b : Bool} {K : Env → Hp → Prop} {r' : List ASt} : ∀ (l : List XJ) (e : Env) (σ : Hp), (l.all fun x => x.d != some t) = true → isB (e t) b = false → aops P w0 r' (undefs l e) σ K w0.pan →
  aops P w0 ((l.map fun x => ⟨some (t, b), x.d, x.op⟩) ++ r') e σ K w0.pan
 | [], e, σ, _, _, h => h
 | x :: r, e, σ, ho, hb, h => by
  simp only [List.all_cons, Bool.and_eq_true, bne_iff_ne, ne_eq] at ho
  have hk : ∀ v, isB (zm e x.d v t) b = false := fun v => by
   cases hd : x.d with
   | none => exact hb
   | some d =>
    simp only [zm]
    rw [if_neg (fun he => ho.1 (by rw [hd, he]))]
    exact hb
  exact ⟨(fun h0 => by rw [hb] at h0; cases h0), fun _ => zg4 r _ _ ho.2 (hk _) h⟩
theorem zdG {K K' : Env → Hp → Prop} (hk : ∀ e σ, K e σ → K' e σ) : ∀ (l : List XJ) (e : Env) (σ : Hp), xjs P w0 l e σ K → xjs P w0 l e σ K'
 | [], e, σ, h => hk _ _ h
 | x :: r, e, σ, h => zcM h fun v σ' hv => ⟨hv.1, zdG hk r _ _ hv.2⟩
theorem zfd {K : Env → Hp → Prop} : ∀ (l : List XI) (e : Env) (σ : Hp), l.all okI = true → xis P w0 l e σ K → aops P w0 (l.flatMap XI.flat) e σ K w0.pan
 | [], e, σ, _, h => h
 | .s x :: r, e, σ, ho, h => by
  simp only [List.all_cons, Bool.and_eq_true] at ho
  exact zbB (zc5 h) (fun v σ' hv => zfd r _ _ ho.2 hv.2) (fun _ _ h => h)
 | .g t b l :: r, e, σ, ho, h => by
  simp only [List.all_cons, Bool.and_eq_true] at ho
  simp only [List.flatMap_cons, XI.flat]
  cases hb : isB (e t) b with
  | true => exact zhE l e σ ho.1 hb (zdG (fun e' σ' h => zfd r e' σ' ho.2 h) l e σ (h.1 hb))
  | false => exact zg4 l e σ ho.1 hb (zfd r _ _ ho.2 (h.2 hb).2)
theorem ze7 {K : Env → Hp → Prop} : ∀ (l : List XI) (e : Env) (σ : Hp), l.all okI = true → xis P w0 l e σ K → atree P w0 (l.foldr XI.tree .done) e σ K w0.pan
 | [], e, σ, _, h => h
 | .s x :: r, e, σ, ho, h => by
  simp only [List.all_cons, Bool.and_eq_true] at ho
  have hs : step P w0 ⟨none, x.d, x.op⟩ e σ (fun e' σ' => agains P w0 x.st e' σ' ∧ atree P w0 (r.foldr XI.tree .done) e' σ' K w0.pan) w0.pan := by
   unfold step
   exact zbB (zc5 h) (fun v σ' hv => ⟨hv.1, ze7 r _ _ ho.2 hv.2⟩) (fun _ _ h => h)
  simp only [List.foldr_cons, XI.tree]
  unfold mkT
  split
  ·exact zb1 hs (fun _ _ h => h.2) (fun _ _ h => h)
  ·exact hs
 | .g t b l :: r, e, σ, ho, h => by
  simp only [List.all_cons, Bool.and_eq_true, okI] at ho
  simp only [List.foldr_cons, XI.tree]
  cases hb : isB (e t) b with
  | true => exact zhC l e σ ho.1 hb (zdG (fun e' σ' h => ze7 r e' σ' ho.2 h) l e σ (h.1 hb))
  | false => exact zh8 l e σ ho.1 hb (h.2 hb).1 (ze7 r _ _ ho.2 (h.2 hb).2)
theorem zgb {K K' : Env → Hp → Prop} {Kp Kp' : List PanicEntry → Hp → Prop} (hk : ∀ e σ, K e σ → K' e σ) (hp : ∀ c σ, Kp c σ → Kp' c σ) : ∀ (l : List ASt) (e : Env) (σ : Hp), aops P w0 l e σ K Kp → aops P w0 l e σ K' Kp'
 | [], e, σ, h => hk _ _ h
 | s :: r, e, σ, h => zb1 h (fun e' σ' h => zgb hk hp r e' σ' h) hp
theorem zcJ {K K' : Env → Hp → Prop} {Kp Kp' : List PanicEntry → Hp → Prop} (hk : ∀ e σ, K e σ → K' e σ) (hp : ∀ c σ, Kp c σ → Kp' c σ) : ∀ (t : zbb) (e : Env) (σ : Hp), atree P w0 t e σ K Kp → atree P w0 t e σ K' Kp'
 | .done, e, σ, h => hk _ _ h
 | .top, e, σ, h => h
 | .quiet s k, e, σ, h => zb1 h (fun e' σ' h => zcJ hk hp k e' σ' h) hp
 | .eff s st k, e, σ, h => zb1 h (fun e' σ' h => ⟨h.1, zcJ hk hp k e' σ' h.2⟩) hp
 | .both a b, e, σ, h => ⟨zcJ hk hp a e σ h.1, zcJ hk hp b e σ h.2⟩
theorem zbY : ∀ (c : zbq) (Q Q' : Exit → Env → Hp → Prop) (e : Env) (σ : Hp), awp P w0 c Q e σ → (∀ x e σ, Q x e σ → Q' x e σ) → awp P w0 c Q' e σ
 | .skip, Q, Q', e, σ, h, hq => hq _ _ _ h
 | .reg ops, Q, Q', e, σ, h, hq => zgb (fun e σ h => hq _ _ _ h) (fun _ _ h e' => hq _ _ _ (h e')) ops e σ h
 | .par t, Q, Q', e, σ, h, hq => zcJ (fun e σ h => hq _ _ _ h) (fun _ _ h e' => hq _ _ _ (h e')) t e σ h
 | .seq a b, Q, Q', e, σ, h, hq => zbY a _ _ e σ h fun x e σ h => by
  cases x with
  | normal => exact zbY b Q Q' e σ h hq
  | _ => exact hq _ _ _ h
 | .cond c a b, Q, Q', e, σ, h, hq => by
  obtain ⟨t, h1, h2, h3⟩ := h
  exact ⟨t, h1, fun ht => zbY a Q Q' e σ (h2 ht) hq, fun ht => zbY b Q Q' e σ (h3 ht) hq⟩
 | .block id c, Q, Q', e, σ, h, hq => zbY c _ _ e σ h fun x e σ h => by
  cases x with
  | exit k =>
   simp only [inb] at h ⊢
   split
   ·rename_i hk; rw [if_pos hk] at h; exact hq _ _ _ h
   ·rename_i hk; rw [if_neg hk] at h; exact hq _ _ _ h
  | _ => exact hq _ _ _ h
 | .loop c, Q, Q', e, σ, h, hq => by
  obtain ⟨I, h1, h2⟩ := h
  exact ⟨I, h1, fun n e σ hI => zbY c _ _ e σ (h2 n e σ hI) fun x e σ h => by
   cases x with
   | normal => exact h
   | _ => exact hq _ _ _ h⟩
 | .exit id, Q, Q', e, σ, h, hq => hq _ _ _ h
 | .ret, Q, Q', e, σ, h, hq => hq _ _ _ h
theorem zbA : ∀ (c : zO) (Q : Exit → Env → Hp → Prop) (e : Env) (σ : Hp), (∀ ch σ' e', w0.pan ch σ' → Q (.panic ch) e' σ') → c.ok = true → wpn P w0 c Q e σ → awp P w0 c.code Q e σ
 | .skip, Q, e, σ, _, _, h => h
 | .reg ops, Q, e, σ, hp, ho, h => zgb (fun _ _ h => h) (fun ch σ' h e' => hp ch σ' e' h) _ e σ (zfd ops e σ ho h)
 | .par ops, Q, e, σ, hp, ho, h => zcJ (fun _ _ h => h) (fun ch σ' h e' => hp ch σ' e' h) _ e σ (ze7 ops e σ ho h)
 | .parT t, Q, e, σ, hp, ho, h => zcJ (fun _ _ h => h) (fun ch σ' h e' => hp ch σ' e' h) t e σ (zdX _ _ _ _ h)
 | .seq a b, Q, e, σ, hp, ho, h => by
  simp only [zO.ok, Bool.and_eq_true] at ho
  exact zbY a.code _ _ e σ (zbA a (thn (fun e' σ' => wpn P w0 b Q e' σ') Q) e σ (fun ch σ' e' hh => hp ch σ' e' hh) ho.1 h) fun x e σ h => by
   cases x with
   | normal => exact zbA b Q e σ hp ho.2 h
   | _ => exact h
 | .cond c a b, Q, e, σ, hp, ho, h => by
  simp only [zO.ok, Bool.and_eq_true] at ho
  obtain ⟨t, h1, h2, h3⟩ := h
  exact ⟨t, h1, fun ht => zbA a Q e σ hp ho.1 (h2 ht), fun ht => zbA b Q e σ hp ho.2 (h3 ht)⟩
 | .block id c, Q, e, σ, hp, ho, h => zbA c (inb id Q) e σ (fun ch σ' e' hh => hp ch σ' e' hh) ho h
 | .loop c, Q, e, σ, hp, ho, h => by
  obtain ⟨I, h1, h2⟩ := h
  exact ⟨I, h1, fun n e σ hI => zbA c (thn (fun e' σ' => ∃ n', n' < n ∧ I n' e' σ') Q) e σ (fun ch σ' e' hh => hp ch σ' e' hh) ho (h2 n e σ hI)⟩
 | .exit id, Q, e, σ, _, _, h => h
 | .ret, Q, e, σ, _, _, h => h
structure zH where
 ntmps : Nat
 results : List zbH
 body : zO
def zH.fn (f : zH) : zfA := ⟨f.ntmps, f.results, f.body.code⟩
theorem ziW {f : FuncId} {fn : Func} {af : zH} {args : List Value} {σ : Hp} {K : Value → Hp → Prop} {Kp : List PanicEntry → Hp → Prop} (hm : P.follows .mixedOrders = true) (hf : P.funcs[f]? = some fn) (hs : zI P fn = some af.fn) (ha : (af.body.ok && decide (args.length ≤ af.ntmps)) = true)
  (h : ∀ Q : Exit → Env → Hp → Prop, (∀ e σ' vs, resvs e σ' af.results = some vs → K (zbN vs) σ' → Q .ret e σ') → wpn P w0.np af.body Q (zbX args) σ) : ACalls P w0 f args.toArray σ K Kp := by
 simp only [Bool.and_eq_true, decide_eq_true_eq] at ha
 refine ACalls.repan (w1 := w0.np) ?_ rfl rfl
 refine zg1 hm hf hs ha.2 (zbY _ _ _ _ _ (zbA _ _ _ _ (fun _ _ _ h => h.elim) ha.1 (h (fun x e σ' => x = .ret ∧ ∃ vs, resvs e σ' af.results = some vs ∧ K (zbN vs) σ') (fun e σ' vs h1 h2 => ⟨rfl, vs, h1, h2⟩))) fun x e σ' hq => ?_)
 obtain ⟨rfl, h⟩ := hq
 exact h
theorem zj0 {Q : Exit → Env → Hp → Prop} {e : Env} {σ : Hp} {id : Nat} : inb id Q (.exit id) e σ = Q .normal e σ := by simp [inb]
theorem zhg {d : Option Nat} {op : AOp} {st : List ASt} {r : List XI} {e : Env} {σ : Hp} {K : Env → Hp → Prop} : xis P w0 (.s ⟨d, op, st⟩ :: r) e σ K = xop P w0 op e σ (fun v σ' => agains P w0 st (zm e d v) σ' ∧ xis P w0 r (zm e d v) σ' K) := rfl
theorem zb6 {d : Option Nat} {op : AOp} {r : List XI} {e : Env} {σ : Hp} {K : Env → Hp → Prop} : xis P w0 (.s ⟨d, op, []⟩ :: r) e σ K = xop P w0 op e σ (fun v σ' => xis P w0 r (zm e d v) σ' K) := by
 simp only [xis, agains, true_and]
theorem zfs : ∀ (l : List XJ) (e : Env) (σ : Hp), (l.all fun x => x.st.isEmpty) = true → agU P w0 l e σ
 | [], _, _, _ => trivial
 | x :: r, e, σ, h => by
  simp only [List.all_cons, Bool.and_eq_true] at h
  have he : x.st = [] := by simpa using h.1
  exact ⟨by rw [he]; trivial, zfs r _ _ h.2⟩
theorem zje {d : Option Nat} {op : AOp} {r : List XJ} {e : Env} {σ : Hp} {K : Env → Hp → Prop} : xjs P w0 (⟨d, op, []⟩ :: r) e σ K = xop P w0 op e σ (fun v σ' => xjs P w0 r (zm e d v) σ' K) := by
 simp only [xjs, agains, true_and]
end
structure Ty (α : Type) where
 sz : Nat
 R : Hp → α → List Value → Prop
 len : ∀ {σ x cs}, R σ x cs → cs.length = sz
 one : ∀ {σ x cs}, R σ x cs → cs.all one = true
 mono : ∀ {σ σ' x cs}, Hp.le σ σ' → R σ x cs → R σ' x cs
def Ty.sc {α : Type} (f : α → Value) (h : ∀ x, Ab.one (f x) = true) : Ty α where
 sz := 1
 R := fun _ x cs => cs = [f x]
 len := fun h => by subst h; rfl
 one := fun h1 => by subst h1; simp [h]
 mono := fun _ h => h
def Ty.u8 : Ty UInt8 := Ty.sc (fun b => .int .u8 b.toNat) (fun _ => rfl)
def Ty.int (k : IntKind) : Ty Int := Ty.sc (fun n => .int k n) (fun _ => rfl)
def Chunks {α : Type} (T : Ty α) (σ : Hp) : List α → List Value → Prop
 | [], cs => cs = []
 | x :: l, cs => ∃ c r, cs = c ++ r ∧ T.R σ x c ∧ Chunks T σ l r
theorem Chunks.len {α : Type} {T : Ty α} {σ : Hp} : ∀ {l : List α} {cs : List Value}, Chunks T σ l cs → cs.length = l.length * T.sz
 | [], cs, h => by have h : cs = [] := h; subst h; simp
 | x :: l, cs, h => by
  obtain ⟨c, r, rfl, h1, h2⟩ := h
  rw [List.length_append, T.len h1, Chunks.len h2, List.length_cons, Nat.succ_mul, Nat.add_comm]
theorem Chunks.one {α : Type} {T : Ty α} {σ : Hp} : ∀ {l : List α} {cs : List Value}, Chunks T σ l cs → cs.all one = true
 | [], cs, h => by have h : cs = [] := h; subst h; rfl
 | x :: l, cs, h => by
  obtain ⟨c, r, rfl, h1, h2⟩ := h
  rw [List.all_append, T.one h1, Chunks.one h2]; rfl
theorem Chunks.mono {α : Type} {T : Ty α} {σ σ' : Hp} (hle : Hp.le σ σ') : ∀ {l : List α} {cs : List Value}, Chunks T σ l cs → Chunks T σ' l cs
 | [], cs, h => h
 | x :: l, cs, h => by
  obtain ⟨c, r, rfl, h1, h2⟩ := h
  exact ⟨c, r, rfl, T.mono hle h1, Chunks.mono hle h2⟩
theorem Chunks.append {α : Type} {T : Ty α} {σ : Hp} : ∀ {l m : List α} {cs ds : List Value}, Chunks T σ l cs → Chunks T σ m ds → Chunks T σ (l ++ m) (cs ++ ds)
 | [], m, cs, ds, h, k => by have h : cs = [] := h; subst h; exact k
 | x :: l, m, cs, ds, h, k => by
  obtain ⟨c, r, rfl, h1, h2⟩ := h
  exact ⟨c, r ++ ds, by simp, h1, Chunks.append h2 k⟩
theorem Chunks.single {α : Type} {T : Ty α} {σ : Hp} {x : α} {cs : List Value} (h : T.R σ x cs) : Chunks T σ [x] cs := ⟨cs, [], by simp, h, rfl⟩
theorem Chunks.get {α : Type} {T : Ty α} {σ : Hp} : ∀ {l : List α} {cs : List Value} {i : Nat} {x : α}, Chunks T σ l cs → l[i]? = some x → ∃ c, T.R σ x c ∧ c = (cs.drop (i * T.sz)).take T.sz
 | [], cs, i, x, h, hx => by simp at hx
 | y :: l, cs, i, x, h, hx => by
  obtain ⟨c, r, rfl, h1, h2⟩ := h
  have hc := T.len h1
  cases i with
  | zero =>
   simp at hx
   subst hx
   refine ⟨c, h1, ?_⟩
   rw [Nat.zero_mul, List.drop_zero, ← hc, List.take_left]
  | succ i =>
   obtain ⟨d, hd, he⟩ := Chunks.get h2 (show l[i]? = some x by simpa using hx)
   refine ⟨d, hd, ?_⟩
   rw [he, Nat.succ_mul, Nat.add_comm (i * T.sz), ← List.drop_drop]
   have : List.drop T.sz (c ++ r) = r := by rw [← hc, List.drop_left]
   rw [this]
theorem Chunks.take {α : Type} {T : Ty α} {σ : Hp} : ∀ {l : List α} {cs : List Value} (i : Nat), Chunks T σ l cs → Chunks T σ (l.take i) (cs.take (i * T.sz))
 | [], cs, i, h => by have h : cs = [] := h; subst h; simp; exact rfl
 | y :: l, cs, 0, h => by simp; exact rfl
 | y :: l, cs, i + 1, h => by
  obtain ⟨c, r, rfl, h1, h2⟩ := h
  have hc := T.len h1
  rw [List.take_succ_cons, Nat.succ_mul, Nat.add_comm (i * T.sz)]
  refine ⟨c, r.take (i * T.sz), ?_, h1, Chunks.take i h2⟩
  rw [List.take_append, List.take_of_length_le (by omega), hc]
  simp
theorem Chunks.drop {α : Type} {T : Ty α} {σ : Hp} : ∀ {l : List α} {cs : List Value} (i : Nat), Chunks T σ l cs → Chunks T σ (l.drop i) (cs.drop (i * T.sz))
 | [], cs, i, h => by have h : cs = [] := h; subst h; simp; exact rfl
 | y :: l, cs, 0, h => by simpa using h
 | y :: l, cs, i + 1, h => by
  obtain ⟨c, r, rfl, h1, h2⟩ := h
  have hc := T.len h1
  rw [List.drop_succ_cons, Nat.succ_mul, Nat.add_comm (i * T.sz), ← List.drop_drop]
  have : List.drop T.sz (c ++ r) = r := by rw [← hc, List.drop_left]
  rw [this]
  exact Chunks.drop i h2
def RdT {α : Type} (T : Ty α) (σ : Hp) (v : Value) (l : List α) : Prop := ∃ cells, Rd σ v T.sz l.length cells ∧ Chunks T σ l cells
def Ty.slice {α : Type} (T : Ty α) : Ty (List α) where
 sz := 1
 R := fun σ l cs => ∃ v, cs = [v] ∧ RdT T σ v l
 len := by rintro σ x cs ⟨v, rfl, _⟩; rfl
 one := by rintro σ x cs ⟨v, rfl, cells, ⟨A, c, rfl, _⟩, _⟩; rfl
 mono := by rintro σ σ' x cs hle ⟨v, rfl, cells, h1, h2⟩; exact ⟨v, rfl, cells, h1.le hle, h2.mono hle⟩
section
variable {α : Type} {T : Ty α} {σ σ' τ : Hp} {v : Value} {l : List α}
theorem RdT.le (h : RdT T σ v l) (hle : Hp.le σ σ') : RdT T σ' v l := by obtain ⟨cs, h1, h2⟩ := h; exact ⟨cs, h1.le hle, h2.mono hle⟩
theorem RdT.form (h : RdT T σ v l) : ∃ A c, v = .slice A l.length c ∧ l.length ≤ c := by obtain ⟨cs, ⟨A, c, h1, h2, _⟩, _⟩ := h; exact ⟨A, c, h1, h2⟩
theorem RdT.nil (T : Ty α) (σ : Hp) : RdT T σ (.slice none 0 0) [] := ⟨[], ⟨none, 0, rfl, Nat.le_refl _, by simp, fun j u h => by simp at h⟩, rfl⟩
theorem RdT.get {A : Option Addr} {n c i : Nat} {x : α} (h : RdT T σ (.slice A n c) l) (hx : l[i]? = some x) : ∃ cs, T.R σ x cs ∧ ∀ j u, cs[j]? = some u → ∃ a, A = some a ∧ look σ (a.add (i * T.sz + j)) = some u := by
 obtain ⟨cells, ⟨A', c', hv, h1, h2, h3⟩, h4⟩ := h
 injection hv with hA _ _
 subst hA
 obtain ⟨cs, hR, he⟩ := h4.get hx
 refine ⟨cs, hR, fun j u hu => h3 _ _ ?_⟩
 rw [he, List.getElem?_take] at hu
 split at hu
 ·rw [List.getElem?_drop] at hu; exact hu
 ·cases hu
theorem RdT.has {A : Option Addr} {n c i : Nat} (h : RdT T σ (.slice A n c) l) (hi : i < l.length) (hs : 0 < T.sz) : A.isSome = true := by
 obtain ⟨cs, hR, h1⟩ := h.get (List.getElem?_eq_getElem hi)
 have : cs.length = T.sz := T.len hR
 obtain ⟨a, rfl, _⟩ := h1 0 cs[0] (List.getElem?_eq_getElem (by omega))
 rfl
theorem zdl (a : Addr) (i j : Nat) : (a.add i).add j = a.add (i + j) := by
 unfold Addr.add
 split
 ·rename_i h; subst h; simp
 ·rename_i h
  split
  ·rename_i h2; subst h2; simp [h]
  ·rw [if_neg (by omega)]; simp [Nat.add_assoc]
end
end Go.Ab
