import Derived.Test.YtnhboaaikehpoaaP_12f
import Derived.KernelRfl
namespace Go.Proofs.Ytnhboaaikehpoaa
open Go.Ab Go.RowKit
set_option linter.unusedVariables false
set_option linter.unusedSimpArgs false
def Le {α : Type} (p q : Ps α) : Prop := ∀ r v, p r = some v → q r = some v
theorem Le.rfl {α : Type} {p : Ps α} : Le p p := fun _ _ h => h
theorem Le.trans {α : Type} {p q s : Ps α} (h : Le p q) (h' : Le q s) : Le p s := fun r v hv => h' r v (h r v hv)
theorem zeC {α : Type} {q : Ps α} : Le (fun _ => none) q := fun r v h => by cases h
theorem zcK {α β : Type} {p p' : Ps α} {f f' : α → Ps β} (hp : Le p p') (hf : ∀ x, Le (f x) (f' x)) : Le (bd p f) (bd p' f') := fun r v h => by
 unfold bd at h ⊢
 split at h
 ·cases h
 ·rename_i e he; rw [hp r _ he]; exact h
 ·rename_i x r' he; rw [hp r _ he]; exact hf x r' v h
theorem zjt {α : Type} {k : Int} {tx : List BA} {p p' q q' : Ps α} (hp : Le p p') (hq : Le q q') : Le (ifS k tx p q) (ifS k tx p' q') := fun r v h => by
 unfold ifS at h ⊢
 split at h
 ·rename_i hc; rw [if_pos hc]; exact hp r v h
 ·rename_i hc; rw [if_neg hc]; exact hq r v h
theorem ze2 {α : Type} {k : Int} {tx : List BA} {p p' q q' : Ps α} (hp : Le p p') (hq : Le q q') : Le (ifH k tx p q) (ifH k tx p' q') := fun r v h => by
 unfold ifH at h ⊢
 split at h
 ·rename_i hc; rw [if_pos hc]; exact hp _ v h
 ·rename_i hc; rw [if_neg hc]; exact hq r v h
theorem zmp {Bf Bf' : List (List BA) → Ps zb} (h : ∀ l, Le (Bf l) (Bf' l)) (lv : List BA) (ls : List (List BA)) : ∀ n x, Le (bL Bf lv ls n x) (bL Bf' lv ls n x)
 | 0, _ => zeC
 | n + 1, x => zjt (zcK Le.rfl fun _ => zcK (h _) fun _ => zmp h lv ls n _) Le.rfl
theorem zjN : ∀ n, Le (sG n).1 (sG (n + 1)).1 ∧ (∀ l, Le ((sG n).2.1 l) ((sG (n + 1)).2.1 l)) ∧ Le (sG n).2.2.1 (sG (n + 1)).2.2.1 ∧ Le (sG n).2.2.2 (sG (n + 1)).2.2.2
 | 0 => ⟨zeC, fun _ => zeC, zeC, zeC⟩
 | n + 1 => by
  obtain ⟨h1, h2, h3, h4⟩ := zjN n
  refine ⟨h2 _, fun l => ?_, ?_, ?_⟩
  ·cases l with
   | nil => exact h3
   | cons lv ls => exact zcK (h2 ls) fun x => zmp h2 lv ls big x
  ·exact zjt (zcK Le.rfl fun _ => zcK h3 fun _ => Le.rfl) (ze2 (zcK h1 fun _ => Le.rfl) (zjt Le.rfl (ze2 Le.rfl (ze2 Le.rfl (zcK Le.rfl fun _ => zjt (zcK h4 fun _ => Le.rfl) Le.rfl)))))
  ·exact zcK Le.rfl fun _ => zcK h1 fun _ => Le.rfl
theorem zlY {n m : Nat} (h : n ≤ m) : Le (sG n).1 (sG m).1 ∧ Le (sG n).2.2.2 (sG m).2.2.2 := by
 induction h with
 | refl => exact ⟨Le.rfl, Le.rfl⟩
 | step _ ih => exact ⟨ih.1.trans (zjN _).1, ih.2.trans (zjN _).2.2.2⟩
theorem zmb {p q : Ps Stm} (h : Le p q) : ∀ n l, Le (zdo p n l) (zdo q n l)
 | 0, _ => zeC
 | n + 1, l => ze2 Le.rfl (zcK h fun _ => zmb h n _)
theorem zoC {p q : Ps (List Stm)} (h : Le p q) : Le (zd4 p) (zd4 q) := fun r v hv =>
 ze2 (zcK Le.rfl fun _ => zcK h fun _ => ze2 (zcK h fun _ => Le.rfl) Le.rfl) (ze2 (zcK Le.rfl fun _ => zcK h fun _ => Le.rfl) Le.rfl) r v hv
theorem znP : ∀ n, Le (sB n).1 (sB (n + 1)).1 ∧ Le (sB n).2 (sB (n + 1)).2
 | 0 => ⟨zeC, zeC⟩
 | n + 1 => by
  obtain ⟨h1, h2⟩ := znP n
  exact ⟨zcK Le.rfl fun _ => zmb h2 _ _, zoC h1⟩
theorem zqN {n m : Nat} (h : n ≤ m) : Le (sB n).1 (sB m).1 := by
 induction h with
 | refl => exact Le.rfl
 | step _ ih => exact ih.trans (znP _).1
theorem zlo {α : Type} {p q : Ps α} (h : Le p q) {L : Nat} (ht : To p L) {r : List Tok} (hr : r.length ≤ L) {v : Rs α} (hv : q r = some v) : p r = some v := by
 cases hp : p r with
 | none => exact absurd hp (ht r hr)
 | some u =>
  have := h r u hp
  rw [hv] at this
  injection this with this
  rw [this]
end Go.Proofs.Ytnhboaaikehpoaa
