import Derived.Test.YtnhboaaikehpoaaF
namespace Go.Proofs.Ytnhboaaikehpoaa
open Go.Ab Go.RowKit
set_option linter.unusedVariables false
set_option linter.unusedSimpArgs false
theorem zbJ {n : Nat} (h : n ≤ 1099511627776) : room n = some () := if_pos h
theorem zjo {α : Type} (l : List α) (k : Nat) : zI l (k : Int) = l[k]? := by
 unfold zI
 rw [if_pos (by omega), Int.toNat_natCast]
theorem zdd {α : Type} {l : List α} {k : Nat} (h : k < l.length) : zI l (k : Int) = some l[k] := by
 rw [zjo, List.getElem?_eq_getElem h]
theorem zij {α : Type} {l : List α} {a b : Nat} (h1 : a ≤ b) (h2 : b ≤ l.length) : zcA l (a : Int) (b : Int) = some ((l.take b).drop a) := by
 unfold zcA
 rw [if_pos ⟨by omega, by omega, by omega⟩, Int.toNat_natCast, Int.toNat_natCast]
theorem zb9 {n : Nat} (h : n ≤ 9223372036854775807) : n < big := by unfold big; omega
theorem zp6 {n : Nat} (h : n ≤ 9223372036854775807) : IntKind.i64.wrap (n : Int) = n := zer (by omega)
theorem zcq {a : Nat} (h : a < 9223372036854775807) : IntKind.i64.wrap ((a : Int) + 1) = ((a + 1 : Nat) : Int) := by rw [zer (by omega)]; omega
theorem zbo {p : Prop} [Decidable p] (h : p) : decide p = true := decide_eq_true h
theorem zdD {p : Prop} [Decidable p] (h : ¬ p) : decide p = false := decide_eq_false h
theorem zic {a b : Int} (h : a = b) : (a == b) = true := by subst h; exact beq_self_eq_true a
theorem zkD {a b : Int} (h : a ≠ b) : (a == b) = false := by simpa using h
theorem zn6 {a b : Int} (h : a ≠ b) : (a != b) = true := by simpa using h
theorem zpM {a b : Int} (h : a = b) : (a != b) = false := by subst h; simp
theorem zeJ (x y : ByteArray) : zb4 x y = decide (x = y) := by
 unfold zb4
 rw [Bool.eq_iff_iff]
 simp only [beq_iff_eq, decide_eq_true_eq]
 constructor
 ·intro h
  rw [ByteArray.toList_eq, ByteArray.toList_eq] at h
  have h2 : x.data.toList = y.data.toList := h
  cases x; cases y
  congr 1
  exact Array.ext' h2
 ·rintro rfl; rfl
end Go.Proofs.Ytnhboaaikehpoaa
