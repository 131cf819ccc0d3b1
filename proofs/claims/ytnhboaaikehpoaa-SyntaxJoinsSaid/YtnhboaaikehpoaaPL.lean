import Derived.Test.YtnhboaaikehpoaaF
namespace Go.Proofs.Ytnhboaaikehpoaa
open Go.Ab Go.RowKit
set_option linter.unusedVariables false
set_option linter.unusedSimpArgs false
theorem zbO {n : Nat} (h : n ≤ 1099511627776) : room n = some () := if_pos h
theorem zji {α : Type} (l : List α) (k : Nat) : zA l (k : Int) = l[k]? := by
 unfold zA
 rw [if_pos (by omega), Int.toNat_natCast]
theorem zch {α : Type} {l : List α} {k : Nat} (h : k < l.length) : zA l (k : Int) = some l[k] := by
 rw [zji, List.getElem?_eq_getElem h]
theorem zls {α : Type} {l : List α} {a b : Nat} (h1 : a ≤ b) (h2 : b ≤ l.length) : zdp l (a : Int) (b : Int) = some ((l.take b).drop a) := by
 unfold zdp
 rw [if_pos ⟨by omega, by omega, by omega⟩, Int.toNat_natCast, Int.toNat_natCast]
theorem zbU {n : Nat} (h : n ≤ 9223372036854775807) : n < big := by unfold big; omega
theorem zmB {a b : Nat} (h : a + b ≤ 9223372036854775807) : IntKind.i64.wrap ((a : Int) + (b : Int)) = ((a + b : Nat) : Int) := by rw [zeG (by omega)]; omega
theorem zcc {a : Nat} (h : a < 9223372036854775807) : IntKind.i64.wrap ((a : Int) + 1) = ((a + 1 : Nat) : Int) := by rw [zeG (by omega)]; omega
theorem zbx {p : Prop} [Decidable p] (h : p) : decide p = true := decide_eq_true h
theorem zdQ {p : Prop} [Decidable p] (h : ¬ p) : decide p = false := decide_eq_false h
theorem zik {a b : Int} (h : a = b) : (a == b) = true := by subst h; exact beq_self_eq_true a
theorem zk4 {a b : Int} (h : a ≠ b) : (a == b) = false := by simpa using h
theorem zqy {a b : Int} (h : a ≠ b) : (a != b) = true := by simpa using h
theorem zq6 {a b : Int} (h : a = b) : (a != b) = false := by subst h; simp
theorem zdf (x y : ByteArray) : zbn x y = decide (x = y) := by
 unfold zbn
 rw [Bool.eq_iff_iff]
 simp only [beq_iff_eq, decide_eq_true_eq]
 constructor
 ·intro h
  rw [ByteArray.toList_eq, ByteArray.toList_eq] at h
  have h2 : x.data.toList = y.data.toList := h
  cases x; cases y
  congr 1
  exact Array.ext' h2
 ·rintro rfl; rfl
end Go.Proofs.Ytnhboaaikehpoaa
