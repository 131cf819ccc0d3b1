import Derived.Test.YtnhboaaikehpoaaF
namespace Go.Proofs.Ytnhboaaikehpoaa
open Go.Ab Go.RowKit
set_option linter.unusedVariables false
set_option linter.unusedSimpArgs false
theorem zcT {n : Nat} (h : n ≤ 1099511627776) : room n = some () := if_pos h
theorem znR {α : Type} (l : List α) (k : Nat) : zv l (k : Int) = l[k]? := by
 unfold zv
 rw [if_pos (by omega), Int.toNat_natCast]
theorem zbv {α : Type} {l : List α} {k : Nat} (h : k < l.length) : zv l (k : Int) = some l[k] := by
 rw [znR, List.getElem?_eq_getElem h]
theorem zii {α : Type} {l : List α} {a b : Nat} (h1 : a ≤ b) (h2 : b ≤ l.length) : zcV l (a : Int) (b : Int) = some ((l.take b).drop a) := by
 unfold zcV
 rw [if_pos ⟨by omega, by omega, by omega⟩, Int.toNat_natCast, Int.toNat_natCast]
theorem z7 {n : Nat} (h : n ≤ 9223372036854775807) : n < big := by unfold big; omega
theorem zeo {a b : Nat} (h : a + b ≤ 9223372036854775807) : IntKind.i64.wrap ((a : Int) + (b : Int)) = ((a + b : Nat) : Int) := by rw [zce (by omega)]; omega
theorem zbq {a : Nat} (h : a < 9223372036854775807) : IntKind.i64.wrap ((a : Int) + 1) = ((a + 1 : Nat) : Int) := by rw [zce (by omega)]; omega
theorem zqd {n : Nat} (h : n < 256) : u8o (n : Int) = some (UInt8.ofNat n) := by
 unfold u8o
 rw [if_pos ⟨by omega, by omega⟩, Int.toNat_natCast]
theorem ziD (n : Int) : u8o (IntKind.u8.wrap n) = some (UInt8.ofNat (n % 256).toNat) := by
 unfold u8o
 rw [zqA, if_pos ⟨by omega, by omega⟩]
theorem zJ {p : Prop} [Decidable p] (h : p) : decide p = true := decide_eq_true h
theorem zc9 {p : Prop} [Decidable p] (h : ¬ p) : decide p = false := decide_eq_false h
theorem zmE {a b : Int} (h : a ≠ b) : (a != b) = true := by simpa using h
theorem zn8 {a b : Int} (h : a = b) : (a != b) = false := by subst h; simp
theorem znX {a b : UInt8} : ((a.toNat : Int) = (b.toNat : Int)) ↔ a = b := ⟨fun h => UInt8.toNat_inj.1 (by omega), fun h => by rw [h]⟩
theorem zcR (x y : ByteArray) : zV x y = decide (x = y) := by
 unfold zV
 rw [Bool.eq_iff_iff]
 simp only [beq_iff_eq, decide_eq_true_eq]
 constructor
 ·intro h
  rw [ByteArray.toList_eq, ByteArray.toList_eq] at h
  have h2 : x.data.toList = y.data.toList := h
  cases x; cases y
  congr 1
  exact Array.ext' h2
 ·rintro rfl; rfl
end Go.Proofs.Ytnhboaaikehpoaa
