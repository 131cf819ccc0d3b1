import Derived.Test.YtakcaekikfcbpaaF
namespace Go.Proofs.Ytakcaekikfcbpaa
open Go.Ab Go.RowKit
set_option linter.unusedVariables false
set_option linter.unusedSimpArgs false
theorem zco {n : Nat} (h : n ≤ 1099511627776) : room n = some () := if_pos h
theorem ziO {α : Type} (l : List α) (k : Nat) : zs l (k : Int) = l[k]? := by
 unfold zs
 rw [if_pos (by omega), Int.toNat_natCast]
theorem zbr {α : Type} {l : List α} {k : Nat} (h : k < l.length) : zs l (k : Int) = some l[k] := by
 rw [ziO, List.getElem?_eq_getElem h]
theorem zmi {α : Type} {l : List α} {a b : Nat} (h1 : a ≤ b) (h2 : b ≤ l.length) : zdX l (a : Int) (b : Int) = some ((l.take b).drop a) := by
 unfold zdX
 rw [if_pos ⟨by omega, by omega, by omega⟩, Int.toNat_natCast, Int.toNat_natCast]
theorem zbA {n : Nat} (h : n ≤ 9223372036854775807) : n < big := by unfold big; omega
theorem zd4 {a b : Nat} (h : a + b ≤ 9223372036854775807) : IntKind.i64.wrap ((a : Int) + (b : Int)) = ((a + b : Nat) : Int) := by rw [zjn (by omega)]; omega
theorem zbU {a : Nat} (h : a < 9223372036854775807) : IntKind.i64.wrap ((a : Int) + 1) = ((a + 1 : Nat) : Int) := by rw [zjn (by omega)]; omega
theorem zlX {n : Nat} (h : n < 256) : u8o (n : Int) = some (UInt8.ofNat n) := by
 unfold u8o
 rw [if_pos ⟨by omega, by omega⟩, Int.toNat_natCast]
theorem zbw {p : Prop} [Decidable p] (h : p) : decide p = true := decide_eq_true h
theorem zhj {p : Prop} [Decidable p] (h : ¬ p) : decide p = false := decide_eq_false h
theorem zmm {a b : Int} (h : a ≠ b) : (a == b) = false := by simpa using h
theorem zjl {a b : Int} (h : a ≠ b) : (a != b) = true := by simpa using h
theorem zhD {a b : Int} (h : a = b) : (a != b) = false := by subst h; simp
theorem zlc {a b : UInt8} : ((a.toNat : Int) = (b.toNat : Int)) ↔ a = b := ⟨fun h => UInt8.toNat_inj.1 (by omega), fun h => by rw [h]⟩
theorem zet (x y : ByteArray) : zP x y = decide (x = y) := by
 unfold zP
 rw [Bool.eq_iff_iff]
 simp only [beq_iff_eq, decide_eq_true_eq]
 constructor
 ·intro h
  rw [ByteArray.toList_eq, ByteArray.toList_eq] at h
  have h2 : x.data.toList = y.data.toList := h
  cases x; cases y
  congr 1
  exact Array.ext' h2
 ·rintro rfl; rfl
end Go.Proofs.Ytakcaekikfcbpaa
