import Derived.Test.YtgkllgoelpfdkaaGreatF
namespace Go.Proofs.YtgkllgoelpfdkaaGreat
open Go.Ab Go.RowKit
set_option linter.unusedVariables false
set_option linter.unusedSimpArgs false
theorem zbi {n : Nat} (h : n ≤ 1099511627776) : room n = some () := if_pos h
theorem zsA {n : Int} (h : 0 ≤ n) : nneg n = some () := if_pos h
theorem zh1 {α : Type} (l : List α) (k : Nat) : zz l (k : Int) = l[k]? := by
 unfold zz
 rw [if_pos (by omega), Int.toNat_natCast]
theorem zbQ {α : Type} {l : List α} {k : Nat} (h : k < l.length) : zz l (k : Int) = some l[k] := by
 rw [zh1, List.getElem?_eq_getElem h]
theorem zcV {α : Type} {l : List α} {a b : Nat} (h1 : a ≤ b) (h2 : b ≤ l.length) : zb5 l (a : Int) (b : Int) = some ((l.take b).drop a) := by
 unfold zb5
 rw [if_pos ⟨by omega, by omega, by omega⟩, Int.toNat_natCast, Int.toNat_natCast]
theorem zbR {n : Nat} (h : n ≤ 9223372036854775807) : n < big := by unfold big; omega
theorem zoW {n : Nat} (h : n ≤ 9223372036854775807) : IntKind.i64.wrap (n : Int) = n := zN (by omega)
theorem zdW {a b : Nat} (h : a + b ≤ 9223372036854775807) : IntKind.i64.wrap ((a : Int) + (b : Int)) = ((a + b : Nat) : Int) := by rw [zN (by omega)]; omega
theorem zbt {a : Nat} (h : a < 9223372036854775807) : IntKind.i64.wrap ((a : Int) + 1) = ((a + 1 : Nat) : Int) := by rw [zN (by omega)]; omega
theorem zlg {n : Nat} (h : n < 256) : u8o (n : Int) = some (UInt8.ofNat n) := by
 unfold u8o
 rw [if_pos ⟨by omega, by omega⟩, Int.toNat_natCast]
theorem zd7 (n : Int) : u8o (IntKind.u8.wrap n) = some (UInt8.ofNat (n % 256).toNat) := by
 unfold u8o
 rw [zd0, if_pos ⟨by omega, by omega⟩]
theorem zkU {n : Int} {k : Nat} (h : n = k) (hk : k < 256) : u8o n = some (UInt8.ofNat k) := by subst h; exact zlg hk
theorem zX {p : Prop} [Decidable p] (h : p) : decide p = true := decide_eq_true h
theorem zO {p : Prop} [Decidable p] (h : ¬ p) : decide p = false := decide_eq_false h
theorem zd3 {a b : Int} (h : a = b) : (a == b) = true := by subst h; exact beq_self_eq_true a
theorem zeM {a b : Int} (h : a ≠ b) : (a == b) = false := by simpa using h
theorem zdA {a b : Int} (h : a ≠ b) : (a != b) = true := by simpa using h
theorem zcy {a b : Int} (h : a = b) : (a != b) = false := by subst h; simp
theorem zdS {a b : UInt8} : ((a.toNat : Int) = (b.toNat : Int)) ↔ a = b := ⟨fun h => UInt8.toNat_inj.1 (by omega), fun h => by rw [h]⟩
theorem zoI (x y : ByteArray) : zjy x y = decide (x = y) := by
 unfold zjy
 rw [Bool.eq_iff_iff]
 simp only [beq_iff_eq, decide_eq_true_eq]
 constructor
 ·intro h
  rw [ByteArray.toList_eq, ByteArray.toList_eq] at h
  have h2 : x.data.toList = y.data.toList := h
  cases x; cases y
  congr 1
  exact Array.ext' h2
 ·rintro rfl; rfl
end Go.Proofs.YtgkllgoelpfdkaaGreat
