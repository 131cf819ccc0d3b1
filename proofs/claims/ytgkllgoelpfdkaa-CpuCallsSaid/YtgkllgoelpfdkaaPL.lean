import Derived.Test.YtgkllgoelpfdkaaF
namespace Go.Proofs.Ytgkllgoelpfdkaa
open Go.Ab Go.RowKit
set_option linter.unusedVariables false
set_option linter.unusedSimpArgs false
theorem zbo {n : Nat} (h : n ≤ 1099511627776) : room n = some () := if_pos h
theorem zle {n : Int} (h : 0 ≤ n) : nneg n = some () := if_pos h
theorem zhu {α : Type} (l : List α) (k : Nat) : zF l (k : Int) = l[k]? := by
 unfold zF
 rw [if_pos (by omega), Int.toNat_natCast]
theorem zcl {α : Type} {l : List α} {k : Nat} (h : k < l.length) : zF l (k : Int) = some l[k] := by
 rw [zhu, List.getElem?_eq_getElem h]
theorem zci {α : Type} {l : List α} {a b : Nat} (h1 : a ≤ b) (h2 : b ≤ l.length) : zby l (a : Int) (b : Int) = some ((l.take b).drop a) := by
 unfold zby
 rw [if_pos ⟨by omega, by omega, by omega⟩, Int.toNat_natCast, Int.toNat_natCast]
theorem zcx {n : Nat} (h : n ≤ 9223372036854775807) : n < big := by unfold big; omega
theorem zmL {n : Nat} (h : n ≤ 9223372036854775807) : IntKind.i64.wrap (n : Int) = n := zL (by omega)
theorem zgr {a b : Nat} (h : a + b ≤ 9223372036854775807) : IntKind.i64.wrap ((a : Int) + (b : Int)) = ((a + b : Nat) : Int) := by rw [zL (by omega)]; omega
theorem zb8 {a : Nat} (h : a < 9223372036854775807) : IntKind.i64.wrap ((a : Int) + 1) = ((a + 1 : Nat) : Int) := by rw [zL (by omega)]; omega
theorem zjt {n : Nat} (h : n < 256) : u8o (n : Int) = some (UInt8.ofNat n) := by
 unfold u8o
 rw [if_pos ⟨by omega, by omega⟩, Int.toNat_natCast]
theorem zeq (n : Int) : u8o (IntKind.u8.wrap n) = some (UInt8.ofNat (n % 256).toNat) := by
 unfold u8o
 rw [zdx, if_pos ⟨by omega, by omega⟩]
theorem zhn {n : Int} {k : Nat} (h : n = k) (hk : k < 256) : u8o n = some (UInt8.ofNat k) := by subst h; exact zjt hk
theorem z1 {p : Prop} [Decidable p] (h : p) : decide p = true := decide_eq_true h
theorem zN {p : Prop} [Decidable p] (h : ¬ p) : decide p = false := decide_eq_false h
theorem zhz {a b : Int} (h : a = b) : (a == b) = true := by subst h; exact beq_self_eq_true a
theorem zf0 {a b : Int} (h : a ≠ b) : (a == b) = false := by simpa using h
theorem zj4 {a b : Int} (h : a ≠ b) : (a != b) = true := by simpa using h
theorem zji {a b : Int} (h : a = b) : (a != b) = false := by subst h; simp
theorem zgi {a b : UInt8} : ((a.toNat : Int) = (b.toNat : Int)) ↔ a = b := ⟨fun h => UInt8.toNat_inj.1 (by omega), fun h => by rw [h]⟩
theorem zmT (x y : ByteArray) : zf1 x y = decide (x = y) := by
 unfold zf1
 rw [Bool.eq_iff_iff]
 simp only [beq_iff_eq, decide_eq_true_eq]
 constructor
 ·intro h
  rw [ByteArray.toList_eq, ByteArray.toList_eq] at h
  have h2 : x.data.toList = y.data.toList := h
  cases x; cases y
  congr 1
  exact Array.ext' h2
 ·rintro rfl; rfl
end Go.Proofs.Ytgkllgoelpfdkaa
