import Derived.Test.YtckcngkkofemjaaAd
import Derived.Test.YtckcngkkofemjaaF
namespace Go.Proofs.Ytckcngkkofemjaa
open Go.Ab Go.RowKit
set_option linter.unusedVariables false
set_option linter.unusedSimpArgs false
theorem room_ok {n : Nat} (h : n ≤ 1099511627776) : room n = some () := if_pos h
theorem nneg_ok {n : Int} (h : 0 ≤ n) : nneg n = some () := if_pos h
theorem getI_cast {α : Type} (l : List α) (k : Nat) : getI l (k : Int) = l[k]? := by
  unfold getI
  rw [if_pos (by omega), Int.toNat_natCast]
theorem getI_lt {α : Type} {l : List α} {k : Nat} (h : k < l.length) : getI l (k : Int) = some l[k] := by
  rw [getI_cast, List.getElem?_eq_getElem h]
theorem cutI_ok {α : Type} {l : List α} {a b : Nat} (h1 : a ≤ b) (h2 : b ≤ l.length) : cutI l (a : Int) (b : Int) = some ((l.take b).drop a) := by
  unfold cutI
  rw [if_pos ⟨by omega, by omega, by omega⟩, Int.toNat_natCast, Int.toNat_natCast]
theorem big_gt {n : Nat} (h : n ≤ 9223372036854775807) : n < big := by unfold big; omega
theorem i64_nat {n : Nat} (h : n ≤ 9223372036854775807) : IntKind.i64.wrap (n : Int) = n := wi64 (by omega)
theorem i64_add {a b : Nat} (h : a + b ≤ 9223372036854775807) : IntKind.i64.wrap ((a : Int) + (b : Int)) = ((a + b : Nat) : Int) := by rw [wi64 (by omega)]; omega
theorem i64_succ {a : Nat} (h : a < 9223372036854775807) : IntKind.i64.wrap ((a : Int) + 1) = ((a + 1 : Nat) : Int) := by rw [wi64 (by omega)]; omega
theorem u8o_nat {n : Nat} (h : n < 256) : u8o (n : Int) = some (UInt8.ofNat n) := by
  unfold u8o
  rw [if_pos ⟨by omega, by omega⟩, Int.toNat_natCast]
theorem u8o_wrap (n : Int) : u8o (IntKind.u8.wrap n) = some (UInt8.ofNat (n % 256).toNat) := by
  unfold u8o
  rw [wu8_mod, if_pos ⟨by omega, by omega⟩]
theorem u8o_lit {n : Int} {k : Nat} (h : n = k) (hk : k < 256) : u8o n = some (UInt8.ofNat k) := by subst h; exact u8o_nat hk
theorem decT {p : Prop} [Decidable p] (h : p) : decide p = true := decide_eq_true h
theorem decF {p : Prop} [Decidable p] (h : ¬ p) : decide p = false := decide_eq_false h
theorem beqT {a b : Int} (h : a = b) : (a == b) = true := by subst h; exact beq_self_eq_true a
theorem beqF {a b : Int} (h : a ≠ b) : (a == b) = false := by simpa using h
theorem bneT {a b : Int} (h : a ≠ b) : (a != b) = true := by simpa using h
theorem bneF {a b : Int} (h : a = b) : (a != b) = false := by subst h; simp
theorem u8toNat_inj {a b : UInt8} : ((a.toNat : Int) = (b.toNat : Int)) ↔ a = b := ⟨fun h => UInt8.toNat_inj.1 (by omega), fun h => by rw [h]⟩
theorem strEq_eq (x y : ByteArray) : strEq x y = decide (x = y) := by
  unfold strEq
  rw [Bool.eq_iff_iff]
  simp only [beq_iff_eq, decide_eq_true_eq]
  constructor
  · intro h
    rw [ByteArray.toList_eq, ByteArray.toList_eq] at h
    have h2 : x.data.toList = y.data.toList := h
    cases x; cases y
    congr 1
    exact Array.ext' h2
  · rintro rfl; rfl
end Go.Proofs.Ytckcngkkofemjaa
