import Derived.Test.YtakcaekikfcbpaaF
namespace Go.Proofs.Ytakcaekikfcbpaa
open Go.Ab Go.RowKit
set_option linter.unusedVariables false
set_option linter.unusedSimpArgs false
theorem zcr {n : Nat} (h : n ≤ 1099511627776) : room n = some () := if_pos h
theorem zlt {α : Type} (l : List α) (k : Nat) : zL l (k : Int) = l[k]? := by
 unfold zL
 rw [if_pos (by omega), Int.toNat_natCast]
theorem zbQ {α : Type} {l : List α} {k : Nat} (h : k < l.length) : zL l (k : Int) = some l[k] := by
 rw [zlt, List.getElem?_eq_getElem h]
theorem zkh {α : Type} {l : List α} {a b : Nat} (h1 : a ≤ b) (h2 : b ≤ l.length) : zdV l (a : Int) (b : Int) = some ((l.take b).drop a) := by
 unfold zdV
 rw [if_pos ⟨by omega, by omega, by omega⟩, Int.toNat_natCast, Int.toNat_natCast]
theorem zcy {n : Nat} (h : n ≤ 9223372036854775807) : n < big := by unfold big; omega
theorem zcS {a : Nat} (h : a < 9223372036854775807) : IntKind.i64.wrap ((a : Int) + 1) = ((a + 1 : Nat) : Int) := by rw [zkw (by omega)]; omega
theorem zjJ {n : Nat} (h : n < 256) : u8o (n : Int) = some (UInt8.ofNat n) := by
 unfold u8o
 rw [if_pos ⟨by omega, by omega⟩, Int.toNat_natCast]
theorem zca {p : Prop} [Decidable p] (h : p) : decide p = true := decide_eq_true h
theorem zhz {p : Prop} [Decidable p] (h : ¬ p) : decide p = false := decide_eq_false h
theorem zjV {a b : Int} (h : a = b) : (a == b) = true := by subst h; exact beq_self_eq_true a
theorem zgI {a b : Int} (h : a ≠ b) : (a == b) = false := by simpa using h
theorem zhG {a b : Int} (h : a ≠ b) : (a != b) = true := by simpa using h
theorem ziZ {a b : UInt8} : ((a.toNat : Int) = (b.toNat : Int)) ↔ a = b := ⟨fun h => UInt8.toNat_inj.1 (by omega), fun h => by rw [h]⟩
end Go.Proofs.Ytakcaekikfcbpaa
