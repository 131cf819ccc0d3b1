import Derived.Test.YtjcehfjmmbbblaaF
namespace Go.Proofs.Ytjcehfjmmbbblaa
open Go.Ab Go.RowKit
set_option linter.unusedVariables false
set_option linter.unusedSimpArgs false
theorem zbv {n : Nat} (h : n ≤ 1099511627776) : room n = some () := if_pos h
theorem zfk {α : Type} (l : List α) (k : Nat) : zn l (k : Int) = l[k]? := by
 unfold zn
 rw [if_pos (by omega), Int.toNat_natCast]
theorem zbd {α : Type} {l : List α} {k : Nat} (h : k < l.length) : zn l (k : Int) = some l[k] := by
 rw [zfk, List.getElem?_eq_getElem h]
theorem zbk {n : Nat} (h : n ≤ 9223372036854775807) : n < big := by unfold big; omega
theorem z5 {a : Nat} (h : a < 9223372036854775807) : IntKind.i64.wrap ((a : Int) + 1) = ((a + 1 : Nat) : Int) := by rw [zdb (by omega)]; omega
theorem zK {p : Prop} [Decidable p] (h : p) : decide p = true := decide_eq_true h
theorem zX {p : Prop} [Decidable p] (h : ¬ p) : decide p = false := decide_eq_false h
theorem zhD {a b : Int} (h : a = b) : (a == b) = true := by subst h; exact beq_self_eq_true a
theorem zhc {a b : Int} (h : a ≠ b) : (a == b) = false := by simpa using h
theorem zdt {a b : Int} (h : a ≠ b) : (a != b) = true := by simpa using h
theorem zec {a b : Int} (h : a = b) : (a != b) = false := by subst h; simp
theorem zjh {a b : UInt8} : ((a.toNat : Int) = (b.toNat : Int)) ↔ a = b := ⟨fun h => UInt8.toNat_inj.1 (by omega), fun h => by rw [h]⟩
end Go.Proofs.Ytjcehfjmmbbblaa
