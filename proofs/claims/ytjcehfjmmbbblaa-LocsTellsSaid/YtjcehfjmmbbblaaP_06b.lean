import Derived.Test.YtjcehfjmmbbblaaP_06
import Derived.KernelRfl
namespace Go.Proofs.Ytjcehfjmmbbblaa
open Go.Ab Go.RowKit
set_option linter.unusedVariables false
set_option linter.unusedSimpArgs false
def zjl (k : UInt8) : Bool := decide (1 ≤ (k.toNat : Int)) && decide ((k.toNat : Int) ≤ 3)
def inr (l : List Lc) : Prop := ∀ x ∈ l, -9223372036854775808 ≤ x.N ∧ x.N ≤ 9223372036854775807
def gt (b : List UInt8) : Nat → Nat → Option (List Lc × Nat)
 | 0, i => some ([], i)
 | k + 1, i => if h : i < b.length then
   if zjl b[i] = true then (if (rdS b ((i + 1 : Nat) : Int)).2.2 = 0 then (gt b k (rdS b ((i + 1 : Nat) : Int)).2.1.toNat).map fun p => (⟨b[i], (rdS b ((i + 1 : Nat) : Int)).1⟩ :: p.1, p.2) else none)
   else (gt b k (i + 1)).map fun p => (⟨b[i], 0⟩ :: p.1, p.2)
  else none
def gtE (r : Option (List Lc × Nat)) (acc : List Lc) : List Lc × Int × Int := match r with
 | none => ([], 0, 5)
 | some p => if Rt (acc ++ p.1) = true then (acc ++ p.1, (p.2 : Int), 0) else ([], 0, 5)
def zf4 (b : List UInt8) (a : Int) : List Lc × Int × Int := if a < 0 ∨ a > b.length then ([], 0, 1) else if (rdU b a).2.2 ≠ 0 ∨ (rdU b a).1 > 16 then ([], 0, 5) else gtE (gt b (rdU b a).1 (rdU b a).2.1.toNat) []
end Go.Proofs.Ytjcehfjmmbbblaa
