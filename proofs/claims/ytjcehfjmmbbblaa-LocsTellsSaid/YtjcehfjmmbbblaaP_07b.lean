import Derived.Test.YtjcehfjmmbbblaaP_07
namespace Go.Proofs.Ytjcehfjmmbbblaa
open Go.Ab Go.RowKit
set_option linter.unusedVariables false
set_option linter.unusedSimpArgs false
def spn (b : List UInt8) (i : Nat) (last : Int) : Option (Sp × Nat) :=
 if (rdU b i).2.2 = 0 ∧ (rdU b i).1 ≤ 16777216 then
  (if (rdU b (rdU b i).2.1).2.2 = 0 ∧ (rdU b (rdU b i).2.1).1 ≤ 16777216 then
   (if (zf4 b (rdU b (rdU b i).2.1).2.1).2.2 = 0 ∧ last + (rdU b i).1 + (rdU b (rdU b i).2.1).1 ≤ 16777216 then
    some (⟨last + (rdU b i).1, last + (rdU b i).1 + (rdU b (rdU b i).2.1).1, (zf4 b (rdU b (rdU b i).2.1).2.1).1⟩, (zf4 b (rdU b (rdU b i).2.1).2.1).2.1.toNat) else none) else none) else none
def gs (b : List UInt8) : Nat → Nat → Int → Option (List Sp × Nat)
 | 0, i, _ => some ([], i)
 | k + 1, i, last => (spn b i last).bind fun p => (gs b k p.2 p.1.To).map fun r => (p.1 :: r.1, r.2)
end Go.Proofs.Ytjcehfjmmbbblaa
