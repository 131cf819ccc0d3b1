import Derived.Test.YtnaafaopdefigaaAd
import Derived.Test.YtnaafaopdefigaaF
import Derived.Test.YtnaafaopdefigaaPL
namespace Go.Proofs.Ytnaafaopdefigaa
open Go.Ab Go.RowKit
set_option linter.unusedVariables false
set_option linter.unusedSimpArgs false
theorem F_PutU {l : List UInt8} {x : Nat} (hl : l.length ≤ 1099511627776) (hx : x < 18446744073709551616) : F_leb_PutU l (x : Int) = some (l ++ encU x) := by
  unfold F_leb_PutU
  rw [if_pos ⟨hl, by omega, by omega⟩, Int.toNat_natCast]
theorem F_PutS {l : List UInt8} {x : Int} (hl : l.length ≤ 1099511627776) (hx : -9223372036854775808 ≤ x ∧ x ≤ 9223372036854775807) : F_leb_PutS l x = some (l ++ encS x) := if_pos ⟨hl, hx.1, hx.2⟩
theorem F_U {l : List UInt8} {x : Int} (hl : l.length ≤ 1099511627776) (hx : -9223372036854775808 ≤ x ∧ x ≤ 9223372036854775807) : F_leb_U l x = some (((rdU l x).1 : Int), (rdU l x).2.1, (rdU l x).2.2) := if_pos ⟨hl, hx.1, hx.2⟩
theorem F_S {l : List UInt8} {x : Int} (hl : l.length ≤ 1099511627776) (hx : -9223372036854775808 ≤ x ∧ x ≤ 9223372036854775807) : F_leb_S l x = some ((rdS l x).1, (rdS l x).2.1, (rdS l x).2.2) := if_pos ⟨hl, hx.1, hx.2⟩
end Go.Proofs.Ytnaafaopdefigaa
