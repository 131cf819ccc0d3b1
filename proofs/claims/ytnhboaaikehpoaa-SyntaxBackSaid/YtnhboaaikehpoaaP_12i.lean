import Derived.Test.YtnhboaaikehpoaaP_12h
import Derived.KernelRfl
namespace Go.Proofs.Ytnhboaaikehpoaa
open Go.Ab Go.RowKit
set_option linter.unusedVariables false
set_option linter.unusedSimpArgs false
section
variable {T : List Tok} {r : List Tok} {k : Int} {tx : List BA}
theorem zeh {α β γ : Type} (p : Ps α) (f : α → Ps β) (g : β → Ps γ) : bd (bd p f) g = bd p fun x => bd (f x) g := by
 funext r
 unfold bd
 cases p r with
 | none => rfl
 | some v => cases v <;> rfl
theorem zbz {α β : Type} {p : Ps α} {f : α → Ps β} {r r' : List Tok} {x : α} (h : p r = some (.ok (x, r'))) : bd p f r = f x r' := by
 unfold bd
 rw [h]
end
end Go.Proofs.Ytnhboaaikehpoaa
