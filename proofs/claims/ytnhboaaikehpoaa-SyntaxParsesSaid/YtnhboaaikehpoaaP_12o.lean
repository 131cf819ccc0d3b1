import Derived.Test.YtnhboaaikehpoaaP_12n
import Derived.KernelRfl
namespace Go.Proofs.Ytnhboaaikehpoaa
open Go.Ab Go.RowKit
set_option linter.unusedVariables false
set_option linter.unusedSimpArgs false
theorem zo7 : zhD = some true := by kernel_rfl
theorem zrf (T : List Tok) : zh8 T = some true := by
 unfold zh8
 rw [zo7]
 by_cases h : (T.length : Int) > 4000
 ·rw [if_pos (zbq h)]
  rfl
 ·obtain ⟨v, hv, h1, h2⟩ := znu (T := T) (by omega)
  rw [if_neg (by simp; omega), zbV (by simp; omega), Option.bind_some, List.nil_append, h1, Option.bind_some, h2, Option.bind_some, znz (by omega) hv, zqz (by omega)]
  simp
end Go.Proofs.Ytnhboaaikehpoaa
