import Derived.Test.YtgkllgoelpfdkaaP_04b
import Derived.KernelRfl
namespace Go.Proofs.Ytgkllgoelpfdkaa
open Go.Ab Go.RowKit
set_option linter.unusedVariables false
set_option linter.unusedSimpArgs false
theorem zif : zd6 = some true := by kernel_rfl
theorem zmp (m : M4) : ze5 m = some (rg4 m.regs) := by
 unfold ze5
 rw [zjO (by simp)]
 rfl
end Go.Proofs.Ytgkllgoelpfdkaa
