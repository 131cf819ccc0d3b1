import Derived.Test.YtakcaekikfcbpaaP_13i
import Derived.KernelRfl
namespace Go.Proofs.Ytakcaekikfcbpaa
open Go.Ab Go.RowKit
set_option linter.unusedVariables false
set_option linter.unusedSimpArgs false
theorem zm5 {N : Nat} {c c' : Ck} (h : kWT N c = .ok c') : c'.tree.Bodies = c.tree.Bodies ∧ c'.tree.Points = c.tree.Points := by
 unfold kWT at h
 split at h
 ·cases h
 split at h
 ·cases h
 split at h
 ·injection h with h
  subst h
  exact ⟨rfl, rfl⟩
 ·cases h
theorem zog {p : zm} {x : Nat × Int} (h : kWh (ck0 p) = .error x) : kP p = (zjr, (x.1 : Int), x.2) := by
 unfold kP
 rw [h]
end Go.Proofs.Ytakcaekikfcbpaa
