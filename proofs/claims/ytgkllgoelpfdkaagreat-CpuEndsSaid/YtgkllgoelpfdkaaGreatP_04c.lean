import Derived.Test.YtgkllgoelpfdkaaGreatP_04b
import Derived.KernelRfl
namespace Go.Proofs.YtgkllgoelpfdkaaGreat
open Go.Ab Go.RowKit
set_option linter.unusedVariables false
set_option linter.unusedSimpArgs false
theorem znE (l : List Int) (hl : l.length ≤ 1000000000) : ∀ (n k : Nat), k ≤ l.length → l.length - k < n → zgp l l n (k : Int) = some true := by
 intro n
 induction n with
 | zero => intro k _ h; omega
 | succ n ih =>
  intro k hk hn
  show zfk _ l l (k : Int) = _
  unfold zfk
  by_cases h : k < l.length
  ·rw [if_pos (z0 (by omega)), zb7 h, Option.bind_some, Option.bind_some, if_neg (by simp), zbt (by omega)]
   exact ih (k + 1) (by omega) (by omega)
  ·rw [if_neg (by simp; omega)]
theorem zjE {l : List Int} (hl : l.length ≤ 1000000000) : zdC l l = some true := by
 unfold zdC
 rw [if_neg (by simp)]
 exact znE l hl big 0 (by omega) (zbV (by omega))
theorem zhq : zcP = some true := by kernel_rfl
theorem zlA (m : M4) : zet m = some (rg4 m.regs) := by
 unfold zet
 rw [zhw (by simp)]
 rfl
theorem zkY {m : M4} (h : m.words.length ≤ 1000000000) : zc7 m = some m.words := by
 unfold zc7
 rw [zhw h]
 rfl
theorem zjL {m : M4} (h : m.out.length ≤ 1000000000) : zc2 m = some m.out := by
 unfold zc2
 rw [zhw h]
 rfl
end Go.Proofs.YtgkllgoelpfdkaaGreat
