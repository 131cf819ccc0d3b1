import Derived.Test.YtgkllgoelpfdkaaGreatP_04b
import Derived.KernelRfl
namespace Go.Proofs.YtgkllgoelpfdkaaGreat
open Go.Ab Go.RowKit
set_option linter.unusedVariables false
set_option linter.unusedSimpArgs false
theorem zma (l : List Int) (hl : l.length ≤ 1000000000) : ∀ (n k : Nat), k ≤ l.length → l.length - k < n → zgF l l n (k : Int) = some true := by
 intro n
 induction n with
 | zero => intro k _ h; omega
 | succ n ih =>
  intro k hk hn
  show zfp _ l l (k : Int) = _
  unfold zfp
  by_cases h : k < l.length
  ·rw [if_pos (zZ (by omega)), zb0 h, Option.bind_some, Option.bind_some, if_neg (by simp), zbl (by omega)]
   exact ih (k + 1) (by omega) (by omega)
  ·rw [if_neg (by simp; omega)]
theorem zez {l : List Int} (hl : l.length ≤ 1000000000) : zcQ l l = some true := by
 unfold zcQ
 rw [if_neg (by simp)]
 exact zma l hl big 0 (by omega) (zbI (by omega))
theorem zjR : zdI = some true := by kernel_rfl
theorem zkx (m : M4) : zdr m = some (rg4 m.regs) := by
 unfold zdr
 rw [zhY (by simp)]
 rfl
theorem zk4 {m : M4} (h : m.words.length ≤ 1000000000) : zcO m = some m.words := by
 unfold zcO
 rw [zhY h]
 rfl
theorem zj3 {m : M4} (h : m.out.length ≤ 1000000000) : zcG m = some m.out := by
 unfold zcG
 rw [zhY h]
 rfl
end Go.Proofs.YtgkllgoelpfdkaaGreat
