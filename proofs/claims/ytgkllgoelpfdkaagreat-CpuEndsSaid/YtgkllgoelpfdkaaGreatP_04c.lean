import Derived.Test.YtgkllgoelpfdkaaGreatP_04b
import Derived.KernelRfl
namespace Go.Proofs.YtgkllgoelpfdkaaGreat
open Go.Ab Go.RowKit
set_option linter.unusedVariables false
set_option linter.unusedSimpArgs false
theorem zpd (l : List Int) (hl : l.length ≤ 1000000000) : ∀ (n k : Nat), k ≤ l.length → l.length - k < n → ze9 l l n (k : Int) = some true := by
 intro n
 induction n with
 | zero => intro k _ h; omega
 | succ n ih =>
  intro k hk hn
  show zfO _ l l (k : Int) = _
  unfold zfO
  by_cases h : k < l.length
  ·rw [if_pos (z0 (by omega)), zb8 h, Option.bind_some, Option.bind_some, if_neg (by simp), zbt (by omega)]
   exact ih (k + 1) (by omega) (by omega)
  ·rw [if_neg (by simp; omega)]
theorem zit {l : List Int} (hl : l.length ≤ 1000000000) : zdI l l = some true := by
 unfold zdI
 rw [if_neg (by simp)]
 exact zpd l hl big 0 (by omega) (zbV (by omega))
theorem zhO : zc1 = some true := by kernel_rfl
theorem zkK (m : M4) : zd7 m = some (rg4 m.regs) := by
 unfold zd7
 rw [zgE (by simp)]
 rfl
theorem zkb {m : M4} (h : m.words.length ≤ 1000000000) : zdi m = some m.words := by
 unfold zdi
 rw [zgE h]
 rfl
theorem zlu {m : M4} (h : m.out.length ≤ 1000000000) : zc3 m = some m.out := by
 unfold zc3
 rw [zgE h]
 rfl
end Go.Proofs.YtgkllgoelpfdkaaGreat
