import Derived.Test.YtgkllgoelpfdkaaGreatP_04b
import Derived.KernelRfl
namespace Go.Proofs.YtgkllgoelpfdkaaGreat
open Go.Ab Go.RowKit
set_option linter.unusedVariables false
set_option linter.unusedSimpArgs false
theorem zrT (l : List Int) (hl : l.length ≤ 1000000000) : ∀ (n k : Nat), k ≤ l.length → l.length - k < n → zh8 l l n (k : Int) = some true := by
 intro n
 induction n with
 | zero => intro k _ h; omega
 | succ n ih =>
  intro k hk hn
  show zho _ l l (k : Int) = _
  unfold zho
  by_cases h : k < l.length
  ·rw [if_pos (zX (by omega)), zbQ h, Option.bind_some, Option.bind_some, if_neg (by simp), zbt (by omega)]
   exact ih (k + 1) (by omega) (by omega)
  ·rw [if_neg (by simp; omega)]
theorem ziE {l : List Int} (hl : l.length ≤ 1000000000) : zdk l l = some true := by
 unfold zdk
 rw [if_neg (by simp)]
 exact zrT l hl big 0 (by omega) (zbR (by omega))
theorem zi3 : ze8 = some true := by kernel_rfl
theorem zlP (m : M4) : zd5 m = some (rg4 m.regs) := by
 unfold zd5
 rw [zjk (by simp)]
 rfl
theorem zpP {m : M4} (h : m.words.length ≤ 1000000000) : zem m = some m.words := by
 unfold zem
 rw [zjk h]
 rfl
theorem zod {m : M4} (h : m.out.length ≤ 1000000000) : zdR m = some m.out := by
 unfold zdR
 rw [zjk h]
 rfl
end Go.Proofs.YtgkllgoelpfdkaaGreat
