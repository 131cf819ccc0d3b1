import Derived.Test.YtnaafaopdefigaaAd
import Derived.Test.YtnaafaopdefigaaF
import Derived.Test.YtnaafaopdefigaaPL
import Derived.Test.YtnaafaopdefigaaP_02
import Derived.Test.YtnaafaopdefigaaP_01
import Derived.Test.YtnaafaopdefigaaP_03
import Derived.Test.YtnaafaopdefigaaP_03b
import Derived.KernelRfl
namespace Go.Proofs.Ytnaafaopdefigaa
open Go.Ab Go.RowKit
set_option linter.unusedVariables false
set_option linter.unusedSimpArgs false
theorem cb_loop (l : List UInt8) (hl : l.length ≤ 1000000000) : ∀ (n i : Nat) (acc : List UInt8), i ≤ l.length → l.length - i < n → acc.length ≤ i → F_ref00_CopyBytes_l3 l n acc (i : Int) = some (acc ++ l.drop i)
  | 0, i, _, _, h, _ => by omega
  | n + 1, i, acc, hi, h, ha => by
    show F_ref00_CopyBytes_l3B _ l acc (i : Int) = _
    unfold F_ref00_CopyBytes_l3B
    by_cases hlt : i < l.length
    · rw [decT (by omega), if_pos rfl, getI_lt hlt, Option.bind_some]
      have ih := cb_loop l hl n (i + 1) (acc ++ [l[i]]) (by omega) (by omega) (by simp; omega)
      rw [List.append_assoc, List.singleton_append, ← List.drop_eq_getElem_cons hlt] at ih
      rw [room_ok (by simp; omega), Option.bind_some, i64_succ (by omega)]; exact ih
    · rw [decF (by omega), if_neg (by simp), List.drop_of_length_le (by omega), List.append_nil]
theorem P_cb {l : List UInt8} (hl : l.length ≤ 1000000000) : F_ref00_CopyBytes l = some l := by
  have := cb_loop l hl big 0 [] (by omega) (big_gt (by omega)) (by simp)
  exact this
end Go.Proofs.Ytnaafaopdefigaa
