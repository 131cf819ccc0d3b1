import Derived.Test.YtckcngkkofemjaaAd
import Derived.Test.YtckcngkkofemjaaF
import Derived.Test.YtckcngkkofemjaaPL
import Derived.Test.YtckcngkkofemjaaP_02
import Derived.Test.YtckcngkkofemjaaP_06
import Derived.Test.YtckcngkkofemjaaP_06b
import Derived.KernelRfl
namespace Go.Proofs.Ytckcngkkofemjaa
open Go.Ab Go.RowKit
set_option linter.unusedVariables false
set_option linter.unusedSimpArgs false
theorem lc_eq (x y : Lc) : (((x.Kind.toNat : Int) == (y.Kind.toNat : Int)) && ((x.N == y.N) && true)) = decide (x = y) := by
  cases x; cases y
  rw [Bool.eq_iff_iff]
  simp [u8toNat_inj]
theorem Same6_loop (l m : List Lc) (hl : l.length ≤ 1000000) (hlm : l.length = m.length) : ∀ (n i : Nat), i ≤ l.length → l.length - i < n → zbF l m n (i : Int) = some (decide (l.drop i = m.drop i))
  | 0, i, _, h => by omega
  | n + 1, i, hi, h => by
    show zch _ l m (i : Int) = _
    unfold zch
    by_cases hlt : i < l.length
    · have hlt2 : i < m.length := by omega
      rw [decT (by omega), if_pos rfl, getI_lt hlt, Option.bind_some, getI_lt hlt2, Option.bind_some, lc_eq, List.drop_eq_getElem_cons hlt, List.drop_eq_getElem_cons hlt2]
      by_cases he : l[i] = m[i]
      · rw [decT he, if_neg (by simp), i64_succ (by omega), Same6_loop l m hl hlm n (i + 1) (by omega) (by omega), he]
        congr 1
        rw [decide_eq_decide]
        exact ⟨fun h => by rw [h], fun h => by injection h⟩
      · rw [decF he, if_pos (by rfl), decF]
        intro h2
        injection h2 with h3 h4
        exact he h3
    · rw [decF (by omega), if_neg (by simp), List.drop_of_length_le (by omega), List.drop_of_length_le (by omega), decT rfl]
theorem zez {l m : List Lc} (hl : l.length ≤ 1000000) : zbv l m = some (decide (l = m)) := by
  unfold zbv
  by_cases h : l.length = m.length
  · rw [bneF (by omega), if_neg (by simp)]
    exact Same6_loop l m hl h big 0 (by omega) (big_gt (by omega))
  · rw [bneT (by omega), if_pos rfl, decF (fun e => h (by rw [e]))]
theorem zfp {l : List Lc} (hl : l.length ≤ 1000000) : zbP l = some l := by
  unfold zbP
  rw [room_ok (by simp; omega), Option.bind_some, List.nil_append]
theorem encL_len {l : List Lc} (hr : inr l) (hl : l.length ≤ 16) : 1 ≤ (encL l).length ∧ (encL l).length ≤ 200 := by
  have h1 := encX_len hr
  have h2 := encU_le10 (x := l.length) (by omega)
  have h3 := encU_pos l.length
  unfold encL
  rw [List.length_append]
  omega
end Go.Proofs.Ytckcngkkofemjaa
