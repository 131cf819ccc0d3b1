import Derived.Test.YtckcngkkofemjaaGreatP_06b
import Derived.KernelRfl
namespace Go.Proofs.YtckcngkkofemjaaGreat
open Go.Ab Go.RowKit
set_option linter.unusedVariables false
set_option linter.unusedSimpArgs false
theorem zoO (x y : Lc) : (((x.Kind.toNat : Int) == (y.Kind.toNat : Int)) && ((x.N == y.N) && true)) = decide (x = y) := by
 cases x; cases y
 rw [Bool.eq_iff_iff]
 simp [zgt]
theorem zlO (l m : List Lc) (hl : l.length ≤ 1000000) (hlm : l.length = m.length) : ∀ (n i : Nat), i ≤ l.length → l.length - i < n → zfN l m n (i : Int) = some (decide (l.drop i = m.drop i))
 | 0, i, _, h => by omega
 | n + 1, i, hi, h => by
  show zfL _ l m (i : Int) = _
  unfold zfL
  by_cases hlt : i < l.length
  ·have hlt2 : i < m.length := by omega
   rw [zv (by omega), if_pos rfl, zbd hlt, Option.bind_some, zbd hlt2, Option.bind_some, zoO, List.drop_eq_getElem_cons hlt, List.drop_eq_getElem_cons hlt2]
   by_cases he : l[i] = m[i]
   ·rw [zv he, if_neg (by simp), zbh (by omega), zlO l m hl hlm n (i + 1) (by omega) (by omega), he]
    congr 1
    rw [decide_eq_decide]
    exact ⟨fun h => by rw [h], fun h => by injection h⟩
   ·rw [zx he, if_pos (by rfl), zx]
    intro h2
    injection h2 with h3 h4
    exact he h3
  ·rw [zx (by omega), if_neg (by simp), List.drop_of_length_le (by omega), List.drop_of_length_le (by omega), zv rfl]
theorem znw {l m : List Lc} (hl : l.length ≤ 1000000) : zfb l m = some (decide (l = m)) := by
 unfold zfb
 by_cases h : l.length = m.length
 ·rw [zbI (by omega), if_neg (by simp)]
  exact zlO l m hl h big 0 (by omega) (zbj (by omega))
 ·rw [zbP (by omega), if_pos rfl, zx (fun e => h (by rw [e]))]
end Go.Proofs.YtckcngkkofemjaaGreat
