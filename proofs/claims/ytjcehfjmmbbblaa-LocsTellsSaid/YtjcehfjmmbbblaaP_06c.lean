import Derived.Test.YtjcehfjmmbbblaaP_06b
import Derived.KernelRfl
namespace Go.Proofs.Ytjcehfjmmbbblaa
open Go.Ab Go.RowKit
set_option linter.unusedVariables false
set_option linter.unusedSimpArgs false
theorem zhY (x y : Lc) : (((x.Kind.toNat : Int) == (y.Kind.toNat : Int)) && ((x.N == y.N) && true)) = decide (x = y) := by
 cases x; cases y
 rw [Bool.eq_iff_iff]
 simp [zjh]
theorem zhw (l m : List Lc) (hl : l.length ≤ 1000000) (hlm : l.length = m.length) : ∀ (n i : Nat), i ≤ l.length → l.length - i < n → zdP l m n (i : Int) = some (decide (l.drop i = m.drop i))
 | 0, i, _, h => by omega
 | n + 1, i, hi, h => by
  show zdo _ l m (i : Int) = _
  unfold zdo
  by_cases hlt : i < l.length
  ·have hlt2 : i < m.length := by omega
   rw [zK (by omega), if_pos rfl, zbd hlt, Option.bind_some, zbd hlt2, Option.bind_some, zhY, List.drop_eq_getElem_cons hlt, List.drop_eq_getElem_cons hlt2]
   by_cases he : l[i] = m[i]
   ·rw [zK he, if_neg (by simp), z5 (by omega), zhw l m hl hlm n (i + 1) (by omega) (by omega), he]
    congr 1
    rw [decide_eq_decide]
    exact ⟨fun h => by rw [h], fun h => by injection h⟩
   ·rw [zX he, if_pos (by rfl), zX]
    intro h2
    injection h2 with h3 h4
    exact he h3
  ·rw [zX (by omega), if_neg (by simp), List.drop_of_length_le (by omega), List.drop_of_length_le (by omega), zK rfl]
theorem zgg {l m : List Lc} (hl : l.length ≤ 1000000) : zcI l m = some (decide (l = m)) := by
 unfold zcI
 by_cases h : l.length = m.length
 ·rw [zec (by omega), if_neg (by simp)]
  exact zhw l m hl h big 0 (by omega) (zbk (by omega))
 ·rw [zdt (by omega), if_pos rfl, zX (fun e => h (by rw [e]))]
theorem zdc {l : List Lc} (hl : l.length ≤ 1000000) : zcr l = some l := by
 unfold zcr
 rw [zbv (by simp; omega), Option.bind_some, List.nil_append]
end Go.Proofs.Ytjcehfjmmbbblaa
