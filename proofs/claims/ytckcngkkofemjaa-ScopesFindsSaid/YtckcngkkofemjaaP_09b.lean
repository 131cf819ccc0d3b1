import Derived.Test.YtckcngkkofemjaaAd
import Derived.Test.YtckcngkkofemjaaF
import Derived.Test.YtckcngkkofemjaaPL
import Derived.Test.YtckcngkkofemjaaP_02
import Derived.Test.YtckcngkkofemjaaP_06
import Derived.Test.YtckcngkkofemjaaP_06b
import Derived.Test.YtckcngkkofemjaaP_06c
import Derived.Test.YtckcngkkofemjaaP_07
import Derived.Test.YtckcngkkofemjaaP_09
namespace Go.Proofs.Ytckcngkkofemjaa
open Go.Ab Go.RowKit
set_option linter.unusedVariables false
set_option linter.unusedSimpArgs false
theorem In_loop (l : List Pl) (hl : l.length ≤ 1000) (pc : Int) : ∀ (n i : Nat), i ≤ l.length → l.length - i < n → ∃ r, zbs l pc n (i : Int) = some r ∧ zP l pc n (i : Int) = some r
  | 0, i, _, h => by omega
  | n + 1, i, hi, hn => by
    show ∃ r, zbk _ l pc (i : Int) = some r ∧ zbB _ l pc (i : Int) = some r
    unfold zbk zbB
    by_cases hlt : i < l.length
    · rw [decT (by omega), if_pos rfl, if_pos rfl, getI_lt hlt]
      simp only [Option.bind_some]
      by_cases h1 : l[i].From ≤ pc
      · rw [decT h1, Bool.true_and, if_pos rfl, Option.bind_some]
        by_cases h2 : pc < l[i].To
        · rw [decT h2, if_pos rfl, if_pos rfl]
          exact ⟨_, rfl, rfl⟩
        · rw [decF h2, if_neg (by simp), if_neg (by simp), i64_succ (by omega)]
          exact In_loop l hl pc n (i + 1) (by omega) (by omega)
      · rw [decF h1, Bool.false_and, if_neg (by simp), if_neg (by simp), Option.bind_some, if_neg (by simp), i64_succ (by omega)]
        exact In_loop l hl pc n (i + 1) (by omega) (by omega)
    · rw [decF (by omega), if_neg (by simp), if_neg (by simp)]
      exact ⟨_, rfl, rfl⟩
theorem Named_loop (l : List Pl) (p : List Pt) (name : ByteArray) (i k : Nat) (y : Pt) (z : Pl) (hy : getI p (i : Int) = some y) (hz : getI l y.Func = some z) (hs : y.Scope.length ≤ 1000000) : ∀ (n j : Nat) (a : Int) (b : Bool), j ≤ y.Scope.length → y.Scope.length - j < n → ∃ r, zV l name y n a b (j : Int) = some r ∧ zS p (i : Int) name z n a b (j : Int) = some r
  | 0, j, _, _, _, h => by omega
  | n + 1, j, a, b, hj, hn => by
    show ∃ r, zbf _ l name y a b (j : Int) = some r ∧ zbm _ p (i : Int) name z a b (j : Int) = some r
    unfold zbf zbm
    have ih := fun a b => Named_loop l p name i k y z hy hz hs n (j + 1) a b
    rw [hy, Option.bind_some]
    by_cases hlt : j < y.Scope.length
    · have ih := fun a b => ih a b (by omega) (by omega)
      have hgj : getI y.Scope (j : Int) = some y.Scope[j] := getI_lt hlt
      rw [decT (by omega), if_pos rfl, if_pos rfl]
      simp only [hgj, Option.bind_some, hz, i64_succ (show j < 9223372036854775807 by omega)]
      by_cases hc : (decide (y.Scope[j] ≥ 0) && decide (y.Scope[j] < (z.Vars.length : Int))) = true
      · rw [if_pos hc]
        simp only [Bool.and_eq_true, decide_eq_true_eq] at hc
        obtain ⟨q, hq⟩ : ∃ q : Nat, y.Scope[j] = q := ⟨y.Scope[j].toNat, by omega⟩
        rw [hq, getI_lt (show q < z.Vars.length by omega)]
        simp only [Option.bind_some]
        split
        · exact ih _ _
        · exact ih _ _
      · rw [if_neg hc]
        simp only [Option.bind_some]
        rw [if_neg (by simp), if_neg (by simp)]
        exact ih _ _
    · rw [decF (by omega), if_neg (by simp), if_neg (by simp)]
      exact ⟨_, rfl, rfl⟩
theorem zd7 (l : List Pl) (p : List Pt) (hp : smQ p) (k : Int) (name : ByteArray) : ∃ r, zH l p k name = some r ∧ zbE l p k name = some r := by
  unfold zH zbE
  by_cases hc : k < 0 ∨ k ≥ p.length
  · have e : (decide (k < 0) || decide (k ≥ (p.length : Int))) = true := by simpa using hc
    rw [e, if_pos rfl, if_pos rfl, Option.bind_some, if_pos rfl, Option.bind_some, if_pos rfl]
    exact ⟨_, rfl, rfl⟩
  · obtain ⟨i, rfl⟩ : ∃ i : Nat, k = i := ⟨k.toNat, by omega⟩
    have hi : i < p.length := by omega
    have hg : getI p (i : Int) = some p[i] := getI_lt hi
    have e : (decide ((i : Int) < 0) || decide ((i : Int) ≥ (p.length : Int))) = false := by simpa using hc
    rw [e, if_neg (by simp), if_neg (by simp), hg]
    simp only [Option.bind_some]
    by_cases h1 : p[i].Func < 0
    · rw [decT h1, Bool.true_or, if_pos rfl, if_pos rfl, Option.bind_some, if_pos rfl]
      exact ⟨_, rfl, rfl⟩
    · rw [decF h1, Bool.false_or, if_neg (show ¬ (false = true) by simp), Option.bind_some]
      by_cases h2 : p[i].Func ≥ l.length
      · rw [decT h2, if_pos rfl, if_pos rfl]
        exact ⟨_, rfl, rfl⟩
      · rw [decF h2, if_neg (by simp), if_neg (by simp)]
        obtain ⟨q, hq⟩ : ∃ q : Nat, p[i].Func = q := ⟨p[i].Func.toNat, by omega⟩
        have hz : getI l p[i].Func = some (l[q]'(by omega)) := by rw [hq]; exact getI_lt _
        rw [hz, Option.bind_some]
        exact Named_loop l p name i 0 p[i] _ hg hz (hp.2 _ (List.getElem_mem hi)) big 0 0 false (by omega) (big_gt (by have := hp.2 _ (List.getElem_mem hi); omega))
theorem zd2 (t : zp) (pc pt : Int) (name : ByteArray) : zb4 t pc pt name = some true := by
  unfold zb4
  obtain ⟨v, hv, hv2⟩ := ze3 t
  rw [show zL _ = some v from hv, Option.bind_some]
  by_cases hc : v = true ∨ (name.size : Int) > 1000
  · rw [if_pos (by simpa using hc), zdY]; rfl
  · have hv0 : v = false := by
      cases v
      · rfl
      · exact absurd (.inl rfl) hc
    obtain ⟨h1, h2⟩ := hv2 hv0
    obtain ⟨r1, a1, b1⟩ := In_loop t.L h1.1 pc big 0 (by omega) (big_gt (by have := h1.1; omega))
    obtain ⟨r2, a2, b2⟩ := zd7 t.L t.Points h2 pt name
    rw [if_neg (by simpa using hc), zef h1, Option.bind_some, zei h2, Option.bind_some, show zbd t.L pc = some r1 from a1, Option.bind_some, show zb9 t.L pc = some r1 from b1, Option.bind_some, a2, Option.bind_some, b2, Option.bind_some]
    simp only [beq_self_eq_true, Bool.and_self, if_true, zeN h1, zeV h2, Option.bind_some, zdY]
end Go.Proofs.Ytckcngkkofemjaa
