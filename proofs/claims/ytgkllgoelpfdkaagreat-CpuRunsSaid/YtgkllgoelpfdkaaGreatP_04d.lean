import Derived.Test.YtgkllgoelpfdkaaGreatP_03c
import Derived.Test.YtgkllgoelpfdkaaGreatP_04c
namespace Go.Proofs.YtgkllgoelpfdkaaGreat
open Go.Ab Go.RowKit
set_option linter.unusedVariables false
set_option linter.unusedSimpArgs false
theorem zp5 (p0 : zbs) (hC : p0.Code.length ≤ 200) (hr : ∀ x ∈ p0.Code, rgI x) : ∀ (n k : Nat) (x : List UInt8), k ≤ p0.Code.length → p0.Code.length - k < n → x.length ≤ 4096 + 41 * k → ∃ b, zg3 p0 n x (k : Int) = some b ∧ b.length ≤ 20000 := by
 intro n
 induction n with
 | zero => intro k x _ h; omega
 | succ n ih =>
  intro k x hk hn hx
  show ∃ b, zgM _ p0 x (k : Int) = some b ∧ _
  unfold zgM
  by_cases h : k < p0.Code.length
  ·have hR := hr p0.Code[k] (List.getElem_mem h)
   rw [if_pos (zX (by omega)), zbQ h, Option.bind_some, zlu hR (by omega), Option.bind_some, zbt (by omega)]
   refine ih (k + 1) _ (by omega) (by omega) ?_
   split
   ·rename_i hRt
    have := (zme hR hRt).2
    rw [List.length_append]
    omega
   ·omega
  ·rw [if_neg (by simp; omega)]
   exact ⟨x, rfl, by omega⟩
theorem zox {p0 : zbs} (hC : p0.Code.length ≤ 200) (hB : p0.Bytes.length ≤ 4096) (hr : ∀ x ∈ p0.Code, rgI x) : ∃ b, zf7 p0 = some b ∧ b.length ≤ 20000 := by
 unfold zf7
 rw [zbi (by simp; omega), Option.bind_some]
 exact zp5 p0 hC hr big 0 _ (by omega) (zbR (by omega)) (by simp; omega)
theorem zsv (p0 : zbs) : ∃ b, zfT p0 = some b ∧ (b = false → p0.Code.length ≤ 200 ∧ p0.Bytes.length ≤ 4096 ∧ p0.Input.length ≤ 100 ∧ p0.Fuel ≤ 1000) := by
 unfold zfT
 by_cases h1 : (p0.Code.length : Int) > 200 ∨ (p0.Bytes.length : Int) > 4096
 ·rw [if_pos (by simpa using h1), Option.bind_some]
  exact ⟨_, rfl, fun h => by simp at h⟩
 ·rw [if_neg (by simpa using h1)]
  by_cases h2 : p0.Words > 1024
  ·rw [if_pos (zX h2), Option.bind_some]
   refine ⟨_, rfl, fun h => ?_⟩
   simp only [Bool.or_eq_false_iff, decide_eq_false_iff_not] at h
   omega
  ·rw [if_neg (by simpa using h2), Option.bind_some]
   refine ⟨_, rfl, fun h => ?_⟩
   simp only [Bool.or_eq_false_iff, decide_eq_false_iff_not] at h
   omega
end Go.Proofs.YtgkllgoelpfdkaaGreat
