import Derived.Test.YtgkllgoelpfdkaaGreatP_03c
import Derived.Test.YtgkllgoelpfdkaaGreatP_04c
namespace Go.Proofs.YtgkllgoelpfdkaaGreat
open Go.Ab Go.RowKit
set_option linter.unusedVariables false
set_option linter.unusedSimpArgs false
theorem zou (p0 : zbe) (hC : p0.Code.length ≤ 200) (hr : ∀ x ∈ p0.Code, rgI x) : ∀ (n k : Nat) (x : List UInt8), k ≤ p0.Code.length → p0.Code.length - k < n → x.length ≤ 4096 + 41 * k → ∃ b, zfu p0 n x (k : Int) = some b ∧ b.length ≤ 20000 := by
 intro n
 induction n with
 | zero => intro k x _ h; omega
 | succ n ih =>
  intro k x hk hn hx
  show ∃ b, zfy _ p0 x (k : Int) = some b ∧ _
  unfold zfy
  by_cases h : k < p0.Code.length
  ·have hR := hr p0.Code[k] (List.getElem_mem h)
   rw [if_pos (z0 (by omega)), zb7 h, Option.bind_some, znZ hR (by omega), Option.bind_some, zbt (by omega)]
   refine ih (k + 1) _ (by omega) (by omega) ?_
   split
   ·rename_i hRt
    have := (zpt hR hRt).2
    rw [List.length_append]
    omega
   ·omega
  ·rw [if_neg (by simp; omega)]
   exact ⟨x, rfl, by omega⟩
theorem zm0 {p0 : zbe} (hC : p0.Code.length ≤ 200) (hB : p0.Bytes.length ≤ 4096) (hr : ∀ x ∈ p0.Code, rgI x) : ∃ b, zeJ p0 = some b ∧ b.length ≤ 20000 := by
 unfold zeJ
 rw [z5 (by simp; omega), Option.bind_some]
 exact zou p0 hC hr big 0 _ (by omega) (zbV (by omega)) (by simp; omega)
theorem zqe (p0 : zbe) : ∃ b, zex p0 = some b ∧ (b = false → p0.Code.length ≤ 200 ∧ p0.Bytes.length ≤ 4096 ∧ p0.Input.length ≤ 100 ∧ p0.Fuel ≤ 1000) := by
 unfold zex
 by_cases h1 : (p0.Code.length : Int) > 200 ∨ (p0.Bytes.length : Int) > 4096
 ·rw [if_pos (by simpa using h1), Option.bind_some]
  exact ⟨_, rfl, fun h => by simp at h⟩
 ·rw [if_neg (by simpa using h1)]
  by_cases h2 : p0.Words > 1024
  ·rw [if_pos (z0 h2), Option.bind_some]
   refine ⟨_, rfl, fun h => ?_⟩
   simp only [Bool.or_eq_false_iff, decide_eq_false_iff_not] at h
   omega
  ·rw [if_neg (by simpa using h2), Option.bind_some]
   refine ⟨_, rfl, fun h => ?_⟩
   simp only [Bool.or_eq_false_iff, decide_eq_false_iff_not] at h
   omega
theorem zmV (p0 : zbe) (hf : p0.Fuel ≤ 1000) : ∀ (n k : Nat) (m : M4), (p0.Fuel - k).toNat < n → k ≤ 1000 → OkM k m → zfD p0 n m.code m.pc m.regs m.words m.input m.out m.how m.halting (k : Int) = some true := by
 intro n
 induction n with
 | zero => intro k m h; omega
 | succ n ih =>
  intro k m hn hk hO
  show zeR _ p0 m.code m.pc m.regs m.words m.input m.out m.how m.halting (k : Int) = _
  unfold zeR
  by_cases h : (k : Int) < p0.Fuel
  ·obtain ⟨r, hr, h1, h2, h3, h4⟩ := znJ hO (by omega)
   have hr : zcm (⟨m.code, m.pc, m.regs, m.words, m.input, m.out, m.how, m.halting⟩ : M4) = some r := hr
   obtain ⟨o1, o2, o3, o4⟩ := hO
   have hw : zc7 (⟨m.code, m.pc, m.regs, m.words, m.input, m.out, m.how, m.halting⟩ : M4) = some m.words := zkY (m := m) (by omega)
   have ho : zc2 (⟨m.code, m.pc, m.regs, m.words, m.input, m.out, m.how, m.halting⟩ : M4) = some m.out := zjL (m := m) (by omega)
   rw [if_pos (z0 h), zlA, hw, ho, hr]
   dsimp only [ze0, zfp, znm, Option.bind_some, zde]
   rw [if_neg (by rw [zhu h1]; simp)]
   by_cases hz : r.1 = 0
   ·rw [if_neg (by rw [zhu hz]; simp), zbt (by omega)]
    exact ih (k + 1) r.2 (by omega) (by omega) h2
   ·obtain ⟨g1, g2, g3, g4, g5⟩ := h3 hz
    have hz2 : r.2.how ≠ 0 := fun e => hz (by rw [h1, e]; rfl)
    rw [if_pos (zhl hz), if_pos (zdA g1), g4, g2, g3, g5]
    dsimp only [Option.bind_some]
    have hw2 : zc7 (⟨r.2.code, r.2.pc, m.regs, m.words, m.input, m.out, r.2.how, r.2.halting⟩ : M4) = some m.words := zkY (show (⟨r.2.code, r.2.pc, m.regs, m.words, m.input, m.out, r.2.how, r.2.halting⟩ : M4).words.length ≤ 1000000000 from by dsimp only; omega)
    have ho2 : zc2 (⟨r.2.code, r.2.pc, m.regs, m.words, m.input, m.out, r.2.how, r.2.halting⟩ : M4) = some m.out := zjL (show (⟨r.2.code, r.2.pc, m.regs, m.words, m.input, m.out, r.2.how, r.2.halting⟩ : M4).out.length ≤ 1000000000 from by dsimp only; omega)
    have hs2 : zcm (⟨r.2.code, r.2.pc, m.regs, m.words, m.input, m.out, r.2.how, r.2.halting⟩ : M4) = some ((r.2.how.toNat : Int), ⟨r.2.code, r.2.pc, m.regs, m.words, m.input, m.out, r.2.how, r.2.halting⟩) := zkA hz2
    rw [zdA rfl, if_pos rfl, zlA, Option.bind_some, zjE (by rw [zmu]; omega)]
    dsimp only [Option.bind_some]
    rw [if_pos rfl, hw2, Option.bind_some, zjE (by omega)]
    dsimp only [Option.bind_some]
    rw [if_pos rfl, ho2, Option.bind_some, zjE (by omega)]
    dsimp only [Option.bind_some]
    rw [if_pos rfl, hs2]
    dsimp only [Option.bind_some]
    rw [zdA h1.symm, if_pos rfl, zhq]
    rfl
  ·rw [if_neg (by simpa using h), zhq]
   rfl
theorem znt (p0 : zbe) (hr : ∀ x ∈ p0.Code, rgI x) : zhp p0 = some true := by
 unfold zhp
 obtain ⟨v, hv, hb⟩ := zqe p0
 have hv : zex (⟨p0.Code, p0.Bytes, p0.Start, p0.Words, p0.Input, p0.Fuel⟩ : zbe) = some v := hv
 rw [hv, Option.bind_some]
 cases v with
 | true => rw [if_pos rfl, zhq]; rfl
 | false =>
  obtain ⟨h1, h2, h3, h4⟩ := hb rfl
  obtain ⟨b, hB, hl⟩ := zm0 h1 h2 hr
  have hB : zeJ (⟨p0.Code, p0.Bytes, p0.Start, p0.Words, p0.Input, p0.Fuel⟩ : zbe) = some b := hB
  rw [if_neg (by simp), hB, Option.bind_some, zmS (by omega) (by omega), Option.bind_some]
  by_cases hm : zeL b p0.Start p0.Words = true
  ·rw [if_pos hm]
   dsimp only [zfT]
   rw [if_neg (by simp)]
   exact zmV p0 h4 big 0 (ziQ b p0.Start p0.Words p0.Input) (by have := zbV (n := (p0.Fuel - (0 : Nat)).toNat) (by omega); exact this) (by omega) (zpL (by omega) (by omega) hm)
  ·rw [if_neg hm]
   dsimp only [zfT]
   rw [if_pos (by simp), zhq]
   rfl
end Go.Proofs.YtgkllgoelpfdkaaGreat
