import Derived.Test.YtgkllgoelpfdkaaGreatP_03c
import Derived.Test.YtgkllgoelpfdkaaGreatP_04c
namespace Go.Proofs.YtgkllgoelpfdkaaGreat
open Go.Ab Go.RowKit
set_option linter.unusedVariables false
set_option linter.unusedSimpArgs false
theorem zof (p0 : zbe) (hC : p0.Code.length ≤ 200) (hr : ∀ x ∈ p0.Code, rgI x) : ∀ (n k : Nat) (x : List UInt8), k ≤ p0.Code.length → p0.Code.length - k < n → x.length ≤ 4096 + 41 * k → ∃ b, ze1 p0 n x (k : Int) = some b ∧ b.length ≤ 20000 := by
 intro n
 induction n with
 | zero => intro k x _ h; omega
 | succ n ih =>
  intro k x hk hn hx
  show ∃ b, zgq _ p0 x (k : Int) = some b ∧ _
  unfold zgq
  by_cases h : k < p0.Code.length
  ·have hR := hr p0.Code[k] (List.getElem_mem h)
   rw [if_pos (z0 (by omega)), zb8 h, Option.bind_some, zmR hR (by omega), Option.bind_some, zbt (by omega)]
   refine ih (k + 1) _ (by omega) (by omega) ?_
   split
   ·rename_i hRt
    have := (zmC hR hRt).2
    rw [List.length_append]
    omega
   ·omega
  ·rw [if_neg (by simp; omega)]
   exact ⟨x, rfl, by omega⟩
theorem zoH {p0 : zbe} (hC : p0.Code.length ≤ 200) (hB : p0.Bytes.length ≤ 4096) (hr : ∀ x ∈ p0.Code, rgI x) : ∃ b, zeF p0 = some b ∧ b.length ≤ 20000 := by
 unfold zeF
 rw [z5 (by simp; omega), Option.bind_some]
 exact zof p0 hC hr big 0 _ (by omega) (zbV (by omega)) (by simp; omega)
theorem zmZ (p0 : zbe) : ∃ b, zd6 p0 = some b ∧ (b = false → p0.Code.length ≤ 200 ∧ p0.Bytes.length ≤ 4096 ∧ p0.Input.length ≤ 100 ∧ p0.Fuel ≤ 1000) := by
 unfold zd6
 by_cases h1 : (p0.Code.length : Int) > 200 ∨ (p0.Bytes.length : Int) > 4096
 ·rw [if_pos (by simpa using h1), Option.bind_some]
  exact ⟨_, rfl, fun h => by simp at h⟩
 ·rw [if_neg (by simpa using h1)]
  by_cases h2 : p0.Words > 1024
  ·rw [if_pos (z0 h2), Option.bind_some]
   refine ⟨_, rfl, fun h => ?_⟩
   simp only [Bool.or_eq_false_iff, decide_eq_false_iff_not] at h
   omega
  ·rw [if_neg (by simpa using h2), Option.bind_some]
   refine ⟨_, rfl, fun h => ?_⟩
   simp only [Bool.or_eq_false_iff, decide_eq_false_iff_not] at h
   omega
theorem zpY (p0 : zbe) (hf : p0.Fuel ≤ 1000) : ∀ (n k : Nat) (m : M4), (p0.Fuel - k).toNat < n → k ≤ 1000 → OkM k m → zgB p0 n m.code m.pc m.regs m.words m.input m.out m.how m.halting (k : Int) = some true := by
 intro n
 induction n with
 | zero => intro k m h; omega
 | succ n ih =>
  intro k m hn hk hO
  show ze8 _ p0 m.code m.pc m.regs m.words m.input m.out m.how m.halting (k : Int) = _
  unfold ze8
  by_cases h : (k : Int) < p0.Fuel
  ·obtain ⟨r, hr, h1, h2, h3, h4⟩ := zl3 hO (by omega)
   have hr : zcl (⟨m.code, m.pc, m.regs, m.words, m.input, m.out, m.how, m.halting⟩ : M4) = some r := hr
   obtain ⟨o1, o2, o3, o4⟩ := hO
   have hw : zdi (⟨m.code, m.pc, m.regs, m.words, m.input, m.out, m.how, m.halting⟩ : M4) = some m.words := zkb (m := m) (by omega)
   have ho : zc3 (⟨m.code, m.pc, m.regs, m.words, m.input, m.out, m.how, m.halting⟩ : M4) = some m.out := zlu (m := m) (by omega)
   rw [if_pos (z0 h), zkK, hw, ho, hr]
   dsimp only [zfo, zgo, zo2, Option.bind_some, zdA]
   rw [if_neg (by rw [zhD h1]; simp)]
   by_cases hz : r.1 = 0
   ·rw [if_neg (by rw [zhD hz]; simp), zbt (by omega)]
    exact ih (k + 1) r.2 (by omega) (by omega) h2
   ·obtain ⟨g1, g2, g3, g4, g5⟩ := h3 hz
    have hz2 : r.2.how ≠ 0 := fun e => hz (by rw [h1, e]; rfl)
    rw [if_pos (zgV hz), if_pos (zdt g1), g4, g2, g3, g5]
    dsimp only [Option.bind_some]
    have hw2 : zdi (⟨r.2.code, r.2.pc, m.regs, m.words, m.input, m.out, r.2.how, r.2.halting⟩ : M4) = some m.words := zkb (show (⟨r.2.code, r.2.pc, m.regs, m.words, m.input, m.out, r.2.how, r.2.halting⟩ : M4).words.length ≤ 1000000000 from by dsimp only; omega)
    have ho2 : zc3 (⟨r.2.code, r.2.pc, m.regs, m.words, m.input, m.out, r.2.how, r.2.halting⟩ : M4) = some m.out := zlu (show (⟨r.2.code, r.2.pc, m.regs, m.words, m.input, m.out, r.2.how, r.2.halting⟩ : M4).out.length ≤ 1000000000 from by dsimp only; omega)
    have hs2 : zcl (⟨r.2.code, r.2.pc, m.regs, m.words, m.input, m.out, r.2.how, r.2.halting⟩ : M4) = some ((r.2.how.toNat : Int), ⟨r.2.code, r.2.pc, m.regs, m.words, m.input, m.out, r.2.how, r.2.halting⟩) := zkS hz2
    rw [zdt rfl, if_pos rfl, zkK, Option.bind_some, zit (by rw [zpD]; omega)]
    dsimp only [Option.bind_some]
    rw [if_pos rfl, hw2, Option.bind_some, zit (by omega)]
    dsimp only [Option.bind_some]
    rw [if_pos rfl, ho2, Option.bind_some, zit (by omega)]
    dsimp only [Option.bind_some]
    rw [if_pos rfl, hs2]
    dsimp only [Option.bind_some]
    rw [zdt h1.symm, if_pos rfl, zhO]
    rfl
  ·rw [if_neg (by simpa using h), zhO]
   rfl
theorem zlW (p0 : zbe) (hr : ∀ x ∈ p0.Code, rgI x) : zhf p0 = some true := by
 unfold zhf
 obtain ⟨v, hv, hb⟩ := zmZ p0
 have hv : zd6 (⟨p0.Code, p0.Bytes, p0.Start, p0.Words, p0.Input, p0.Fuel⟩ : zbe) = some v := hv
 rw [hv, Option.bind_some]
 cases v with
 | true => rw [if_pos rfl, zhO]; rfl
 | false =>
  obtain ⟨h1, h2, h3, h4⟩ := hb rfl
  obtain ⟨b, hB, hl⟩ := zoH h1 h2 hr
  have hB : zeF (⟨p0.Code, p0.Bytes, p0.Start, p0.Words, p0.Input, p0.Fuel⟩ : zbe) = some b := hB
  rw [if_neg (by simp), hB, Option.bind_some, zok (by omega) (by omega), Option.bind_some]
  by_cases hm : ze0 b p0.Start p0.Words = true
  ·rw [if_pos hm]
   dsimp only [ze5]
   rw [if_neg (by simp)]
   exact zpY p0 h4 big 0 (zil b p0.Start p0.Words p0.Input) (by have := zbV (n := (p0.Fuel - (0 : Nat)).toNat) (by omega); exact this) (by omega) (znq (by omega) (by omega) hm)
  ·rw [if_neg hm]
   dsimp only [ze5]
   rw [if_pos (by simp), zhO]
   rfl
end Go.Proofs.YtgkllgoelpfdkaaGreat
