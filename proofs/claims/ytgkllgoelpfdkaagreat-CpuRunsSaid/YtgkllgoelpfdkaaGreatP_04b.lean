import Derived.Test.YtgkllgoelpfdkaaGreatP_04
import Derived.KernelRfl
namespace Go.Proofs.YtgkllgoelpfdkaaGreat
open Go.Ab Go.RowKit
set_option linter.unusedVariables false
set_option linter.unusedSimpArgs false
theorem zqW {i : Ins} {nx : Int} {s s' : St4} (h : doS i nx s = .ok s') : s'.O.length ≤ s.O.length + 1 ∧ s'.W.length = s.W.length := by
 unfold doS at h
 by_cases e : (i.Kind.toNat : Int) = 2
 ·rw [if_pos e] at h
  (repeat' split at h) <;> first | cases h; done | (injection h with h; subst h; refine ⟨?_, ?_⟩ <;> simp)
 rw [if_neg e] at h
 clear e
 by_cases e : (i.Kind.toNat : Int) = 3
 ·rw [if_pos e] at h
  (repeat' split at h) <;> first | cases h; done | (injection h with h; subst h; refine ⟨?_, ?_⟩ <;> simp)
 rw [if_neg e] at h
 clear e
 by_cases e : (i.Kind.toNat : Int) = 4
 ·rw [if_pos e] at h
  (repeat' split at h) <;> first | cases h; done | (injection h with h; subst h; refine ⟨?_, ?_⟩ <;> simp)
 rw [if_neg e] at h
 clear e
 by_cases e : (i.Kind.toNat : Int) = 5
 ·rw [if_pos e] at h
  (repeat' split at h) <;> first | cases h; done | (injection h with h; subst h; refine ⟨?_, ?_⟩ <;> simp)
 rw [if_neg e] at h
 clear e
 by_cases e : (i.Kind.toNat : Int) = 6 ∨ (i.Kind.toNat : Int) = 8
 ·rw [if_pos e] at h
  (repeat' split at h) <;> first | cases h; done | (injection h with h; subst h; refine ⟨?_, ?_⟩ <;> simp)
 rw [if_neg e] at h
 clear e
 by_cases e : (i.Kind.toNat : Int) = 7 ∨ (i.Kind.toNat : Int) = 9
 ·rw [if_pos e] at h
  (repeat' split at h) <;> first | cases h; done | (injection h with h; subst h; refine ⟨?_, ?_⟩ <;> simp)
 rw [if_neg e] at h
 clear e
 by_cases e : (i.Kind.toNat : Int) = 10
 ·rw [if_pos e] at h
  (repeat' split at h) <;> first | cases h; done | (injection h with h; subst h; refine ⟨?_, ?_⟩ <;> simp)
 rw [if_neg e] at h
 clear e
 by_cases e : (i.Kind.toNat : Int) = 11
 ·rw [if_pos e] at h
  (repeat' split at h) <;> first | cases h; done | (injection h with h; subst h; refine ⟨?_, ?_⟩ <;> simp)
 rw [if_neg e] at h
 clear e
 by_cases e : (i.Kind.toNat : Int) = 12
 ·rw [if_pos e] at h
  (repeat' split at h) <;> first | cases h; done | (injection h with h; subst h; refine ⟨?_, ?_⟩ <;> simp)
 rw [if_neg e] at h
 clear e
 by_cases e : (i.Kind.toNat : Int) = 13
 ·rw [if_pos e] at h
  (repeat' split at h) <;> first | cases h; done | (injection h with h; subst h; refine ⟨?_, ?_⟩ <;> simp)
 rw [if_neg e] at h
 clear e
 by_cases e : (i.Kind.toNat : Int) = 14
 ·rw [if_pos e] at h
  (repeat' split at h) <;> first | cases h; done | (injection h with h; subst h; refine ⟨?_, ?_⟩ <;> simp)
 rw [if_neg e] at h
 clear e
 by_cases e : (i.Kind.toNat : Int) = 15
 ·rw [if_pos e] at h
  (repeat' split at h) <;> first | cases h; done | (injection h with h; subst h; refine ⟨?_, ?_⟩ <;> simp)
 rw [if_neg e] at h
 clear e
 by_cases e : (i.Kind.toNat : Int) = 16
 ·rw [if_pos e] at h
  (repeat' split at h) <;> first | cases h; done | (injection h with h; subst h; refine ⟨?_, ?_⟩ <;> simp)
 rw [if_neg e] at h
 clear e
 by_cases e : (i.Kind.toNat : Int) = 17
 ·rw [if_pos e] at h
  (repeat' split at h) <;> first | cases h; done | (injection h with h; subst h; refine ⟨?_, ?_⟩ <;> simp)
 rw [if_neg e] at h
 clear e
 by_cases e : (i.Kind.toNat : Int) = 18
 ·rw [if_pos e] at h
  (repeat' split at h) <;> first | cases h; done | (injection h with h; subst h; refine ⟨?_, ?_⟩ <;> simp)
 rw [if_neg e] at h
 clear e
 injection h with h
 subst h
 refine ⟨?_, ?_⟩ <;> simp
def OkM (n : Nat) (m : M4) : Prop := m.code.length ≤ 1000000 ∧ m.out.length ≤ n ∧ m.words.length ≤ 1000000 ∧ m.input.length ≤ 1000000
theorem zoH {code : List UInt8} {s s' : St4} (h : stS code s = .ok s') : s'.O.length ≤ s.O.length + 1 ∧ s'.W.length = s.W.length := by
 unfold stS at h
 split at h
 ·split at h
  ·split at h
   ·rename_i hd
    injection h with h
    subst h
    exact zqW hd
   ·cases h
  ·cases h
 ·cases h
theorem zrA {i : Ins} {nx : Int} {s s' : St4} (h : doS i nx s = .ok s') : s'.I.length ≤ s.I.length := by
 unfold doS at h
 by_cases e : (i.Kind.toNat : Int) = 2
 ·rw [if_pos e] at h
  (repeat' split at h) <;> first | cases h; done | (injection h with h; subst h; first | exact Nat.le_refl _ | (simp [*]; done))
 rw [if_neg e] at h
 clear e
 by_cases e : (i.Kind.toNat : Int) = 3
 ·rw [if_pos e] at h
  (repeat' split at h) <;> first | cases h; done | (injection h with h; subst h; first | exact Nat.le_refl _ | (simp [*]; done))
 rw [if_neg e] at h
 clear e
 by_cases e : (i.Kind.toNat : Int) = 4
 ·rw [if_pos e] at h
  (repeat' split at h) <;> first | cases h; done | (injection h with h; subst h; first | exact Nat.le_refl _ | (simp [*]; done))
 rw [if_neg e] at h
 clear e
 by_cases e : (i.Kind.toNat : Int) = 5
 ·rw [if_pos e] at h
  (repeat' split at h) <;> first | cases h; done | (injection h with h; subst h; first | exact Nat.le_refl _ | (simp [*]; done))
 rw [if_neg e] at h
 clear e
 by_cases e : (i.Kind.toNat : Int) = 6 ∨ (i.Kind.toNat : Int) = 8
 ·rw [if_pos e] at h
  (repeat' split at h) <;> first | cases h; done | (injection h with h; subst h; first | exact Nat.le_refl _ | (simp [*]; done))
 rw [if_neg e] at h
 clear e
 by_cases e : (i.Kind.toNat : Int) = 7 ∨ (i.Kind.toNat : Int) = 9
 ·rw [if_pos e] at h
  (repeat' split at h) <;> first | cases h; done | (injection h with h; subst h; first | exact Nat.le_refl _ | (simp [*]; done))
 rw [if_neg e] at h
 clear e
 by_cases e : (i.Kind.toNat : Int) = 10
 ·rw [if_pos e] at h
  (repeat' split at h) <;> first | cases h; done | (injection h with h; subst h; first | exact Nat.le_refl _ | (simp [*]; done))
 rw [if_neg e] at h
 clear e
 by_cases e : (i.Kind.toNat : Int) = 11
 ·rw [if_pos e] at h
  (repeat' split at h) <;> first | cases h; done | (injection h with h; subst h; first | exact Nat.le_refl _ | (simp [*]; done))
 rw [if_neg e] at h
 clear e
 by_cases e : (i.Kind.toNat : Int) = 12
 ·rw [if_pos e] at h
  (repeat' split at h) <;> first | cases h; done | (injection h with h; subst h; first | exact Nat.le_refl _ | (simp [*]; done))
 rw [if_neg e] at h
 clear e
 by_cases e : (i.Kind.toNat : Int) = 13
 ·rw [if_pos e] at h
  (repeat' split at h) <;> first | cases h; done | (injection h with h; subst h; first | exact Nat.le_refl _ | (simp [*]; done))
 rw [if_neg e] at h
 clear e
 by_cases e : (i.Kind.toNat : Int) = 14
 ·rw [if_pos e] at h
  (repeat' split at h) <;> first | cases h; done | (injection h with h; subst h; first | exact Nat.le_refl _ | (simp [*]; done))
 rw [if_neg e] at h
 clear e
 by_cases e : (i.Kind.toNat : Int) = 15
 ·rw [if_pos e] at h
  (repeat' split at h) <;> first | cases h; done | (injection h with h; subst h; first | exact Nat.le_refl _ | (simp [*]; done))
 rw [if_neg e] at h
 clear e
 by_cases e : (i.Kind.toNat : Int) = 16
 ·rw [if_pos e] at h
  (repeat' split at h) <;> first | cases h; done | (injection h with h; subst h; first | exact Nat.le_refl _ | (simp [*]; done))
 rw [if_neg e] at h
 clear e
 by_cases e : (i.Kind.toNat : Int) = 17
 ·rw [if_pos e] at h
  (repeat' split at h) <;> first | cases h; done | (injection h with h; subst h; first | exact Nat.le_refl _ | (simp [*]; done))
 rw [if_neg e] at h
 clear e
 by_cases e : (i.Kind.toNat : Int) = 18
 ·rw [if_pos e] at h
  (repeat' split at h) <;> first | cases h; done | (injection h with h; subst h; first | exact Nat.le_refl _ | (simp [*]; done))
 rw [if_neg e] at h
 clear e
 injection h with h
 subst h
 first | exact Nat.le_refl _ | (simp [*]; done)
theorem zqQ {code : List UInt8} {s s' : St4} (h : stS code s = .ok s') : s'.I.length ≤ s.I.length := by
 unfold stS at h
 split at h
 ·split at h
  ·split at h
   ·rename_i hd
    injection h with h
    subst h
    exact zrA hd
   ·cases h
  ·cases h
 ·cases h
theorem zpg {n : Nat} {m : M4} (h : OkM n m) (hn : n ≤ 100000000) : ∃ r, zdl m = some r ∧ r.1 = (r.2.how.toNat : Int) ∧ OkM (n + 1) r.2 ∧ (r.1 ≠ 0 → r.2.pc = m.pc ∧ r.2.regs = m.regs ∧ r.2.words = m.words ∧ r.2.input = m.input ∧ r.2.out = m.out) ∧ (m.how ≠ 0 → r.2 = m) := by
 obtain ⟨h1, h2, h3, h4⟩ := h
 by_cases hw : m.how = 0
 ·obtain ⟨r, hr, hR⟩ := zl2 hw (by omega) (by omega)
  refine ⟨r, hr, ?_⟩
  cases hs : stS m.code (abC m) with
  | ok s =>
   rw [hs] at hR
   obtain ⟨r1, r2, r3, r4, r5⟩ := hR
   obtain ⟨g1, g2⟩ := zoH hs
   have g3 := zqQ hs
   subst r5
   dsimp only [abC] at g1 g2 g3
   refine ⟨by rw [r1, r2]; rfl, ⟨by rw [r3]; exact h1, by omega, by omega, by omega⟩, fun h => absurd r1 h, fun h => absurd hw h⟩
  | error c =>
   rw [hs] at hR
   obtain ⟨k, f⟩ := c
   obtain ⟨r1, r2⟩ := hR
   refine ⟨by rw [r1, r2], ?_, fun _ => ?_, fun h => absurd hw h⟩
   ·rw [r2]
    exact ⟨h1, by show m.out.length ≤ n + 1; omega, h3, h4⟩
   ·rw [r2]
    exact ⟨rfl, rfl, rfl, rfl, rfl⟩
 ·exact ⟨_, zm1 hw, rfl, ⟨h1, by show m.out.length ≤ n + 1; omega, h3, h4⟩, fun _ => ⟨rfl, rfl, rfl, rfl, rfl⟩, fun _ => rfl⟩
theorem zpk {l : List UInt8} (h : l.length ≤ 1000000) : zdo l = some l := by
 unfold zdo
 rw [zbi (by omega)]
 rfl
theorem zjk {l : List Int} (h : l.length ≤ 1000000000) : zeg l = some l := by
 unfold zeg
 rw [zbi (by omega)]
 rfl
def ze3 (code : List UInt8) (start words : Int) : Bool := !((((decide ((code.length : Int) > 1048576) || decide (start < 0)) || decide (start > (code.length : Int))) || decide (words < 1)) || decide (words > 65536))
def zkv (code : List UInt8) (start words : Int) (input : List Int) : M4 := ⟨code, start, zfo [0, 0, 0, 0, 0, 0, 0, 0, 0, 0, 0, 0, 0, 0, 0, words], List.replicate words.toNat 0, input, [], 0, 0⟩
theorem zqF {code : List UInt8} {start words : Int} {input : List Int} (hc : code.length ≤ 1000000) (hi : input.length ≤ 1000000) : zfL code start words input = some (if ze3 code start words = true then (some (zkv code start words input), 0) else (none, 1)) := by
 unfold zfL ze3
 cases hb : ((((decide ((code.length : Int) > 1048576) || decide (start < 0)) || decide (start > (code.length : Int))) || decide (words < 1)) || decide (words > 65536)) with
 | true => rfl
 | false =>
  rw [if_neg (by simp), zpk hc, Option.bind_some]
  simp only [Bool.or_eq_false_iff, decide_eq_false_iff_not] at hb
  have hm : mkI (0 : Int) words words = some (List.replicate words.toNat 0) := by
   unfold mkI
   rw [if_pos ⟨by omega, by omega, by omega⟩]
  rw [hm, Option.bind_some, zjk (by omega), Option.bind_some]
  rfl
theorem zsa {code : List UInt8} {start words : Int} {input : List Int} (hc : code.length ≤ 1000000) (hi : input.length ≤ 1000000) (h : ze3 code start words = true) : OkM 0 (zkv code start words input) := by
 unfold ze3 at h
 simp only [Bool.not_eq_true', Bool.or_eq_false_iff, decide_eq_false_iff_not] at h
 exact ⟨hc, Nat.le_refl _, by show (List.replicate words.toNat (0 : Int)).length ≤ _; rw [List.length_replicate]; omega, hi⟩
end Go.Proofs.YtgkllgoelpfdkaaGreat
