import Derived.Test.YtgkllgoelpfdkaaGreatP_04
import Derived.KernelRfl
namespace Go.Proofs.YtgkllgoelpfdkaaGreat
open Go.Ab Go.RowKit
set_option linter.unusedVariables false
set_option linter.unusedSimpArgs false
theorem zpa {i : Ins} {nx : Int} {s s' : St4} (h : doS i nx s = .ok s') : s'.O.length ≤ s.O.length + 1 ∧ s'.W.length = s.W.length := by
 unfold doS at h
 by_cases e : (i.Kind.toNat : Int) = 2
 ·rw [if_pos e] at h
  (repeat' split at h) <;> first | cases h; done | (injection h with h; subst h; refine ⟨?_, ?_⟩ <;> simp)
 rw [if_neg e] at h
 clear e
 by_cases e : (i.Kind.toNat : Int) = 3
 ·rw [if_pos e] at h
  (repeat' split at h) <;> first | cases h; done | (injection h with h; subst h; refine ⟨?_, ?_⟩ <;> simp)
 rw [if_neg e] at h
 clear e
 by_cases e : (i.Kind.toNat : Int) = 4
 ·rw [if_pos e] at h
  (repeat' split at h) <;> first | cases h; done | (injection h with h; subst h; refine ⟨?_, ?_⟩ <;> simp)
 rw [if_neg e] at h
 clear e
 by_cases e : (i.Kind.toNat : Int) = 5
 ·rw [if_pos e] at h
  (repeat' split at h) <;> first | cases h; done | (injection h with h; subst h; refine ⟨?_, ?_⟩ <;> simp)
 rw [if_neg e] at h
 clear e
 by_cases e : (i.Kind.toNat : Int) = 6 ∨ (i.Kind.toNat : Int) = 8
 ·rw [if_pos e] at h
  (repeat' split at h) <;> first | cases h; done | (injection h with h; subst h; refine ⟨?_, ?_⟩ <;> simp)
 rw [if_neg e] at h
 clear e
 by_cases e : (i.Kind.toNat : Int) = 7 ∨ (i.Kind.toNat : Int) = 9
 ·rw [if_pos e] at h
  (repeat' split at h) <;> first | cases h; done | (injection h with h; subst h; refine ⟨?_, ?_⟩ <;> simp)
 rw [if_neg e] at h
 clear e
 by_cases e : (i.Kind.toNat : Int) = 10
 ·rw [if_pos e] at h
  (repeat' split at h) <;> first | cases h; done | (injection h with h; subst h; refine ⟨?_, ?_⟩ <;> simp)
 rw [if_neg e] at h
 clear e
 by_cases e : (i.Kind.toNat : Int) = 11
 ·rw [if_pos e] at h
  (repeat' split at h) <;> first | cases h; done | (injection h with h; subst h; refine ⟨?_, ?_⟩ <;> simp)
 rw [if_neg e] at h
 clear e
 by_cases e : (i.Kind.toNat : Int) = 12
 ·rw [if_pos e] at h
  (repeat' split at h) <;> first | cases h; done | (injection h with h; subst h; refine ⟨?_, ?_⟩ <;> simp)
 rw [if_neg e] at h
 clear e
 by_cases e : (i.Kind.toNat : Int) = 13
 ·rw [if_pos e] at h
  (repeat' split at h) <;> first | cases h; done | (injection h with h; subst h; refine ⟨?_, ?_⟩ <;> simp)
 rw [if_neg e] at h
 clear e
 by_cases e : (i.Kind.toNat : Int) = 14
 ·rw [if_pos e] at h
  (repeat' split at h) <;> first | cases h; done | (injection h with h; subst h; refine ⟨?_, ?_⟩ <;> simp)
 rw [if_neg e] at h
 clear e
 by_cases e : (i.Kind.toNat : Int) = 15
 ·rw [if_pos e] at h
  (repeat' split at h) <;> first | cases h; done | (injection h with h; subst h; refine ⟨?_, ?_⟩ <;> simp)
 rw [if_neg e] at h
 clear e
 by_cases e : (i.Kind.toNat : Int) = 16
 ·rw [if_pos e] at h
  (repeat' split at h) <;> first | cases h; done | (injection h with h; subst h; refine ⟨?_, ?_⟩ <;> simp)
 rw [if_neg e] at h
 clear e
 by_cases e : (i.Kind.toNat : Int) = 17
 ·rw [if_pos e] at h
  (repeat' split at h) <;> first | cases h; done | (injection h with h; subst h; refine ⟨?_, ?_⟩ <;> simp)
 rw [if_neg e] at h
 clear e
 by_cases e : (i.Kind.toNat : Int) = 18
 ·rw [if_pos e] at h
  (repeat' split at h) <;> first | cases h; done | (injection h with h; subst h; refine ⟨?_, ?_⟩ <;> simp)
 rw [if_neg e] at h
 clear e
 injection h with h
 subst h
 refine ⟨?_, ?_⟩ <;> simp
def OkM (n : Nat) (m : M4) : Prop := m.code.length ≤ 1000000 ∧ m.out.length ≤ n ∧ m.words.length ≤ 1000000 ∧ m.input.length ≤ 1000000
theorem zmA {code : List UInt8} {s s' : St4} (h : stS code s = .ok s') : s'.O.length ≤ s.O.length + 1 ∧ s'.W.length = s.W.length := by
 unfold stS at h
 split at h
 ·split at h
  ·split at h
   ·rename_i hd
    injection h with h
    subst h
    exact zpa hd
   ·cases h
  ·cases h
 ·cases h
theorem zqr {i : Ins} {nx : Int} {s s' : St4} (h : doS i nx s = .ok s') : s'.I.length ≤ s.I.length := by
 unfold doS at h
 by_cases e : (i.Kind.toNat : Int) = 2
 ·rw [if_pos e] at h
  (repeat' split at h) <;> first | cases h; done | (injection h with h; subst h; first | exact Nat.le_refl _ | (simp [*]; done))
 rw [if_neg e] at h
 clear e
 by_cases e : (i.Kind.toNat : Int) = 3
 ·rw [if_pos e] at h
  (repeat' split at h) <;> first | cases h; done | (injection h with h; subst h; first | exact Nat.le_refl _ | (simp [*]; done))
 rw [if_neg e] at h
 clear e
 by_cases e : (i.Kind.toNat : Int) = 4
 ·rw [if_pos e] at h
  (repeat' split at h) <;> first | cases h; done | (injection h with h; subst h; first | exact Nat.le_refl _ | (simp [*]; done))
 rw [if_neg e] at h
 clear e
 by_cases e : (i.Kind.toNat : Int) = 5
 ·rw [if_pos e] at h
  (repeat' split at h) <;> first | cases h; done | (injection h with h; subst h; first | exact Nat.le_refl _ | (simp [*]; done))
 rw [if_neg e] at h
 clear e
 by_cases e : (i.Kind.toNat : Int) = 6 ∨ (i.Kind.toNat : Int) = 8
 ·rw [if_pos e] at h
  (repeat' split at h) <;> first | cases h; done | (injection h with h; subst h; first | exact Nat.le_refl _ | (simp [*]; done))
 rw [if_neg e] at h
 clear e
 by_cases e : (i.Kind.toNat : Int) = 7 ∨ (i.Kind.toNat : Int) = 9
 ·rw [if_pos e] at h
  (repeat' split at h) <;> first | cases h; done | (injection h with h; subst h; first | exact Nat.le_refl _ | (simp [*]; done))
 rw [if_neg e] at h
 clear e
 by_cases e : (i.Kind.toNat : Int) = 10
 ·rw [if_pos e] at h
  (repeat' split at h) <;> first | cases h; done | (injection h with h; subst h; first | exact Nat.le_refl _ | (simp [*]; done))
 rw [if_neg e] at h
 clear e
 by_cases e : (i.Kind.toNat : Int) = 11
 ·rw [if_pos e] at h
  (repeat' split at h) <;> first | cases h; done | (injection h with h; subst h; first | exact Nat.le_refl _ | (simp [*]; done))
 rw [if_neg e] at h
 clear e
 by_cases e : (i.Kind.toNat : Int) = 12
 ·rw [if_pos e] at h
  (repeat' split at h) <;> first | cases h; done | (injection h with h; subst h; first | exact Nat.le_refl _ | (simp [*]; done))
 rw [if_neg e] at h
 clear e
 by_cases e : (i.Kind.toNat : Int) = 13
 ·rw [if_pos e] at h
  (repeat' split at h) <;> first | cases h; done | (injection h with h; subst h; first | exact Nat.le_refl _ | (simp [*]; done))
 rw [if_neg e] at h
 clear e
 by_cases e : (i.Kind.toNat : Int) = 14
 ·rw [if_pos e] at h
  (repeat' split at h) <;> first | cases h; done | (injection h with h; subst h; first | exact Nat.le_refl _ | (simp [*]; done))
 rw [if_neg e] at h
 clear e
 by_cases e : (i.Kind.toNat : Int) = 15
 ·rw [if_pos e] at h
  (repeat' split at h) <;> first | cases h; done | (injection h with h; subst h; first | exact Nat.le_refl _ | (simp [*]; done))
 rw [if_neg e] at h
 clear e
 by_cases e : (i.Kind.toNat : Int) = 16
 ·rw [if_pos e] at h
  (repeat' split at h) <;> first | cases h; done | (injection h with h; subst h; first | exact Nat.le_refl _ | (simp [*]; done))
 rw [if_neg e] at h
 clear e
 by_cases e : (i.Kind.toNat : Int) = 17
 ·rw [if_pos e] at h
  (repeat' split at h) <;> first | cases h; done | (injection h with h; subst h; first | exact Nat.le_refl _ | (simp [*]; done))
 rw [if_neg e] at h
 clear e
 by_cases e : (i.Kind.toNat : Int) = 18
 ·rw [if_pos e] at h
  (repeat' split at h) <;> first | cases h; done | (injection h with h; subst h; first | exact Nat.le_refl _ | (simp [*]; done))
 rw [if_neg e] at h
 clear e
 injection h with h
 subst h
 first | exact Nat.le_refl _ | (simp [*]; done)
theorem zpR {code : List UInt8} {s s' : St4} (h : stS code s = .ok s') : s'.I.length ≤ s.I.length := by
 unfold stS at h
 split at h
 ·split at h
  ·split at h
   ·rename_i hd
    injection h with h
    subst h
    exact zqr hd
   ·cases h
  ·cases h
 ·cases h
theorem zok {n : Nat} {m : M4} (h : OkM n m) (hn : n ≤ 100000000) : ∃ r, zb2 m = some r ∧ r.1 = (r.2.how.toNat : Int) ∧ OkM (n + 1) r.2 ∧ (r.1 ≠ 0 → r.2.pc = m.pc ∧ r.2.regs = m.regs ∧ r.2.words = m.words ∧ r.2.input = m.input ∧ r.2.out = m.out) ∧ (m.how ≠ 0 → r.2 = m) := by
 obtain ⟨h1, h2, h3, h4⟩ := h
 by_cases hw : m.how = 0
 ·obtain ⟨r, hr, hR⟩ := zo1 hw (by omega) (by omega)
  refine ⟨r, hr, ?_⟩
  cases hs : stS m.code (abC m) with
  | ok s =>
   rw [hs] at hR
   obtain ⟨r1, r2, r3, r4, r5⟩ := hR
   obtain ⟨g1, g2⟩ := zmA hs
   have g3 := zpR hs
   subst r5
   dsimp only [abC] at g1 g2 g3
   refine ⟨by rw [r1, r2]; rfl, ⟨by rw [r3]; exact h1, by omega, by omega, by omega⟩, fun h => absurd r1 h, fun h => absurd hw h⟩
  | error c =>
   rw [hs] at hR
   obtain ⟨k, f⟩ := c
   obtain ⟨r1, r2⟩ := hR
   refine ⟨by rw [r1, r2], ?_, fun _ => ?_, fun h => absurd hw h⟩
   ·rw [r2]
    exact ⟨h1, by show m.out.length ≤ n + 1; omega, h3, h4⟩
   ·rw [r2]
    exact ⟨rfl, rfl, rfl, rfl, rfl⟩
 ·exact ⟨_, zpU hw, rfl, ⟨h1, by show m.out.length ≤ n + 1; omega, h3, h4⟩, fun _ => ⟨rfl, rfl, rfl, rfl, rfl⟩, fun _ => rfl⟩
theorem zng {l : List UInt8} (h : l.length ≤ 1000000) : zcv l = some l := by
 unfold zcv
 rw [z9 (by omega)]
 rfl
theorem zhY {l : List Int} (h : l.length ≤ 1000000000) : zdw l = some l := by
 unfold zdw
 rw [z9 (by omega)]
 rfl
def zfE (code : List UInt8) (start words : Int) : Bool := !((((decide ((code.length : Int) > 1048576) || decide (start < 0)) || decide (start > (code.length : Int))) || decide (words < 1)) || decide (words > 65536))
def ziF (code : List UInt8) (start words : Int) (input : List Int) : M4 := ⟨code, start, zex [0, 0, 0, 0, 0, 0, 0, 0, 0, 0, 0, 0, 0, 0, 0, words], List.replicate words.toNat 0, input, [], 0, 0⟩
theorem znn {code : List UInt8} {start words : Int} {input : List Int} (hc : code.length ≤ 1000000) (hi : input.length ≤ 1000000) : zdH code start words input = some (if zfE code start words = true then (some (ziF code start words input), 0) else (none, 1)) := by
 unfold zdH zfE
 cases hb : ((((decide ((code.length : Int) > 1048576) || decide (start < 0)) || decide (start > (code.length : Int))) || decide (words < 1)) || decide (words > 65536)) with
 | true => rfl
 | false =>
  rw [if_neg (by simp), zng hc, Option.bind_some]
  simp only [Bool.or_eq_false_iff, decide_eq_false_iff_not] at hb
  have hm : mkI (0 : Int) words words = some (List.replicate words.toNat 0) := by
   unfold mkI
   rw [if_pos ⟨by omega, by omega, by omega⟩]
  rw [hm, Option.bind_some, zhY (by omega), Option.bind_some]
  rfl
theorem zor {code : List UInt8} {start words : Int} {input : List Int} (hc : code.length ≤ 1000000) (hi : input.length ≤ 1000000) (h : zfE code start words = true) : OkM 0 (ziF code start words input) := by
 unfold zfE at h
 simp only [Bool.not_eq_true', Bool.or_eq_false_iff, decide_eq_false_iff_not] at h
 exact ⟨hc, Nat.le_refl _, by show (List.replicate words.toNat (0 : Int)).length ≤ _; rw [List.length_replicate]; omega, hi⟩
theorem zob (m : M4) : zeA m = some (m.how.toNat : Int) := rfl
def zbH : Nat → M4 → Option (M4 × Nat)
 | 0, m => some (m, 0)
 | k + 1, m => if m.how = 0 then (zb2 m).bind fun c => zbH k c.2 else some (m, k + 1)
theorem zkw {x : UInt8} : ((x.toNat : Int) == 0) = decide (x = 0) := by
 by_cases h : x = 0
 ·subst h; rfl
 ·rw [zgR (fun e => h (zd0.1 (by simpa using e))), zP h]
theorem zkz : ∀ (k n : Nat) (m : M4), k < n → k ≤ 1000000 → zev n m.code m.pc m.regs m.words m.input m.out m.how m.halting (k : Int) = (zbH k m).map fun c => ((c.1.how.toNat : Int), (c.2 : Int), c.1)
 | k, 0, m, h, _ => absurd h (by omega)
 | 0, n + 1, m, _, _ => rfl
 | k + 1, n + 1, m, h, hk => by
  show zfG (zev n) m.code m.pc m.regs m.words m.input m.out m.how m.halting ((k + 1 : Nat) : Int) = _
  unfold zfG zbH
  rw [if_pos (by simp), zob]
  dsimp only [Option.bind_some]
  rw [zkw]
  by_cases hw : m.how = 0
  ·rw [zZ hw, if_pos rfl, if_pos hw]
   cases hs : zb2 m with
   | none => rfl
   | some r =>
    rw [Option.bind_some, Option.bind_some, zV (by omega), show ((k + 1 : Nat) : Int) - 1 = (k : Int) from by omega]
    exact zkz k n r.2 (by omega) (by omega)
  ·rw [zP hw, if_neg (by simp), if_neg hw]
   rfl
theorem ziB {m : M4} {p : Int} (hp : p ≤ 100000) : zb7 m p = (zbH p.toNat m).map fun c => ((c.1.how.toNat : Int), (c.2 : Int), c.1) := by
 have h : zbg 0 p = ((p.toNat : Nat) : Int) := by
  unfold zbg
  split <;> omega
 unfold zb7
 rw [h]
 exact zkz p.toNat big m (zbI (by omega)) (by omega)
theorem zoE (a b : Nat) : ∀ m : M4, zbH (a + b) m = (zbH a m).bind fun c => (zbH b c.1).map fun d => (d.1, c.2 + d.2) := by
 induction a with
 | zero => 
  intro m
  rw [Nat.zero_add]
  show _ = (zbH b m).map fun d => (d.1, 0 + d.2)
  cases zbH b m with
  | none => rfl
  | some d => simp
 | succ a ih =>
  intro m
  rw [show a + 1 + b = (a + b) + 1 from by omega]
  by_cases hw : m.how = 0
  ·show (if m.how = 0 then (zb2 m).bind fun c => zbH (a + b) c.2 else _) = ((if m.how = 0 then (zb2 m).bind fun c => zbH a c.2 else _) : Option (M4 × Nat)).bind _
   rw [if_pos hw, if_pos hw]
   cases zb2 m with
   | none => rfl
   | some r => exact ih r.2
  ·have e : ∀ k, zbH (k + 1) m = some (m, k + 1) := fun k => if_neg hw
   have e0 : ∀ k, zbH k m = some (m, k) := fun k => by
    cases k with
    | zero => rfl
    | succ k => exact e k
   rw [e, e, Option.bind_some, e0]
   show some (m, a + b + 1) = some (m, a + 1 + b)
   rw [show a + b + 1 = a + 1 + b from by omega]
theorem ziP : ∀ (k n : Nat) (m : M4), OkM n m → n + k ≤ 100000000 → ∃ c, zbH k m = some c ∧ OkM (n + k) c.1 ∧ (c.1.how = 0 → c.2 = 0) ∧ (m.how ≠ 0 → c.1 = m ∧ c.2 = k)
 | 0, n, m, h, _ => ⟨_, rfl, h, fun _ => rfl, fun _ => ⟨rfl, rfl⟩⟩
 | k + 1, n, m, h, hk => by
  by_cases hw : m.how = 0
  ·obtain ⟨r, hr, _, hO, _, _⟩ := zok h (by omega)
   obtain ⟨c, hc, h1, h2, h3⟩ := ziP k (n + 1) r.2 hO (by omega)
   refine ⟨c, ?_, by rw [show n + (k + 1) = n + 1 + k from by omega]; exact h1, h2, fun h => absurd hw h⟩
   show (if m.how = 0 then (zb2 m).bind fun c => zbH k c.2 else _) = _
   rw [if_pos hw, hr]
   exact hc
  ·refine ⟨(m, k + 1), if_neg hw, ⟨h.1, by have := h.2.1; show m.out.length ≤ n + (k + 1); omega, h.2.2⟩, fun h => absurd h hw, fun _ => ⟨rfl, rfl⟩⟩
end Go.Proofs.YtgkllgoelpfdkaaGreat
