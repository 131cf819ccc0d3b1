import Derived.Test.YtgkllgoelpfdkaaP_04
import Derived.KernelRfl
namespace Go.Proofs.Ytgkllgoelpfdkaa
open Go.Ab Go.RowKit
set_option linter.unusedVariables false
set_option linter.unusedSimpArgs false
theorem zly {l : List UInt8} (h : l.length ≤ 1000000) : zcj l = some l := by
 unfold zcj
 rw [zbo (by omega)]
 rfl
theorem zjO {l : List Int} (h : l.length ≤ 1000000000) : zdc l = some l := by
 unfold zdc
 rw [zbo (by omega)]
 rfl
def zgX (code : List UInt8) (start words : Int) : Bool := !((((decide ((code.length : Int) > 1048576) || decide (start < 0)) || decide (start > (code.length : Int))) || decide (words < 1)) || decide (words > 65536))
def zcc (code : List UInt8) (start words : Int) (input : List Int) : M4 := ⟨code, start, zdC [0, 0, 0, 0, 0, 0, 0, 0, 0, 0, 0, 0, 0, 0, 0, words], List.replicate words.toNat 0, input, [], 0, 0⟩
theorem zkN {code : List UInt8} {start words : Int} {input : List Int} (hc : code.length ≤ 1000000) (hi : input.length ≤ 1000000) : zdU code start words input = some (if zgX code start words = true then (some (zcc code start words input), 0) else (none, 1)) := by
 unfold zdU zgX
 cases hb : ((((decide ((code.length : Int) > 1048576) || decide (start < 0)) || decide (start > (code.length : Int))) || decide (words < 1)) || decide (words > 65536)) with
 | true => rfl
 | false =>
  rw [if_neg (by simp), zly hc, Option.bind_some]
  simp only [Bool.or_eq_false_iff, decide_eq_false_iff_not] at hb
  have hm : mkI (0 : Int) words words = some (List.replicate words.toNat 0) := by
   unfold mkI
   rw [if_pos ⟨by omega, by omega, by omega⟩]
  rw [hm, Option.bind_some, zjO (by omega), Option.bind_some]
  rfl
theorem zlb (m : M4) : zcL m = some (m.how.toNat : Int) := rfl
def zbF : Nat → M4 → Option (M4 × Nat)
 | 0, m => some (m, 0)
 | k + 1, m => if m.how = 0 then (zbK m).bind fun c => zbF k c.2 else some (m, k + 1)
theorem zlf {x : UInt8} : ((x.toNat : Int) == 0) = decide (x = 0) := by
 by_cases h : x = 0
 ·subst h; rfl
 ·rw [zf0 (fun e => h (zgi.1 (by simpa using e))), zN h]
theorem zi6 : ∀ (k n : Nat) (m : M4), k < n → k ≤ 1000000 → zdS n m.code m.pc m.regs m.words m.input m.out m.how m.halting (k : Int) = (zbF k m).map fun c => ((c.1.how.toNat : Int), (c.2 : Int), c.1)
 | k, 0, m, h, _ => absurd h (by omega)
 | 0, n + 1, m, _, _ => rfl
 | k + 1, n + 1, m, h, hk => by
  show zep (zdS n) m.code m.pc m.regs m.words m.input m.out m.how m.halting ((k + 1 : Nat) : Int) = _
  unfold zep zbF
  rw [if_pos (by simp), zlb]
  dsimp only [Option.bind_some]
  rw [zlf]
  by_cases hw : m.how = 0
  ·rw [z1 hw, if_pos rfl, if_pos hw]
   cases hs : zbK m with
   | none => rfl
   | some r =>
    rw [Option.bind_some, Option.bind_some, zL (by omega), show ((k + 1 : Nat) : Int) - 1 = (k : Int) from by omega]
    exact zi6 k n r.2 (by omega) (by omega)
  ·rw [zN hw, if_neg (by simp), if_neg hw]
   rfl
theorem zlz {m : M4} {p : Int} (hp : p ≤ 100000) : zcO m p = (zbF p.toNat m).map fun c => ((c.1.how.toNat : Int), (c.2 : Int), c.1) := by
 have h : zbR 0 p = ((p.toNat : Nat) : Int) := by
  unfold zbR
  split <;> omega
 unfold zcO
 rw [h]
 exact zi6 p.toNat big m (zcx (by omega)) (by omega)
end Go.Proofs.Ytgkllgoelpfdkaa
