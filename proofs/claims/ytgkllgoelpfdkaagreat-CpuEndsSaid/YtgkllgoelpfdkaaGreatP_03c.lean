import Derived.Test.YtgkllgoelpfdkaaGreatP_03b
import Derived.KernelRfl
namespace Go.Proofs.YtgkllgoelpfdkaaGreat
open Go.Ab Go.RowKit
set_option linter.unusedVariables false
set_option linter.unusedSimpArgs false
theorem zjV (l : List UInt8) (hl : l.length ≤ 1000000000) : ∀ (n i : Nat) (acc : List UInt8), i ≤ l.length → l.length - i < n → acc.length ≤ i → zeh l n acc (i : Int) = some (acc ++ l.drop i)
 | 0, i, _, _, h, _ => by omega
 | n + 1, i, acc, hi, h, ha => by
  show zdS _ l acc (i : Int) = _
  unfold zdS
  by_cases hlt : i < l.length
  ·rw [z0 (by omega), if_pos rfl, zb8 hlt, Option.bind_some]
   have ih := zjV l hl n (i + 1) (acc ++ [l[i]]) (by omega) (by omega) (by simp; omega)
   rw [List.append_assoc, List.singleton_append, ← List.drop_eq_getElem_cons hlt] at ih
   rw [z5 (by simp; omega), Option.bind_some, zbt (by omega)]; exact ih
  ·rw [zR (by omega), if_neg (by simp), List.drop_of_length_le (by omega), List.append_nil]
theorem zmh {l : List UInt8} (hl : l.length ≤ 1000000000) : zd9 l = some l := by
 have := zjV l hl big 0 [] (by omega) (zbV (by omega)) (by simp)
 exact this
theorem zkc (i : Ins) (hi : rgI i) (l : List Dp) (hl : l.length ≤ 100) (o : Bool) : ∀ (n k : Nat) (b : List UInt8), k ≤ l.length → l.length - k < n → b.length ≤ 100000000 + 10 * k → z1 (l.drop k) i = true →
  zdq i (zj l, o) n b (k : Int) = some (b ++ z4 (l.drop k) i)
 | 0, k, _, _, h, _, _ => by omega
 | n + 1, k, b, hk, h, hb, hr => by
  show zeQ _ i (zj l, o) b (k : Int) = _
  unfold zeQ
  simp only
  rw [zkf]
  by_cases hlt : k < l.length
  ·rw [List.drop_eq_getElem_cons hlt] at hr ⊢
   rw [zjx, Bool.and_eq_true] at hr
   have h10 := ziO hr.1 hi
   have ih := zkc i hi l hl o n (k + 1) (b ++ enP l[k] i) (by omega) (by omega) (by rw [List.length_append]; omega) hr.2
   rw [z0 (by omega), if_pos rfl, zjU hlt, Option.bind_some, zfE, ← List.append_assoc, ← ih]
   have hp := hr.1
   unfold zcf zhC
   rw [zbt (by omega)]
   generalize zdq i (zj l, o) n = rec
   cases hpk : l[k] <;> rw [hpk] at hp <;> unfold rtP at hp <;> simp only [decide_eq_true_eq] at hp <;> unfold zcw enP <;> simp only [show ((114 : UInt8).toNat : Int) = 114 from rfl, show ((97 : UInt8).toNat : Int) = 97 from rfl, show ((111 : UInt8).toNat : Int) = 111 from rfl, show ((116 : UInt8).toNat : Int) = 116 from rfl, show ((109 : UInt8).toNat : Int) = 109 from rfl, show ((106 : UInt8).toNat : Int) = 106 from rfl, show ((107 : UInt8).toNat : Int) = 107 from rfl, show ((110 : UInt8).toNat : Int) = 110 from rfl, Int.reduceBEq, Bool.false_eq_true, if_false, if_true]
   ·rw [u8w (by omega), Option.bind_some, z5 (by omega), Option.bind_some]
   ·rw [zoZ, if_pos hp, Option.bind_some]
    simp only
    rw [u8i (by omega), Option.bind_some, z5 (by omega), Option.bind_some]
   ·rw [z5 (by omega), Option.bind_some]
   ·rw [u8w (by omega), Option.bind_some, z5 (by omega), Option.bind_some]
   ·have hw : IntKind.u64.wrap i.M = ((i.M.toNat : Nat) : Int) := by rw [zgr]; omega
    rw [hw, show zfj b ((i.M.toNat : Nat) : Int) = _ from zng (by omega) (by omega), Option.bind_some]
   ·rw [zpb (by omega), if_neg (by omega), Option.bind_some]
   ·rw [u8w (by omega), Option.bind_some, z5 (by omega), Option.bind_some]
   ·rw [show zep b i.N = _ from zkQ (by omega) hi, Option.bind_some]
   ·rw [show zep b i.N = _ from zkQ (by omega) hi, Option.bind_some]
  ·rw [zR (by omega), if_neg (by simp), List.drop_of_length_le (by omega)]
   simp [z4]
theorem zmR {i : Ins} {b : List UInt8} (hi : rgI i) (hb : b.length ≤ 1000000) : zfy b i = some (if Rti i = true then b ++ zcA i else b) := by
 unfold zfy
 have hlt := i.Kind.toNat_lt
 have hR : zT ⟨i.Kind, i.Op, i.R, i.S, i.T, i.N, i.M⟩ = _ := zmW i
 rw [zmh (by omega), Option.bind_some, hR, Option.bind_some]
 by_cases h : Rti i = true
 ·obtain ⟨l, hp, hr, _, hbd⟩ := ziR h
  have h4 := zdO hp
  rw [h, Bool.not_true, if_neg (by simp), z5 (by omega), Option.bind_some, zbz (by omega), hp, Option.bind_some, if_pos rfl]
  have := zkc i hi l (by omega) true big 0 (b ++ [i.Kind]) (by omega) (zbV (by omega)) (by simp; omega) (by simpa using hr)
  rw [List.drop_zero] at this
  refine Eq.trans this ?_
  unfold zcA
  rw [hbd]
  simp
 ·have h2 : Rti i = false := by simpa using h
  rw [h2]
  rfl
end Go.Proofs.YtgkllgoelpfdkaaGreat
