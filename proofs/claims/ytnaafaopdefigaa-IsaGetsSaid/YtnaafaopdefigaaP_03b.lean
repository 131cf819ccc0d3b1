import Derived.Test.YtnaafaopdefigaaAd
import Derived.Test.YtnaafaopdefigaaF
import Derived.Test.YtnaafaopdefigaaPL
import Derived.Test.YtnaafaopdefigaaP_02
import Derived.Test.YtnaafaopdefigaaP_01
import Derived.Test.YtnaafaopdefigaaP_03
import Derived.KernelRfl
namespace Go.Proofs.Ytnaafaopdefigaa
open Go.Ab Go.RowKit
set_option linter.unusedVariables false
set_option linter.unusedSimpArgs false
def let3 (p : Dp) : UInt8 := match p with
  | .c_one_1 => 114
  | .c_both_1 => 97
  | .c_op_1 _ _ => 111
  | .c_third_1 => 116
  | .c_bound_1 => 109
  | .c_to_1 => 106
  | .c_how_1 => 107
  | .c_parts_1 => 110
  | .c_within => 110
def str3 (l : List Dp) : ByteArray := ⟨(l.map let3).toArray⟩
def rpO (o : Option (List Dp)) : ByteArray × Bool := match o with
  | some l => (str3 l, true)
  | none => (⟨#[]⟩, false)
theorem zh {k : Int} (hk : 0 ≤ k ∧ k < 256) : zf k = some (rpO (prts k)) := by
  rcases k_cases k with h | h | h | h | h | h | h | h | h | h | h | h | h | h | h | h | h | h | h
  all_goals first | (subst h; rfl) | skip
  rw [prts_none h]
  unfold zf
  rw [wi64 (by omega), if_pos]
  · rfl
  · simp only [Bool.or_eq_true, decide_eq_true_eq, List.length_cons, List.length_nil]
    omega
theorem getS_lt {l : List Dp} {k : Nat} (h : k < l.length) : getS (str3 l) (k : Int) = some (let3 l[k]) := by
  unfold getS str3
  rw [if_pos (by omega), Int.toNat_natCast]
  show (⟨(l.map let3).toArray⟩ : ByteArray)[k]? = _
  have : (⟨(l.map let3).toArray⟩ : ByteArray)[k]? = (l.map let3)[k]? := by
    show ((⟨(l.map let3).toArray⟩ : ByteArray).data)[k]? = _
    simp
  rw [this]
  simp [h]
theorem str3_size (l : List Dp) : ((str3 l).size : Int) = l.length := by
  unfold str3
  show (((l.map let3).toArray.size : Nat) : Int) = _
  simp
theorem has_loop (l : List Dp) (hl : l.length ≤ 100) (c : Int) : ∀ (n k : Nat), k ≤ l.length → l.length - k < n → zb0 (str3 l) c n (k : Int) = some ((l.drop k).any fun p => ((let3 p).toNat : Int) == c)
  | 0, k, _, h => by omega
  | n + 1, k, hk, h => by
    show zby _ (str3 l) c (k : Int) = _
    unfold zby
    rw [str3_size]
    by_cases hlt : k < l.length
    · rw [decT (by omega), if_pos rfl, getS_lt hlt, Option.bind_some, List.drop_eq_getElem_cons hlt, List.any_cons]
      cases hc : ((let3 l[k]).toNat : Int) == c
      · rw [if_neg (by simp), i64_succ (by omega), has_loop l hl c n (k + 1) (by omega) (by omega), Bool.false_or]
      · rw [if_pos rfl, Bool.true_or]
    · rw [decF (by omega), if_neg (by simp), List.drop_of_length_le (by omega)]
      rfl
theorem zc {l : List Dp} (hl : l.length ≤ 100) (c : Int) : zb (str3 l) c = some (l.any fun p => ((let3 p).toNat : Int) == c) := by
  have := has_loop l hl c big 0 (by omega) (big_gt (by omega))
  rw [List.drop_zero] at this
  exact this
theorem zj (n : Int) (t : Bool) : zx n t = some (decide (n = 0 ∨ (t = true ∧ 0 < n ∧ n < 16))) := by
  unfold zx
  by_cases h0 : n = 0
  · subst h0; simp
  · rw [beqF h0]
    cases t
    · simp [h0]
    · by_cases h1 : 0 < n
      · simp [h0, h1]
      · simp [h0, h1]
theorem u8z (x : UInt8) : x = 0 ↔ (x.toNat : Int) = 0 := by
  rw [← u8toNat_inj]; rfl
theorem ifO (a b : Bool) : (if a = true then some true else some b) = some (a || b) := by cases a <;> rfl
theorem ifA (a b : Bool) : (if a = true then some b else some false) = some (a && b) := by cases a <;> rfl
theorem ifF (a b : Bool) : (if a = true then some false else some b) = some (!a && b) := by cases a <;> rfl
theorem rR_k1 (K O : UInt8) (R S T N M : Int) (h : (K.toNat : Int) = 1) : ze ⟨K, O, R, S, T, N, M⟩ = some (Rti ⟨K, O, R, S, T, N, M⟩) := by
  have hz : (0 : UInt8) = O ↔ (O.toNat : Int) = 0 := by rw [← u8z O]; exact eq_comm
  have hO := O.toNat_lt
  have hp : prts 1 = some [] := rfl
  have hP : zf 1 = some (str3 [], true) := by rw [zh (by omega), hp]; rfl
  have q114 : zb (str3 []) 114 = some false := by rw [zc (by decide)]; rfl
  have q97 : zb (str3 []) 97 = some false := by rw [zc (by decide)]; rfl
  have q116 : zb (str3 []) 116 = some false := by rw [zc (by decide)]; rfl
  have q109 : zb (str3 []) 109 = some false := by rw [zc (by decide)]; rfl
  have q110 : zb (str3 []) 110 = some false := by rw [zc (by decide)]; rfl
  have q106 : zb (str3 []) 106 = some false := by rw [zc (by decide)]; rfl
  have q107 : zb (str3 []) 107 = some false := by rw [zc (by decide)]; rfl
  unfold ze zg Rti
  simp only [h, hP, hp, Option.bind_some, q114, q97, q116, q109, q110, q106, q107, zj, Bool.not_true, Bool.not_false, Bool.false_eq_true, if_true, if_false, rtAll, List.all_cons, List.all_nil, rtP, seAll, List.foldl_cons, List.foldl_nil, seP, bse, Bool.and_true, za.mk.injEq, true_and, and_true, hz, ifO, ifA, ifF, Int.reduceBEq]
  congr 1
  rw [Bool.eq_iff_iff]
  simp only [Bool.and_eq_true, Bool.or_eq_true, Bool.not_eq_true', Bool.or_eq_false_iff, Bool.and_eq_false_iff, Bool.not_eq_false', decide_eq_true_eq, decide_eq_false_iff_not, bne_iff_ne, ne_eq, beq_iff_eq, bne_eq_false_iff_eq, Bool.false_eq_true, false_or, or_false, false_and, and_false, true_and, and_true, or_true, true_or, not_true_eq_false, not_false_eq_true, reduceCtorEq]
  omega
theorem rR_k2 (K O : UInt8) (R S T N M : Int) (h : (K.toNat : Int) = 2) : ze ⟨K, O, R, S, T, N, M⟩ = some (Rti ⟨K, O, R, S, T, N, M⟩) := by
  have hz : (0 : UInt8) = O ↔ (O.toNat : Int) = 0 := by rw [← u8z O]; exact eq_comm
  have hO := O.toNat_lt
  have hp : prts 2 = some [.c_one_1, .c_parts_1] := rfl
  have hP : zf 2 = some (str3 [.c_one_1, .c_parts_1], true) := by rw [zh (by omega), hp]; rfl
  have q114 : zb (str3 [.c_one_1, .c_parts_1]) 114 = some true := by rw [zc (by decide)]; rfl
  have q97 : zb (str3 [.c_one_1, .c_parts_1]) 97 = some false := by rw [zc (by decide)]; rfl
  have q116 : zb (str3 [.c_one_1, .c_parts_1]) 116 = some false := by rw [zc (by decide)]; rfl
  have q109 : zb (str3 [.c_one_1, .c_parts_1]) 109 = some false := by rw [zc (by decide)]; rfl
  have q110 : zb (str3 [.c_one_1, .c_parts_1]) 110 = some true := by rw [zc (by decide)]; rfl
  have q106 : zb (str3 [.c_one_1, .c_parts_1]) 106 = some false := by rw [zc (by decide)]; rfl
  have q107 : zb (str3 [.c_one_1, .c_parts_1]) 107 = some false := by rw [zc (by decide)]; rfl
  unfold ze zg Rti
  simp only [h, hP, hp, Option.bind_some, q114, q97, q116, q109, q110, q106, q107, zj, Bool.not_true, Bool.not_false, Bool.false_eq_true, if_true, if_false, rtAll, List.all_cons, List.all_nil, rtP, seAll, List.foldl_cons, List.foldl_nil, seP, bse, Bool.and_true, za.mk.injEq, true_and, and_true, hz, ifO, ifA, ifF, Int.reduceBEq]
  congr 1
  rw [Bool.eq_iff_iff]
  simp only [Bool.and_eq_true, Bool.or_eq_true, Bool.not_eq_true', Bool.or_eq_false_iff, Bool.and_eq_false_iff, Bool.not_eq_false', decide_eq_true_eq, decide_eq_false_iff_not, bne_iff_ne, ne_eq, beq_iff_eq, bne_eq_false_iff_eq, Bool.false_eq_true, false_or, or_false, false_and, and_false, true_and, and_true, or_true, true_or, not_true_eq_false, not_false_eq_true, reduceCtorEq]
  omega
theorem rR_k3 (K O : UInt8) (R S T N M : Int) (h : (K.toNat : Int) = 3) : ze ⟨K, O, R, S, T, N, M⟩ = some (Rti ⟨K, O, R, S, T, N, M⟩) := by
  have hz : (0 : UInt8) = O ↔ (O.toNat : Int) = 0 := by rw [← u8z O]; exact eq_comm
  have hO := O.toNat_lt
  have hp : prts 3 = some [.c_both_1] := rfl
  have hP : zf 3 = some (str3 [.c_both_1], true) := by rw [zh (by omega), hp]; rfl
  have q114 : zb (str3 [.c_both_1]) 114 = some false := by rw [zc (by decide)]; rfl
  have q97 : zb (str3 [.c_both_1]) 97 = some true := by rw [zc (by decide)]; rfl
  have q116 : zb (str3 [.c_both_1]) 116 = some false := by rw [zc (by decide)]; rfl
  have q109 : zb (str3 [.c_both_1]) 109 = some false := by rw [zc (by decide)]; rfl
  have q110 : zb (str3 [.c_both_1]) 110 = some false := by rw [zc (by decide)]; rfl
  have q106 : zb (str3 [.c_both_1]) 106 = some false := by rw [zc (by decide)]; rfl
  have q107 : zb (str3 [.c_both_1]) 107 = some false := by rw [zc (by decide)]; rfl
  unfold ze zg Rti
  simp only [h, hP, hp, Option.bind_some, q114, q97, q116, q109, q110, q106, q107, zj, Bool.not_true, Bool.not_false, Bool.false_eq_true, if_true, if_false, rtAll, List.all_cons, List.all_nil, rtP, seAll, List.foldl_cons, List.foldl_nil, seP, bse, Bool.and_true, za.mk.injEq, true_and, and_true, hz, ifO, ifA, ifF, Int.reduceBEq]
  congr 1
  rw [Bool.eq_iff_iff]
  simp only [Bool.and_eq_true, Bool.or_eq_true, Bool.not_eq_true', Bool.or_eq_false_iff, Bool.and_eq_false_iff, Bool.not_eq_false', decide_eq_true_eq, decide_eq_false_iff_not, bne_iff_ne, ne_eq, beq_iff_eq, bne_eq_false_iff_eq, Bool.false_eq_true, false_or, or_false, false_and, and_false, true_and, and_true, or_true, true_or, not_true_eq_false, not_false_eq_true, reduceCtorEq]
  omega
theorem rR_k4 (K O : UInt8) (R S T N M : Int) (h : (K.toNat : Int) = 4) : ze ⟨K, O, R, S, T, N, M⟩ = some (Rti ⟨K, O, R, S, T, N, M⟩) := by
  have hz : (0 : UInt8) = O ↔ (O.toNat : Int) = 0 := by rw [← u8z O]; exact eq_comm
  have hO := O.toNat_lt
  have hp : prts 4 = some [.c_op_1 1 13, .c_both_1, .c_third_1] := rfl
  have hP : zf 4 = some (str3 [.c_op_1 1 13, .c_both_1, .c_third_1], true) := by rw [zh (by omega), hp]; rfl
  have q114 : zb (str3 [.c_op_1 1 13, .c_both_1, .c_third_1]) 114 = some false := by rw [zc (by decide)]; rfl
  have q97 : zb (str3 [.c_op_1 1 13, .c_both_1, .c_third_1]) 97 = some true := by rw [zc (by decide)]; rfl
  have q116 : zb (str3 [.c_op_1 1 13, .c_both_1, .c_third_1]) 116 = some true := by rw [zc (by decide)]; rfl
  have q109 : zb (str3 [.c_op_1 1 13, .c_both_1, .c_third_1]) 109 = some false := by rw [zc (by decide)]; rfl
  have q110 : zb (str3 [.c_op_1 1 13, .c_both_1, .c_third_1]) 110 = some false := by rw [zc (by decide)]; rfl
  have q106 : zb (str3 [.c_op_1 1 13, .c_both_1, .c_third_1]) 106 = some false := by rw [zc (by decide)]; rfl
  have q107 : zb (str3 [.c_op_1 1 13, .c_both_1, .c_third_1]) 107 = some false := by rw [zc (by decide)]; rfl
  unfold ze zg Rti
  simp only [h, hP, hp, Option.bind_some, q114, q97, q116, q109, q110, q106, q107, zj, Bool.not_true, Bool.not_false, Bool.false_eq_true, if_true, if_false, rtAll, List.all_cons, List.all_nil, rtP, seAll, List.foldl_cons, List.foldl_nil, seP, bse, Bool.and_true, za.mk.injEq, true_and, and_true, hz, ifO, ifA, ifF, Int.reduceBEq]
  congr 1
  rw [Bool.eq_iff_iff]
  simp only [Bool.and_eq_true, Bool.or_eq_true, Bool.not_eq_true', Bool.or_eq_false_iff, Bool.and_eq_false_iff, Bool.not_eq_false', decide_eq_true_eq, decide_eq_false_iff_not, bne_iff_ne, ne_eq, beq_iff_eq, bne_eq_false_iff_eq, Bool.false_eq_true, false_or, or_false, false_and, and_false, true_and, and_true, or_true, true_or, not_true_eq_false, not_false_eq_true, reduceCtorEq]
  omega
theorem rR_k5 (K O : UInt8) (R S T N M : Int) (h : (K.toNat : Int) = 5) : ze ⟨K, O, R, S, T, N, M⟩ = some (Rti ⟨K, O, R, S, T, N, M⟩) := by
  have hz : (0 : UInt8) = O ↔ (O.toNat : Int) = 0 := by rw [← u8z O]; exact eq_comm
  have hO := O.toNat_lt
  have hp : prts 5 = some [.c_op_1 14 15, .c_both_1] := rfl
  have hP : zf 5 = some (str3 [.c_op_1 14 15, .c_both_1], true) := by rw [zh (by omega), hp]; rfl
  have q114 : zb (str3 [.c_op_1 14 15, .c_both_1]) 114 = some false := by rw [zc (by decide)]; rfl
  have q97 : zb (str3 [.c_op_1 14 15, .c_both_1]) 97 = some true := by rw [zc (by decide)]; rfl
  have q116 : zb (str3 [.c_op_1 14 15, .c_both_1]) 116 = some false := by rw [zc (by decide)]; rfl
  have q109 : zb (str3 [.c_op_1 14 15, .c_both_1]) 109 = some false := by rw [zc (by decide)]; rfl
  have q110 : zb (str3 [.c_op_1 14 15, .c_both_1]) 110 = some false := by rw [zc (by decide)]; rfl
  have q106 : zb (str3 [.c_op_1 14 15, .c_both_1]) 106 = some false := by rw [zc (by decide)]; rfl
  have q107 : zb (str3 [.c_op_1 14 15, .c_both_1]) 107 = some false := by rw [zc (by decide)]; rfl
  unfold ze zg Rti
  simp only [h, hP, hp, Option.bind_some, q114, q97, q116, q109, q110, q106, q107, zj, Bool.not_true, Bool.not_false, Bool.false_eq_true, if_true, if_false, rtAll, List.all_cons, List.all_nil, rtP, seAll, List.foldl_cons, List.foldl_nil, seP, bse, Bool.and_true, za.mk.injEq, true_and, and_true, hz, ifO, ifA, ifF, Int.reduceBEq]
  congr 1
  rw [Bool.eq_iff_iff]
  simp only [Bool.and_eq_true, Bool.or_eq_true, Bool.not_eq_true', Bool.or_eq_false_iff, Bool.and_eq_false_iff, Bool.not_eq_false', decide_eq_true_eq, decide_eq_false_iff_not, bne_iff_ne, ne_eq, beq_iff_eq, bne_eq_false_iff_eq, Bool.false_eq_true, false_or, or_false, false_and, and_false, true_and, and_true, or_true, true_or, not_true_eq_false, not_false_eq_true, reduceCtorEq]
  omega
theorem rR_k6 (K O : UInt8) (R S T N M : Int) (h : (K.toNat : Int) = 6) : ze ⟨K, O, R, S, T, N, M⟩ = some (Rti ⟨K, O, R, S, T, N, M⟩) := by
  have hz : (0 : UInt8) = O ↔ (O.toNat : Int) = 0 := by rw [← u8z O]; exact eq_comm
  have hO := O.toNat_lt
  have hp : prts 6 = some [.c_both_1, .c_within] := rfl
  have hP : zf 6 = some (str3 [.c_both_1, .c_within], true) := by rw [zh (by omega), hp]; rfl
  have q114 : zb (str3 [.c_both_1, .c_within]) 114 = some false := by rw [zc (by decide)]; rfl
  have q97 : zb (str3 [.c_both_1, .c_within]) 97 = some true := by rw [zc (by decide)]; rfl
  have q116 : zb (str3 [.c_both_1, .c_within]) 116 = some false := by rw [zc (by decide)]; rfl
  have q109 : zb (str3 [.c_both_1, .c_within]) 109 = some false := by rw [zc (by decide)]; rfl
  have q110 : zb (str3 [.c_both_1, .c_within]) 110 = some true := by rw [zc (by decide)]; rfl
  have q106 : zb (str3 [.c_both_1, .c_within]) 106 = some false := by rw [zc (by decide)]; rfl
  have q107 : zb (str3 [.c_both_1, .c_within]) 107 = some false := by rw [zc (by decide)]; rfl
  unfold ze zg Rti
  simp only [h, hP, hp, Option.bind_some, q114, q97, q116, q109, q110, q106, q107, zj, Bool.not_true, Bool.not_false, Bool.false_eq_true, if_true, if_false, rtAll, List.all_cons, List.all_nil, rtP, seAll, List.foldl_cons, List.foldl_nil, seP, bse, Bool.and_true, za.mk.injEq, true_and, and_true, hz, ifO, ifA, ifF, Int.reduceBEq]
  congr 1
  rw [Bool.eq_iff_iff]
  simp only [Bool.and_eq_true, Bool.or_eq_true, Bool.not_eq_true', Bool.or_eq_false_iff, Bool.and_eq_false_iff, Bool.not_eq_false', decide_eq_true_eq, decide_eq_false_iff_not, bne_iff_ne, ne_eq, beq_iff_eq, bne_eq_false_iff_eq, Bool.false_eq_true, false_or, or_false, false_and, and_false, true_and, and_true, or_true, true_or, not_true_eq_false, not_false_eq_true, reduceCtorEq]
  omega
theorem rR_k7 (K O : UInt8) (R S T N M : Int) (h : (K.toNat : Int) = 7) : ze ⟨K, O, R, S, T, N, M⟩ = some (Rti ⟨K, O, R, S, T, N, M⟩) := by
  have hz : (0 : UInt8) = O ↔ (O.toNat : Int) = 0 := by rw [← u8z O]; exact eq_comm
  have hO := O.toNat_lt
  have hp : prts 7 = some [.c_both_1, .c_within] := rfl
  have hP : zf 7 = some (str3 [.c_both_1, .c_within], true) := by rw [zh (by omega), hp]; rfl
  have q114 : zb (str3 [.c_both_1, .c_within]) 114 = some false := by rw [zc (by decide)]; rfl
  have q97 : zb (str3 [.c_both_1, .c_within]) 97 = some true := by rw [zc (by decide)]; rfl
  have q116 : zb (str3 [.c_both_1, .c_within]) 116 = some false := by rw [zc (by decide)]; rfl
  have q109 : zb (str3 [.c_both_1, .c_within]) 109 = some false := by rw [zc (by decide)]; rfl
  have q110 : zb (str3 [.c_both_1, .c_within]) 110 = some true := by rw [zc (by decide)]; rfl
  have q106 : zb (str3 [.c_both_1, .c_within]) 106 = some false := by rw [zc (by decide)]; rfl
  have q107 : zb (str3 [.c_both_1, .c_within]) 107 = some false := by rw [zc (by decide)]; rfl
  unfold ze zg Rti
  simp only [h, hP, hp, Option.bind_some, q114, q97, q116, q109, q110, q106, q107, zj, Bool.not_true, Bool.not_false, Bool.false_eq_true, if_true, if_false, rtAll, List.all_cons, List.all_nil, rtP, seAll, List.foldl_cons, List.foldl_nil, seP, bse, Bool.and_true, za.mk.injEq, true_and, and_true, hz, ifO, ifA, ifF, Int.reduceBEq]
  congr 1
  rw [Bool.eq_iff_iff]
  simp only [Bool.and_eq_true, Bool.or_eq_true, Bool.not_eq_true', Bool.or_eq_false_iff, Bool.and_eq_false_iff, Bool.not_eq_false', decide_eq_true_eq, decide_eq_false_iff_not, bne_iff_ne, ne_eq, beq_iff_eq, bne_eq_false_iff_eq, Bool.false_eq_true, false_or, or_false, false_and, and_false, true_and, and_true, or_true, true_or, not_true_eq_false, not_false_eq_true, reduceCtorEq]
  omega
theorem rR_k8 (K O : UInt8) (R S T N M : Int) (h : (K.toNat : Int) = 8) : ze ⟨K, O, R, S, T, N, M⟩ = some (Rti ⟨K, O, R, S, T, N, M⟩) := by
  have hz : (0 : UInt8) = O ↔ (O.toNat : Int) = 0 := by rw [← u8z O]; exact eq_comm
  have hO := O.toNat_lt
  have hp : prts 8 = some [.c_both_1, .c_third_1, .c_within, .c_bound_1] := rfl
  have hP : zf 8 = some (str3 [.c_both_1, .c_third_1, .c_within, .c_bound_1], true) := by rw [zh (by omega), hp]; rfl
  have q114 : zb (str3 [.c_both_1, .c_third_1, .c_within, .c_bound_1]) 114 = some false := by rw [zc (by decide)]; rfl
  have q97 : zb (str3 [.c_both_1, .c_third_1, .c_within, .c_bound_1]) 97 = some true := by rw [zc (by decide)]; rfl
  have q116 : zb (str3 [.c_both_1, .c_third_1, .c_within, .c_bound_1]) 116 = some true := by rw [zc (by decide)]; rfl
  have q109 : zb (str3 [.c_both_1, .c_third_1, .c_within, .c_bound_1]) 109 = some true := by rw [zc (by decide)]; rfl
  have q110 : zb (str3 [.c_both_1, .c_third_1, .c_within, .c_bound_1]) 110 = some true := by rw [zc (by decide)]; rfl
  have q106 : zb (str3 [.c_both_1, .c_third_1, .c_within, .c_bound_1]) 106 = some false := by rw [zc (by decide)]; rfl
  have q107 : zb (str3 [.c_both_1, .c_third_1, .c_within, .c_bound_1]) 107 = some false := by rw [zc (by decide)]; rfl
  unfold ze zg Rti
  simp only [h, hP, hp, Option.bind_some, q114, q97, q116, q109, q110, q106, q107, zj, Bool.not_true, Bool.not_false, Bool.false_eq_true, if_true, if_false, rtAll, List.all_cons, List.all_nil, rtP, seAll, List.foldl_cons, List.foldl_nil, seP, bse, Bool.and_true, za.mk.injEq, true_and, and_true, hz, ifO, ifA, ifF, Int.reduceBEq]
  congr 1
  rw [Bool.eq_iff_iff]
  simp only [Bool.and_eq_true, Bool.or_eq_true, Bool.not_eq_true', Bool.or_eq_false_iff, Bool.and_eq_false_iff, Bool.not_eq_false', decide_eq_true_eq, decide_eq_false_iff_not, bne_iff_ne, ne_eq, beq_iff_eq, bne_eq_false_iff_eq, Bool.false_eq_true, false_or, or_false, false_and, and_false, true_and, and_true, or_true, true_or, not_true_eq_false, not_false_eq_true, reduceCtorEq]
  omega
theorem rR_k9 (K O : UInt8) (R S T N M : Int) (h : (K.toNat : Int) = 9) : ze ⟨K, O, R, S, T, N, M⟩ = some (Rti ⟨K, O, R, S, T, N, M⟩) := by
  have hz : (0 : UInt8) = O ↔ (O.toNat : Int) = 0 := by rw [← u8z O]; exact eq_comm
  have hO := O.toNat_lt
  have hp : prts 9 = some [.c_both_1, .c_third_1, .c_within, .c_bound_1] := rfl
  have hP : zf 9 = some (str3 [.c_both_1, .c_third_1, .c_within, .c_bound_1], true) := by rw [zh (by omega), hp]; rfl
  have q114 : zb (str3 [.c_both_1, .c_third_1, .c_within, .c_bound_1]) 114 = some false := by rw [zc (by decide)]; rfl
  have q97 : zb (str3 [.c_both_1, .c_third_1, .c_within, .c_bound_1]) 97 = some true := by rw [zc (by decide)]; rfl
  have q116 : zb (str3 [.c_both_1, .c_third_1, .c_within, .c_bound_1]) 116 = some true := by rw [zc (by decide)]; rfl
  have q109 : zb (str3 [.c_both_1, .c_third_1, .c_within, .c_bound_1]) 109 = some true := by rw [zc (by decide)]; rfl
  have q110 : zb (str3 [.c_both_1, .c_third_1, .c_within, .c_bound_1]) 110 = some true := by rw [zc (by decide)]; rfl
  have q106 : zb (str3 [.c_both_1, .c_third_1, .c_within, .c_bound_1]) 106 = some false := by rw [zc (by decide)]; rfl
  have q107 : zb (str3 [.c_both_1, .c_third_1, .c_within, .c_bound_1]) 107 = some false := by rw [zc (by decide)]; rfl
  unfold ze zg Rti
  simp only [h, hP, hp, Option.bind_some, q114, q97, q116, q109, q110, q106, q107, zj, Bool.not_true, Bool.not_false, Bool.false_eq_true, if_true, if_false, rtAll, List.all_cons, List.all_nil, rtP, seAll, List.foldl_cons, List.foldl_nil, seP, bse, Bool.and_true, za.mk.injEq, true_and, and_true, hz, ifO, ifA, ifF, Int.reduceBEq]
  congr 1
  rw [Bool.eq_iff_iff]
  simp only [Bool.and_eq_true, Bool.or_eq_true, Bool.not_eq_true', Bool.or_eq_false_iff, Bool.and_eq_false_iff, Bool.not_eq_false', decide_eq_true_eq, decide_eq_false_iff_not, bne_iff_ne, ne_eq, beq_iff_eq, bne_eq_false_iff_eq, Bool.false_eq_true, false_or, or_false, false_and, and_false, true_and, and_true, or_true, true_or, not_true_eq_false, not_false_eq_true, reduceCtorEq]
  omega
theorem rR_k10 (K O : UInt8) (R S T N M : Int) (h : (K.toNat : Int) = 10) : ze ⟨K, O, R, S, T, N, M⟩ = some (Rti ⟨K, O, R, S, T, N, M⟩) := by
  have hz : (0 : UInt8) = O ↔ (O.toNat : Int) = 0 := by rw [← u8z O]; exact eq_comm
  have hO := O.toNat_lt
  have hp : prts 10 = some [.c_to_1] := rfl
  have hP : zf 10 = some (str3 [.c_to_1], true) := by rw [zh (by omega), hp]; rfl
  have q114 : zb (str3 [.c_to_1]) 114 = some false := by rw [zc (by decide)]; rfl
  have q97 : zb (str3 [.c_to_1]) 97 = some false := by rw [zc (by decide)]; rfl
  have q116 : zb (str3 [.c_to_1]) 116 = some false := by rw [zc (by decide)]; rfl
  have q109 : zb (str3 [.c_to_1]) 109 = some false := by rw [zc (by decide)]; rfl
  have q110 : zb (str3 [.c_to_1]) 110 = some false := by rw [zc (by decide)]; rfl
  have q106 : zb (str3 [.c_to_1]) 106 = some true := by rw [zc (by decide)]; rfl
  have q107 : zb (str3 [.c_to_1]) 107 = some false := by rw [zc (by decide)]; rfl
  unfold ze zg Rti
  simp only [h, hP, hp, Option.bind_some, q114, q97, q116, q109, q110, q106, q107, zj, Bool.not_true, Bool.not_false, Bool.false_eq_true, if_true, if_false, rtAll, List.all_cons, List.all_nil, rtP, seAll, List.foldl_cons, List.foldl_nil, seP, bse, Bool.and_true, za.mk.injEq, true_and, and_true, hz, ifO, ifA, ifF, Int.reduceBEq]
  congr 1
  rw [Bool.eq_iff_iff]
  simp only [Bool.and_eq_true, Bool.or_eq_true, Bool.not_eq_true', Bool.or_eq_false_iff, Bool.and_eq_false_iff, Bool.not_eq_false', decide_eq_true_eq, decide_eq_false_iff_not, bne_iff_ne, ne_eq, beq_iff_eq, bne_eq_false_iff_eq, Bool.false_eq_true, false_or, or_false, false_and, and_false, true_and, and_true, or_true, true_or, not_true_eq_false, not_false_eq_true, reduceCtorEq]
  omega
theorem rR_k11 (K O : UInt8) (R S T N M : Int) (h : (K.toNat : Int) = 11) : ze ⟨K, O, R, S, T, N, M⟩ = some (Rti ⟨K, O, R, S, T, N, M⟩) := by
  have hz : (0 : UInt8) = O ↔ (O.toNat : Int) = 0 := by rw [← u8z O]; exact eq_comm
  have hO := O.toNat_lt
  have hp : prts 11 = some [.c_one_1, .c_to_1] := rfl
  have hP : zf 11 = some (str3 [.c_one_1, .c_to_1], true) := by rw [zh (by omega), hp]; rfl
  have q114 : zb (str3 [.c_one_1, .c_to_1]) 114 = some true := by rw [zc (by decide)]; rfl
  have q97 : zb (str3 [.c_one_1, .c_to_1]) 97 = some false := by rw [zc (by decide)]; rfl
  have q116 : zb (str3 [.c_one_1, .c_to_1]) 116 = some false := by rw [zc (by decide)]; rfl
  have q109 : zb (str3 [.c_one_1, .c_to_1]) 109 = some false := by rw [zc (by decide)]; rfl
  have q110 : zb (str3 [.c_one_1, .c_to_1]) 110 = some false := by rw [zc (by decide)]; rfl
  have q106 : zb (str3 [.c_one_1, .c_to_1]) 106 = some true := by rw [zc (by decide)]; rfl
  have q107 : zb (str3 [.c_one_1, .c_to_1]) 107 = some false := by rw [zc (by decide)]; rfl
  unfold ze zg Rti
  simp only [h, hP, hp, Option.bind_some, q114, q97, q116, q109, q110, q106, q107, zj, Bool.not_true, Bool.not_false, Bool.false_eq_true, if_true, if_false, rtAll, List.all_cons, List.all_nil, rtP, seAll, List.foldl_cons, List.foldl_nil, seP, bse, Bool.and_true, za.mk.injEq, true_and, and_true, hz, ifO, ifA, ifF, Int.reduceBEq]
  congr 1
  rw [Bool.eq_iff_iff]
  simp only [Bool.and_eq_true, Bool.or_eq_true, Bool.not_eq_true', Bool.or_eq_false_iff, Bool.and_eq_false_iff, Bool.not_eq_false', decide_eq_true_eq, decide_eq_false_iff_not, bne_iff_ne, ne_eq, beq_iff_eq, bne_eq_false_iff_eq, Bool.false_eq_true, false_or, or_false, false_and, and_false, true_and, and_true, or_true, true_or, not_true_eq_false, not_false_eq_true, reduceCtorEq]
  omega
theorem rR_k12 (K O : UInt8) (R S T N M : Int) (h : (K.toNat : Int) = 12) : ze ⟨K, O, R, S, T, N, M⟩ = some (Rti ⟨K, O, R, S, T, N, M⟩) := by
  have hz : (0 : UInt8) = O ↔ (O.toNat : Int) = 0 := by rw [← u8z O]; exact eq_comm
  have hO := O.toNat_lt
  have hp : prts 12 = some [.c_to_1] := rfl
  have hP : zf 12 = some (str3 [.c_to_1], true) := by rw [zh (by omega), hp]; rfl
  have q114 : zb (str3 [.c_to_1]) 114 = some false := by rw [zc (by decide)]; rfl
  have q97 : zb (str3 [.c_to_1]) 97 = some false := by rw [zc (by decide)]; rfl
  have q116 : zb (str3 [.c_to_1]) 116 = some false := by rw [zc (by decide)]; rfl
  have q109 : zb (str3 [.c_to_1]) 109 = some false := by rw [zc (by decide)]; rfl
  have q110 : zb (str3 [.c_to_1]) 110 = some false := by rw [zc (by decide)]; rfl
  have q106 : zb (str3 [.c_to_1]) 106 = some true := by rw [zc (by decide)]; rfl
  have q107 : zb (str3 [.c_to_1]) 107 = some false := by rw [zc (by decide)]; rfl
  unfold ze zg Rti
  simp only [h, hP, hp, Option.bind_some, q114, q97, q116, q109, q110, q106, q107, zj, Bool.not_true, Bool.not_false, Bool.false_eq_true, if_true, if_false, rtAll, List.all_cons, List.all_nil, rtP, seAll, List.foldl_cons, List.foldl_nil, seP, bse, Bool.and_true, za.mk.injEq, true_and, and_true, hz, ifO, ifA, ifF, Int.reduceBEq]
  congr 1
  rw [Bool.eq_iff_iff]
  simp only [Bool.and_eq_true, Bool.or_eq_true, Bool.not_eq_true', Bool.or_eq_false_iff, Bool.and_eq_false_iff, Bool.not_eq_false', decide_eq_true_eq, decide_eq_false_iff_not, bne_iff_ne, ne_eq, beq_iff_eq, bne_eq_false_iff_eq, Bool.false_eq_true, false_or, or_false, false_and, and_false, true_and, and_true, or_true, true_or, not_true_eq_false, not_false_eq_true, reduceCtorEq]
  omega
theorem rR_k13 (K O : UInt8) (R S T N M : Int) (h : (K.toNat : Int) = 13) : ze ⟨K, O, R, S, T, N, M⟩ = some (Rti ⟨K, O, R, S, T, N, M⟩) := by
  have hz : (0 : UInt8) = O ↔ (O.toNat : Int) = 0 := by rw [← u8z O]; exact eq_comm
  have hO := O.toNat_lt
  have hp : prts 13 = some [] := rfl
  have hP : zf 13 = some (str3 [], true) := by rw [zh (by omega), hp]; rfl
  have q114 : zb (str3 []) 114 = some false := by rw [zc (by decide)]; rfl
  have q97 : zb (str3 []) 97 = some false := by rw [zc (by decide)]; rfl
  have q116 : zb (str3 []) 116 = some false := by rw [zc (by decide)]; rfl
  have q109 : zb (str3 []) 109 = some false := by rw [zc (by decide)]; rfl
  have q110 : zb (str3 []) 110 = some false := by rw [zc (by decide)]; rfl
  have q106 : zb (str3 []) 106 = some false := by rw [zc (by decide)]; rfl
  have q107 : zb (str3 []) 107 = some false := by rw [zc (by decide)]; rfl
  unfold ze zg Rti
  simp only [h, hP, hp, Option.bind_some, q114, q97, q116, q109, q110, q106, q107, zj, Bool.not_true, Bool.not_false, Bool.false_eq_true, if_true, if_false, rtAll, List.all_cons, List.all_nil, rtP, seAll, List.foldl_cons, List.foldl_nil, seP, bse, Bool.and_true, za.mk.injEq, true_and, and_true, hz, ifO, ifA, ifF, Int.reduceBEq]
  congr 1
  rw [Bool.eq_iff_iff]
  simp only [Bool.and_eq_true, Bool.or_eq_true, Bool.not_eq_true', Bool.or_eq_false_iff, Bool.and_eq_false_iff, Bool.not_eq_false', decide_eq_true_eq, decide_eq_false_iff_not, bne_iff_ne, ne_eq, beq_iff_eq, bne_eq_false_iff_eq, Bool.false_eq_true, false_or, or_false, false_and, and_false, true_and, and_true, or_true, true_or, not_true_eq_false, not_false_eq_true, reduceCtorEq]
  omega
theorem rR_k14 (K O : UInt8) (R S T N M : Int) (h : (K.toNat : Int) = 14) : ze ⟨K, O, R, S, T, N, M⟩ = some (Rti ⟨K, O, R, S, T, N, M⟩) := by
  have hz : (0 : UInt8) = O ↔ (O.toNat : Int) = 0 := by rw [← u8z O]; exact eq_comm
  have hO := O.toNat_lt
  have hp : prts 14 = some [.c_within] := rfl
  have hP : zf 14 = some (str3 [.c_within], true) := by rw [zh (by omega), hp]; rfl
  have q114 : zb (str3 [.c_within]) 114 = some false := by rw [zc (by decide)]; rfl
  have q97 : zb (str3 [.c_within]) 97 = some false := by rw [zc (by decide)]; rfl
  have q116 : zb (str3 [.c_within]) 116 = some false := by rw [zc (by decide)]; rfl
  have q109 : zb (str3 [.c_within]) 109 = some false := by rw [zc (by decide)]; rfl
  have q110 : zb (str3 [.c_within]) 110 = some true := by rw [zc (by decide)]; rfl
  have q106 : zb (str3 [.c_within]) 106 = some false := by rw [zc (by decide)]; rfl
  have q107 : zb (str3 [.c_within]) 107 = some false := by rw [zc (by decide)]; rfl
  unfold ze zg Rti
  simp only [h, hP, hp, Option.bind_some, q114, q97, q116, q109, q110, q106, q107, zj, Bool.not_true, Bool.not_false, Bool.false_eq_true, if_true, if_false, rtAll, List.all_cons, List.all_nil, rtP, seAll, List.foldl_cons, List.foldl_nil, seP, bse, Bool.and_true, za.mk.injEq, true_and, and_true, hz, ifO, ifA, ifF, Int.reduceBEq]
  congr 1
  rw [Bool.eq_iff_iff]
  simp only [Bool.and_eq_true, Bool.or_eq_true, Bool.not_eq_true', Bool.or_eq_false_iff, Bool.and_eq_false_iff, Bool.not_eq_false', decide_eq_true_eq, decide_eq_false_iff_not, bne_iff_ne, ne_eq, beq_iff_eq, bne_eq_false_iff_eq, Bool.false_eq_true, false_or, or_false, false_and, and_false, true_and, and_true, or_true, true_or, not_true_eq_false, not_false_eq_true, reduceCtorEq]
  omega
theorem rR_k15 (K O : UInt8) (R S T N M : Int) (h : (K.toNat : Int) = 15) : ze ⟨K, O, R, S, T, N, M⟩ = some (Rti ⟨K, O, R, S, T, N, M⟩) := by
  have hz : (0 : UInt8) = O ↔ (O.toNat : Int) = 0 := by rw [← u8z O]; exact eq_comm
  have hO := O.toNat_lt
  have hp : prts 15 = some [.c_one_1] := rfl
  have hP : zf 15 = some (str3 [.c_one_1], true) := by rw [zh (by omega), hp]; rfl
  have q114 : zb (str3 [.c_one_1]) 114 = some true := by rw [zc (by decide)]; rfl
  have q97 : zb (str3 [.c_one_1]) 97 = some false := by rw [zc (by decide)]; rfl
  have q116 : zb (str3 [.c_one_1]) 116 = some false := by rw [zc (by decide)]; rfl
  have q109 : zb (str3 [.c_one_1]) 109 = some false := by rw [zc (by decide)]; rfl
  have q110 : zb (str3 [.c_one_1]) 110 = some false := by rw [zc (by decide)]; rfl
  have q106 : zb (str3 [.c_one_1]) 106 = some false := by rw [zc (by decide)]; rfl
  have q107 : zb (str3 [.c_one_1]) 107 = some false := by rw [zc (by decide)]; rfl
  unfold ze zg Rti
  simp only [h, hP, hp, Option.bind_some, q114, q97, q116, q109, q110, q106, q107, zj, Bool.not_true, Bool.not_false, Bool.false_eq_true, if_true, if_false, rtAll, List.all_cons, List.all_nil, rtP, seAll, List.foldl_cons, List.foldl_nil, seP, bse, Bool.and_true, za.mk.injEq, true_and, and_true, hz, ifO, ifA, ifF, Int.reduceBEq]
  congr 1
  rw [Bool.eq_iff_iff]
  simp only [Bool.and_eq_true, Bool.or_eq_true, Bool.not_eq_true', Bool.or_eq_false_iff, Bool.and_eq_false_iff, Bool.not_eq_false', decide_eq_true_eq, decide_eq_false_iff_not, bne_iff_ne, ne_eq, beq_iff_eq, bne_eq_false_iff_eq, Bool.false_eq_true, false_or, or_false, false_and, and_false, true_and, and_true, or_true, true_or, not_true_eq_false, not_false_eq_true, reduceCtorEq]
  omega
theorem rR_k16 (K O : UInt8) (R S T N M : Int) (h : (K.toNat : Int) = 16) : ze ⟨K, O, R, S, T, N, M⟩ = some (Rti ⟨K, O, R, S, T, N, M⟩) := by
  have hz : (0 : UInt8) = O ↔ (O.toNat : Int) = 0 := by rw [← u8z O]; exact eq_comm
  have hO := O.toNat_lt
  have hp : prts 16 = some [.c_one_1] := rfl
  have hP : zf 16 = some (str3 [.c_one_1], true) := by rw [zh (by omega), hp]; rfl
  have q114 : zb (str3 [.c_one_1]) 114 = some true := by rw [zc (by decide)]; rfl
  have q97 : zb (str3 [.c_one_1]) 97 = some false := by rw [zc (by decide)]; rfl
  have q116 : zb (str3 [.c_one_1]) 116 = some false := by rw [zc (by decide)]; rfl
  have q109 : zb (str3 [.c_one_1]) 109 = some false := by rw [zc (by decide)]; rfl
  have q110 : zb (str3 [.c_one_1]) 110 = some false := by rw [zc (by decide)]; rfl
  have q106 : zb (str3 [.c_one_1]) 106 = some false := by rw [zc (by decide)]; rfl
  have q107 : zb (str3 [.c_one_1]) 107 = some false := by rw [zc (by decide)]; rfl
  unfold ze zg Rti
  simp only [h, hP, hp, Option.bind_some, q114, q97, q116, q109, q110, q106, q107, zj, Bool.not_true, Bool.not_false, Bool.false_eq_true, if_true, if_false, rtAll, List.all_cons, List.all_nil, rtP, seAll, List.foldl_cons, List.foldl_nil, seP, bse, Bool.and_true, za.mk.injEq, true_and, and_true, hz, ifO, ifA, ifF, Int.reduceBEq]
  congr 1
  rw [Bool.eq_iff_iff]
  simp only [Bool.and_eq_true, Bool.or_eq_true, Bool.not_eq_true', Bool.or_eq_false_iff, Bool.and_eq_false_iff, Bool.not_eq_false', decide_eq_true_eq, decide_eq_false_iff_not, bne_iff_ne, ne_eq, beq_iff_eq, bne_eq_false_iff_eq, Bool.false_eq_true, false_or, or_false, false_and, and_false, true_and, and_true, or_true, true_or, not_true_eq_false, not_false_eq_true, reduceCtorEq]
  omega
theorem rR_k17 (K O : UInt8) (R S T N M : Int) (h : (K.toNat : Int) = 17) : ze ⟨K, O, R, S, T, N, M⟩ = some (Rti ⟨K, O, R, S, T, N, M⟩) := by
  have hz : (0 : UInt8) = O ↔ (O.toNat : Int) = 0 := by rw [← u8z O]; exact eq_comm
  have hO := O.toNat_lt
  have hp : prts 17 = some [.c_one_1] := rfl
  have hP : zf 17 = some (str3 [.c_one_1], true) := by rw [zh (by omega), hp]; rfl
  have q114 : zb (str3 [.c_one_1]) 114 = some true := by rw [zc (by decide)]; rfl
  have q97 : zb (str3 [.c_one_1]) 97 = some false := by rw [zc (by decide)]; rfl
  have q116 : zb (str3 [.c_one_1]) 116 = some false := by rw [zc (by decide)]; rfl
  have q109 : zb (str3 [.c_one_1]) 109 = some false := by rw [zc (by decide)]; rfl
  have q110 : zb (str3 [.c_one_1]) 110 = some false := by rw [zc (by decide)]; rfl
  have q106 : zb (str3 [.c_one_1]) 106 = some false := by rw [zc (by decide)]; rfl
  have q107 : zb (str3 [.c_one_1]) 107 = some false := by rw [zc (by decide)]; rfl
  unfold ze zg Rti
  simp only [h, hP, hp, Option.bind_some, q114, q97, q116, q109, q110, q106, q107, zj, Bool.not_true, Bool.not_false, Bool.false_eq_true, if_true, if_false, rtAll, List.all_cons, List.all_nil, rtP, seAll, List.foldl_cons, List.foldl_nil, seP, bse, Bool.and_true, za.mk.injEq, true_and, and_true, hz, ifO, ifA, ifF, Int.reduceBEq]
  congr 1
  rw [Bool.eq_iff_iff]
  simp only [Bool.and_eq_true, Bool.or_eq_true, Bool.not_eq_true', Bool.or_eq_false_iff, Bool.and_eq_false_iff, Bool.not_eq_false', decide_eq_true_eq, decide_eq_false_iff_not, bne_iff_ne, ne_eq, beq_iff_eq, bne_eq_false_iff_eq, Bool.false_eq_true, false_or, or_false, false_and, and_false, true_and, and_true, or_true, true_or, not_true_eq_false, not_false_eq_true, reduceCtorEq]
  omega
theorem rR_k18 (K O : UInt8) (R S T N M : Int) (h : (K.toNat : Int) = 18) : ze ⟨K, O, R, S, T, N, M⟩ = some (Rti ⟨K, O, R, S, T, N, M⟩) := by
  have hz : (0 : UInt8) = O ↔ (O.toNat : Int) = 0 := by rw [← u8z O]; exact eq_comm
  have hO := O.toNat_lt
  have hp : prts 18 = some [.c_how_1] := rfl
  have hP : zf 18 = some (str3 [.c_how_1], true) := by rw [zh (by omega), hp]; rfl
  have q114 : zb (str3 [.c_how_1]) 114 = some false := by rw [zc (by decide)]; rfl
  have q97 : zb (str3 [.c_how_1]) 97 = some false := by rw [zc (by decide)]; rfl
  have q116 : zb (str3 [.c_how_1]) 116 = some false := by rw [zc (by decide)]; rfl
  have q109 : zb (str3 [.c_how_1]) 109 = some false := by rw [zc (by decide)]; rfl
  have q110 : zb (str3 [.c_how_1]) 110 = some false := by rw [zc (by decide)]; rfl
  have q106 : zb (str3 [.c_how_1]) 106 = some false := by rw [zc (by decide)]; rfl
  have q107 : zb (str3 [.c_how_1]) 107 = some true := by rw [zc (by decide)]; rfl
  unfold ze zg Rti
  simp only [h, hP, hp, Option.bind_some, q114, q97, q116, q109, q110, q106, q107, zj, Bool.not_true, Bool.not_false, Bool.false_eq_true, if_true, if_false, rtAll, List.all_cons, List.all_nil, rtP, seAll, List.foldl_cons, List.foldl_nil, seP, bse, Bool.and_true, za.mk.injEq, true_and, and_true, hz, ifO, ifA, ifF, Int.reduceBEq]
  congr 1
  rw [Bool.eq_iff_iff]
  simp only [Bool.and_eq_true, Bool.or_eq_true, Bool.not_eq_true', Bool.or_eq_false_iff, Bool.and_eq_false_iff, Bool.not_eq_false', decide_eq_true_eq, decide_eq_false_iff_not, bne_iff_ne, ne_eq, beq_iff_eq, bne_eq_false_iff_eq, Bool.false_eq_true, false_or, or_false, false_and, and_false, true_and, and_true, or_true, true_or, not_true_eq_false, not_false_eq_true, reduceCtorEq]
  omega
theorem zdM (i : Ins) : ze i = some (Rti i) := by
  obtain ⟨K, O, R, S, T, N, M⟩ := i
  have hlt := K.toNat_lt
  rcases k_cases (K.toNat : Int) with h | h | h | h | h | h | h | h | h | h | h | h | h | h | h | h | h | h | h
  · exact rR_k1 K O R S T N M h
  · exact rR_k2 K O R S T N M h
  · exact rR_k3 K O R S T N M h
  · exact rR_k4 K O R S T N M h
  · exact rR_k5 K O R S T N M h
  · exact rR_k6 K O R S T N M h
  · exact rR_k7 K O R S T N M h
  · exact rR_k8 K O R S T N M h
  · exact rR_k9 K O R S T N M h
  · exact rR_k10 K O R S T N M h
  · exact rR_k11 K O R S T N M h
  · exact rR_k12 K O R S T N M h
  · exact rR_k13 K O R S T N M h
  · exact rR_k14 K O R S T N M h
  · exact rR_k15 K O R S T N M h
  · exact rR_k16 K O R S T N M h
  · exact rR_k17 K O R S T N M h
  · exact rR_k18 K O R S T N M h
  · unfold ze Rti
    simp only
    rw [zh (by omega), prts_none h]
    rfl
end Go.Proofs.Ytnaafaopdefigaa
