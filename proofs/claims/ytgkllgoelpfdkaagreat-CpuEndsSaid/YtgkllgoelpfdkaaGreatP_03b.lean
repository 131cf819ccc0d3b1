import Derived.Test.YtgkllgoelpfdkaaGreatP_03
import Derived.KernelRfl
namespace Go.Proofs.YtgkllgoelpfdkaaGreat
open Go.Ab Go.RowKit
set_option linter.unusedVariables false
set_option linter.unusedSimpArgs false
def zcw (p : Dp) : UInt8 := match p with
 | .c_one_1 => 114
 | .c_both_1 => 97
 | .c_op_1 _ _ => 111
 | .c_third_1 => 116
 | .c_bound_1 => 109
 | .c_to_1 => 106
 | .c_how_1 => 107
 | .c_parts_1 => 110
 | .c_within => 110
def zj (l : List Dp) : ByteArray := ⟨(l.map zcw).toArray⟩
def rpO (o : Option (List Dp)) : ByteArray × Bool := match o with
 | some l => (zj l, true)
 | none => (⟨#[]⟩, false)
theorem zbz {k : Int} (hk : 0 ≤ k ∧ k < 256) : zbg k = some (rpO (prts k)) := by
 rcases zeI k with h | h | h | h | h | h | h | h | h | h | h | h | h | h | h | h | h | h | h
 all_goals first | (subst h; rfl) | skip
 rw [zf9 h]
 unfold zbg
 rw [zV (by omega), if_pos]
 ·rfl
 ·simp only [Bool.or_eq_true, decide_eq_true_eq, List.length_cons, List.length_nil]
  omega
theorem zjU {l : List Dp} {k : Nat} (h : k < l.length) : zed (zj l) (k : Int) = some (zcw l[k]) := by
 unfold zed zj
 rw [if_pos (by omega), Int.toNat_natCast]
 show (⟨(l.map zcw).toArray⟩ : ByteArray)[k]? = _
 have : (⟨(l.map zcw).toArray⟩ : ByteArray)[k]? = (l.map zcw)[k]? := by
  show ((⟨(l.map zcw).toArray⟩ : ByteArray).data)[k]? = _
  simp
 rw [this]
 simp [h]
theorem zkf (l : List Dp) : ((zj l).size : Int) = l.length := by
 unfold zj
 show (((l.map zcw).toArray.size : Nat) : Int) = _
 simp
theorem zjZ (l : List Dp) (hl : l.length ≤ 100) (c : Int) : ∀ (n k : Nat), k ≤ l.length → l.length - k < n → zfB (zj l) c n (k : Int) = some ((l.drop k).any fun p => ((zcw p).toNat : Int) == c)
 | 0, k, _, h => by omega
 | n + 1, k, hk, h => by
  show zeL _ (zj l) c (k : Int) = _
  unfold zeL
  rw [zkf]
  by_cases hlt : k < l.length
  ·rw [z0 (by omega), if_pos rfl, zjU hlt, Option.bind_some, List.drop_eq_getElem_cons hlt, List.any_cons]
   cases hc : ((zcw l[k]).toNat : Int) == c
   ·rw [if_neg (by simp), zbt (by omega), zjZ l hl c n (k + 1) (by omega) (by omega), Bool.false_or]
   ·rw [if_pos rfl, Bool.true_or]
  ·rw [zR (by omega), if_neg (by simp), List.drop_of_length_le (by omega)]
   rfl
theorem zo {l : List Dp} (hl : l.length ≤ 100) (c : Int) : zm (zj l) c = some (l.any fun p => ((zcw p).toNat : Int) == c) := by
 have := zjZ l hl c big 0 (by omega) (zbV (by omega))
 rw [List.drop_zero] at this
 exact this
theorem zbJ (n : Int) (t : Bool) : zdp n t = some (decide (n = 0 ∨ (t = true ∧ 0 < n ∧ n < 16))) := by
 unfold zdp
 by_cases h0 : n = 0
 ·subst h0; simp
 ·rw [zhI h0]
  cases t
  ·simp [h0]
  ·by_cases h1 : 0 < n
   ·simp [h0, h1]
   ·simp [h0, h1]
theorem u8z (x : UInt8) : x = 0 ↔ (x.toNat : Int) = 0 := by
 rw [← zfS]; rfl
theorem ifO (a b : Bool) : (if a = true then some true else some b) = some (a || b) := by cases a <;> rfl
theorem ifA (a b : Bool) : (if a = true then some b else some false) = some (a && b) := by cases a <;> rfl
theorem ifF (a b : Bool) : (if a = true then some false else some b) = some (!a && b) := by cases a <;> rfl
theorem zoO (K O : UInt8) (R S T N M : Int) (h : (K.toNat : Int) = 1) : zT ⟨K, O, R, S, T, N, M⟩ = some (Rti ⟨K, O, R, S, T, N, M⟩) := by
 have hz : (0 : UInt8) = O ↔ (O.toNat : Int) = 0 := by rw [← u8z O]; exact eq_comm
 have hO := O.toNat_lt
 have hp : prts 1 = some [] := rfl
 have hP : zbg 1 = some (zj [], true) := by rw [zbz (by omega), hp]; rfl
 have q114 : zm (zj []) 114 = some false := by rw [zo (by decide)]; rfl
 have q97 : zm (zj []) 97 = some false := by rw [zo (by decide)]; rfl
 have q116 : zm (zj []) 116 = some false := by rw [zo (by decide)]; rfl
 have q109 : zm (zj []) 109 = some false := by rw [zo (by decide)]; rfl
 have q110 : zm (zj []) 110 = some false := by rw [zo (by decide)]; rfl
 have q106 : zm (zj []) 106 = some false := by rw [zo (by decide)]; rfl
 have q107 : zm (zj []) 107 = some false := by rw [zo (by decide)]; rfl
 unfold zT zbl Rti
 simp only [h, hP, hp, Option.bind_some, q114, q97, q116, q109, q110, q106, q107, zbJ, Bool.not_true, Bool.not_false, Bool.false_eq_true, if_true, if_false, z1, List.all_cons, List.all_nil, rtP, zbd, List.foldl_cons, List.foldl_nil, seP, bse, Bool.and_true, zc.mk.injEq, true_and, and_true, hz, ifO, ifA, ifF, Int.reduceBEq]
 congr 1
 rw [Bool.eq_iff_iff]
 simp only [Bool.and_eq_true, Bool.or_eq_true, Bool.not_eq_true', Bool.or_eq_false_iff, Bool.and_eq_false_iff, Bool.not_eq_false', decide_eq_true_eq, decide_eq_false_iff_not, bne_iff_ne, ne_eq, beq_iff_eq, bne_eq_false_iff_eq, Bool.false_eq_true, false_or, or_false, false_and, and_false, true_and, and_true, or_true, true_or, not_true_eq_false, not_false_eq_true, reduceCtorEq]
 omega
theorem zod (K O : UInt8) (R S T N M : Int) (h : (K.toNat : Int) = 2) : zT ⟨K, O, R, S, T, N, M⟩ = some (Rti ⟨K, O, R, S, T, N, M⟩) := by
 have hz : (0 : UInt8) = O ↔ (O.toNat : Int) = 0 := by rw [← u8z O]; exact eq_comm
 have hO := O.toNat_lt
 have hp : prts 2 = some [.c_one_1, .c_parts_1] := rfl
 have hP : zbg 2 = some (zj [.c_one_1, .c_parts_1], true) := by rw [zbz (by omega), hp]; rfl
 have q114 : zm (zj [.c_one_1, .c_parts_1]) 114 = some true := by rw [zo (by decide)]; rfl
 have q97 : zm (zj [.c_one_1, .c_parts_1]) 97 = some false := by rw [zo (by decide)]; rfl
 have q116 : zm (zj [.c_one_1, .c_parts_1]) 116 = some false := by rw [zo (by decide)]; rfl
 have q109 : zm (zj [.c_one_1, .c_parts_1]) 109 = some false := by rw [zo (by decide)]; rfl
 have q110 : zm (zj [.c_one_1, .c_parts_1]) 110 = some true := by rw [zo (by decide)]; rfl
 have q106 : zm (zj [.c_one_1, .c_parts_1]) 106 = some false := by rw [zo (by decide)]; rfl
 have q107 : zm (zj [.c_one_1, .c_parts_1]) 107 = some false := by rw [zo (by decide)]; rfl
 unfold zT zbl Rti
 simp only [h, hP, hp, Option.bind_some, q114, q97, q116, q109, q110, q106, q107, zbJ, Bool.not_true, Bool.not_false, Bool.false_eq_true, if_true, if_false, z1, List.all_cons, List.all_nil, rtP, zbd, List.foldl_cons, List.foldl_nil, seP, bse, Bool.and_true, zc.mk.injEq, true_and, and_true, hz, ifO, ifA, ifF, Int.reduceBEq]
 congr 1
 rw [Bool.eq_iff_iff]
 simp only [Bool.and_eq_true, Bool.or_eq_true, Bool.not_eq_true', Bool.or_eq_false_iff, Bool.and_eq_false_iff, Bool.not_eq_false', decide_eq_true_eq, decide_eq_false_iff_not, bne_iff_ne, ne_eq, beq_iff_eq, bne_eq_false_iff_eq, Bool.false_eq_true, false_or, or_false, false_and, and_false, true_and, and_true, or_true, true_or, not_true_eq_false, not_false_eq_true, reduceCtorEq]
 omega
theorem zoL (K O : UInt8) (R S T N M : Int) (h : (K.toNat : Int) = 3) : zT ⟨K, O, R, S, T, N, M⟩ = some (Rti ⟨K, O, R, S, T, N, M⟩) := by
 have hz : (0 : UInt8) = O ↔ (O.toNat : Int) = 0 := by rw [← u8z O]; exact eq_comm
 have hO := O.toNat_lt
 have hp : prts 3 = some [.c_both_1] := rfl
 have hP : zbg 3 = some (zj [.c_both_1], true) := by rw [zbz (by omega), hp]; rfl
 have q114 : zm (zj [.c_both_1]) 114 = some false := by rw [zo (by decide)]; rfl
 have q97 : zm (zj [.c_both_1]) 97 = some true := by rw [zo (by decide)]; rfl
 have q116 : zm (zj [.c_both_1]) 116 = some false := by rw [zo (by decide)]; rfl
 have q109 : zm (zj [.c_both_1]) 109 = some false := by rw [zo (by decide)]; rfl
 have q110 : zm (zj [.c_both_1]) 110 = some false := by rw [zo (by decide)]; rfl
 have q106 : zm (zj [.c_both_1]) 106 = some false := by rw [zo (by decide)]; rfl
 have q107 : zm (zj [.c_both_1]) 107 = some false := by rw [zo (by decide)]; rfl
 unfold zT zbl Rti
 simp only [h, hP, hp, Option.bind_some, q114, q97, q116, q109, q110, q106, q107, zbJ, Bool.not_true, Bool.not_false, Bool.false_eq_true, if_true, if_false, z1, List.all_cons, List.all_nil, rtP, zbd, List.foldl_cons, List.foldl_nil, seP, bse, Bool.and_true, zc.mk.injEq, true_and, and_true, hz, ifO, ifA, ifF, Int.reduceBEq]
 congr 1
 rw [Bool.eq_iff_iff]
 simp only [Bool.and_eq_true, Bool.or_eq_true, Bool.not_eq_true', Bool.or_eq_false_iff, Bool.and_eq_false_iff, Bool.not_eq_false', decide_eq_true_eq, decide_eq_false_iff_not, bne_iff_ne, ne_eq, beq_iff_eq, bne_eq_false_iff_eq, Bool.false_eq_true, false_or, or_false, false_and, and_false, true_and, and_true, or_true, true_or, not_true_eq_false, not_false_eq_true, reduceCtorEq]
 omega
theorem zmX (K O : UInt8) (R S T N M : Int) (h : (K.toNat : Int) = 4) : zT ⟨K, O, R, S, T, N, M⟩ = some (Rti ⟨K, O, R, S, T, N, M⟩) := by
 have hz : (0 : UInt8) = O ↔ (O.toNat : Int) = 0 := by rw [← u8z O]; exact eq_comm
 have hO := O.toNat_lt
 have hp : prts 4 = some [.c_op_1 1 13, .c_both_1, .c_third_1] := rfl
 have hP : zbg 4 = some (zj [.c_op_1 1 13, .c_both_1, .c_third_1], true) := by rw [zbz (by omega), hp]; rfl
 have q114 : zm (zj [.c_op_1 1 13, .c_both_1, .c_third_1]) 114 = some false := by rw [zo (by decide)]; rfl
 have q97 : zm (zj [.c_op_1 1 13, .c_both_1, .c_third_1]) 97 = some true := by rw [zo (by decide)]; rfl
 have q116 : zm (zj [.c_op_1 1 13, .c_both_1, .c_third_1]) 116 = some true := by rw [zo (by decide)]; rfl
 have q109 : zm (zj [.c_op_1 1 13, .c_both_1, .c_third_1]) 109 = some false := by rw [zo (by decide)]; rfl
 have q110 : zm (zj [.c_op_1 1 13, .c_both_1, .c_third_1]) 110 = some false := by rw [zo (by decide)]; rfl
 have q106 : zm (zj [.c_op_1 1 13, .c_both_1, .c_third_1]) 106 = some false := by rw [zo (by decide)]; rfl
 have q107 : zm (zj [.c_op_1 1 13, .c_both_1, .c_third_1]) 107 = some false := by rw [zo (by decide)]; rfl
 unfold zT zbl Rti
 simp only [h, hP, hp, Option.bind_some, q114, q97, q116, q109, q110, q106, q107, zbJ, Bool.not_true, Bool.not_false, Bool.false_eq_true, if_true, if_false, z1, List.all_cons, List.all_nil, rtP, zbd, List.foldl_cons, List.foldl_nil, seP, bse, Bool.and_true, zc.mk.injEq, true_and, and_true, hz, ifO, ifA, ifF, Int.reduceBEq]
 congr 1
 rw [Bool.eq_iff_iff]
 simp only [Bool.and_eq_true, Bool.or_eq_true, Bool.not_eq_true', Bool.or_eq_false_iff, Bool.and_eq_false_iff, Bool.not_eq_false', decide_eq_true_eq, decide_eq_false_iff_not, bne_iff_ne, ne_eq, beq_iff_eq, bne_eq_false_iff_eq, Bool.false_eq_true, false_or, or_false, false_and, and_false, true_and, and_true, or_true, true_or, not_true_eq_false, not_false_eq_true, reduceCtorEq]
 omega
theorem znK (K O : UInt8) (R S T N M : Int) (h : (K.toNat : Int) = 5) : zT ⟨K, O, R, S, T, N, M⟩ = some (Rti ⟨K, O, R, S, T, N, M⟩) := by
 have hz : (0 : UInt8) = O ↔ (O.toNat : Int) = 0 := by rw [← u8z O]; exact eq_comm
 have hO := O.toNat_lt
 have hp : prts 5 = some [.c_op_1 14 15, .c_both_1] := rfl
 have hP : zbg 5 = some (zj [.c_op_1 14 15, .c_both_1], true) := by rw [zbz (by omega), hp]; rfl
 have q114 : zm (zj [.c_op_1 14 15, .c_both_1]) 114 = some false := by rw [zo (by decide)]; rfl
 have q97 : zm (zj [.c_op_1 14 15, .c_both_1]) 97 = some true := by rw [zo (by decide)]; rfl
 have q116 : zm (zj [.c_op_1 14 15, .c_both_1]) 116 = some false := by rw [zo (by decide)]; rfl
 have q109 : zm (zj [.c_op_1 14 15, .c_both_1]) 109 = some false := by rw [zo (by decide)]; rfl
 have q110 : zm (zj [.c_op_1 14 15, .c_both_1]) 110 = some false := by rw [zo (by decide)]; rfl
 have q106 : zm (zj [.c_op_1 14 15, .c_both_1]) 106 = some false := by rw [zo (by decide)]; rfl
 have q107 : zm (zj [.c_op_1 14 15, .c_both_1]) 107 = some false := by rw [zo (by decide)]; rfl
 unfold zT zbl Rti
 simp only [h, hP, hp, Option.bind_some, q114, q97, q116, q109, q110, q106, q107, zbJ, Bool.not_true, Bool.not_false, Bool.false_eq_true, if_true, if_false, z1, List.all_cons, List.all_nil, rtP, zbd, List.foldl_cons, List.foldl_nil, seP, bse, Bool.and_true, zc.mk.injEq, true_and, and_true, hz, ifO, ifA, ifF, Int.reduceBEq]
 congr 1
 rw [Bool.eq_iff_iff]
 simp only [Bool.and_eq_true, Bool.or_eq_true, Bool.not_eq_true', Bool.or_eq_false_iff, Bool.and_eq_false_iff, Bool.not_eq_false', decide_eq_true_eq, decide_eq_false_iff_not, bne_iff_ne, ne_eq, beq_iff_eq, bne_eq_false_iff_eq, Bool.false_eq_true, false_or, or_false, false_and, and_false, true_and, and_true, or_true, true_or, not_true_eq_false, not_false_eq_true, reduceCtorEq]
 omega
theorem zlR (K O : UInt8) (R S T N M : Int) (h : (K.toNat : Int) = 6) : zT ⟨K, O, R, S, T, N, M⟩ = some (Rti ⟨K, O, R, S, T, N, M⟩) := by
 have hz : (0 : UInt8) = O ↔ (O.toNat : Int) = 0 := by rw [← u8z O]; exact eq_comm
 have hO := O.toNat_lt
 have hp : prts 6 = some [.c_both_1, .c_within] := rfl
 have hP : zbg 6 = some (zj [.c_both_1, .c_within], true) := by rw [zbz (by omega), hp]; rfl
 have q114 : zm (zj [.c_both_1, .c_within]) 114 = some false := by rw [zo (by decide)]; rfl
 have q97 : zm (zj [.c_both_1, .c_within]) 97 = some true := by rw [zo (by decide)]; rfl
 have q116 : zm (zj [.c_both_1, .c_within]) 116 = some false := by rw [zo (by decide)]; rfl
 have q109 : zm (zj [.c_both_1, .c_within]) 109 = some false := by rw [zo (by decide)]; rfl
 have q110 : zm (zj [.c_both_1, .c_within]) 110 = some true := by rw [zo (by decide)]; rfl
 have q106 : zm (zj [.c_both_1, .c_within]) 106 = some false := by rw [zo (by decide)]; rfl
 have q107 : zm (zj [.c_both_1, .c_within]) 107 = some false := by rw [zo (by decide)]; rfl
 unfold zT zbl Rti
 simp only [h, hP, hp, Option.bind_some, q114, q97, q116, q109, q110, q106, q107, zbJ, Bool.not_true, Bool.not_false, Bool.false_eq_true, if_true, if_false, z1, List.all_cons, List.all_nil, rtP, zbd, List.foldl_cons, List.foldl_nil, seP, bse, Bool.and_true, zc.mk.injEq, true_and, and_true, hz, ifO, ifA, ifF, Int.reduceBEq]
 congr 1
 rw [Bool.eq_iff_iff]
 simp only [Bool.and_eq_true, Bool.or_eq_true, Bool.not_eq_true', Bool.or_eq_false_iff, Bool.and_eq_false_iff, Bool.not_eq_false', decide_eq_true_eq, decide_eq_false_iff_not, bne_iff_ne, ne_eq, beq_iff_eq, bne_eq_false_iff_eq, Bool.false_eq_true, false_or, or_false, false_and, and_false, true_and, and_true, or_true, true_or, not_true_eq_false, not_false_eq_true, reduceCtorEq]
 omega
theorem zpJ (K O : UInt8) (R S T N M : Int) (h : (K.toNat : Int) = 7) : zT ⟨K, O, R, S, T, N, M⟩ = some (Rti ⟨K, O, R, S, T, N, M⟩) := by
 have hz : (0 : UInt8) = O ↔ (O.toNat : Int) = 0 := by rw [← u8z O]; exact eq_comm
 have hO := O.toNat_lt
 have hp : prts 7 = some [.c_both_1, .c_within] := rfl
 have hP : zbg 7 = some (zj [.c_both_1, .c_within], true) := by rw [zbz (by omega), hp]; rfl
 have q114 : zm (zj [.c_both_1, .c_within]) 114 = some false := by rw [zo (by decide)]; rfl
 have q97 : zm (zj [.c_both_1, .c_within]) 97 = some true := by rw [zo (by decide)]; rfl
 have q116 : zm (zj [.c_both_1, .c_within]) 116 = some false := by rw [zo (by decide)]; rfl
 have q109 : zm (zj [.c_both_1, .c_within]) 109 = some false := by rw [zo (by decide)]; rfl
 have q110 : zm (zj [.c_both_1, .c_within]) 110 = some true := by rw [zo (by decide)]; rfl
 have q106 : zm (zj [.c_both_1, .c_within]) 106 = some false := by rw [zo (by decide)]; rfl
 have q107 : zm (zj [.c_both_1, .c_within]) 107 = some false := by rw [zo (by decide)]; rfl
 unfold zT zbl Rti
 simp only [h, hP, hp, Option.bind_some, q114, q97, q116, q109, q110, q106, q107, zbJ, Bool.not_true, Bool.not_false, Bool.false_eq_true, if_true, if_false, z1, List.all_cons, List.all_nil, rtP, zbd, List.foldl_cons, List.foldl_nil, seP, bse, Bool.and_true, zc.mk.injEq, true_and, and_true, hz, ifO, ifA, ifF, Int.reduceBEq]
 congr 1
 rw [Bool.eq_iff_iff]
 simp only [Bool.and_eq_true, Bool.or_eq_true, Bool.not_eq_true', Bool.or_eq_false_iff, Bool.and_eq_false_iff, Bool.not_eq_false', decide_eq_true_eq, decide_eq_false_iff_not, bne_iff_ne, ne_eq, beq_iff_eq, bne_eq_false_iff_eq, Bool.false_eq_true, false_or, or_false, false_and, and_false, true_and, and_true, or_true, true_or, not_true_eq_false, not_false_eq_true, reduceCtorEq]
 omega
theorem znu (K O : UInt8) (R S T N M : Int) (h : (K.toNat : Int) = 8) : zT ⟨K, O, R, S, T, N, M⟩ = some (Rti ⟨K, O, R, S, T, N, M⟩) := by
 have hz : (0 : UInt8) = O ↔ (O.toNat : Int) = 0 := by rw [← u8z O]; exact eq_comm
 have hO := O.toNat_lt
 have hp : prts 8 = some [.c_both_1, .c_third_1, .c_within, .c_bound_1] := rfl
 have hP : zbg 8 = some (zj [.c_both_1, .c_third_1, .c_within, .c_bound_1], true) := by rw [zbz (by omega), hp]; rfl
 have q114 : zm (zj [.c_both_1, .c_third_1, .c_within, .c_bound_1]) 114 = some false := by rw [zo (by decide)]; rfl
 have q97 : zm (zj [.c_both_1, .c_third_1, .c_within, .c_bound_1]) 97 = some true := by rw [zo (by decide)]; rfl
 have q116 : zm (zj [.c_both_1, .c_third_1, .c_within, .c_bound_1]) 116 = some true := by rw [zo (by decide)]; rfl
 have q109 : zm (zj [.c_both_1, .c_third_1, .c_within, .c_bound_1]) 109 = some true := by rw [zo (by decide)]; rfl
 have q110 : zm (zj [.c_both_1, .c_third_1, .c_within, .c_bound_1]) 110 = some true := by rw [zo (by decide)]; rfl
 have q106 : zm (zj [.c_both_1, .c_third_1, .c_within, .c_bound_1]) 106 = some false := by rw [zo (by decide)]; rfl
 have q107 : zm (zj [.c_both_1, .c_third_1, .c_within, .c_bound_1]) 107 = some false := by rw [zo (by decide)]; rfl
 unfold zT zbl Rti
 simp only [h, hP, hp, Option.bind_some, q114, q97, q116, q109, q110, q106, q107, zbJ, Bool.not_true, Bool.not_false, Bool.false_eq_true, if_true, if_false, z1, List.all_cons, List.all_nil, rtP, zbd, List.foldl_cons, List.foldl_nil, seP, bse, Bool.and_true, zc.mk.injEq, true_and, and_true, hz, ifO, ifA, ifF, Int.reduceBEq]
 congr 1
 rw [Bool.eq_iff_iff]
 simp only [Bool.and_eq_true, Bool.or_eq_true, Bool.not_eq_true', Bool.or_eq_false_iff, Bool.and_eq_false_iff, Bool.not_eq_false', decide_eq_true_eq, decide_eq_false_iff_not, bne_iff_ne, ne_eq, beq_iff_eq, bne_eq_false_iff_eq, Bool.false_eq_true, false_or, or_false, false_and, and_false, true_and, and_true, or_true, true_or, not_true_eq_false, not_false_eq_true, reduceCtorEq]
 omega
theorem zmm (K O : UInt8) (R S T N M : Int) (h : (K.toNat : Int) = 9) : zT ⟨K, O, R, S, T, N, M⟩ = some (Rti ⟨K, O, R, S, T, N, M⟩) := by
 have hz : (0 : UInt8) = O ↔ (O.toNat : Int) = 0 := by rw [← u8z O]; exact eq_comm
 have hO := O.toNat_lt
 have hp : prts 9 = some [.c_both_1, .c_third_1, .c_within, .c_bound_1] := rfl
 have hP : zbg 9 = some (zj [.c_both_1, .c_third_1, .c_within, .c_bound_1], true) := by rw [zbz (by omega), hp]; rfl
 have q114 : zm (zj [.c_both_1, .c_third_1, .c_within, .c_bound_1]) 114 = some false := by rw [zo (by decide)]; rfl
 have q97 : zm (zj [.c_both_1, .c_third_1, .c_within, .c_bound_1]) 97 = some true := by rw [zo (by decide)]; rfl
 have q116 : zm (zj [.c_both_1, .c_third_1, .c_within, .c_bound_1]) 116 = some true := by rw [zo (by decide)]; rfl
 have q109 : zm (zj [.c_both_1, .c_third_1, .c_within, .c_bound_1]) 109 = some true := by rw [zo (by decide)]; rfl
 have q110 : zm (zj [.c_both_1, .c_third_1, .c_within, .c_bound_1]) 110 = some true := by rw [zo (by decide)]; rfl
 have q106 : zm (zj [.c_both_1, .c_third_1, .c_within, .c_bound_1]) 106 = some false := by rw [zo (by decide)]; rfl
 have q107 : zm (zj [.c_both_1, .c_third_1, .c_within, .c_bound_1]) 107 = some false := by rw [zo (by decide)]; rfl
 unfold zT zbl Rti
 simp only [h, hP, hp, Option.bind_some, q114, q97, q116, q109, q110, q106, q107, zbJ, Bool.not_true, Bool.not_false, Bool.false_eq_true, if_true, if_false, z1, List.all_cons, List.all_nil, rtP, zbd, List.foldl_cons, List.foldl_nil, seP, bse, Bool.and_true, zc.mk.injEq, true_and, and_true, hz, ifO, ifA, ifF, Int.reduceBEq]
 congr 1
 rw [Bool.eq_iff_iff]
 simp only [Bool.and_eq_true, Bool.or_eq_true, Bool.not_eq_true', Bool.or_eq_false_iff, Bool.and_eq_false_iff, Bool.not_eq_false', decide_eq_true_eq, decide_eq_false_iff_not, bne_iff_ne, ne_eq, beq_iff_eq, bne_eq_false_iff_eq, Bool.false_eq_true, false_or, or_false, false_and, and_false, true_and, and_true, or_true, true_or, not_true_eq_false, not_false_eq_true, reduceCtorEq]
 omega
theorem znF (K O : UInt8) (R S T N M : Int) (h : (K.toNat : Int) = 10) : zT ⟨K, O, R, S, T, N, M⟩ = some (Rti ⟨K, O, R, S, T, N, M⟩) := by
 have hz : (0 : UInt8) = O ↔ (O.toNat : Int) = 0 := by rw [← u8z O]; exact eq_comm
 have hO := O.toNat_lt
 have hp : prts 10 = some [.c_to_1] := rfl
 have hP : zbg 10 = some (zj [.c_to_1], true) := by rw [zbz (by omega), hp]; rfl
 have q114 : zm (zj [.c_to_1]) 114 = some false := by rw [zo (by decide)]; rfl
 have q97 : zm (zj [.c_to_1]) 97 = some false := by rw [zo (by decide)]; rfl
 have q116 : zm (zj [.c_to_1]) 116 = some false := by rw [zo (by decide)]; rfl
 have q109 : zm (zj [.c_to_1]) 109 = some false := by rw [zo (by decide)]; rfl
 have q110 : zm (zj [.c_to_1]) 110 = some false := by rw [zo (by decide)]; rfl
 have q106 : zm (zj [.c_to_1]) 106 = some true := by rw [zo (by decide)]; rfl
 have q107 : zm (zj [.c_to_1]) 107 = some false := by rw [zo (by decide)]; rfl
 unfold zT zbl Rti
 simp only [h, hP, hp, Option.bind_some, q114, q97, q116, q109, q110, q106, q107, zbJ, Bool.not_true, Bool.not_false, Bool.false_eq_true, if_true, if_false, z1, List.all_cons, List.all_nil, rtP, zbd, List.foldl_cons, List.foldl_nil, seP, bse, Bool.and_true, zc.mk.injEq, true_and, and_true, hz, ifO, ifA, ifF, Int.reduceBEq]
 congr 1
 rw [Bool.eq_iff_iff]
 simp only [Bool.and_eq_true, Bool.or_eq_true, Bool.not_eq_true', Bool.or_eq_false_iff, Bool.and_eq_false_iff, Bool.not_eq_false', decide_eq_true_eq, decide_eq_false_iff_not, bne_iff_ne, ne_eq, beq_iff_eq, bne_eq_false_iff_eq, Bool.false_eq_true, false_or, or_false, false_and, and_false, true_and, and_true, or_true, true_or, not_true_eq_false, not_false_eq_true, reduceCtorEq]
 omega
theorem zoQ (K O : UInt8) (R S T N M : Int) (h : (K.toNat : Int) = 11) : zT ⟨K, O, R, S, T, N, M⟩ = some (Rti ⟨K, O, R, S, T, N, M⟩) := by
 have hz : (0 : UInt8) = O ↔ (O.toNat : Int) = 0 := by rw [← u8z O]; exact eq_comm
 have hO := O.toNat_lt
 have hp : prts 11 = some [.c_one_1, .c_to_1] := rfl
 have hP : zbg 11 = some (zj [.c_one_1, .c_to_1], true) := by rw [zbz (by omega), hp]; rfl
 have q114 : zm (zj [.c_one_1, .c_to_1]) 114 = some true := by rw [zo (by decide)]; rfl
 have q97 : zm (zj [.c_one_1, .c_to_1]) 97 = some false := by rw [zo (by decide)]; rfl
 have q116 : zm (zj [.c_one_1, .c_to_1]) 116 = some false := by rw [zo (by decide)]; rfl
 have q109 : zm (zj [.c_one_1, .c_to_1]) 109 = some false := by rw [zo (by decide)]; rfl
 have q110 : zm (zj [.c_one_1, .c_to_1]) 110 = some false := by rw [zo (by decide)]; rfl
 have q106 : zm (zj [.c_one_1, .c_to_1]) 106 = some true := by rw [zo (by decide)]; rfl
 have q107 : zm (zj [.c_one_1, .c_to_1]) 107 = some false := by rw [zo (by decide)]; rfl
 unfold zT zbl Rti
 simp only [h, hP, hp, Option.bind_some, q114, q97, q116, q109, q110, q106, q107, zbJ, Bool.not_true, Bool.not_false, Bool.false_eq_true, if_true, if_false, z1, List.all_cons, List.all_nil, rtP, zbd, List.foldl_cons, List.foldl_nil, seP, bse, Bool.and_true, zc.mk.injEq, true_and, and_true, hz, ifO, ifA, ifF, Int.reduceBEq]
 congr 1
 rw [Bool.eq_iff_iff]
 simp only [Bool.and_eq_true, Bool.or_eq_true, Bool.not_eq_true', Bool.or_eq_false_iff, Bool.and_eq_false_iff, Bool.not_eq_false', decide_eq_true_eq, decide_eq_false_iff_not, bne_iff_ne, ne_eq, beq_iff_eq, bne_eq_false_iff_eq, Bool.false_eq_true, false_or, or_false, false_and, and_false, true_and, and_true, or_true, true_or, not_true_eq_false, not_false_eq_true, reduceCtorEq]
 omega
theorem zn7 (K O : UInt8) (R S T N M : Int) (h : (K.toNat : Int) = 12) : zT ⟨K, O, R, S, T, N, M⟩ = some (Rti ⟨K, O, R, S, T, N, M⟩) := by
 have hz : (0 : UInt8) = O ↔ (O.toNat : Int) = 0 := by rw [← u8z O]; exact eq_comm
 have hO := O.toNat_lt
 have hp : prts 12 = some [.c_to_1] := rfl
 have hP : zbg 12 = some (zj [.c_to_1], true) := by rw [zbz (by omega), hp]; rfl
 have q114 : zm (zj [.c_to_1]) 114 = some false := by rw [zo (by decide)]; rfl
 have q97 : zm (zj [.c_to_1]) 97 = some false := by rw [zo (by decide)]; rfl
 have q116 : zm (zj [.c_to_1]) 116 = some false := by rw [zo (by decide)]; rfl
 have q109 : zm (zj [.c_to_1]) 109 = some false := by rw [zo (by decide)]; rfl
 have q110 : zm (zj [.c_to_1]) 110 = some false := by rw [zo (by decide)]; rfl
 have q106 : zm (zj [.c_to_1]) 106 = some true := by rw [zo (by decide)]; rfl
 have q107 : zm (zj [.c_to_1]) 107 = some false := by rw [zo (by decide)]; rfl
 unfold zT zbl Rti
 simp only [h, hP, hp, Option.bind_some, q114, q97, q116, q109, q110, q106, q107, zbJ, Bool.not_true, Bool.not_false, Bool.false_eq_true, if_true, if_false, z1, List.all_cons, List.all_nil, rtP, zbd, List.foldl_cons, List.foldl_nil, seP, bse, Bool.and_true, zc.mk.injEq, true_and, and_true, hz, ifO, ifA, ifF, Int.reduceBEq]
 congr 1
 rw [Bool.eq_iff_iff]
 simp only [Bool.and_eq_true, Bool.or_eq_true, Bool.not_eq_true', Bool.or_eq_false_iff, Bool.and_eq_false_iff, Bool.not_eq_false', decide_eq_true_eq, decide_eq_false_iff_not, bne_iff_ne, ne_eq, beq_iff_eq, bne_eq_false_iff_eq, Bool.false_eq_true, false_or, or_false, false_and, and_false, true_and, and_true, or_true, true_or, not_true_eq_false, not_false_eq_true, reduceCtorEq]
 omega
theorem znI (K O : UInt8) (R S T N M : Int) (h : (K.toNat : Int) = 13) : zT ⟨K, O, R, S, T, N, M⟩ = some (Rti ⟨K, O, R, S, T, N, M⟩) := by
 have hz : (0 : UInt8) = O ↔ (O.toNat : Int) = 0 := by rw [← u8z O]; exact eq_comm
 have hO := O.toNat_lt
 have hp : prts 13 = some [] := rfl
 have hP : zbg 13 = some (zj [], true) := by rw [zbz (by omega), hp]; rfl
 have q114 : zm (zj []) 114 = some false := by rw [zo (by decide)]; rfl
 have q97 : zm (zj []) 97 = some false := by rw [zo (by decide)]; rfl
 have q116 : zm (zj []) 116 = some false := by rw [zo (by decide)]; rfl
 have q109 : zm (zj []) 109 = some false := by rw [zo (by decide)]; rfl
 have q110 : zm (zj []) 110 = some false := by rw [zo (by decide)]; rfl
 have q106 : zm (zj []) 106 = some false := by rw [zo (by decide)]; rfl
 have q107 : zm (zj []) 107 = some false := by rw [zo (by decide)]; rfl
 unfold zT zbl Rti
 simp only [h, hP, hp, Option.bind_some, q114, q97, q116, q109, q110, q106, q107, zbJ, Bool.not_true, Bool.not_false, Bool.false_eq_true, if_true, if_false, z1, List.all_cons, List.all_nil, rtP, zbd, List.foldl_cons, List.foldl_nil, seP, bse, Bool.and_true, zc.mk.injEq, true_and, and_true, hz, ifO, ifA, ifF, Int.reduceBEq]
 congr 1
 rw [Bool.eq_iff_iff]
 simp only [Bool.and_eq_true, Bool.or_eq_true, Bool.not_eq_true', Bool.or_eq_false_iff, Bool.and_eq_false_iff, Bool.not_eq_false', decide_eq_true_eq, decide_eq_false_iff_not, bne_iff_ne, ne_eq, beq_iff_eq, bne_eq_false_iff_eq, Bool.false_eq_true, false_or, or_false, false_and, and_false, true_and, and_true, or_true, true_or, not_true_eq_false, not_false_eq_true, reduceCtorEq]
 omega
theorem znp (K O : UInt8) (R S T N M : Int) (h : (K.toNat : Int) = 14) : zT ⟨K, O, R, S, T, N, M⟩ = some (Rti ⟨K, O, R, S, T, N, M⟩) := by
 have hz : (0 : UInt8) = O ↔ (O.toNat : Int) = 0 := by rw [← u8z O]; exact eq_comm
 have hO := O.toNat_lt
 have hp : prts 14 = some [.c_within] := rfl
 have hP : zbg 14 = some (zj [.c_within], true) := by rw [zbz (by omega), hp]; rfl
 have q114 : zm (zj [.c_within]) 114 = some false := by rw [zo (by decide)]; rfl
 have q97 : zm (zj [.c_within]) 97 = some false := by rw [zo (by decide)]; rfl
 have q116 : zm (zj [.c_within]) 116 = some false := by rw [zo (by decide)]; rfl
 have q109 : zm (zj [.c_within]) 109 = some false := by rw [zo (by decide)]; rfl
 have q110 : zm (zj [.c_within]) 110 = some true := by rw [zo (by decide)]; rfl
 have q106 : zm (zj [.c_within]) 106 = some false := by rw [zo (by decide)]; rfl
 have q107 : zm (zj [.c_within]) 107 = some false := by rw [zo (by decide)]; rfl
 unfold zT zbl Rti
 simp only [h, hP, hp, Option.bind_some, q114, q97, q116, q109, q110, q106, q107, zbJ, Bool.not_true, Bool.not_false, Bool.false_eq_true, if_true, if_false, z1, List.all_cons, List.all_nil, rtP, zbd, List.foldl_cons, List.foldl_nil, seP, bse, Bool.and_true, zc.mk.injEq, true_and, and_true, hz, ifO, ifA, ifF, Int.reduceBEq]
 congr 1
 rw [Bool.eq_iff_iff]
 simp only [Bool.and_eq_true, Bool.or_eq_true, Bool.not_eq_true', Bool.or_eq_false_iff, Bool.and_eq_false_iff, Bool.not_eq_false', decide_eq_true_eq, decide_eq_false_iff_not, bne_iff_ne, ne_eq, beq_iff_eq, bne_eq_false_iff_eq, Bool.false_eq_true, false_or, or_false, false_and, and_false, true_and, and_true, or_true, true_or, not_true_eq_false, not_false_eq_true, reduceCtorEq]
 omega
theorem zmY (K O : UInt8) (R S T N M : Int) (h : (K.toNat : Int) = 15) : zT ⟨K, O, R, S, T, N, M⟩ = some (Rti ⟨K, O, R, S, T, N, M⟩) := by
 have hz : (0 : UInt8) = O ↔ (O.toNat : Int) = 0 := by rw [← u8z O]; exact eq_comm
 have hO := O.toNat_lt
 have hp : prts 15 = some [.c_one_1] := rfl
 have hP : zbg 15 = some (zj [.c_one_1], true) := by rw [zbz (by omega), hp]; rfl
 have q114 : zm (zj [.c_one_1]) 114 = some true := by rw [zo (by decide)]; rfl
 have q97 : zm (zj [.c_one_1]) 97 = some false := by rw [zo (by decide)]; rfl
 have q116 : zm (zj [.c_one_1]) 116 = some false := by rw [zo (by decide)]; rfl
 have q109 : zm (zj [.c_one_1]) 109 = some false := by rw [zo (by decide)]; rfl
 have q110 : zm (zj [.c_one_1]) 110 = some false := by rw [zo (by decide)]; rfl
 have q106 : zm (zj [.c_one_1]) 106 = some false := by rw [zo (by decide)]; rfl
 have q107 : zm (zj [.c_one_1]) 107 = some false := by rw [zo (by decide)]; rfl
 unfold zT zbl Rti
 simp only [h, hP, hp, Option.bind_some, q114, q97, q116, q109, q110, q106, q107, zbJ, Bool.not_true, Bool.not_false, Bool.false_eq_true, if_true, if_false, z1, List.all_cons, List.all_nil, rtP, zbd, List.foldl_cons, List.foldl_nil, seP, bse, Bool.and_true, zc.mk.injEq, true_and, and_true, hz, ifO, ifA, ifF, Int.reduceBEq]
 congr 1
 rw [Bool.eq_iff_iff]
 simp only [Bool.and_eq_true, Bool.or_eq_true, Bool.not_eq_true', Bool.or_eq_false_iff, Bool.and_eq_false_iff, Bool.not_eq_false', decide_eq_true_eq, decide_eq_false_iff_not, bne_iff_ne, ne_eq, beq_iff_eq, bne_eq_false_iff_eq, Bool.false_eq_true, false_or, or_false, false_and, and_false, true_and, and_true, or_true, true_or, not_true_eq_false, not_false_eq_true, reduceCtorEq]
 omega
theorem zoJ (K O : UInt8) (R S T N M : Int) (h : (K.toNat : Int) = 16) : zT ⟨K, O, R, S, T, N, M⟩ = some (Rti ⟨K, O, R, S, T, N, M⟩) := by
 have hz : (0 : UInt8) = O ↔ (O.toNat : Int) = 0 := by rw [← u8z O]; exact eq_comm
 have hO := O.toNat_lt
 have hp : prts 16 = some [.c_one_1] := rfl
 have hP : zbg 16 = some (zj [.c_one_1], true) := by rw [zbz (by omega), hp]; rfl
 have q114 : zm (zj [.c_one_1]) 114 = some true := by rw [zo (by decide)]; rfl
 have q97 : zm (zj [.c_one_1]) 97 = some false := by rw [zo (by decide)]; rfl
 have q116 : zm (zj [.c_one_1]) 116 = some false := by rw [zo (by decide)]; rfl
 have q109 : zm (zj [.c_one_1]) 109 = some false := by rw [zo (by decide)]; rfl
 have q110 : zm (zj [.c_one_1]) 110 = some false := by rw [zo (by decide)]; rfl
 have q106 : zm (zj [.c_one_1]) 106 = some false := by rw [zo (by decide)]; rfl
 have q107 : zm (zj [.c_one_1]) 107 = some false := by rw [zo (by decide)]; rfl
 unfold zT zbl Rti
 simp only [h, hP, hp, Option.bind_some, q114, q97, q116, q109, q110, q106, q107, zbJ, Bool.not_true, Bool.not_false, Bool.false_eq_true, if_true, if_false, z1, List.all_cons, List.all_nil, rtP, zbd, List.foldl_cons, List.foldl_nil, seP, bse, Bool.and_true, zc.mk.injEq, true_and, and_true, hz, ifO, ifA, ifF, Int.reduceBEq]
 congr 1
 rw [Bool.eq_iff_iff]
 simp only [Bool.and_eq_true, Bool.or_eq_true, Bool.not_eq_true', Bool.or_eq_false_iff, Bool.and_eq_false_iff, Bool.not_eq_false', decide_eq_true_eq, decide_eq_false_iff_not, bne_iff_ne, ne_eq, beq_iff_eq, bne_eq_false_iff_eq, Bool.false_eq_true, false_or, or_false, false_and, and_false, true_and, and_true, or_true, true_or, not_true_eq_false, not_false_eq_true, reduceCtorEq]
 omega
theorem zn1 (K O : UInt8) (R S T N M : Int) (h : (K.toNat : Int) = 17) : zT ⟨K, O, R, S, T, N, M⟩ = some (Rti ⟨K, O, R, S, T, N, M⟩) := by
 have hz : (0 : UInt8) = O ↔ (O.toNat : Int) = 0 := by rw [← u8z O]; exact eq_comm
 have hO := O.toNat_lt
 have hp : prts 17 = some [.c_one_1] := rfl
 have hP : zbg 17 = some (zj [.c_one_1], true) := by rw [zbz (by omega), hp]; rfl
 have q114 : zm (zj [.c_one_1]) 114 = some true := by rw [zo (by decide)]; rfl
 have q97 : zm (zj [.c_one_1]) 97 = some false := by rw [zo (by decide)]; rfl
 have q116 : zm (zj [.c_one_1]) 116 = some false := by rw [zo (by decide)]; rfl
 have q109 : zm (zj [.c_one_1]) 109 = some false := by rw [zo (by decide)]; rfl
 have q110 : zm (zj [.c_one_1]) 110 = some false := by rw [zo (by decide)]; rfl
 have q106 : zm (zj [.c_one_1]) 106 = some false := by rw [zo (by decide)]; rfl
 have q107 : zm (zj [.c_one_1]) 107 = some false := by rw [zo (by decide)]; rfl
 unfold zT zbl Rti
 simp only [h, hP, hp, Option.bind_some, q114, q97, q116, q109, q110, q106, q107, zbJ, Bool.not_true, Bool.not_false, Bool.false_eq_true, if_true, if_false, z1, List.all_cons, List.all_nil, rtP, zbd, List.foldl_cons, List.foldl_nil, seP, bse, Bool.and_true, zc.mk.injEq, true_and, and_true, hz, ifO, ifA, ifF, Int.reduceBEq]
 congr 1
 rw [Bool.eq_iff_iff]
 simp only [Bool.and_eq_true, Bool.or_eq_true, Bool.not_eq_true', Bool.or_eq_false_iff, Bool.and_eq_false_iff, Bool.not_eq_false', decide_eq_true_eq, decide_eq_false_iff_not, bne_iff_ne, ne_eq, beq_iff_eq, bne_eq_false_iff_eq, Bool.false_eq_true, false_or, or_false, false_and, and_false, true_and, and_true, or_true, true_or, not_true_eq_false, not_false_eq_true, reduceCtorEq]
 omega
theorem zmG (K O : UInt8) (R S T N M : Int) (h : (K.toNat : Int) = 18) : zT ⟨K, O, R, S, T, N, M⟩ = some (Rti ⟨K, O, R, S, T, N, M⟩) := by
 have hz : (0 : UInt8) = O ↔ (O.toNat : Int) = 0 := by rw [← u8z O]; exact eq_comm
 have hO := O.toNat_lt
 have hp : prts 18 = some [.c_how_1] := rfl
 have hP : zbg 18 = some (zj [.c_how_1], true) := by rw [zbz (by omega), hp]; rfl
 have q114 : zm (zj [.c_how_1]) 114 = some false := by rw [zo (by decide)]; rfl
 have q97 : zm (zj [.c_how_1]) 97 = some false := by rw [zo (by decide)]; rfl
 have q116 : zm (zj [.c_how_1]) 116 = some false := by rw [zo (by decide)]; rfl
 have q109 : zm (zj [.c_how_1]) 109 = some false := by rw [zo (by decide)]; rfl
 have q110 : zm (zj [.c_how_1]) 110 = some false := by rw [zo (by decide)]; rfl
 have q106 : zm (zj [.c_how_1]) 106 = some false := by rw [zo (by decide)]; rfl
 have q107 : zm (zj [.c_how_1]) 107 = some true := by rw [zo (by decide)]; rfl
 unfold zT zbl Rti
 simp only [h, hP, hp, Option.bind_some, q114, q97, q116, q109, q110, q106, q107, zbJ, Bool.not_true, Bool.not_false, Bool.false_eq_true, if_true, if_false, z1, List.all_cons, List.all_nil, rtP, zbd, List.foldl_cons, List.foldl_nil, seP, bse, Bool.and_true, zc.mk.injEq, true_and, and_true, hz, ifO, ifA, ifF, Int.reduceBEq]
 congr 1
 rw [Bool.eq_iff_iff]
 simp only [Bool.and_eq_true, Bool.or_eq_true, Bool.not_eq_true', Bool.or_eq_false_iff, Bool.and_eq_false_iff, Bool.not_eq_false', decide_eq_true_eq, decide_eq_false_iff_not, bne_iff_ne, ne_eq, beq_iff_eq, bne_eq_false_iff_eq, Bool.false_eq_true, false_or, or_false, false_and, and_false, true_and, and_true, or_true, true_or, not_true_eq_false, not_false_eq_true, reduceCtorEq]
 omega
theorem zmW (i : Ins) : zT i = some (Rti i) := by
 obtain ⟨K, O, R, S, T, N, M⟩ := i
 have hlt := K.toNat_lt
 rcases zeI (K.toNat : Int) with h | h | h | h | h | h | h | h | h | h | h | h | h | h | h | h | h | h | h
 ·exact zoO K O R S T N M h
 ·exact zod K O R S T N M h
 ·exact zoL K O R S T N M h
 ·exact zmX K O R S T N M h
 ·exact znK K O R S T N M h
 ·exact zlR K O R S T N M h
 ·exact zpJ K O R S T N M h
 ·exact znu K O R S T N M h
 ·exact zmm K O R S T N M h
 ·exact znF K O R S T N M h
 ·exact zoQ K O R S T N M h
 ·exact zn7 K O R S T N M h
 ·exact znI K O R S T N M h
 ·exact znp K O R S T N M h
 ·exact zmY K O R S T N M h
 ·exact zoJ K O R S T N M h
 ·exact zn1 K O R S T N M h
 ·exact zmG K O R S T N M h
 ·unfold zT Rti
  simp only
  rw [zbz (by omega), zf9 h]
  rfl
end Go.Proofs.YtgkllgoelpfdkaaGreat
