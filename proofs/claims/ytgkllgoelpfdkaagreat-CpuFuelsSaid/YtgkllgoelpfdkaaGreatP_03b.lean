import Derived.Test.YtgkllgoelpfdkaaGreatP_03
import Derived.KernelRfl
namespace Go.Proofs.YtgkllgoelpfdkaaGreat
open Go.Ab Go.RowKit
set_option linter.unusedVariables false
set_option linter.unusedSimpArgs false
def zcB (p : Dp) : UInt8 := match p with
 | .c_one_1 => 114
 | .c_both_1 => 97
 | .c_op_1 _ _ => 111
 | .c_third_1 => 116
 | .c_bound_1 => 109
 | .c_to_1 => 106
 | .c_how_1 => 107
 | .c_parts_1 => 110
 | .c_within => 110
def zk (l : List Dp) : ByteArray := ⟨(l.map zcB).toArray⟩
def rpO (o : Option (List Dp)) : ByteArray × Bool := match o with
 | some l => (zk l, true)
 | none => (⟨#[]⟩, false)
theorem zbE {k : Int} (hk : 0 ≤ k ∧ k < 256) : zbi k = some (rpO (prts k)) := by
 rcases zeP k with h | h | h | h | h | h | h | h | h | h | h | h | h | h | h | h | h | h | h
 all_goals first | (subst h; rfl) | skip
 rw [zgN h]
 unfold zbi
 rw [zV (by omega), if_pos]
 ·rfl
 ·simp only [Bool.or_eq_true, decide_eq_true_eq, List.length_cons, List.length_nil]
  omega
theorem zkN {l : List Dp} {k : Nat} (h : k < l.length) : zep (zk l) (k : Int) = some (zcB l[k]) := by
 unfold zep zk
 rw [if_pos (by omega), Int.toNat_natCast]
 show (⟨(l.map zcB).toArray⟩ : ByteArray)[k]? = _
 have : (⟨(l.map zcB).toArray⟩ : ByteArray)[k]? = (l.map zcB)[k]? := by
  show ((⟨(l.map zcB).toArray⟩ : ByteArray).data)[k]? = _
  simp
 rw [this]
 simp [h]
theorem zkm (l : List Dp) : ((zk l).size : Int) = l.length := by
 unfold zk
 show (((l.map zcB).toArray.size : Nat) : Int) = _
 simp
theorem zlr (l : List Dp) (hl : l.length ≤ 100) (c : Int) : ∀ (n k : Nat), k ≤ l.length → l.length - k < n → zfh (zk l) c n (k : Int) = some ((l.drop k).any fun p => ((zcB p).toNat : Int) == c)
 | 0, k, _, h => by omega
 | n + 1, k, hk, h => by
  show zft _ (zk l) c (k : Int) = _
  unfold zft
  rw [zkm]
  by_cases hlt : k < l.length
  ·rw [zZ (by omega), if_pos rfl, zkN hlt, Option.bind_some, List.drop_eq_getElem_cons hlt, List.any_cons]
   cases hc : ((zcB l[k]).toNat : Int) == c
   ·rw [if_neg (by simp), zbl (by omega), zlr l hl c n (k + 1) (by omega) (by omega), Bool.false_or]
   ·rw [if_pos rfl, Bool.true_or]
  ·rw [zP (by omega), if_neg (by simp), List.drop_of_length_le (by omega)]
   rfl
theorem zo {l : List Dp} (hl : l.length ≤ 100) (c : Int) : zm (zk l) c = some (l.any fun p => ((zcB p).toNat : Int) == c) := by
 have := zlr l hl c big 0 (by omega) (zbI (by omega))
 rw [List.drop_zero] at this
 exact this
theorem zbP (n : Int) (t : Bool) : zdx n t = some (decide (n = 0 ∨ (t = true ∧ 0 < n ∧ n < 16))) := by
 unfold zdx
 by_cases h0 : n = 0
 ·subst h0; simp
 ·rw [zgR h0]
  cases t
  ·simp [h0]
  ·by_cases h1 : 0 < n
   ·simp [h0, h1]
   ·simp [h0, h1]
theorem u8z (x : UInt8) : x = 0 ↔ (x.toNat : Int) = 0 := by
 rw [← zd0]; rfl
theorem ifO (a b : Bool) : (if a = true then some true else some b) = some (a || b) := by cases a <;> rfl
theorem ifA (a b : Bool) : (if a = true then some b else some false) = some (a && b) := by cases a <;> rfl
theorem ifF (a b : Bool) : (if a = true then some false else some b) = some (!a && b) := by cases a <;> rfl
theorem zpy (K O : UInt8) (R S T N M : Int) (h : (K.toNat : Int) = 1) : zW ⟨K, O, R, S, T, N, M⟩ = some (Rti ⟨K, O, R, S, T, N, M⟩) := by
 have hz : (0 : UInt8) = O ↔ (O.toNat : Int) = 0 := by rw [← u8z O]; exact eq_comm
 have hO := O.toNat_lt
 have hp : prts 1 = some [] := rfl
 have hP : zbi 1 = some (zk [], true) := by rw [zbE (by omega), hp]; rfl
 have q114 : zm (zk []) 114 = some false := by rw [zo (by decide)]; rfl
 have q97 : zm (zk []) 97 = some false := by rw [zo (by decide)]; rfl
 have q116 : zm (zk []) 116 = some false := by rw [zo (by decide)]; rfl
 have q109 : zm (zk []) 109 = some false := by rw [zo (by decide)]; rfl
 have q110 : zm (zk []) 110 = some false := by rw [zo (by decide)]; rfl
 have q106 : zm (zk []) 106 = some false := by rw [zo (by decide)]; rfl
 have q107 : zm (zk []) 107 = some false := by rw [zo (by decide)]; rfl
 unfold zW zbm Rti
 simp only [h, hP, hp, Option.bind_some, q114, q97, q116, q109, q110, q106, q107, zbP, Bool.not_true, Bool.not_false, Bool.false_eq_true, if_true, if_false, z5, List.all_cons, List.all_nil, rtP, zbf, List.foldl_cons, List.foldl_nil, seP, bse, Bool.and_true, zc.mk.injEq, true_and, and_true, hz, ifO, ifA, ifF, Int.reduceBEq]
 congr 1
 rw [Bool.eq_iff_iff]
 simp only [Bool.and_eq_true, Bool.or_eq_true, Bool.not_eq_true', Bool.or_eq_false_iff, Bool.and_eq_false_iff, Bool.not_eq_false', decide_eq_true_eq, decide_eq_false_iff_not, bne_iff_ne, ne_eq, beq_iff_eq, bne_eq_false_iff_eq, Bool.false_eq_true, false_or, or_false, false_and, and_false, true_and, and_true, or_true, true_or, not_true_eq_false, not_false_eq_true, reduceCtorEq]
 omega
theorem zoj (K O : UInt8) (R S T N M : Int) (h : (K.toNat : Int) = 2) : zW ⟨K, O, R, S, T, N, M⟩ = some (Rti ⟨K, O, R, S, T, N, M⟩) := by
 have hz : (0 : UInt8) = O ↔ (O.toNat : Int) = 0 := by rw [← u8z O]; exact eq_comm
 have hO := O.toNat_lt
 have hp : prts 2 = some [.c_one_1, .c_parts_1] := rfl
 have hP : zbi 2 = some (zk [.c_one_1, .c_parts_1], true) := by rw [zbE (by omega), hp]; rfl
 have q114 : zm (zk [.c_one_1, .c_parts_1]) 114 = some true := by rw [zo (by decide)]; rfl
 have q97 : zm (zk [.c_one_1, .c_parts_1]) 97 = some false := by rw [zo (by decide)]; rfl
 have q116 : zm (zk [.c_one_1, .c_parts_1]) 116 = some false := by rw [zo (by decide)]; rfl
 have q109 : zm (zk [.c_one_1, .c_parts_1]) 109 = some false := by rw [zo (by decide)]; rfl
 have q110 : zm (zk [.c_one_1, .c_parts_1]) 110 = some true := by rw [zo (by decide)]; rfl
 have q106 : zm (zk [.c_one_1, .c_parts_1]) 106 = some false := by rw [zo (by decide)]; rfl
 have q107 : zm (zk [.c_one_1, .c_parts_1]) 107 = some false := by rw [zo (by decide)]; rfl
 unfold zW zbm Rti
 simp only [h, hP, hp, Option.bind_some, q114, q97, q116, q109, q110, q106, q107, zbP, Bool.not_true, Bool.not_false, Bool.false_eq_true, if_true, if_false, z5, List.all_cons, List.all_nil, rtP, zbf, List.foldl_cons, List.foldl_nil, seP, bse, Bool.and_true, zc.mk.injEq, true_and, and_true, hz, ifO, ifA, ifF, Int.reduceBEq]
 congr 1
 rw [Bool.eq_iff_iff]
 simp only [Bool.and_eq_true, Bool.or_eq_true, Bool.not_eq_true', Bool.or_eq_false_iff, Bool.and_eq_false_iff, Bool.not_eq_false', decide_eq_true_eq, decide_eq_false_iff_not, bne_iff_ne, ne_eq, beq_iff_eq, bne_eq_false_iff_eq, Bool.false_eq_true, false_or, or_false, false_and, and_false, true_and, and_true, or_true, true_or, not_true_eq_false, not_false_eq_true, reduceCtorEq]
 omega
theorem zmB (K O : UInt8) (R S T N M : Int) (h : (K.toNat : Int) = 3) : zW ⟨K, O, R, S, T, N, M⟩ = some (Rti ⟨K, O, R, S, T, N, M⟩) := by
 have hz : (0 : UInt8) = O ↔ (O.toNat : Int) = 0 := by rw [← u8z O]; exact eq_comm
 have hO := O.toNat_lt
 have hp : prts 3 = some [.c_both_1] := rfl
 have hP : zbi 3 = some (zk [.c_both_1], true) := by rw [zbE (by omega), hp]; rfl
 have q114 : zm (zk [.c_both_1]) 114 = some false := by rw [zo (by decide)]; rfl
 have q97 : zm (zk [.c_both_1]) 97 = some true := by rw [zo (by decide)]; rfl
 have q116 : zm (zk [.c_both_1]) 116 = some false := by rw [zo (by decide)]; rfl
 have q109 : zm (zk [.c_both_1]) 109 = some false := by rw [zo (by decide)]; rfl
 have q110 : zm (zk [.c_both_1]) 110 = some false := by rw [zo (by decide)]; rfl
 have q106 : zm (zk [.c_both_1]) 106 = some false := by rw [zo (by decide)]; rfl
 have q107 : zm (zk [.c_both_1]) 107 = some false := by rw [zo (by decide)]; rfl
 unfold zW zbm Rti
 simp only [h, hP, hp, Option.bind_some, q114, q97, q116, q109, q110, q106, q107, zbP, Bool.not_true, Bool.not_false, Bool.false_eq_true, if_true, if_false, z5, List.all_cons, List.all_nil, rtP, zbf, List.foldl_cons, List.foldl_nil, seP, bse, Bool.and_true, zc.mk.injEq, true_and, and_true, hz, ifO, ifA, ifF, Int.reduceBEq]
 congr 1
 rw [Bool.eq_iff_iff]
 simp only [Bool.and_eq_true, Bool.or_eq_true, Bool.not_eq_true', Bool.or_eq_false_iff, Bool.and_eq_false_iff, Bool.not_eq_false', decide_eq_true_eq, decide_eq_false_iff_not, bne_iff_ne, ne_eq, beq_iff_eq, bne_eq_false_iff_eq, Bool.false_eq_true, false_or, or_false, false_and, and_false, true_and, and_true, or_true, true_or, not_true_eq_false, not_false_eq_true, reduceCtorEq]
 omega
theorem zmd (K O : UInt8) (R S T N M : Int) (h : (K.toNat : Int) = 4) : zW ⟨K, O, R, S, T, N, M⟩ = some (Rti ⟨K, O, R, S, T, N, M⟩) := by
 have hz : (0 : UInt8) = O ↔ (O.toNat : Int) = 0 := by rw [← u8z O]; exact eq_comm
 have hO := O.toNat_lt
 have hp : prts 4 = some [.c_op_1 1 13, .c_both_1, .c_third_1] := rfl
 have hP : zbi 4 = some (zk [.c_op_1 1 13, .c_both_1, .c_third_1], true) := by rw [zbE (by omega), hp]; rfl
 have q114 : zm (zk [.c_op_1 1 13, .c_both_1, .c_third_1]) 114 = some false := by rw [zo (by decide)]; rfl
 have q97 : zm (zk [.c_op_1 1 13, .c_both_1, .c_third_1]) 97 = some true := by rw [zo (by decide)]; rfl
 have q116 : zm (zk [.c_op_1 1 13, .c_both_1, .c_third_1]) 116 = some true := by rw [zo (by decide)]; rfl
 have q109 : zm (zk [.c_op_1 1 13, .c_both_1, .c_third_1]) 109 = some false := by rw [zo (by decide)]; rfl
 have q110 : zm (zk [.c_op_1 1 13, .c_both_1, .c_third_1]) 110 = some false := by rw [zo (by decide)]; rfl
 have q106 : zm (zk [.c_op_1 1 13, .c_both_1, .c_third_1]) 106 = some false := by rw [zo (by decide)]; rfl
 have q107 : zm (zk [.c_op_1 1 13, .c_both_1, .c_third_1]) 107 = some false := by rw [zo (by decide)]; rfl
 unfold zW zbm Rti
 simp only [h, hP, hp, Option.bind_some, q114, q97, q116, q109, q110, q106, q107, zbP, Bool.not_true, Bool.not_false, Bool.false_eq_true, if_true, if_false, z5, List.all_cons, List.all_nil, rtP, zbf, List.foldl_cons, List.foldl_nil, seP, bse, Bool.and_true, zc.mk.injEq, true_and, and_true, hz, ifO, ifA, ifF, Int.reduceBEq]
 congr 1
 rw [Bool.eq_iff_iff]
 simp only [Bool.and_eq_true, Bool.or_eq_true, Bool.not_eq_true', Bool.or_eq_false_iff, Bool.and_eq_false_iff, Bool.not_eq_false', decide_eq_true_eq, decide_eq_false_iff_not, bne_iff_ne, ne_eq, beq_iff_eq, bne_eq_false_iff_eq, Bool.false_eq_true, false_or, or_false, false_and, and_false, true_and, and_true, or_true, true_or, not_true_eq_false, not_false_eq_true, reduceCtorEq]
 omega
theorem znC (K O : UInt8) (R S T N M : Int) (h : (K.toNat : Int) = 5) : zW ⟨K, O, R, S, T, N, M⟩ = some (Rti ⟨K, O, R, S, T, N, M⟩) := by
 have hz : (0 : UInt8) = O ↔ (O.toNat : Int) = 0 := by rw [← u8z O]; exact eq_comm
 have hO := O.toNat_lt
 have hp : prts 5 = some [.c_op_1 14 15, .c_both_1] := rfl
 have hP : zbi 5 = some (zk [.c_op_1 14 15, .c_both_1], true) := by rw [zbE (by omega), hp]; rfl
 have q114 : zm (zk [.c_op_1 14 15, .c_both_1]) 114 = some false := by rw [zo (by decide)]; rfl
 have q97 : zm (zk [.c_op_1 14 15, .c_both_1]) 97 = some true := by rw [zo (by decide)]; rfl
 have q116 : zm (zk [.c_op_1 14 15, .c_both_1]) 116 = some false := by rw [zo (by decide)]; rfl
 have q109 : zm (zk [.c_op_1 14 15, .c_both_1]) 109 = some false := by rw [zo (by decide)]; rfl
 have q110 : zm (zk [.c_op_1 14 15, .c_both_1]) 110 = some false := by rw [zo (by decide)]; rfl
 have q106 : zm (zk [.c_op_1 14 15, .c_both_1]) 106 = some false := by rw [zo (by decide)]; rfl
 have q107 : zm (zk [.c_op_1 14 15, .c_both_1]) 107 = some false := by rw [zo (by decide)]; rfl
 unfold zW zbm Rti
 simp only [h, hP, hp, Option.bind_some, q114, q97, q116, q109, q110, q106, q107, zbP, Bool.not_true, Bool.not_false, Bool.false_eq_true, if_true, if_false, z5, List.all_cons, List.all_nil, rtP, zbf, List.foldl_cons, List.foldl_nil, seP, bse, Bool.and_true, zc.mk.injEq, true_and, and_true, hz, ifO, ifA, ifF, Int.reduceBEq]
 congr 1
 rw [Bool.eq_iff_iff]
 simp only [Bool.and_eq_true, Bool.or_eq_true, Bool.not_eq_true', Bool.or_eq_false_iff, Bool.and_eq_false_iff, Bool.not_eq_false', decide_eq_true_eq, decide_eq_false_iff_not, bne_iff_ne, ne_eq, beq_iff_eq, bne_eq_false_iff_eq, Bool.false_eq_true, false_or, or_false, false_and, and_false, true_and, and_true, or_true, true_or, not_true_eq_false, not_false_eq_true, reduceCtorEq]
 omega
theorem zmT (K O : UInt8) (R S T N M : Int) (h : (K.toNat : Int) = 6) : zW ⟨K, O, R, S, T, N, M⟩ = some (Rti ⟨K, O, R, S, T, N, M⟩) := by
 have hz : (0 : UInt8) = O ↔ (O.toNat : Int) = 0 := by rw [← u8z O]; exact eq_comm
 have hO := O.toNat_lt
 have hp : prts 6 = some [.c_both_1, .c_within] := rfl
 have hP : zbi 6 = some (zk [.c_both_1, .c_within], true) := by rw [zbE (by omega), hp]; rfl
 have q114 : zm (zk [.c_both_1, .c_within]) 114 = some false := by rw [zo (by decide)]; rfl
 have q97 : zm (zk [.c_both_1, .c_within]) 97 = some true := by rw [zo (by decide)]; rfl
 have q116 : zm (zk [.c_both_1, .c_within]) 116 = some false := by rw [zo (by decide)]; rfl
 have q109 : zm (zk [.c_both_1, .c_within]) 109 = some false := by rw [zo (by decide)]; rfl
 have q110 : zm (zk [.c_both_1, .c_within]) 110 = some true := by rw [zo (by decide)]; rfl
 have q106 : zm (zk [.c_both_1, .c_within]) 106 = some false := by rw [zo (by decide)]; rfl
 have q107 : zm (zk [.c_both_1, .c_within]) 107 = some false := by rw [zo (by decide)]; rfl
 unfold zW zbm Rti
 simp only [h, hP, hp, Option.bind_some, q114, q97, q116, q109, q110, q106, q107, zbP, Bool.not_true, Bool.not_false, Bool.false_eq_true, if_true, if_false, z5, List.all_cons, List.all_nil, rtP, zbf, List.foldl_cons, List.foldl_nil, seP, bse, Bool.and_true, zc.mk.injEq, true_and, and_true, hz, ifO, ifA, ifF, Int.reduceBEq]
 congr 1
 rw [Bool.eq_iff_iff]
 simp only [Bool.and_eq_true, Bool.or_eq_true, Bool.not_eq_true', Bool.or_eq_false_iff, Bool.and_eq_false_iff, Bool.not_eq_false', decide_eq_true_eq, decide_eq_false_iff_not, bne_iff_ne, ne_eq, beq_iff_eq, bne_eq_false_iff_eq, Bool.false_eq_true, false_or, or_false, false_and, and_false, true_and, and_true, or_true, true_or, not_true_eq_false, not_false_eq_true, reduceCtorEq]
 omega
theorem zoF (K O : UInt8) (R S T N M : Int) (h : (K.toNat : Int) = 7) : zW ⟨K, O, R, S, T, N, M⟩ = some (Rti ⟨K, O, R, S, T, N, M⟩) := by
 have hz : (0 : UInt8) = O ↔ (O.toNat : Int) = 0 := by rw [← u8z O]; exact eq_comm
 have hO := O.toNat_lt
 have hp : prts 7 = some [.c_both_1, .c_within] := rfl
 have hP : zbi 7 = some (zk [.c_both_1, .c_within], true) := by rw [zbE (by omega), hp]; rfl
 have q114 : zm (zk [.c_both_1, .c_within]) 114 = some false := by rw [zo (by decide)]; rfl
 have q97 : zm (zk [.c_both_1, .c_within]) 97 = some true := by rw [zo (by decide)]; rfl
 have q116 : zm (zk [.c_both_1, .c_within]) 116 = some false := by rw [zo (by decide)]; rfl
 have q109 : zm (zk [.c_both_1, .c_within]) 109 = some false := by rw [zo (by decide)]; rfl
 have q110 : zm (zk [.c_both_1, .c_within]) 110 = some true := by rw [zo (by decide)]; rfl
 have q106 : zm (zk [.c_both_1, .c_within]) 106 = some false := by rw [zo (by decide)]; rfl
 have q107 : zm (zk [.c_both_1, .c_within]) 107 = some false := by rw [zo (by decide)]; rfl
 unfold zW zbm Rti
 simp only [h, hP, hp, Option.bind_some, q114, q97, q116, q109, q110, q106, q107, zbP, Bool.not_true, Bool.not_false, Bool.false_eq_true, if_true, if_false, z5, List.all_cons, List.all_nil, rtP, zbf, List.foldl_cons, List.foldl_nil, seP, bse, Bool.and_true, zc.mk.injEq, true_and, and_true, hz, ifO, ifA, ifF, Int.reduceBEq]
 congr 1
 rw [Bool.eq_iff_iff]
 simp only [Bool.and_eq_true, Bool.or_eq_true, Bool.not_eq_true', Bool.or_eq_false_iff, Bool.and_eq_false_iff, Bool.not_eq_false', decide_eq_true_eq, decide_eq_false_iff_not, bne_iff_ne, ne_eq, beq_iff_eq, bne_eq_false_iff_eq, Bool.false_eq_true, false_or, or_false, false_and, and_false, true_and, and_true, or_true, true_or, not_true_eq_false, not_false_eq_true, reduceCtorEq]
 omega
theorem zoM (K O : UInt8) (R S T N M : Int) (h : (K.toNat : Int) = 8) : zW ⟨K, O, R, S, T, N, M⟩ = some (Rti ⟨K, O, R, S, T, N, M⟩) := by
 have hz : (0 : UInt8) = O ↔ (O.toNat : Int) = 0 := by rw [← u8z O]; exact eq_comm
 have hO := O.toNat_lt
 have hp : prts 8 = some [.c_both_1, .c_third_1, .c_within, .c_bound_1] := rfl
 have hP : zbi 8 = some (zk [.c_both_1, .c_third_1, .c_within, .c_bound_1], true) := by rw [zbE (by omega), hp]; rfl
 have q114 : zm (zk [.c_both_1, .c_third_1, .c_within, .c_bound_1]) 114 = some false := by rw [zo (by decide)]; rfl
 have q97 : zm (zk [.c_both_1, .c_third_1, .c_within, .c_bound_1]) 97 = some true := by rw [zo (by decide)]; rfl
 have q116 : zm (zk [.c_both_1, .c_third_1, .c_within, .c_bound_1]) 116 = some true := by rw [zo (by decide)]; rfl
 have q109 : zm (zk [.c_both_1, .c_third_1, .c_within, .c_bound_1]) 109 = some true := by rw [zo (by decide)]; rfl
 have q110 : zm (zk [.c_both_1, .c_third_1, .c_within, .c_bound_1]) 110 = some true := by rw [zo (by decide)]; rfl
 have q106 : zm (zk [.c_both_1, .c_third_1, .c_within, .c_bound_1]) 106 = some false := by rw [zo (by decide)]; rfl
 have q107 : zm (zk [.c_both_1, .c_third_1, .c_within, .c_bound_1]) 107 = some false := by rw [zo (by decide)]; rfl
 unfold zW zbm Rti
 simp only [h, hP, hp, Option.bind_some, q114, q97, q116, q109, q110, q106, q107, zbP, Bool.not_true, Bool.not_false, Bool.false_eq_true, if_true, if_false, z5, List.all_cons, List.all_nil, rtP, zbf, List.foldl_cons, List.foldl_nil, seP, bse, Bool.and_true, zc.mk.injEq, true_and, and_true, hz, ifO, ifA, ifF, Int.reduceBEq]
 congr 1
 rw [Bool.eq_iff_iff]
 simp only [Bool.and_eq_true, Bool.or_eq_true, Bool.not_eq_true', Bool.or_eq_false_iff, Bool.and_eq_false_iff, Bool.not_eq_false', decide_eq_true_eq, decide_eq_false_iff_not, bne_iff_ne, ne_eq, beq_iff_eq, bne_eq_false_iff_eq, Bool.false_eq_true, false_or, or_false, false_and, and_false, true_and, and_true, or_true, true_or, not_true_eq_false, not_false_eq_true, reduceCtorEq]
 omega
theorem zmr (K O : UInt8) (R S T N M : Int) (h : (K.toNat : Int) = 9) : zW ⟨K, O, R, S, T, N, M⟩ = some (Rti ⟨K, O, R, S, T, N, M⟩) := by
 have hz : (0 : UInt8) = O ↔ (O.toNat : Int) = 0 := by rw [← u8z O]; exact eq_comm
 have hO := O.toNat_lt
 have hp : prts 9 = some [.c_both_1, .c_third_1, .c_within, .c_bound_1] := rfl
 have hP : zbi 9 = some (zk [.c_both_1, .c_third_1, .c_within, .c_bound_1], true) := by rw [zbE (by omega), hp]; rfl
 have q114 : zm (zk [.c_both_1, .c_third_1, .c_within, .c_bound_1]) 114 = some false := by rw [zo (by decide)]; rfl
 have q97 : zm (zk [.c_both_1, .c_third_1, .c_within, .c_bound_1]) 97 = some true := by rw [zo (by decide)]; rfl
 have q116 : zm (zk [.c_both_1, .c_third_1, .c_within, .c_bound_1]) 116 = some true := by rw [zo (by decide)]; rfl
 have q109 : zm (zk [.c_both_1, .c_third_1, .c_within, .c_bound_1]) 109 = some true := by rw [zo (by decide)]; rfl
 have q110 : zm (zk [.c_both_1, .c_third_1, .c_within, .c_bound_1]) 110 = some true := by rw [zo (by decide)]; rfl
 have q106 : zm (zk [.c_both_1, .c_third_1, .c_within, .c_bound_1]) 106 = some false := by rw [zo (by decide)]; rfl
 have q107 : zm (zk [.c_both_1, .c_third_1, .c_within, .c_bound_1]) 107 = some false := by rw [zo (by decide)]; rfl
 unfold zW zbm Rti
 simp only [h, hP, hp, Option.bind_some, q114, q97, q116, q109, q110, q106, q107, zbP, Bool.not_true, Bool.not_false, Bool.false_eq_true, if_true, if_false, z5, List.all_cons, List.all_nil, rtP, zbf, List.foldl_cons, List.foldl_nil, seP, bse, Bool.and_true, zc.mk.injEq, true_and, and_true, hz, ifO, ifA, ifF, Int.reduceBEq]
 congr 1
 rw [Bool.eq_iff_iff]
 simp only [Bool.and_eq_true, Bool.or_eq_true, Bool.not_eq_true', Bool.or_eq_false_iff, Bool.and_eq_false_iff, Bool.not_eq_false', decide_eq_true_eq, decide_eq_false_iff_not, bne_iff_ne, ne_eq, beq_iff_eq, bne_eq_false_iff_eq, Bool.false_eq_true, false_or, or_false, false_and, and_false, true_and, and_true, or_true, true_or, not_true_eq_false, not_false_eq_true, reduceCtorEq]
 omega
theorem zpF (K O : UInt8) (R S T N M : Int) (h : (K.toNat : Int) = 10) : zW ⟨K, O, R, S, T, N, M⟩ = some (Rti ⟨K, O, R, S, T, N, M⟩) := by
 have hz : (0 : UInt8) = O ↔ (O.toNat : Int) = 0 := by rw [← u8z O]; exact eq_comm
 have hO := O.toNat_lt
 have hp : prts 10 = some [.c_to_1] := rfl
 have hP : zbi 10 = some (zk [.c_to_1], true) := by rw [zbE (by omega), hp]; rfl
 have q114 : zm (zk [.c_to_1]) 114 = some false := by rw [zo (by decide)]; rfl
 have q97 : zm (zk [.c_to_1]) 97 = some false := by rw [zo (by decide)]; rfl
 have q116 : zm (zk [.c_to_1]) 116 = some false := by rw [zo (by decide)]; rfl
 have q109 : zm (zk [.c_to_1]) 109 = some false := by rw [zo (by decide)]; rfl
 have q110 : zm (zk [.c_to_1]) 110 = some false := by rw [zo (by decide)]; rfl
 have q106 : zm (zk [.c_to_1]) 106 = some true := by rw [zo (by decide)]; rfl
 have q107 : zm (zk [.c_to_1]) 107 = some false := by rw [zo (by decide)]; rfl
 unfold zW zbm Rti
 simp only [h, hP, hp, Option.bind_some, q114, q97, q116, q109, q110, q106, q107, zbP, Bool.not_true, Bool.not_false, Bool.false_eq_true, if_true, if_false, z5, List.all_cons, List.all_nil, rtP, zbf, List.foldl_cons, List.foldl_nil, seP, bse, Bool.and_true, zc.mk.injEq, true_and, and_true, hz, ifO, ifA, ifF, Int.reduceBEq]
 congr 1
 rw [Bool.eq_iff_iff]
 simp only [Bool.and_eq_true, Bool.or_eq_true, Bool.not_eq_true', Bool.or_eq_false_iff, Bool.and_eq_false_iff, Bool.not_eq_false', decide_eq_true_eq, decide_eq_false_iff_not, bne_iff_ne, ne_eq, beq_iff_eq, bne_eq_false_iff_eq, Bool.false_eq_true, false_or, or_false, false_and, and_false, true_and, and_true, or_true, true_or, not_true_eq_false, not_false_eq_true, reduceCtorEq]
 omega
theorem zmO (K O : UInt8) (R S T N M : Int) (h : (K.toNat : Int) = 11) : zW ⟨K, O, R, S, T, N, M⟩ = some (Rti ⟨K, O, R, S, T, N, M⟩) := by
 have hz : (0 : UInt8) = O ↔ (O.toNat : Int) = 0 := by rw [← u8z O]; exact eq_comm
 have hO := O.toNat_lt
 have hp : prts 11 = some [.c_one_1, .c_to_1] := rfl
 have hP : zbi 11 = some (zk [.c_one_1, .c_to_1], true) := by rw [zbE (by omega), hp]; rfl
 have q114 : zm (zk [.c_one_1, .c_to_1]) 114 = some true := by rw [zo (by decide)]; rfl
 have q97 : zm (zk [.c_one_1, .c_to_1]) 97 = some false := by rw [zo (by decide)]; rfl
 have q116 : zm (zk [.c_one_1, .c_to_1]) 116 = some false := by rw [zo (by decide)]; rfl
 have q109 : zm (zk [.c_one_1, .c_to_1]) 109 = some false := by rw [zo (by decide)]; rfl
 have q110 : zm (zk [.c_one_1, .c_to_1]) 110 = some false := by rw [zo (by decide)]; rfl
 have q106 : zm (zk [.c_one_1, .c_to_1]) 106 = some true := by rw [zo (by decide)]; rfl
 have q107 : zm (zk [.c_one_1, .c_to_1]) 107 = some false := by rw [zo (by decide)]; rfl
 unfold zW zbm Rti
 simp only [h, hP, hp, Option.bind_some, q114, q97, q116, q109, q110, q106, q107, zbP, Bool.not_true, Bool.not_false, Bool.false_eq_true, if_true, if_false, z5, List.all_cons, List.all_nil, rtP, zbf, List.foldl_cons, List.foldl_nil, seP, bse, Bool.and_true, zc.mk.injEq, true_and, and_true, hz, ifO, ifA, ifF, Int.reduceBEq]
 congr 1
 rw [Bool.eq_iff_iff]
 simp only [Bool.and_eq_true, Bool.or_eq_true, Bool.not_eq_true', Bool.or_eq_false_iff, Bool.and_eq_false_iff, Bool.not_eq_false', decide_eq_true_eq, decide_eq_false_iff_not, bne_iff_ne, ne_eq, beq_iff_eq, bne_eq_false_iff_eq, Bool.false_eq_true, false_or, or_false, false_and, and_false, true_and, and_true, or_true, true_or, not_true_eq_false, not_false_eq_true, reduceCtorEq]
 omega
theorem zoO (K O : UInt8) (R S T N M : Int) (h : (K.toNat : Int) = 12) : zW ⟨K, O, R, S, T, N, M⟩ = some (Rti ⟨K, O, R, S, T, N, M⟩) := by
 have hz : (0 : UInt8) = O ↔ (O.toNat : Int) = 0 := by rw [← u8z O]; exact eq_comm
 have hO := O.toNat_lt
 have hp : prts 12 = some [.c_to_1] := rfl
 have hP : zbi 12 = some (zk [.c_to_1], true) := by rw [zbE (by omega), hp]; rfl
 have q114 : zm (zk [.c_to_1]) 114 = some false := by rw [zo (by decide)]; rfl
 have q97 : zm (zk [.c_to_1]) 97 = some false := by rw [zo (by decide)]; rfl
 have q116 : zm (zk [.c_to_1]) 116 = some false := by rw [zo (by decide)]; rfl
 have q109 : zm (zk [.c_to_1]) 109 = some false := by rw [zo (by decide)]; rfl
 have q110 : zm (zk [.c_to_1]) 110 = some false := by rw [zo (by decide)]; rfl
 have q106 : zm (zk [.c_to_1]) 106 = some true := by rw [zo (by decide)]; rfl
 have q107 : zm (zk [.c_to_1]) 107 = some false := by rw [zo (by decide)]; rfl
 unfold zW zbm Rti
 simp only [h, hP, hp, Option.bind_some, q114, q97, q116, q109, q110, q106, q107, zbP, Bool.not_true, Bool.not_false, Bool.false_eq_true, if_true, if_false, z5, List.all_cons, List.all_nil, rtP, zbf, List.foldl_cons, List.foldl_nil, seP, bse, Bool.and_true, zc.mk.injEq, true_and, and_true, hz, ifO, ifA, ifF, Int.reduceBEq]
 congr 1
 rw [Bool.eq_iff_iff]
 simp only [Bool.and_eq_true, Bool.or_eq_true, Bool.not_eq_true', Bool.or_eq_false_iff, Bool.and_eq_false_iff, Bool.not_eq_false', decide_eq_true_eq, decide_eq_false_iff_not, bne_iff_ne, ne_eq, beq_iff_eq, bne_eq_false_iff_eq, Bool.false_eq_true, false_or, or_false, false_and, and_false, true_and, and_true, or_true, true_or, not_true_eq_false, not_false_eq_true, reduceCtorEq]
 omega
theorem zqg (K O : UInt8) (R S T N M : Int) (h : (K.toNat : Int) = 13) : zW ⟨K, O, R, S, T, N, M⟩ = some (Rti ⟨K, O, R, S, T, N, M⟩) := by
 have hz : (0 : UInt8) = O ↔ (O.toNat : Int) = 0 := by rw [← u8z O]; exact eq_comm
 have hO := O.toNat_lt
 have hp : prts 13 = some [] := rfl
 have hP : zbi 13 = some (zk [], true) := by rw [zbE (by omega), hp]; rfl
 have q114 : zm (zk []) 114 = some false := by rw [zo (by decide)]; rfl
 have q97 : zm (zk []) 97 = some false := by rw [zo (by decide)]; rfl
 have q116 : zm (zk []) 116 = some false := by rw [zo (by decide)]; rfl
 have q109 : zm (zk []) 109 = some false := by rw [zo (by decide)]; rfl
 have q110 : zm (zk []) 110 = some false := by rw [zo (by decide)]; rfl
 have q106 : zm (zk []) 106 = some false := by rw [zo (by decide)]; rfl
 have q107 : zm (zk []) 107 = some false := by rw [zo (by decide)]; rfl
 unfold zW zbm Rti
 simp only [h, hP, hp, Option.bind_some, q114, q97, q116, q109, q110, q106, q107, zbP, Bool.not_true, Bool.not_false, Bool.false_eq_true, if_true, if_false, z5, List.all_cons, List.all_nil, rtP, zbf, List.foldl_cons, List.foldl_nil, seP, bse, Bool.and_true, zc.mk.injEq, true_and, and_true, hz, ifO, ifA, ifF, Int.reduceBEq]
 congr 1
 rw [Bool.eq_iff_iff]
 simp only [Bool.and_eq_true, Bool.or_eq_true, Bool.not_eq_true', Bool.or_eq_false_iff, Bool.and_eq_false_iff, Bool.not_eq_false', decide_eq_true_eq, decide_eq_false_iff_not, bne_iff_ne, ne_eq, beq_iff_eq, bne_eq_false_iff_eq, Bool.false_eq_true, false_or, or_false, false_and, and_false, true_and, and_true, or_true, true_or, not_true_eq_false, not_false_eq_true, reduceCtorEq]
 omega
theorem znJ (K O : UInt8) (R S T N M : Int) (h : (K.toNat : Int) = 14) : zW ⟨K, O, R, S, T, N, M⟩ = some (Rti ⟨K, O, R, S, T, N, M⟩) := by
 have hz : (0 : UInt8) = O ↔ (O.toNat : Int) = 0 := by rw [← u8z O]; exact eq_comm
 have hO := O.toNat_lt
 have hp : prts 14 = some [.c_within] := rfl
 have hP : zbi 14 = some (zk [.c_within], true) := by rw [zbE (by omega), hp]; rfl
 have q114 : zm (zk [.c_within]) 114 = some false := by rw [zo (by decide)]; rfl
 have q97 : zm (zk [.c_within]) 97 = some false := by rw [zo (by decide)]; rfl
 have q116 : zm (zk [.c_within]) 116 = some false := by rw [zo (by decide)]; rfl
 have q109 : zm (zk [.c_within]) 109 = some false := by rw [zo (by decide)]; rfl
 have q110 : zm (zk [.c_within]) 110 = some true := by rw [zo (by decide)]; rfl
 have q106 : zm (zk [.c_within]) 106 = some false := by rw [zo (by decide)]; rfl
 have q107 : zm (zk [.c_within]) 107 = some false := by rw [zo (by decide)]; rfl
 unfold zW zbm Rti
 simp only [h, hP, hp, Option.bind_some, q114, q97, q116, q109, q110, q106, q107, zbP, Bool.not_true, Bool.not_false, Bool.false_eq_true, if_true, if_false, z5, List.all_cons, List.all_nil, rtP, zbf, List.foldl_cons, List.foldl_nil, seP, bse, Bool.and_true, zc.mk.injEq, true_and, and_true, hz, ifO, ifA, ifF, Int.reduceBEq]
 congr 1
 rw [Bool.eq_iff_iff]
 simp only [Bool.and_eq_true, Bool.or_eq_true, Bool.not_eq_true', Bool.or_eq_false_iff, Bool.and_eq_false_iff, Bool.not_eq_false', decide_eq_true_eq, decide_eq_false_iff_not, bne_iff_ne, ne_eq, beq_iff_eq, bne_eq_false_iff_eq, Bool.false_eq_true, false_or, or_false, false_and, and_false, true_and, and_true, or_true, true_or, not_true_eq_false, not_false_eq_true, reduceCtorEq]
 omega
theorem znu (K O : UInt8) (R S T N M : Int) (h : (K.toNat : Int) = 15) : zW ⟨K, O, R, S, T, N, M⟩ = some (Rti ⟨K, O, R, S, T, N, M⟩) := by
 have hz : (0 : UInt8) = O ↔ (O.toNat : Int) = 0 := by rw [← u8z O]; exact eq_comm
 have hO := O.toNat_lt
 have hp : prts 15 = some [.c_one_1] := rfl
 have hP : zbi 15 = some (zk [.c_one_1], true) := by rw [zbE (by omega), hp]; rfl
 have q114 : zm (zk [.c_one_1]) 114 = some true := by rw [zo (by decide)]; rfl
 have q97 : zm (zk [.c_one_1]) 97 = some false := by rw [zo (by decide)]; rfl
 have q116 : zm (zk [.c_one_1]) 116 = some false := by rw [zo (by decide)]; rfl
 have q109 : zm (zk [.c_one_1]) 109 = some false := by rw [zo (by decide)]; rfl
 have q110 : zm (zk [.c_one_1]) 110 = some false := by rw [zo (by decide)]; rfl
 have q106 : zm (zk [.c_one_1]) 106 = some false := by rw [zo (by decide)]; rfl
 have q107 : zm (zk [.c_one_1]) 107 = some false := by rw [zo (by decide)]; rfl
 unfold zW zbm Rti
 simp only [h, hP, hp, Option.bind_some, q114, q97, q116, q109, q110, q106, q107, zbP, Bool.not_true, Bool.not_false, Bool.false_eq_true, if_true, if_false, z5, List.all_cons, List.all_nil, rtP, zbf, List.foldl_cons, List.foldl_nil, seP, bse, Bool.and_true, zc.mk.injEq, true_and, and_true, hz, ifO, ifA, ifF, Int.reduceBEq]
 congr 1
 rw [Bool.eq_iff_iff]
 simp only [Bool.and_eq_true, Bool.or_eq_true, Bool.not_eq_true', Bool.or_eq_false_iff, Bool.and_eq_false_iff, Bool.not_eq_false', decide_eq_true_eq, decide_eq_false_iff_not, bne_iff_ne, ne_eq, beq_iff_eq, bne_eq_false_iff_eq, Bool.false_eq_true, false_or, or_false, false_and, and_false, true_and, and_true, or_true, true_or, not_true_eq_false, not_false_eq_true, reduceCtorEq]
 omega
theorem zo6 (K O : UInt8) (R S T N M : Int) (h : (K.toNat : Int) = 16) : zW ⟨K, O, R, S, T, N, M⟩ = some (Rti ⟨K, O, R, S, T, N, M⟩) := by
 have hz : (0 : UInt8) = O ↔ (O.toNat : Int) = 0 := by rw [← u8z O]; exact eq_comm
 have hO := O.toNat_lt
 have hp : prts 16 = some [.c_one_1] := rfl
 have hP : zbi 16 = some (zk [.c_one_1], true) := by rw [zbE (by omega), hp]; rfl
 have q114 : zm (zk [.c_one_1]) 114 = some true := by rw [zo (by decide)]; rfl
 have q97 : zm (zk [.c_one_1]) 97 = some false := by rw [zo (by decide)]; rfl
 have q116 : zm (zk [.c_one_1]) 116 = some false := by rw [zo (by decide)]; rfl
 have q109 : zm (zk [.c_one_1]) 109 = some false := by rw [zo (by decide)]; rfl
 have q110 : zm (zk [.c_one_1]) 110 = some false := by rw [zo (by decide)]; rfl
 have q106 : zm (zk [.c_one_1]) 106 = some false := by rw [zo (by decide)]; rfl
 have q107 : zm (zk [.c_one_1]) 107 = some false := by rw [zo (by decide)]; rfl
 unfold zW zbm Rti
 simp only [h, hP, hp, Option.bind_some, q114, q97, q116, q109, q110, q106, q107, zbP, Bool.not_true, Bool.not_false, Bool.false_eq_true, if_true, if_false, z5, List.all_cons, List.all_nil, rtP, zbf, List.foldl_cons, List.foldl_nil, seP, bse, Bool.and_true, zc.mk.injEq, true_and, and_true, hz, ifO, ifA, ifF, Int.reduceBEq]
 congr 1
 rw [Bool.eq_iff_iff]
 simp only [Bool.and_eq_true, Bool.or_eq_true, Bool.not_eq_true', Bool.or_eq_false_iff, Bool.and_eq_false_iff, Bool.not_eq_false', decide_eq_true_eq, decide_eq_false_iff_not, bne_iff_ne, ne_eq, beq_iff_eq, bne_eq_false_iff_eq, Bool.false_eq_true, false_or, or_false, false_and, and_false, true_and, and_true, or_true, true_or, not_true_eq_false, not_false_eq_true, reduceCtorEq]
 omega
theorem zmX (K O : UInt8) (R S T N M : Int) (h : (K.toNat : Int) = 17) : zW ⟨K, O, R, S, T, N, M⟩ = some (Rti ⟨K, O, R, S, T, N, M⟩) := by
 have hz : (0 : UInt8) = O ↔ (O.toNat : Int) = 0 := by rw [← u8z O]; exact eq_comm
 have hO := O.toNat_lt
 have hp : prts 17 = some [.c_one_1] := rfl
 have hP : zbi 17 = some (zk [.c_one_1], true) := by rw [zbE (by omega), hp]; rfl
 have q114 : zm (zk [.c_one_1]) 114 = some true := by rw [zo (by decide)]; rfl
 have q97 : zm (zk [.c_one_1]) 97 = some false := by rw [zo (by decide)]; rfl
 have q116 : zm (zk [.c_one_1]) 116 = some false := by rw [zo (by decide)]; rfl
 have q109 : zm (zk [.c_one_1]) 109 = some false := by rw [zo (by decide)]; rfl
 have q110 : zm (zk [.c_one_1]) 110 = some false := by rw [zo (by decide)]; rfl
 have q106 : zm (zk [.c_one_1]) 106 = some false := by rw [zo (by decide)]; rfl
 have q107 : zm (zk [.c_one_1]) 107 = some false := by rw [zo (by decide)]; rfl
 unfold zW zbm Rti
 simp only [h, hP, hp, Option.bind_some, q114, q97, q116, q109, q110, q106, q107, zbP, Bool.not_true, Bool.not_false, Bool.false_eq_true, if_true, if_false, z5, List.all_cons, List.all_nil, rtP, zbf, List.foldl_cons, List.foldl_nil, seP, bse, Bool.and_true, zc.mk.injEq, true_and, and_true, hz, ifO, ifA, ifF, Int.reduceBEq]
 congr 1
 rw [Bool.eq_iff_iff]
 simp only [Bool.and_eq_true, Bool.or_eq_true, Bool.not_eq_true', Bool.or_eq_false_iff, Bool.and_eq_false_iff, Bool.not_eq_false', decide_eq_true_eq, decide_eq_false_iff_not, bne_iff_ne, ne_eq, beq_iff_eq, bne_eq_false_iff_eq, Bool.false_eq_true, false_or, or_false, false_and, and_false, true_and, and_true, or_true, true_or, not_true_eq_false, not_false_eq_true, reduceCtorEq]
 omega
theorem zoT (K O : UInt8) (R S T N M : Int) (h : (K.toNat : Int) = 18) : zW ⟨K, O, R, S, T, N, M⟩ = some (Rti ⟨K, O, R, S, T, N, M⟩) := by
 have hz : (0 : UInt8) = O ↔ (O.toNat : Int) = 0 := by rw [← u8z O]; exact eq_comm
 have hO := O.toNat_lt
 have hp : prts 18 = some [.c_how_1] := rfl
 have hP : zbi 18 = some (zk [.c_how_1], true) := by rw [zbE (by omega), hp]; rfl
 have q114 : zm (zk [.c_how_1]) 114 = some false := by rw [zo (by decide)]; rfl
 have q97 : zm (zk [.c_how_1]) 97 = some false := by rw [zo (by decide)]; rfl
 have q116 : zm (zk [.c_how_1]) 116 = some false := by rw [zo (by decide)]; rfl
 have q109 : zm (zk [.c_how_1]) 109 = some false := by rw [zo (by decide)]; rfl
 have q110 : zm (zk [.c_how_1]) 110 = some false := by rw [zo (by decide)]; rfl
 have q106 : zm (zk [.c_how_1]) 106 = some false := by rw [zo (by decide)]; rfl
 have q107 : zm (zk [.c_how_1]) 107 = some true := by rw [zo (by decide)]; rfl
 unfold zW zbm Rti
 simp only [h, hP, hp, Option.bind_some, q114, q97, q116, q109, q110, q106, q107, zbP, Bool.not_true, Bool.not_false, Bool.false_eq_true, if_true, if_false, z5, List.all_cons, List.all_nil, rtP, zbf, List.foldl_cons, List.foldl_nil, seP, bse, Bool.and_true, zc.mk.injEq, true_and, and_true, hz, ifO, ifA, ifF, Int.reduceBEq]
 congr 1
 rw [Bool.eq_iff_iff]
 simp only [Bool.and_eq_true, Bool.or_eq_true, Bool.not_eq_true', Bool.or_eq_false_iff, Bool.and_eq_false_iff, Bool.not_eq_false', decide_eq_true_eq, decide_eq_false_iff_not, bne_iff_ne, ne_eq, beq_iff_eq, bne_eq_false_iff_eq, Bool.false_eq_true, false_or, or_false, false_and, and_false, true_and, and_true, or_true, true_or, not_true_eq_false, not_false_eq_true, reduceCtorEq]
 omega
theorem zoY (i : Ins) : zW i = some (Rti i) := by
 obtain ⟨K, O, R, S, T, N, M⟩ := i
 have hlt := K.toNat_lt
 rcases zeP (K.toNat : Int) with h | h | h | h | h | h | h | h | h | h | h | h | h | h | h | h | h | h | h
 ·exact zpy K O R S T N M h
 ·exact zoj K O R S T N M h
 ·exact zmB K O R S T N M h
 ·exact zmd K O R S T N M h
 ·exact znC K O R S T N M h
 ·exact zmT K O R S T N M h
 ·exact zoF K O R S T N M h
 ·exact zoM K O R S T N M h
 ·exact zmr K O R S T N M h
 ·exact zpF K O R S T N M h
 ·exact zmO K O R S T N M h
 ·exact zoO K O R S T N M h
 ·exact zqg K O R S T N M h
 ·exact znJ K O R S T N M h
 ·exact znu K O R S T N M h
 ·exact zo6 K O R S T N M h
 ·exact zmX K O R S T N M h
 ·exact zoT K O R S T N M h
 ·unfold zW Rti
  simp only
  rw [zbE (by omega), zgN h]
  rfl
end Go.Proofs.YtgkllgoelpfdkaaGreat
