import Derived.Test.YtgkllgoelpfdkaaGreatP_03
import Derived.KernelRfl
namespace Go.Proofs.YtgkllgoelpfdkaaGreat
open Go.Ab Go.RowKit
set_option linter.unusedVariables false
set_option linter.unusedSimpArgs false
def zc4 (p : Dp) : UInt8 := match p with
 | .c_one_1 => 114
 | .c_both_1 => 97
 | .c_op_1 _ _ => 111
 | .c_third_1 => 116
 | .c_bound_1 => 109
 | .c_to_1 => 106
 | .c_how_1 => 107
 | .c_parts_1 => 110
 | .c_within => 110
def zm (l : List Dp) : ByteArray := ⟨(l.map zc4).toArray⟩
def rpO (o : Option (List Dp)) : ByteArray × Bool := match o with
 | some l => (zm l, true)
 | none => (⟨#[]⟩, false)
theorem zbV {k : Int} (hk : 0 ≤ k ∧ k < 256) : zbL k = some (rpO (prts k)) := by
 rcases zft k with h | h | h | h | h | h | h | h | h | h | h | h | h | h | h | h | h | h | h
 all_goals first | (subst h; rfl) | skip
 rw [zgT h]
 unfold zbL
 rw [zN (by omega), if_pos]
 ·rfl
 ·simp only [Bool.or_eq_true, decide_eq_true_eq, List.length_cons, List.length_nil]
  omega
theorem zkY {l : List Dp} {k : Nat} (h : k < l.length) : zde (zm l) (k : Int) = some (zc4 l[k]) := by
 unfold zde zm
 rw [if_pos (by omega), Int.toNat_natCast]
 show (⟨(l.map zc4).toArray⟩ : ByteArray)[k]? = _
 have : (⟨(l.map zc4).toArray⟩ : ByteArray)[k]? = (l.map zc4)[k]? := by
  show ((⟨(l.map zc4).toArray⟩ : ByteArray).data)[k]? = _
  simp
 rw [this]
 simp [h]
theorem zin (l : List Dp) : ((zm l).size : Int) = l.length := by
 unfold zm
 show (((l.map zc4).toArray.size : Nat) : Int) = _
 simp
theorem znX (l : List Dp) (hl : l.length ≤ 100) (c : Int) : ∀ (n k : Nat), k ≤ l.length → l.length - k < n → zhl (zm l) c n (k : Int) = some ((l.drop k).any fun p => ((zc4 p).toNat : Int) == c)
 | 0, k, _, h => by omega
 | n + 1, k, hk, h => by
  show zhO _ (zm l) c (k : Int) = _
  unfold zhO
  rw [zin]
  by_cases hlt : k < l.length
  ·rw [zX (by omega), if_pos rfl, zkY hlt, Option.bind_some, List.drop_eq_getElem_cons hlt, List.any_cons]
   cases hc : ((zc4 l[k]).toNat : Int) == c
   ·rw [if_neg (by simp), zbt (by omega), znX l hl c n (k + 1) (by omega) (by omega), Bool.false_or]
   ·rw [if_pos rfl, Bool.true_or]
  ·rw [zO (by omega), if_neg (by simp), List.drop_of_length_le (by omega)]
   rfl
theorem zt {l : List Dp} (hl : l.length ≤ 100) (c : Int) : zn (zm l) c = some (l.any fun p => ((zc4 p).toNat : Int) == c) := by
 have := znX l hl c big 0 (by omega) (zbR (by omega))
 rw [List.drop_zero] at this
 exact this
theorem zb7 (n : Int) (t : Bool) : zes n t = some (decide (n = 0 ∨ (t = true ∧ 0 < n ∧ n < 16))) := by
 unfold zes
 by_cases h0 : n = 0
 ·subst h0; simp
 ·rw [zeM h0]
  cases t
  ·simp [h0]
  ·by_cases h1 : 0 < n
   ·simp [h0, h1]
   ·simp [h0, h1]
theorem u8z (x : UInt8) : x = 0 ↔ (x.toNat : Int) = 0 := by
 rw [← zdS]; rfl
theorem ifO (a b : Bool) : (if a = true then some true else some b) = some (a || b) := by cases a <;> rfl
theorem ifA (a b : Bool) : (if a = true then some b else some false) = some (a && b) := by cases a <;> rfl
theorem ifF (a b : Bool) : (if a = true then some false else some b) = some (!a && b) := by cases a <;> rfl
theorem zsC (K O : UInt8) (R S T N M : Int) (h : (K.toNat : Int) = 1) : zbd ⟨K, O, R, S, T, N, M⟩ = some (Rti ⟨K, O, R, S, T, N, M⟩) := by
 have hz : (0 : UInt8) = O ↔ (O.toNat : Int) = 0 := by rw [← u8z O]; exact eq_comm
 have hO := O.toNat_lt
 have hp : prts 1 = some [] := rfl
 have hP : zbL 1 = some (zm [], true) := by rw [zbV (by omega), hp]; rfl
 have q114 : zn (zm []) 114 = some false := by rw [zt (by decide)]; rfl
 have q97 : zn (zm []) 97 = some false := by rw [zt (by decide)]; rfl
 have q116 : zn (zm []) 116 = some false := by rw [zt (by decide)]; rfl
 have q109 : zn (zm []) 109 = some false := by rw [zt (by decide)]; rfl
 have q110 : zn (zm []) 110 = some false := by rw [zt (by decide)]; rfl
 have q106 : zn (zm []) 106 = some false := by rw [zt (by decide)]; rfl
 have q107 : zn (zm []) 107 = some false := by rw [zt (by decide)]; rfl
 unfold zbd zbT Rti
 simp only [h, hP, hp, Option.bind_some, q114, q97, q116, q109, q110, q106, q107, zb7, Bool.not_true, Bool.not_false, Bool.false_eq_true, if_true, if_false, zbj, List.all_cons, List.all_nil, rtP, zbB, List.foldl_cons, List.foldl_nil, seP, bse, Bool.and_true, zf.mk.injEq, true_and, and_true, hz, ifO, ifA, ifF, Int.reduceBEq]
 congr 1
 rw [Bool.eq_iff_iff]
 simp only [Bool.and_eq_true, Bool.or_eq_true, Bool.not_eq_true', Bool.or_eq_false_iff, Bool.and_eq_false_iff, Bool.not_eq_false', decide_eq_true_eq, decide_eq_false_iff_not, bne_iff_ne, ne_eq, beq_iff_eq, bne_eq_false_iff_eq, Bool.false_eq_true, false_or, or_false, false_and, and_false, true_and, and_true, or_true, true_or, not_true_eq_false, not_false_eq_true, reduceCtorEq]
 omega
theorem zn0 (K O : UInt8) (R S T N M : Int) (h : (K.toNat : Int) = 2) : zbd ⟨K, O, R, S, T, N, M⟩ = some (Rti ⟨K, O, R, S, T, N, M⟩) := by
 have hz : (0 : UInt8) = O ↔ (O.toNat : Int) = 0 := by rw [← u8z O]; exact eq_comm
 have hO := O.toNat_lt
 have hp : prts 2 = some [.c_one_1, .c_parts_1] := rfl
 have hP : zbL 2 = some (zm [.c_one_1, .c_parts_1], true) := by rw [zbV (by omega), hp]; rfl
 have q114 : zn (zm [.c_one_1, .c_parts_1]) 114 = some true := by rw [zt (by decide)]; rfl
 have q97 : zn (zm [.c_one_1, .c_parts_1]) 97 = some false := by rw [zt (by decide)]; rfl
 have q116 : zn (zm [.c_one_1, .c_parts_1]) 116 = some false := by rw [zt (by decide)]; rfl
 have q109 : zn (zm [.c_one_1, .c_parts_1]) 109 = some false := by rw [zt (by decide)]; rfl
 have q110 : zn (zm [.c_one_1, .c_parts_1]) 110 = some true := by rw [zt (by decide)]; rfl
 have q106 : zn (zm [.c_one_1, .c_parts_1]) 106 = some false := by rw [zt (by decide)]; rfl
 have q107 : zn (zm [.c_one_1, .c_parts_1]) 107 = some false := by rw [zt (by decide)]; rfl
 unfold zbd zbT Rti
 simp only [h, hP, hp, Option.bind_some, q114, q97, q116, q109, q110, q106, q107, zb7, Bool.not_true, Bool.not_false, Bool.false_eq_true, if_true, if_false, zbj, List.all_cons, List.all_nil, rtP, zbB, List.foldl_cons, List.foldl_nil, seP, bse, Bool.and_true, zf.mk.injEq, true_and, and_true, hz, ifO, ifA, ifF, Int.reduceBEq]
 congr 1
 rw [Bool.eq_iff_iff]
 simp only [Bool.and_eq_true, Bool.or_eq_true, Bool.not_eq_true', Bool.or_eq_false_iff, Bool.and_eq_false_iff, Bool.not_eq_false', decide_eq_true_eq, decide_eq_false_iff_not, bne_iff_ne, ne_eq, beq_iff_eq, bne_eq_false_iff_eq, Bool.false_eq_true, false_or, or_false, false_and, and_false, true_and, and_true, or_true, true_or, not_true_eq_false, not_false_eq_true, reduceCtorEq]
 omega
theorem zpa (K O : UInt8) (R S T N M : Int) (h : (K.toNat : Int) = 3) : zbd ⟨K, O, R, S, T, N, M⟩ = some (Rti ⟨K, O, R, S, T, N, M⟩) := by
 have hz : (0 : UInt8) = O ↔ (O.toNat : Int) = 0 := by rw [← u8z O]; exact eq_comm
 have hO := O.toNat_lt
 have hp : prts 3 = some [.c_both_1] := rfl
 have hP : zbL 3 = some (zm [.c_both_1], true) := by rw [zbV (by omega), hp]; rfl
 have q114 : zn (zm [.c_both_1]) 114 = some false := by rw [zt (by decide)]; rfl
 have q97 : zn (zm [.c_both_1]) 97 = some true := by rw [zt (by decide)]; rfl
 have q116 : zn (zm [.c_both_1]) 116 = some false := by rw [zt (by decide)]; rfl
 have q109 : zn (zm [.c_both_1]) 109 = some false := by rw [zt (by decide)]; rfl
 have q110 : zn (zm [.c_both_1]) 110 = some false := by rw [zt (by decide)]; rfl
 have q106 : zn (zm [.c_both_1]) 106 = some false := by rw [zt (by decide)]; rfl
 have q107 : zn (zm [.c_both_1]) 107 = some false := by rw [zt (by decide)]; rfl
 unfold zbd zbT Rti
 simp only [h, hP, hp, Option.bind_some, q114, q97, q116, q109, q110, q106, q107, zb7, Bool.not_true, Bool.not_false, Bool.false_eq_true, if_true, if_false, zbj, List.all_cons, List.all_nil, rtP, zbB, List.foldl_cons, List.foldl_nil, seP, bse, Bool.and_true, zf.mk.injEq, true_and, and_true, hz, ifO, ifA, ifF, Int.reduceBEq]
 congr 1
 rw [Bool.eq_iff_iff]
 simp only [Bool.and_eq_true, Bool.or_eq_true, Bool.not_eq_true', Bool.or_eq_false_iff, Bool.and_eq_false_iff, Bool.not_eq_false', decide_eq_true_eq, decide_eq_false_iff_not, bne_iff_ne, ne_eq, beq_iff_eq, bne_eq_false_iff_eq, Bool.false_eq_true, false_or, or_false, false_and, and_false, true_and, and_true, or_true, true_or, not_true_eq_false, not_false_eq_true, reduceCtorEq]
 omega
theorem zpo (K O : UInt8) (R S T N M : Int) (h : (K.toNat : Int) = 4) : zbd ⟨K, O, R, S, T, N, M⟩ = some (Rti ⟨K, O, R, S, T, N, M⟩) := by
 have hz : (0 : UInt8) = O ↔ (O.toNat : Int) = 0 := by rw [← u8z O]; exact eq_comm
 have hO := O.toNat_lt
 have hp : prts 4 = some [.c_op_1 1 13, .c_both_1, .c_third_1] := rfl
 have hP : zbL 4 = some (zm [.c_op_1 1 13, .c_both_1, .c_third_1], true) := by rw [zbV (by omega), hp]; rfl
 have q114 : zn (zm [.c_op_1 1 13, .c_both_1, .c_third_1]) 114 = some false := by rw [zt (by decide)]; rfl
 have q97 : zn (zm [.c_op_1 1 13, .c_both_1, .c_third_1]) 97 = some true := by rw [zt (by decide)]; rfl
 have q116 : zn (zm [.c_op_1 1 13, .c_both_1, .c_third_1]) 116 = some true := by rw [zt (by decide)]; rfl
 have q109 : zn (zm [.c_op_1 1 13, .c_both_1, .c_third_1]) 109 = some false := by rw [zt (by decide)]; rfl
 have q110 : zn (zm [.c_op_1 1 13, .c_both_1, .c_third_1]) 110 = some false := by rw [zt (by decide)]; rfl
 have q106 : zn (zm [.c_op_1 1 13, .c_both_1, .c_third_1]) 106 = some false := by rw [zt (by decide)]; rfl
 have q107 : zn (zm [.c_op_1 1 13, .c_both_1, .c_third_1]) 107 = some false := by rw [zt (by decide)]; rfl
 unfold zbd zbT Rti
 simp only [h, hP, hp, Option.bind_some, q114, q97, q116, q109, q110, q106, q107, zb7, Bool.not_true, Bool.not_false, Bool.false_eq_true, if_true, if_false, zbj, List.all_cons, List.all_nil, rtP, zbB, List.foldl_cons, List.foldl_nil, seP, bse, Bool.and_true, zf.mk.injEq, true_and, and_true, hz, ifO, ifA, ifF, Int.reduceBEq]
 congr 1
 rw [Bool.eq_iff_iff]
 simp only [Bool.and_eq_true, Bool.or_eq_true, Bool.not_eq_true', Bool.or_eq_false_iff, Bool.and_eq_false_iff, Bool.not_eq_false', decide_eq_true_eq, decide_eq_false_iff_not, bne_iff_ne, ne_eq, beq_iff_eq, bne_eq_false_iff_eq, Bool.false_eq_true, false_or, or_false, false_and, and_false, true_and, and_true, or_true, true_or, not_true_eq_false, not_false_eq_true, reduceCtorEq]
 omega
theorem zqX (K O : UInt8) (R S T N M : Int) (h : (K.toNat : Int) = 5) : zbd ⟨K, O, R, S, T, N, M⟩ = some (Rti ⟨K, O, R, S, T, N, M⟩) := by
 have hz : (0 : UInt8) = O ↔ (O.toNat : Int) = 0 := by rw [← u8z O]; exact eq_comm
 have hO := O.toNat_lt
 have hp : prts 5 = some [.c_op_1 14 15, .c_both_1] := rfl
 have hP : zbL 5 = some (zm [.c_op_1 14 15, .c_both_1], true) := by rw [zbV (by omega), hp]; rfl
 have q114 : zn (zm [.c_op_1 14 15, .c_both_1]) 114 = some false := by rw [zt (by decide)]; rfl
 have q97 : zn (zm [.c_op_1 14 15, .c_both_1]) 97 = some true := by rw [zt (by decide)]; rfl
 have q116 : zn (zm [.c_op_1 14 15, .c_both_1]) 116 = some false := by rw [zt (by decide)]; rfl
 have q109 : zn (zm [.c_op_1 14 15, .c_both_1]) 109 = some false := by rw [zt (by decide)]; rfl
 have q110 : zn (zm [.c_op_1 14 15, .c_both_1]) 110 = some false := by rw [zt (by decide)]; rfl
 have q106 : zn (zm [.c_op_1 14 15, .c_both_1]) 106 = some false := by rw [zt (by decide)]; rfl
 have q107 : zn (zm [.c_op_1 14 15, .c_both_1]) 107 = some false := by rw [zt (by decide)]; rfl
 unfold zbd zbT Rti
 simp only [h, hP, hp, Option.bind_some, q114, q97, q116, q109, q110, q106, q107, zb7, Bool.not_true, Bool.not_false, Bool.false_eq_true, if_true, if_false, zbj, List.all_cons, List.all_nil, rtP, zbB, List.foldl_cons, List.foldl_nil, seP, bse, Bool.and_true, zf.mk.injEq, true_and, and_true, hz, ifO, ifA, ifF, Int.reduceBEq]
 congr 1
 rw [Bool.eq_iff_iff]
 simp only [Bool.and_eq_true, Bool.or_eq_true, Bool.not_eq_true', Bool.or_eq_false_iff, Bool.and_eq_false_iff, Bool.not_eq_false', decide_eq_true_eq, decide_eq_false_iff_not, bne_iff_ne, ne_eq, beq_iff_eq, bne_eq_false_iff_eq, Bool.false_eq_true, false_or, or_false, false_and, and_false, true_and, and_true, or_true, true_or, not_true_eq_false, not_false_eq_true, reduceCtorEq]
 omega
theorem zrC (K O : UInt8) (R S T N M : Int) (h : (K.toNat : Int) = 6) : zbd ⟨K, O, R, S, T, N, M⟩ = some (Rti ⟨K, O, R, S, T, N, M⟩) := by
 have hz : (0 : UInt8) = O ↔ (O.toNat : Int) = 0 := by rw [← u8z O]; exact eq_comm
 have hO := O.toNat_lt
 have hp : prts 6 = some [.c_both_1, .c_within] := rfl
 have hP : zbL 6 = some (zm [.c_both_1, .c_within], true) := by rw [zbV (by omega), hp]; rfl
 have q114 : zn (zm [.c_both_1, .c_within]) 114 = some false := by rw [zt (by decide)]; rfl
 have q97 : zn (zm [.c_both_1, .c_within]) 97 = some true := by rw [zt (by decide)]; rfl
 have q116 : zn (zm [.c_both_1, .c_within]) 116 = some false := by rw [zt (by decide)]; rfl
 have q109 : zn (zm [.c_both_1, .c_within]) 109 = some false := by rw [zt (by decide)]; rfl
 have q110 : zn (zm [.c_both_1, .c_within]) 110 = some true := by rw [zt (by decide)]; rfl
 have q106 : zn (zm [.c_both_1, .c_within]) 106 = some false := by rw [zt (by decide)]; rfl
 have q107 : zn (zm [.c_both_1, .c_within]) 107 = some false := by rw [zt (by decide)]; rfl
 unfold zbd zbT Rti
 simp only [h, hP, hp, Option.bind_some, q114, q97, q116, q109, q110, q106, q107, zb7, Bool.not_true, Bool.not_false, Bool.false_eq_true, if_true, if_false, zbj, List.all_cons, List.all_nil, rtP, zbB, List.foldl_cons, List.foldl_nil, seP, bse, Bool.and_true, zf.mk.injEq, true_and, and_true, hz, ifO, ifA, ifF, Int.reduceBEq]
 congr 1
 rw [Bool.eq_iff_iff]
 simp only [Bool.and_eq_true, Bool.or_eq_true, Bool.not_eq_true', Bool.or_eq_false_iff, Bool.and_eq_false_iff, Bool.not_eq_false', decide_eq_true_eq, decide_eq_false_iff_not, bne_iff_ne, ne_eq, beq_iff_eq, bne_eq_false_iff_eq, Bool.false_eq_true, false_or, or_false, false_and, and_false, true_and, and_true, or_true, true_or, not_true_eq_false, not_false_eq_true, reduceCtorEq]
 omega
theorem zo2 (K O : UInt8) (R S T N M : Int) (h : (K.toNat : Int) = 7) : zbd ⟨K, O, R, S, T, N, M⟩ = some (Rti ⟨K, O, R, S, T, N, M⟩) := by
 have hz : (0 : UInt8) = O ↔ (O.toNat : Int) = 0 := by rw [← u8z O]; exact eq_comm
 have hO := O.toNat_lt
 have hp : prts 7 = some [.c_both_1, .c_within] := rfl
 have hP : zbL 7 = some (zm [.c_both_1, .c_within], true) := by rw [zbV (by omega), hp]; rfl
 have q114 : zn (zm [.c_both_1, .c_within]) 114 = some false := by rw [zt (by decide)]; rfl
 have q97 : zn (zm [.c_both_1, .c_within]) 97 = some true := by rw [zt (by decide)]; rfl
 have q116 : zn (zm [.c_both_1, .c_within]) 116 = some false := by rw [zt (by decide)]; rfl
 have q109 : zn (zm [.c_both_1, .c_within]) 109 = some false := by rw [zt (by decide)]; rfl
 have q110 : zn (zm [.c_both_1, .c_within]) 110 = some true := by rw [zt (by decide)]; rfl
 have q106 : zn (zm [.c_both_1, .c_within]) 106 = some false := by rw [zt (by decide)]; rfl
 have q107 : zn (zm [.c_both_1, .c_within]) 107 = some false := by rw [zt (by decide)]; rfl
 unfold zbd zbT Rti
 simp only [h, hP, hp, Option.bind_some, q114, q97, q116, q109, q110, q106, q107, zb7, Bool.not_true, Bool.not_false, Bool.false_eq_true, if_true, if_false, zbj, List.all_cons, List.all_nil, rtP, zbB, List.foldl_cons, List.foldl_nil, seP, bse, Bool.and_true, zf.mk.injEq, true_and, and_true, hz, ifO, ifA, ifF, Int.reduceBEq]
 congr 1
 rw [Bool.eq_iff_iff]
 simp only [Bool.and_eq_true, Bool.or_eq_true, Bool.not_eq_true', Bool.or_eq_false_iff, Bool.and_eq_false_iff, Bool.not_eq_false', decide_eq_true_eq, decide_eq_false_iff_not, bne_iff_ne, ne_eq, beq_iff_eq, bne_eq_false_iff_eq, Bool.false_eq_true, false_or, or_false, false_and, and_false, true_and, and_true, or_true, true_or, not_true_eq_false, not_false_eq_true, reduceCtorEq]
 omega
theorem zqC (K O : UInt8) (R S T N M : Int) (h : (K.toNat : Int) = 8) : zbd ⟨K, O, R, S, T, N, M⟩ = some (Rti ⟨K, O, R, S, T, N, M⟩) := by
 have hz : (0 : UInt8) = O ↔ (O.toNat : Int) = 0 := by rw [← u8z O]; exact eq_comm
 have hO := O.toNat_lt
 have hp : prts 8 = some [.c_both_1, .c_third_1, .c_within, .c_bound_1] := rfl
 have hP : zbL 8 = some (zm [.c_both_1, .c_third_1, .c_within, .c_bound_1], true) := by rw [zbV (by omega), hp]; rfl
 have q114 : zn (zm [.c_both_1, .c_third_1, .c_within, .c_bound_1]) 114 = some false := by rw [zt (by decide)]; rfl
 have q97 : zn (zm [.c_both_1, .c_third_1, .c_within, .c_bound_1]) 97 = some true := by rw [zt (by decide)]; rfl
 have q116 : zn (zm [.c_both_1, .c_third_1, .c_within, .c_bound_1]) 116 = some true := by rw [zt (by decide)]; rfl
 have q109 : zn (zm [.c_both_1, .c_third_1, .c_within, .c_bound_1]) 109 = some true := by rw [zt (by decide)]; rfl
 have q110 : zn (zm [.c_both_1, .c_third_1, .c_within, .c_bound_1]) 110 = some true := by rw [zt (by decide)]; rfl
 have q106 : zn (zm [.c_both_1, .c_third_1, .c_within, .c_bound_1]) 106 = some false := by rw [zt (by decide)]; rfl
 have q107 : zn (zm [.c_both_1, .c_third_1, .c_within, .c_bound_1]) 107 = some false := by rw [zt (by decide)]; rfl
 unfold zbd zbT Rti
 simp only [h, hP, hp, Option.bind_some, q114, q97, q116, q109, q110, q106, q107, zb7, Bool.not_true, Bool.not_false, Bool.false_eq_true, if_true, if_false, zbj, List.all_cons, List.all_nil, rtP, zbB, List.foldl_cons, List.foldl_nil, seP, bse, Bool.and_true, zf.mk.injEq, true_and, and_true, hz, ifO, ifA, ifF, Int.reduceBEq]
 congr 1
 rw [Bool.eq_iff_iff]
 simp only [Bool.and_eq_true, Bool.or_eq_true, Bool.not_eq_true', Bool.or_eq_false_iff, Bool.and_eq_false_iff, Bool.not_eq_false', decide_eq_true_eq, decide_eq_false_iff_not, bne_iff_ne, ne_eq, beq_iff_eq, bne_eq_false_iff_eq, Bool.false_eq_true, false_or, or_false, false_and, and_false, true_and, and_true, or_true, true_or, not_true_eq_false, not_false_eq_true, reduceCtorEq]
 omega
theorem zqZ (K O : UInt8) (R S T N M : Int) (h : (K.toNat : Int) = 9) : zbd ⟨K, O, R, S, T, N, M⟩ = some (Rti ⟨K, O, R, S, T, N, M⟩) := by
 have hz : (0 : UInt8) = O ↔ (O.toNat : Int) = 0 := by rw [← u8z O]; exact eq_comm
 have hO := O.toNat_lt
 have hp : prts 9 = some [.c_both_1, .c_third_1, .c_within, .c_bound_1] := rfl
 have hP : zbL 9 = some (zm [.c_both_1, .c_third_1, .c_within, .c_bound_1], true) := by rw [zbV (by omega), hp]; rfl
 have q114 : zn (zm [.c_both_1, .c_third_1, .c_within, .c_bound_1]) 114 = some false := by rw [zt (by decide)]; rfl
 have q97 : zn (zm [.c_both_1, .c_third_1, .c_within, .c_bound_1]) 97 = some true := by rw [zt (by decide)]; rfl
 have q116 : zn (zm [.c_both_1, .c_third_1, .c_within, .c_bound_1]) 116 = some true := by rw [zt (by decide)]; rfl
 have q109 : zn (zm [.c_both_1, .c_third_1, .c_within, .c_bound_1]) 109 = some true := by rw [zt (by decide)]; rfl
 have q110 : zn (zm [.c_both_1, .c_third_1, .c_within, .c_bound_1]) 110 = some true := by rw [zt (by decide)]; rfl
 have q106 : zn (zm [.c_both_1, .c_third_1, .c_within, .c_bound_1]) 106 = some false := by rw [zt (by decide)]; rfl
 have q107 : zn (zm [.c_both_1, .c_third_1, .c_within, .c_bound_1]) 107 = some false := by rw [zt (by decide)]; rfl
 unfold zbd zbT Rti
 simp only [h, hP, hp, Option.bind_some, q114, q97, q116, q109, q110, q106, q107, zb7, Bool.not_true, Bool.not_false, Bool.false_eq_true, if_true, if_false, zbj, List.all_cons, List.all_nil, rtP, zbB, List.foldl_cons, List.foldl_nil, seP, bse, Bool.and_true, zf.mk.injEq, true_and, and_true, hz, ifO, ifA, ifF, Int.reduceBEq]
 congr 1
 rw [Bool.eq_iff_iff]
 simp only [Bool.and_eq_true, Bool.or_eq_true, Bool.not_eq_true', Bool.or_eq_false_iff, Bool.and_eq_false_iff, Bool.not_eq_false', decide_eq_true_eq, decide_eq_false_iff_not, bne_iff_ne, ne_eq, beq_iff_eq, bne_eq_false_iff_eq, Bool.false_eq_true, false_or, or_false, false_and, and_false, true_and, and_true, or_true, true_or, not_true_eq_false, not_false_eq_true, reduceCtorEq]
 omega
theorem zpt (K O : UInt8) (R S T N M : Int) (h : (K.toNat : Int) = 10) : zbd ⟨K, O, R, S, T, N, M⟩ = some (Rti ⟨K, O, R, S, T, N, M⟩) := by
 have hz : (0 : UInt8) = O ↔ (O.toNat : Int) = 0 := by rw [← u8z O]; exact eq_comm
 have hO := O.toNat_lt
 have hp : prts 10 = some [.c_to_1] := rfl
 have hP : zbL 10 = some (zm [.c_to_1], true) := by rw [zbV (by omega), hp]; rfl
 have q114 : zn (zm [.c_to_1]) 114 = some false := by rw [zt (by decide)]; rfl
 have q97 : zn (zm [.c_to_1]) 97 = some false := by rw [zt (by decide)]; rfl
 have q116 : zn (zm [.c_to_1]) 116 = some false := by rw [zt (by decide)]; rfl
 have q109 : zn (zm [.c_to_1]) 109 = some false := by rw [zt (by decide)]; rfl
 have q110 : zn (zm [.c_to_1]) 110 = some false := by rw [zt (by decide)]; rfl
 have q106 : zn (zm [.c_to_1]) 106 = some true := by rw [zt (by decide)]; rfl
 have q107 : zn (zm [.c_to_1]) 107 = some false := by rw [zt (by decide)]; rfl
 unfold zbd zbT Rti
 simp only [h, hP, hp, Option.bind_some, q114, q97, q116, q109, q110, q106, q107, zb7, Bool.not_true, Bool.not_false, Bool.false_eq_true, if_true, if_false, zbj, List.all_cons, List.all_nil, rtP, zbB, List.foldl_cons, List.foldl_nil, seP, bse, Bool.and_true, zf.mk.injEq, true_and, and_true, hz, ifO, ifA, ifF, Int.reduceBEq]
 congr 1
 rw [Bool.eq_iff_iff]
 simp only [Bool.and_eq_true, Bool.or_eq_true, Bool.not_eq_true', Bool.or_eq_false_iff, Bool.and_eq_false_iff, Bool.not_eq_false', decide_eq_true_eq, decide_eq_false_iff_not, bne_iff_ne, ne_eq, beq_iff_eq, bne_eq_false_iff_eq, Bool.false_eq_true, false_or, or_false, false_and, and_false, true_and, and_true, or_true, true_or, not_true_eq_false, not_false_eq_true, reduceCtorEq]
 omega
theorem zn2 (K O : UInt8) (R S T N M : Int) (h : (K.toNat : Int) = 11) : zbd ⟨K, O, R, S, T, N, M⟩ = some (Rti ⟨K, O, R, S, T, N, M⟩) := by
 have hz : (0 : UInt8) = O ↔ (O.toNat : Int) = 0 := by rw [← u8z O]; exact eq_comm
 have hO := O.toNat_lt
 have hp : prts 11 = some [.c_one_1, .c_to_1] := rfl
 have hP : zbL 11 = some (zm [.c_one_1, .c_to_1], true) := by rw [zbV (by omega), hp]; rfl
 have q114 : zn (zm [.c_one_1, .c_to_1]) 114 = some true := by rw [zt (by decide)]; rfl
 have q97 : zn (zm [.c_one_1, .c_to_1]) 97 = some false := by rw [zt (by decide)]; rfl
 have q116 : zn (zm [.c_one_1, .c_to_1]) 116 = some false := by rw [zt (by decide)]; rfl
 have q109 : zn (zm [.c_one_1, .c_to_1]) 109 = some false := by rw [zt (by decide)]; rfl
 have q110 : zn (zm [.c_one_1, .c_to_1]) 110 = some false := by rw [zt (by decide)]; rfl
 have q106 : zn (zm [.c_one_1, .c_to_1]) 106 = some true := by rw [zt (by decide)]; rfl
 have q107 : zn (zm [.c_one_1, .c_to_1]) 107 = some false := by rw [zt (by decide)]; rfl
 unfold zbd zbT Rti
 simp only [h, hP, hp, Option.bind_some, q114, q97, q116, q109, q110, q106, q107, zb7, Bool.not_true, Bool.not_false, Bool.false_eq_true, if_true, if_false, zbj, List.all_cons, List.all_nil, rtP, zbB, List.foldl_cons, List.foldl_nil, seP, bse, Bool.and_true, zf.mk.injEq, true_and, and_true, hz, ifO, ifA, ifF, Int.reduceBEq]
 congr 1
 rw [Bool.eq_iff_iff]
 simp only [Bool.and_eq_true, Bool.or_eq_true, Bool.not_eq_true', Bool.or_eq_false_iff, Bool.and_eq_false_iff, Bool.not_eq_false', decide_eq_true_eq, decide_eq_false_iff_not, bne_iff_ne, ne_eq, beq_iff_eq, bne_eq_false_iff_eq, Bool.false_eq_true, false_or, or_false, false_and, and_false, true_and, and_true, or_true, true_or, not_true_eq_false, not_false_eq_true, reduceCtorEq]
 omega
theorem zsj (K O : UInt8) (R S T N M : Int) (h : (K.toNat : Int) = 12) : zbd ⟨K, O, R, S, T, N, M⟩ = some (Rti ⟨K, O, R, S, T, N, M⟩) := by
 have hz : (0 : UInt8) = O ↔ (O.toNat : Int) = 0 := by rw [← u8z O]; exact eq_comm
 have hO := O.toNat_lt
 have hp : prts 12 = some [.c_to_1] := rfl
 have hP : zbL 12 = some (zm [.c_to_1], true) := by rw [zbV (by omega), hp]; rfl
 have q114 : zn (zm [.c_to_1]) 114 = some false := by rw [zt (by decide)]; rfl
 have q97 : zn (zm [.c_to_1]) 97 = some false := by rw [zt (by decide)]; rfl
 have q116 : zn (zm [.c_to_1]) 116 = some false := by rw [zt (by decide)]; rfl
 have q109 : zn (zm [.c_to_1]) 109 = some false := by rw [zt (by decide)]; rfl
 have q110 : zn (zm [.c_to_1]) 110 = some false := by rw [zt (by decide)]; rfl
 have q106 : zn (zm [.c_to_1]) 106 = some true := by rw [zt (by decide)]; rfl
 have q107 : zn (zm [.c_to_1]) 107 = some false := by rw [zt (by decide)]; rfl
 unfold zbd zbT Rti
 simp only [h, hP, hp, Option.bind_some, q114, q97, q116, q109, q110, q106, q107, zb7, Bool.not_true, Bool.not_false, Bool.false_eq_true, if_true, if_false, zbj, List.all_cons, List.all_nil, rtP, zbB, List.foldl_cons, List.foldl_nil, seP, bse, Bool.and_true, zf.mk.injEq, true_and, and_true, hz, ifO, ifA, ifF, Int.reduceBEq]
 congr 1
 rw [Bool.eq_iff_iff]
 simp only [Bool.and_eq_true, Bool.or_eq_true, Bool.not_eq_true', Bool.or_eq_false_iff, Bool.and_eq_false_iff, Bool.not_eq_false', decide_eq_true_eq, decide_eq_false_iff_not, bne_iff_ne, ne_eq, beq_iff_eq, bne_eq_false_iff_eq, Bool.false_eq_true, false_or, or_false, false_and, and_false, true_and, and_true, or_true, true_or, not_true_eq_false, not_false_eq_true, reduceCtorEq]
 omega
theorem zqv (K O : UInt8) (R S T N M : Int) (h : (K.toNat : Int) = 13) : zbd ⟨K, O, R, S, T, N, M⟩ = some (Rti ⟨K, O, R, S, T, N, M⟩) := by
 have hz : (0 : UInt8) = O ↔ (O.toNat : Int) = 0 := by rw [← u8z O]; exact eq_comm
 have hO := O.toNat_lt
 have hp : prts 13 = some [] := rfl
 have hP : zbL 13 = some (zm [], true) := by rw [zbV (by omega), hp]; rfl
 have q114 : zn (zm []) 114 = some false := by rw [zt (by decide)]; rfl
 have q97 : zn (zm []) 97 = some false := by rw [zt (by decide)]; rfl
 have q116 : zn (zm []) 116 = some false := by rw [zt (by decide)]; rfl
 have q109 : zn (zm []) 109 = some false := by rw [zt (by decide)]; rfl
 have q110 : zn (zm []) 110 = some false := by rw [zt (by decide)]; rfl
 have q106 : zn (zm []) 106 = some false := by rw [zt (by decide)]; rfl
 have q107 : zn (zm []) 107 = some false := by rw [zt (by decide)]; rfl
 unfold zbd zbT Rti
 simp only [h, hP, hp, Option.bind_some, q114, q97, q116, q109, q110, q106, q107, zb7, Bool.not_true, Bool.not_false, Bool.false_eq_true, if_true, if_false, zbj, List.all_cons, List.all_nil, rtP, zbB, List.foldl_cons, List.foldl_nil, seP, bse, Bool.and_true, zf.mk.injEq, true_and, and_true, hz, ifO, ifA, ifF, Int.reduceBEq]
 congr 1
 rw [Bool.eq_iff_iff]
 simp only [Bool.and_eq_true, Bool.or_eq_true, Bool.not_eq_true', Bool.or_eq_false_iff, Bool.and_eq_false_iff, Bool.not_eq_false', decide_eq_true_eq, decide_eq_false_iff_not, bne_iff_ne, ne_eq, beq_iff_eq, bne_eq_false_iff_eq, Bool.false_eq_true, false_or, or_false, false_and, and_false, true_and, and_true, or_true, true_or, not_true_eq_false, not_false_eq_true, reduceCtorEq]
 omega
theorem zrU (K O : UInt8) (R S T N M : Int) (h : (K.toNat : Int) = 14) : zbd ⟨K, O, R, S, T, N, M⟩ = some (Rti ⟨K, O, R, S, T, N, M⟩) := by
 have hz : (0 : UInt8) = O ↔ (O.toNat : Int) = 0 := by rw [← u8z O]; exact eq_comm
 have hO := O.toNat_lt
 have hp : prts 14 = some [.c_within] := rfl
 have hP : zbL 14 = some (zm [.c_within], true) := by rw [zbV (by omega), hp]; rfl
 have q114 : zn (zm [.c_within]) 114 = some false := by rw [zt (by decide)]; rfl
 have q97 : zn (zm [.c_within]) 97 = some false := by rw [zt (by decide)]; rfl
 have q116 : zn (zm [.c_within]) 116 = some false := by rw [zt (by decide)]; rfl
 have q109 : zn (zm [.c_within]) 109 = some false := by rw [zt (by decide)]; rfl
 have q110 : zn (zm [.c_within]) 110 = some true := by rw [zt (by decide)]; rfl
 have q106 : zn (zm [.c_within]) 106 = some false := by rw [zt (by decide)]; rfl
 have q107 : zn (zm [.c_within]) 107 = some false := by rw [zt (by decide)]; rfl
 unfold zbd zbT Rti
 simp only [h, hP, hp, Option.bind_some, q114, q97, q116, q109, q110, q106, q107, zb7, Bool.not_true, Bool.not_false, Bool.false_eq_true, if_true, if_false, zbj, List.all_cons, List.all_nil, rtP, zbB, List.foldl_cons, List.foldl_nil, seP, bse, Bool.and_true, zf.mk.injEq, true_and, and_true, hz, ifO, ifA, ifF, Int.reduceBEq]
 congr 1
 rw [Bool.eq_iff_iff]
 simp only [Bool.and_eq_true, Bool.or_eq_true, Bool.not_eq_true', Bool.or_eq_false_iff, Bool.and_eq_false_iff, Bool.not_eq_false', decide_eq_true_eq, decide_eq_false_iff_not, bne_iff_ne, ne_eq, beq_iff_eq, bne_eq_false_iff_eq, Bool.false_eq_true, false_or, or_false, false_and, and_false, true_and, and_true, or_true, true_or, not_true_eq_false, not_false_eq_true, reduceCtorEq]
 omega
theorem zrX (K O : UInt8) (R S T N M : Int) (h : (K.toNat : Int) = 15) : zbd ⟨K, O, R, S, T, N, M⟩ = some (Rti ⟨K, O, R, S, T, N, M⟩) := by
 have hz : (0 : UInt8) = O ↔ (O.toNat : Int) = 0 := by rw [← u8z O]; exact eq_comm
 have hO := O.toNat_lt
 have hp : prts 15 = some [.c_one_1] := rfl
 have hP : zbL 15 = some (zm [.c_one_1], true) := by rw [zbV (by omega), hp]; rfl
 have q114 : zn (zm [.c_one_1]) 114 = some true := by rw [zt (by decide)]; rfl
 have q97 : zn (zm [.c_one_1]) 97 = some false := by rw [zt (by decide)]; rfl
 have q116 : zn (zm [.c_one_1]) 116 = some false := by rw [zt (by decide)]; rfl
 have q109 : zn (zm [.c_one_1]) 109 = some false := by rw [zt (by decide)]; rfl
 have q110 : zn (zm [.c_one_1]) 110 = some false := by rw [zt (by decide)]; rfl
 have q106 : zn (zm [.c_one_1]) 106 = some false := by rw [zt (by decide)]; rfl
 have q107 : zn (zm [.c_one_1]) 107 = some false := by rw [zt (by decide)]; rfl
 unfold zbd zbT Rti
 simp only [h, hP, hp, Option.bind_some, q114, q97, q116, q109, q110, q106, q107, zb7, Bool.not_true, Bool.not_false, Bool.false_eq_true, if_true, if_false, zbj, List.all_cons, List.all_nil, rtP, zbB, List.foldl_cons, List.foldl_nil, seP, bse, Bool.and_true, zf.mk.injEq, true_and, and_true, hz, ifO, ifA, ifF, Int.reduceBEq]
 congr 1
 rw [Bool.eq_iff_iff]
 simp only [Bool.and_eq_true, Bool.or_eq_true, Bool.not_eq_true', Bool.or_eq_false_iff, Bool.and_eq_false_iff, Bool.not_eq_false', decide_eq_true_eq, decide_eq_false_iff_not, bne_iff_ne, ne_eq, beq_iff_eq, bne_eq_false_iff_eq, Bool.false_eq_true, false_or, or_false, false_and, and_false, true_and, and_true, or_true, true_or, not_true_eq_false, not_false_eq_true, reduceCtorEq]
 omega
theorem zpU (K O : UInt8) (R S T N M : Int) (h : (K.toNat : Int) = 16) : zbd ⟨K, O, R, S, T, N, M⟩ = some (Rti ⟨K, O, R, S, T, N, M⟩) := by
 have hz : (0 : UInt8) = O ↔ (O.toNat : Int) = 0 := by rw [← u8z O]; exact eq_comm
 have hO := O.toNat_lt
 have hp : prts 16 = some [.c_one_1] := rfl
 have hP : zbL 16 = some (zm [.c_one_1], true) := by rw [zbV (by omega), hp]; rfl
 have q114 : zn (zm [.c_one_1]) 114 = some true := by rw [zt (by decide)]; rfl
 have q97 : zn (zm [.c_one_1]) 97 = some false := by rw [zt (by decide)]; rfl
 have q116 : zn (zm [.c_one_1]) 116 = some false := by rw [zt (by decide)]; rfl
 have q109 : zn (zm [.c_one_1]) 109 = some false := by rw [zt (by decide)]; rfl
 have q110 : zn (zm [.c_one_1]) 110 = some false := by rw [zt (by decide)]; rfl
 have q106 : zn (zm [.c_one_1]) 106 = some false := by rw [zt (by decide)]; rfl
 have q107 : zn (zm [.c_one_1]) 107 = some false := by rw [zt (by decide)]; rfl
 unfold zbd zbT Rti
 simp only [h, hP, hp, Option.bind_some, q114, q97, q116, q109, q110, q106, q107, zb7, Bool.not_true, Bool.not_false, Bool.false_eq_true, if_true, if_false, zbj, List.all_cons, List.all_nil, rtP, zbB, List.foldl_cons, List.foldl_nil, seP, bse, Bool.and_true, zf.mk.injEq, true_and, and_true, hz, ifO, ifA, ifF, Int.reduceBEq]
 congr 1
 rw [Bool.eq_iff_iff]
 simp only [Bool.and_eq_true, Bool.or_eq_true, Bool.not_eq_true', Bool.or_eq_false_iff, Bool.and_eq_false_iff, Bool.not_eq_false', decide_eq_true_eq, decide_eq_false_iff_not, bne_iff_ne, ne_eq, beq_iff_eq, bne_eq_false_iff_eq, Bool.false_eq_true, false_or, or_false, false_and, and_false, true_and, and_true, or_true, true_or, not_true_eq_false, not_false_eq_true, reduceCtorEq]
 omega
theorem zsp (K O : UInt8) (R S T N M : Int) (h : (K.toNat : Int) = 17) : zbd ⟨K, O, R, S, T, N, M⟩ = some (Rti ⟨K, O, R, S, T, N, M⟩) := by
 have hz : (0 : UInt8) = O ↔ (O.toNat : Int) = 0 := by rw [← u8z O]; exact eq_comm
 have hO := O.toNat_lt
 have hp : prts 17 = some [.c_one_1] := rfl
 have hP : zbL 17 = some (zm [.c_one_1], true) := by rw [zbV (by omega), hp]; rfl
 have q114 : zn (zm [.c_one_1]) 114 = some true := by rw [zt (by decide)]; rfl
 have q97 : zn (zm [.c_one_1]) 97 = some false := by rw [zt (by decide)]; rfl
 have q116 : zn (zm [.c_one_1]) 116 = some false := by rw [zt (by decide)]; rfl
 have q109 : zn (zm [.c_one_1]) 109 = some false := by rw [zt (by decide)]; rfl
 have q110 : zn (zm [.c_one_1]) 110 = some false := by rw [zt (by decide)]; rfl
 have q106 : zn (zm [.c_one_1]) 106 = some false := by rw [zt (by decide)]; rfl
 have q107 : zn (zm [.c_one_1]) 107 = some false := by rw [zt (by decide)]; rfl
 unfold zbd zbT Rti
 simp only [h, hP, hp, Option.bind_some, q114, q97, q116, q109, q110, q106, q107, zb7, Bool.not_true, Bool.not_false, Bool.false_eq_true, if_true, if_false, zbj, List.all_cons, List.all_nil, rtP, zbB, List.foldl_cons, List.foldl_nil, seP, bse, Bool.and_true, zf.mk.injEq, true_and, and_true, hz, ifO, ifA, ifF, Int.reduceBEq]
 congr 1
 rw [Bool.eq_iff_iff]
 simp only [Bool.and_eq_true, Bool.or_eq_true, Bool.not_eq_true', Bool.or_eq_false_iff, Bool.and_eq_false_iff, Bool.not_eq_false', decide_eq_true_eq, decide_eq_false_iff_not, bne_iff_ne, ne_eq, beq_iff_eq, bne_eq_false_iff_eq, Bool.false_eq_true, false_or, or_false, false_and, and_false, true_and, and_true, or_true, true_or, not_true_eq_false, not_false_eq_true, reduceCtorEq]
 omega
theorem zq9 (K O : UInt8) (R S T N M : Int) (h : (K.toNat : Int) = 18) : zbd ⟨K, O, R, S, T, N, M⟩ = some (Rti ⟨K, O, R, S, T, N, M⟩) := by
 have hz : (0 : UInt8) = O ↔ (O.toNat : Int) = 0 := by rw [← u8z O]; exact eq_comm
 have hO := O.toNat_lt
 have hp : prts 18 = some [.c_how_1] := rfl
 have hP : zbL 18 = some (zm [.c_how_1], true) := by rw [zbV (by omega), hp]; rfl
 have q114 : zn (zm [.c_how_1]) 114 = some false := by rw [zt (by decide)]; rfl
 have q97 : zn (zm [.c_how_1]) 97 = some false := by rw [zt (by decide)]; rfl
 have q116 : zn (zm [.c_how_1]) 116 = some false := by rw [zt (by decide)]; rfl
 have q109 : zn (zm [.c_how_1]) 109 = some false := by rw [zt (by decide)]; rfl
 have q110 : zn (zm [.c_how_1]) 110 = some false := by rw [zt (by decide)]; rfl
 have q106 : zn (zm [.c_how_1]) 106 = some false := by rw [zt (by decide)]; rfl
 have q107 : zn (zm [.c_how_1]) 107 = some true := by rw [zt (by decide)]; rfl
 unfold zbd zbT Rti
 simp only [h, hP, hp, Option.bind_some, q114, q97, q116, q109, q110, q106, q107, zb7, Bool.not_true, Bool.not_false, Bool.false_eq_true, if_true, if_false, zbj, List.all_cons, List.all_nil, rtP, zbB, List.foldl_cons, List.foldl_nil, seP, bse, Bool.and_true, zf.mk.injEq, true_and, and_true, hz, ifO, ifA, ifF, Int.reduceBEq]
 congr 1
 rw [Bool.eq_iff_iff]
 simp only [Bool.and_eq_true, Bool.or_eq_true, Bool.not_eq_true', Bool.or_eq_false_iff, Bool.and_eq_false_iff, Bool.not_eq_false', decide_eq_true_eq, decide_eq_false_iff_not, bne_iff_ne, ne_eq, beq_iff_eq, bne_eq_false_iff_eq, Bool.false_eq_true, false_or, or_false, false_and, and_false, true_and, and_true, or_true, true_or, not_true_eq_false, not_false_eq_true, reduceCtorEq]
 omega
theorem zni (i : Ins) : zbd i = some (Rti i) := by
 obtain ⟨K, O, R, S, T, N, M⟩ := i
 have hlt := K.toNat_lt
 rcases zft (K.toNat : Int) with h | h | h | h | h | h | h | h | h | h | h | h | h | h | h | h | h | h | h
 ·exact zsC K O R S T N M h
 ·exact zn0 K O R S T N M h
 ·exact zpa K O R S T N M h
 ·exact zpo K O R S T N M h
 ·exact zqX K O R S T N M h
 ·exact zrC K O R S T N M h
 ·exact zo2 K O R S T N M h
 ·exact zqC K O R S T N M h
 ·exact zqZ K O R S T N M h
 ·exact zpt K O R S T N M h
 ·exact zn2 K O R S T N M h
 ·exact zsj K O R S T N M h
 ·exact zqv K O R S T N M h
 ·exact zrU K O R S T N M h
 ·exact zrX K O R S T N M h
 ·exact zpU K O R S T N M h
 ·exact zsp K O R S T N M h
 ·exact zq9 K O R S T N M h
 ·unfold zbd Rti
  simp only
  rw [zbV (by omega), zgT h]
  rfl
end Go.Proofs.YtgkllgoelpfdkaaGreat
