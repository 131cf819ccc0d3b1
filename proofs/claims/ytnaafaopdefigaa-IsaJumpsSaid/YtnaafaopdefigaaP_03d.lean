import Derived.Test.YtnaafaopdefigaaAd
import Derived.Test.YtnaafaopdefigaaF
import Derived.Test.YtnaafaopdefigaaPL
import Derived.Test.YtnaafaopdefigaaP_02
import Derived.Test.YtnaafaopdefigaaP_01
import Derived.Test.YtnaafaopdefigaaP_03
import Derived.Test.YtnaafaopdefigaaP_03b
import Derived.Test.YtnaafaopdefigaaP_03c
import Derived.KernelRfl
namespace Go.Proofs.Ytnaafaopdefigaa
open Go.Ab Go.RowKit
set_option linter.unusedVariables false
set_option linter.unusedSimpArgs false
def wx3 : Ins := ⟨8, 0, 1, 2, 3, -2, 4⟩
theorem P_works03 : F_law03_works = some true := by
  have hi : rgI wx3 := by unfold rgI wx3; simp
  have hR : Rti wx3 = true := by decide
  have he : encI wx3 = [8, 18, 3, 126, 4] := by
    have h1 : encS (-2) = [126] := by rw [encS_small (by omega)]; rfl
    have h2 : encU 4 = [4] := by rw [encU_small (by omega)]; rfl
    have hp : prts ((wx3.Kind.toNat : Int)) = some [.c_both_1, .c_third_1, .c_within, .c_bound_1] := rfl
    unfold encI bdy
    rw [hp]
    simp only [puAll, List.flatMap_cons, List.flatMap_nil, enP]
    have e1 : encS wx3.N = [126] := h1
    have e2 : encU wx3.M.toNat = [4] := h2
    rw [e1, e2]
    rfl
  have h1 := P_IPut (b := [255]) hi (by simp)
  rw [if_pos hR, he] at h1
  have h2 := P_IGet_put hi hR (q := [255]) (r := []) (by rw [he]; simp)
  rw [he] at h2
  have h2 : F_isa_Get [255, 8, 18, 3, 126, 4] 1 = some (wx3, 6, 0) := h2
  have h3 := P_IRight hi
  rw [hR] at h3
  have h4 : F_isa_Right ⟨0, 0, 0, 0, 0, 0, 0⟩ = some false := by rw [P_IRight (by unfold rgI; simp)]; rfl
  have h5 : F_isa_Size wx3 = some 5 := by
    unfold F_isa_Size
    have := P_IPut (b := []) hi (by simp)
    rw [if_pos hR, he] at this
    have this : F_isa_Put [] ⟨wx3.Kind, wx3.Op, wx3.R, wx3.S, wx3.T, wx3.N, wx3.M⟩ = _ := this
    rw [this]
    rfl
  unfold F_law03_works
  have h1 : F_isa_Put [255] ⟨8, 0, 1, 2, 3, -2, 4⟩ = some [255, 8, 18, 3, 126, 4] := h1
  have h3 : F_isa_Right ⟨8, 0, 1, 2, 3, -2, 4⟩ = some true := h3
  have h5 : F_isa_Size ⟨8, 0, 1, 2, 3, -2, 4⟩ = some 5 := h5
  rw [h1, Option.bind_some, h2, Option.bind_some, h3, Option.bind_some, h4, h5]
  rfl
theorem P_Size {i : Ins} (hi : rgI i) : F_isa_Size i = some (if Rti i = true then ((encI i).length : Int) else 0) := by
  unfold F_isa_Size
  have := P_IPut (b := []) hi (by simp)
  have this : F_isa_Put [] ⟨i.Kind, i.Op, i.R, i.S, i.T, i.N, i.M⟩ = _ := this
  rw [this, Option.bind_some]
  cases Rti i <;> simp
theorem rt10 {K : UInt8} (hK : (K.toNat : Int) = 10 ∨ (K.toNat : Int) = 12) (N T : Int) : Rti ⟨K, 0, 0, 0, T, N, 0⟩ = (decide (0 ≤ N ∧ N < 16777216) && decide (0 = T)) := by
  have hp : prts (K.toNat : Int) = some [.c_to_1] := by rcases hK with h | h <;> rw [h] <;> rfl
  unfold Rti
  simp only [hp, rtAll, List.all_cons, List.all_nil, rtP, Bool.and_true, seAll, List.foldl_cons, List.foldl_nil, seP, bse, S_api_Instr.mk.injEq, true_and, and_true]
theorem rt11 {K : UInt8} (hK : (K.toNat : Int) = 11) (R N T : Int) : Rti ⟨K, 0, R, 0, T, N, 0⟩ = ((decide (0 ≤ R ∧ R < 16) && decide (0 ≤ N ∧ N < 16777216)) && decide (0 = T)) := by
  have hp : prts (K.toNat : Int) = some [.c_one_1, .c_to_1] := by rw [hK]; rfl
  unfold Rti
  simp only [hp, rtAll, List.all_cons, List.all_nil, rtP, Bool.and_true, seAll, List.foldl_cons, List.foldl_nil, seP, bse, S_api_Instr.mk.injEq, true_and, and_true]
theorem ln10 {K : UInt8} (hK : (K.toNat : Int) = 10 ∨ (K.toNat : Int) = 12) (N T R : Int) : (encI ⟨K, 0, R, 0, T, N, 0⟩).length = 4 := by
  have hp : prts (K.toNat : Int) = some [.c_to_1] := by rcases hK with h | h <;> rw [h] <;> rfl
  unfold encI bdy
  simp only [hp]
  rfl
theorem ln11 {K : UInt8} (hK : (K.toNat : Int) = 11) (N T R : Int) : (encI ⟨K, 0, R, 0, T, N, 0⟩).length = 5 := by
  have hp : prts (K.toNat : Int) = some [.c_one_1, .c_to_1] := by rw [hK]; rfl
  unfold encI bdy
  simp only [hp]
  rfl
theorem IJ_step {r p1 p2 : Int} (h1 : -9223372036854775808 ≤ p1 ∧ p1 ≤ 9223372036854775807) (h2 : -9223372036854775808 ≤ p2 ∧ p2 ≤ 9223372036854775807) (rec : List UInt8 → Int → Option Bool) (l : List UInt8) (k : Nat) (hk : k < l.length) (hl : l.length ≤ 100) (hv : ∀ x ∈ l, (x.toNat : Int) = 10 ∨ (x.toNat : Int) = 11 ∨ (x.toNat : Int) = 12) :
    F_law03_IsaJumps_l8B rec r p1 p2 l (k : Int) = rec l ((k + 1 : Nat) : Int) := by
  unfold F_law03_IsaJumps_l8B
  have hx := hv l[k] (List.getElem_mem hk)
  rw [decT (by omega), if_pos rfl, getI_lt hk, Option.bind_some, Option.bind_some, Option.bind_some]
  have go : ∀ R : Int, (if ((l[k].toNat : Int) == 11) = true then R = r else R = 0) → F_law03_IsaJumps_k11 rec r p1 p2 (k : Int) l[k] l[k] l R R = rec l ((k + 1 : Nat) : Int) := by
    intro R hR
    unfold F_law03_IsaJumps_k11
    rw [getI_lt hk, i64_succ (by omega)]
    have q1 : ∀ T : Int, F_isa_Right ⟨l[k], 0, R, 0, T, p1, 0⟩ = some (Rti ⟨l[k], 0, R, 0, T, p1, 0⟩) := fun T => P_IRight h1
    have q2 : F_isa_Right ⟨l[k], 0, R, 0, 0, p2, 0⟩ = some (Rti ⟨l[k], 0, R, 0, 0, p2, 0⟩) := P_IRight h2
    have s1 : F_isa_Size ⟨l[k], 0, R, 0, 0, p1, 0⟩ = _ := P_Size (i := ⟨l[k], 0, R, 0, 0, p1, 0⟩) h1
    have s2 : F_isa_Size ⟨l[k], 0, R, 0, 0, p2, 0⟩ = _ := P_Size (i := ⟨l[k], 0, R, 0, 0, p2, 0⟩) h2
    rw [q1 0, q2, q1 1, s1, s2]
    by_cases h11 : (l[k].toNat : Int) = 11
    · rw [h11] at hR
      simp only [beq_self_eq_true, if_true] at hR
      subst hR
      have hd : (decide (p1 ≥ 0) && decide (p1 < 16777216)) = decide (0 ≤ p1 ∧ p1 < 16777216) := by rw [Bool.decide_and]
      have hf : (if (decide (p1 ≥ 0) && decide (p1 < 16777216)) = true then (some l[k]).bind fun y211 => (if ((y211.toNat : Int) != 11) = true then some true else (if (decide (R ≥ 0)) = true then some (decide (R < 16)) else some false)) else some false) = some (Rti ⟨l[k], 0, R, 0, 0, p1, 0⟩) := by
        rw [hd, rt11 h11, decT (show (0 : Int) = 0 from rfl), Bool.and_true, Option.bind_some, h11]
        simp only [bne_self_eq_false, Bool.false_eq_true, if_false]
        by_cases hp : 0 ≤ p1 ∧ p1 < 16777216
        · rw [decT hp, if_pos rfl, Bool.and_true, Bool.decide_and]
          by_cases hq : R ≥ 0
          · rw [decT hq, if_pos rfl, Bool.true_and]
          · rw [decF hq, if_neg (by simp), Bool.false_and]
        · rw [decF hp, if_neg (by simp), Bool.and_false]
      rw [hf, Option.bind_some, Option.bind_some, rt11 h11 R p1 1, decF (show ¬ (0 : Int) = 1 by omega), Bool.and_false]
      cases hA : Rti ⟨l[k], 0, R, 0, 0, p1, 0⟩
      · rfl
      · simp only [beq_self_eq_true, Bool.not_true, Bool.false_eq_true, if_false, if_true, Option.bind_some, ln11 h11]
        cases hB : Rti ⟨l[k], 0, R, 0, 0, p2, 0⟩
        · rfl
        · simp
    · rw [beqF h11] at hR
      simp only [Bool.false_eq_true, if_false] at hR
      subst hR
      have h10 : (l[k].toNat : Int) = 10 ∨ (l[k].toNat : Int) = 12 := by omega
      have hd : (decide (p1 ≥ 0) && decide (p1 < 16777216)) = decide (0 ≤ p1 ∧ p1 < 16777216) := by rw [Bool.decide_and]
      have hf : (if (decide (p1 ≥ 0) && decide (p1 < 16777216)) = true then (some l[k]).bind fun y211 => (if ((y211.toNat : Int) != 11) = true then some true else (if (decide (r ≥ 0)) = true then some (decide (r < 16)) else some false)) else some false) = some (Rti ⟨l[k], 0, 0, 0, 0, p1, 0⟩) := by
        rw [hd, rt10 h10, decT (show (0 : Int) = 0 from rfl), Bool.and_true, Option.bind_some, bneT h11, if_pos rfl]
        cases decide (0 ≤ p1 ∧ p1 < 16777216) <;> rfl
      rw [hf, Option.bind_some, Option.bind_some, rt10 h10 p1 1, decF (show ¬ (0 : Int) = 1 by omega), Bool.and_false]
      cases hA : Rti ⟨l[k], 0, 0, 0, 0, p1, 0⟩
      · rfl
      · simp only [beq_self_eq_true, Bool.not_true, Bool.false_eq_true, if_false, if_true, Option.bind_some, ln10 h10]
        cases hB : Rti ⟨l[k], 0, 0, 0, 0, p2, 0⟩
        · rfl
        · simp
  by_cases h11 : (l[k].toNat : Int) = 11
  · rw [beqT h11, if_pos rfl]
    exact go r (by rw [beqT h11, if_pos rfl])
  · rw [beqF h11, if_neg (by simp)]
    exact go 0 (by rw [beqF h11, if_neg (by simp)])
theorem P_IsaJumps (r p1 p2 : Int) (h1 : -9223372036854775808 ≤ p1 ∧ p1 ≤ 9223372036854775807) (h2 : -9223372036854775808 ≤ p2 ∧ p2 ≤ 9223372036854775807) : F_law03_IsaJumps r p1 p2 = some true := by
  unfold F_law03_IsaJumps
  have hv : ∀ x ∈ ([10, 11, 12] : List UInt8), (x.toNat : Int) = 10 ∨ (x.toNat : Int) = 11 ∨ (x.toNat : Int) = 12 := by decide
  have loop : ∀ (n k : Nat), k ≤ 3 → 3 - k < n → F_law03_IsaJumps_l8 r p1 p2 n [10, 11, 12] (k : Int) = some true := by
    intro n
    induction n with
    | zero => intro k _ h; omega
    | succ n ih =>
      intro k hk h
      show F_law03_IsaJumps_l8B _ r p1 p2 [10, 11, 12] (k : Int) = _
      by_cases hlt : k < 3
      · rw [IJ_step h1 h2 _ [10, 11, 12] k hlt (by simp) hv]
        exact ih (k + 1) (by omega) (by omega)
      · unfold F_law03_IsaJumps_l8B
        rw [decF (by simp; omega), if_neg (by simp), P_works03]
        rfl
  exact loop big 0 (by omega) (big_gt (by omega))
end Go.Proofs.Ytnaafaopdefigaa
