import Derived.Test.YtckcngkkofemjaaAd
import Derived.Test.YtckcngkkofemjaaF
import Derived.Test.YtckcngkkofemjaaPL
import Derived.Test.YtckcngkkofemjaaP_02
import Derived.KernelRfl
namespace Go.Proofs.Ytckcngkkofemjaa
open Go.Ab Go.RowKit
set_option linter.unusedVariables false
set_option linter.unusedSimpArgs false
abbrev Lc := zg
def kd (x : Lc) : Int := x.Kind.toNat
def okd (x : Lc) : Bool := decide (kd x = 1 ∨ (kd x = 2 ∧ 0 ≤ x.N ∧ x.N < 16) ∨ kd x = 3 ∨ ((kd x = 4 ∨ kd x = 5 ∨ kd x = 6) ∧ x.N = 0))
def tkn (x : Lc) : Nat := if kd x = 4 ∨ kd x = 6 then 1 else if kd x = 5 then 2 else 0
def dr (x : Lc) : zo := if kd x = 1 then .c_number x.N else if kd x = 2 then .c_reg x.N else if kd x = 3 then .c_base x.N else if kd x = 4 then .c_word ⟨⟩ else if kd x = 5 then .c_add ⟨⟩ else if kd x = 6 then .c_neg ⟨⟩ else .nil
def rtL : Nat → List Lc → Option Nat
  | d, [] => some d
  | d, x :: l => if okd x = true ∧ tkn x ≤ d ∧ d + 1 - tkn x ≤ 8 then rtL (d + 1 - tkn x) l else none
def fin (l : List Lc) (d : Nat) : Bool := decide (l.length ≤ 16 ∧ (l.length = 0 ∨ d = 1))
def Rt (l : List Lc) : Bool := match rtL 0 l with
  | none => false
  | some d => fin l d
theorem kd_cases (x : Lc) : kd x = 1 ∨ kd x = 2 ∨ kd x = 3 ∨ kd x = 4 ∨ kd x = 5 ∨ kd x = 6 ∨ (kd x ≠ 1 ∧ kd x ≠ 2 ∧ kd x ≠ 3 ∧ kd x ≠ 4 ∧ kd x ≠ 5 ∧ kd x ≠ 6) := by omega
theorem zev (x : Lc) : zcL ⟨x.Kind, x.N⟩ = some (dr x, okd x) := by
  unfold zcL dr okd
  have hk : ((x.Kind.toNat : Nat) : Int) = kd x := rfl
  simp only [hk]
  rcases kd_cases x with h | h | h | h | h | h | ⟨h1, h2, h3, h4, h5, h6⟩
  · simp [h]
  · simp [h, Bool.decide_and]
  · simp [h]
  · simp [h, Bool.beq_eq_decide_eq]
  · simp [h, Bool.beq_eq_decide_eq]
  · simp [h, Bool.beq_eq_decide_eq]
  · simp [h1, h2, h3, h4, h5, h6]
theorem zeF {x : Lc} (h : okd x = true) : zc1 (dr x) = some (tkn x : Int) := by
  unfold okd at h
  simp only [decide_eq_true_eq] at h
  unfold dr tkn zc1
  rcases kd_cases x with h1 | h1 | h1 | h1 | h1 | h1 | ⟨h1, h2, h3, h4, h5, h6⟩
  · simp [h1, zdb]
  · simp [h1, zdn]
  · simp [h1, zde]
  · simp [h1, zdt]
  · simp [h1, zds]
  · simp [h1, zda]
  · simp_all
theorem tkn_le (x : Lc) : tkn x ≤ 2 := by
  unfold tkn
  split
  · omega
  · split <;> omega
theorem fin_F (l : List Lc) (d : Nat) : (if (decide ((l.length : Int) ≤ 16)) = true then (if ((l.length : Int) == 0) = true then some true else some ((d : Int) == 1)) else some false) = some (fin l d) := by
  unfold fin
  by_cases h1 : l.length ≤ 16
  · rw [decT (by omega), if_pos rfl]
    by_cases h2 : l.length = 0
    · rw [beqT (by omega), if_pos rfl, decT (by omega)]
    · rw [beqF (by omega), if_neg (by simp)]
      congr 1
      by_cases h3 : d = 1
      · rw [beqT (by omega), decT (by omega)]
      · rw [beqF (by omega), decF (by omega)]
  · rw [decF (by omega), if_neg (by simp), decF (by omega)]
theorem doers_loop (l : List Lc) (hl : l.length ≤ 1000000) : ∀ (n i : Nat) (acc : List zo) (d : Nat), i ≤ l.length → l.length - i < n → acc.length ≤ i → d ≤ 8 →
    zbO l n acc (d : Int) (i : Int) = some (match rtL d (l.drop i) with | none => ([], false) | some e => (acc ++ (l.drop i).map dr, fin l e))
  | 0, i, _, _, _, h, _, _ => by omega
  | n + 1, i, acc, d, hi, h, ha, hd => by
    show zcQ _ l acc (d : Int) (i : Int) = _
    unfold zcQ
    by_cases hlt : i < l.length
    · have h2 := tkn_le l[i]
      rw [decT (by omega), if_pos rfl, getI_lt hlt, Option.bind_some, zev, Option.bind_some, List.drop_eq_getElem_cons hlt, rtL]
      simp only
      cases ho : okd l[i]
      · simp
      · rw [Bool.not_true, if_neg (by simp), zeF ho, Option.bind_some, Option.bind_some]
        by_cases ht : tkn l[i] ≤ d
        · have e1 : IntKind.i64.wrap ((d : Int) + IntKind.i64.wrap (1 - (tkn l[i] : Int))) = ((d + 1 - tkn l[i] : Nat) : Int) := by rw [wi64 (x := 1 - (tkn l[i] : Int)) (by omega), wi64 (by omega)]; omega
          rw [decF (by omega), if_neg (by simp), Option.bind_some, e1]
          by_cases h8 : d + 1 - tkn l[i] ≤ 8
          · rw [decF (by omega), if_neg (by simp), room_ok (by omega), Option.bind_some, i64_succ (by omega), doers_loop l hl n (i + 1) _ (d + 1 - tkn l[i]) (by omega) (by omega) (by simp; omega) h8, if_pos ⟨rfl, ht, h8⟩]
            cases rtL (d + 1 - tkn l[i]) (l.drop (i + 1)) with
            | none => rfl
            | some e => simp only [List.map_cons, List.append_assoc, List.singleton_append]
          · rw [decT (by omega), if_pos rfl, if_neg (fun h => h8 h.2.2)]
        · rw [decT (by omega), if_pos rfl, if_neg (fun h => ht h.2.1)]
    · rw [decF (by omega), if_neg (by simp), fin_F, Option.bind_some, List.drop_of_length_le (by omega), rtL]
      simp
theorem ze1 {l : List Lc} (hl : l.length ≤ 1000000) : zce l = some (match rtL 0 l with | none => ([], false) | some e => (l.map dr, fin l e)) := by
  have := doers_loop l hl big 0 [] 0 (by omega) (big_gt (by omega)) (by simp) (by omega)
  rw [List.drop_zero] at this
  unfold zce
  refine Eq.trans this ?_
  cases rtL 0 l <;> simp
theorem zdI {l : List Lc} (hl : l.length ≤ 1000000) : zW l = some (Rt l) := by
  unfold zW
  rw [ze1 hl, Option.bind_some]
  unfold Rt
  cases rtL 0 l <;> rfl
end Go.Proofs.Ytckcngkkofemjaa
