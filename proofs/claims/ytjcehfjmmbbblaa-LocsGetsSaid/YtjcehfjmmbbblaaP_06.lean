import Derived.Test.YtjcehfjmmbbblaaAd
import Derived.Test.YtjcehfjmmbbblaaF
import Derived.Test.YtjcehfjmmbbblaaPL
import Derived.Test.YtjcehfjmmbbblaaP_02
import Derived.KernelRfl
namespace Go.Proofs.Ytjcehfjmmbbblaa
open Go.Ab Go.RowKit
set_option linter.unusedVariables false
set_option linter.unusedSimpArgs false
abbrev Lc := zb
def kd (x : Lc) : Int := x.Kind.toNat
def okd (x : Lc) : Bool := decide (kd x = 1 ∨ (kd x = 2 ∧ 0 ≤ x.N ∧ x.N < 16) ∨ kd x = 3 ∨ ((kd x = 4 ∨ kd x = 5 ∨ kd x = 6) ∧ x.N = 0))
def tkn (x : Lc) : Nat := if kd x = 4 ∨ kd x = 6 then 1 else if kd x = 5 then 2 else 0
def dr (x : Lc) : ze := if kd x = 1 then .c_number x.N else if kd x = 2 then .c_reg x.N else if kd x = 3 then .c_base x.N else if kd x = 4 then .c_word ⟨⟩ else if kd x = 5 then .c_add ⟨⟩ else if kd x = 6 then .c_neg ⟨⟩ else .nil
def rtL : Nat → List Lc → Option Nat
  | d, [] => some d
  | d, x :: l => if okd x = true ∧ tkn x ≤ d ∧ d + 1 - tkn x ≤ 8 then rtL (d + 1 - tkn x) l else none
def fin (l : List Lc) (d : Nat) : Bool := decide (l.length ≤ 16 ∧ (l.length = 0 ∨ d = 1))
def Rt (l : List Lc) : Bool := match rtL 0 l with
  | none => false
  | some d => fin l d
theorem kd_cases (x : Lc) : kd x = 1 ∨ kd x = 2 ∨ kd x = 3 ∨ kd x = 4 ∨ kd x = 5 ∨ kd x = 6 ∨ (kd x ≠ 1 ∧ kd x ≠ 2 ∧ kd x ≠ 3 ∧ kd x ≠ 4 ∧ kd x ≠ 5 ∧ kd x ≠ 6) := by omega
theorem zde (x : Lc) : zU ⟨x.Kind, x.N⟩ = some (dr x, okd x) := by
  unfold zU dr okd
  have hk : ((x.Kind.toNat : Nat) : Int) = kd x := rfl
  simp only [hk]
  rcases kd_cases x with h | h | h | h | h | h | ⟨h1, h2, h3, h4, h5, h6⟩
  · simp [h]
  · simp [h, Bool.decide_and]
  · simp [h]
  · simp [h, Bool.beq_eq_decide_eq]
  · simp [h, Bool.beq_eq_decide_eq]
  · simp [h, Bool.beq_eq_decide_eq]
  · simp [h1, h2, h3, h4, h5, h6]
theorem zcR {x : Lc} (h : okd x = true) : zbl (dr x) = some (tkn x : Int) := by
  unfold okd at h
  simp only [decide_eq_true_eq] at h
  unfold dr tkn zbl
  rcases kd_cases x with h1 | h1 | h1 | h1 | h1 | h1 | ⟨h1, h2, h3, h4, h5, h6⟩
  · simp [h1, zbJ]
  · simp [h1, zb2]
  · simp [h1, zb3]
  · simp [h1, zb0]
  · simp [h1, zb1]
  · simp [h1, zbW]
  · simp_all
theorem tkn_le (x : Lc) : tkn x ≤ 2 := by
  unfold tkn
  split
  · omega
  · split <;> omega
theorem fin_F (l : List Lc) (d : Nat) : (if (decide ((l.length : Int) ≤ 16)) = true then (if ((l.length : Int) == 0) = true then some true else some ((d : Int) == 1)) else some false) = some (fin l d) := by
  unfold fin
  by_cases h1 : l.length ≤ 16
  · rw [decT (by omega), if_pos rfl]
    by_cases h2 : l.length = 0
    · rw [beqT (by omega), if_pos rfl, decT (by omega)]
    · rw [beqF (by omega), if_neg (by simp)]
      congr 1
      by_cases h3 : d = 1
      · rw [beqT (by omega), decT (by omega)]
      · rw [beqF (by omega), decF (by omega)]
  · rw [decF (by omega), if_neg (by simp), decF (by omega)]
theorem doers_loop (l : List Lc) (hl : l.length ≤ 1000000) : ∀ (n i : Nat) (acc : List ze) (d : Nat), i ≤ l.length → l.length - i < n → acc.length ≤ i → d ≤ 8 →
    zbd l n acc (d : Int) (i : Int) = some (match rtL d (l.drop i) with | none => ([], false) | some e => (acc ++ (l.drop i).map dr, fin l e))
  | 0, i, _, _, _, h, _, _ => by omega
  | n + 1, i, acc, d, hi, h, ha, hd => by
    show zby _ l acc (d : Int) (i : Int) = _
    unfold zby
    by_cases hlt : i < l.length
    · have h2 := tkn_le l[i]
      rw [decT (by omega), if_pos rfl, getI_lt hlt, Option.bind_some, zde, Option.bind_some, List.drop_eq_getElem_cons hlt, rtL]
      simp only
      cases ho : okd l[i]
      · simp
      · rw [Bool.not_true, if_neg (by simp), zcR ho, Option.bind_some, Option.bind_some]
        by_cases ht : tkn l[i] ≤ d
        · have e1 : IntKind.i64.wrap ((d : Int) + IntKind.i64.wrap (1 - (tkn l[i] : Int))) = ((d + 1 - tkn l[i] : Nat) : Int) := by rw [wi64 (x := 1 - (tkn l[i] : Int)) (by omega), wi64 (by omega)]; omega
          rw [decF (by omega), if_neg (by simp), Option.bind_some, e1]
          by_cases h8 : d + 1 - tkn l[i] ≤ 8
          · rw [decF (by omega), if_neg (by simp), room_ok (by omega), Option.bind_some, i64_succ (by omega), doers_loop l hl n (i + 1) _ (d + 1 - tkn l[i]) (by omega) (by omega) (by simp; omega) h8, if_pos ⟨rfl, ht, h8⟩]
            cases rtL (d + 1 - tkn l[i]) (l.drop (i + 1)) with
            | none => rfl
            | some e => simp only [List.map_cons, List.append_assoc, List.singleton_append]
          · rw [decT (by omega), if_pos rfl, if_neg (fun h => h8 h.2.2)]
        · rw [decT (by omega), if_pos rfl, if_neg (fun h => ht h.2.1)]
    · rw [decF (by omega), if_neg (by simp), fin_F, Option.bind_some, List.drop_of_length_le (by omega), rtL]
      simp
theorem zc8 {l : List Lc} (hl : l.length ≤ 1000000) : zV l = some (match rtL 0 l with | none => ([], false) | some e => (l.map dr, fin l e)) := by
  have := doers_loop l hl big 0 [] 0 (by omega) (big_gt (by omega)) (by simp) (by omega)
  rw [List.drop_zero] at this
  unfold zV
  refine Eq.trans this ?_
  cases rtL 0 l <;> simp
theorem zcs {l : List Lc} (hl : l.length ≤ 1000000) : zn l = some (Rt l) := by
  unfold zn
  rw [zc8 hl, Option.bind_some]
  unfold Rt
  cases rtL 0 l <;> rfl
theorem rk33 (l : List Lc) (d : Nat) (hd : d ≤ 8) (i : Nat) (hi : i < l.length) (hl : l.length ≤ 1000000) (rec : Int → Int → Option Bool) (k : Nat) (hk : k ≤ 2) :
    zj rec l (d : Int) (i : Int) (k : Int) = if (k > 0 → l[i].N = 0) ∧ k ≤ d ∧ d + 1 - k ≤ 8 then rec ((d + 1 - k : Nat) : Int) ((i + 1 : Nat) : Int) else some false := by
  unfold zj
  rw [getI_lt hi]
  by_cases h0 : k > 0 → l[i].N = 0
  · have e0 : (if (decide ((k : Int) > 0)) = true then (some l[i]).bind fun y192 => some (y192.N != 0) else some false) = some false := by
      by_cases hk0 : k > 0
      · rw [decT (by omega), if_pos rfl, Option.bind_some, bneF (h0 hk0)]
      · rw [decF (by omega), if_neg (by simp)]
    rw [e0, Option.bind_some, Bool.false_or]
    by_cases h1 : k ≤ d
    · have e1 : IntKind.i64.wrap (IntKind.i64.wrap ((d : Int) - k) + 1) = ((d + 1 - k : Nat) : Int) := by rw [wi64 (x := (d : Int) - k) (by omega), wi64 (by omega)]; omega
      rw [decF (by omega), if_neg (by simp), e1, i64_succ (by omega)]
      by_cases h2 : d + 1 - k ≤ 8
      · rw [decF (by omega), if_neg (by simp), if_pos ⟨h0, h1, h2⟩]
      · rw [decT (by omega), if_pos rfl, if_neg (fun h => h2 h.2.2)]
    · rw [decT (by omega), if_pos rfl, if_neg (fun h => h1 h.2.1)]
  · have hk0 : k > 0 := by
      by_cases hk0 : k > 0
      · exact hk0
      · exact absurd (fun h => absurd h hk0) h0
    have hN : l[i].N ≠ 0 := fun h => h0 fun _ => h
    have e0 : (if (decide ((k : Int) > 0)) = true then (some l[i]).bind fun y192 => some (y192.N != 0) else some false) = some true := by
      rw [decT (by omega), if_pos rfl, Option.bind_some, bneT hN]
    rw [e0, Option.bind_some, Bool.true_or, if_pos rfl, if_neg (fun h => h0 h.1)]
theorem rRight_step (l : List Lc) (d : Nat) (hd : d ≤ 8) (i : Nat) (hi : i < l.length) (hl : l.length ≤ 1000000) (rec : Int → Int → Option Bool) :
    zq rec l (d : Int) (i : Int) = if okd l[i] = true ∧ tkn l[i] ≤ d ∧ d + 1 - tkn l[i] ≤ 8 then rec ((d + 1 - tkn l[i] : Nat) : Int) ((i + 1 : Nat) : Int) else some false := by
  unfold zq zbw zbk
  have k0 := rk33 l d hd i hi hl rec 0 (by omega)
  have k1 := rk33 l d hd i hi hl rec 1 (by omega)
  have k2 := rk33 l d hd i hi hl rec 2 (by omega)
  rw [show ((0 : Nat) : Int) = 0 from rfl] at k0
  rw [show ((1 : Nat) : Int) = 1 from rfl] at k1
  rw [show ((2 : Nat) : Int) = 2 from rfl] at k2
  have hk : ((l[i].Kind.toNat : Nat) : Int) = kd l[i] := rfl
  rw [decT (by omega), if_pos rfl, getI_lt hi, Option.bind_some]
  simp only [hk, k0, k1, k2, getI_lt hi, Option.bind_some]
  have hnk := (l[i].Kind.toNat_lt)
  unfold okd tkn
  rcases kd_cases l[i] with h | h | h | h | h | h | ⟨h1, h2, h3, h4, h5, h6⟩
  · simp [h]
  · simp only [h]
    by_cases hN : 0 ≤ l[i].N ∧ l[i].N < 16
    · simp [show ¬ l[i].N < 0 by omega, show ¬ l[i].N > 15 by omega, hN]
    · by_cases h0 : l[i].N < 0
      · simp [h0, hN]
      · simp [h0, show l[i].N > 15 by omega, hN]
  · simp [h]
  · simp [h]
  · simp [h]
  · simp [h]
  · simp [h1, h2, h3, h4, h5, h6]
theorem rRight_loop (l : List Lc) (hl : l.length ≤ 1000000) : ∀ (n i : Nat) (d : Nat), i ≤ l.length → l.length - i < n → d ≤ 8 →
    zl l n (d : Int) (i : Int) = some (match rtL d (l.drop i) with | none => false | some e => fin l e)
  | 0, i, _, _, h, _ => by omega
  | n + 1, i, d, hi, h, hd => by
    show zq _ l (d : Int) (i : Int) = _
    by_cases hlt : i < l.length
    · rw [rRight_step l d hd i hlt hl, List.drop_eq_getElem_cons hlt, rtL]
      by_cases hc : okd l[i] = true ∧ tkn l[i] ≤ d ∧ d + 1 - tkn l[i] ≤ 8
      · rw [if_pos hc, if_pos hc, rRight_loop l hl n (i + 1) _ (by omega) (by omega) hc.2.2]
      · rw [if_neg hc, if_neg hc]
    · unfold zq
      rw [decF (by omega), if_neg (by simp), fin_F, Option.bind_some, List.drop_of_length_le (by omega), rtL]
theorem zcE {l : List Lc} (hl : l.length ≤ 1000000) : zH l = some (Rt l) := by
  have := rRight_loop l hl big 0 0 (by omega) (big_gt (by omega)) (by omega)
  rw [List.drop_zero] at this
  exact this
end Go.Proofs.Ytjcehfjmmbbblaa
