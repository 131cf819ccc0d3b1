import Derived.Test.YtckcngkkofemjaaGreatP_02
import Derived.KernelRfl
namespace Go.Proofs.YtckcngkkofemjaaGreat
open Go.Ab Go.RowKit
set_option linter.unusedVariables false
set_option linter.unusedSimpArgs false
abbrev Lc := zE
def kd (x : Lc) : Int := x.Kind.toNat
def okd (x : Lc) : Bool := decide (kd x = 1 ∨ (kd x = 2 ∧ 0 ≤ x.N ∧ x.N < 16) ∨ kd x = 3 ∨ ((kd x = 4 ∨ kd x = 5 ∨ kd x = 6) ∧ x.N = 0))
def tkn (x : Lc) : Nat := if kd x = 4 ∨ kd x = 6 then 1 else if kd x = 5 then 2 else 0
def dr (x : Lc) : zbw := if kd x = 1 then .c_number x.N else if kd x = 2 then .c_reg x.N else if kd x = 3 then .c_base x.N else if kd x = 4 then .c_word ⟨⟩ else if kd x = 5 then .c_add ⟨⟩ else if kd x = 6 then .c_neg ⟨⟩ else .nil
def rtL : Nat → List Lc → Option Nat
 | d, [] => some d
 | d, x :: l => if okd x = true ∧ tkn x ≤ d ∧ d + 1 - tkn x ≤ 8 then rtL (d + 1 - tkn x) l else none
def fin (l : List Lc) (d : Nat) : Bool := decide (l.length ≤ 16 ∧ (l.length = 0 ∨ d = 1))
def Rt (l : List Lc) : Bool := match rtL 0 l with
 | none => false
 | some d => fin l d
theorem zi4 (x : Lc) : kd x = 1 ∨ kd x = 2 ∨ kd x = 3 ∨ kd x = 4 ∨ kd x = 5 ∨ kd x = 6 ∨ (kd x ≠ 1 ∧ kd x ≠ 2 ∧ kd x ≠ 3 ∧ kd x ≠ 4 ∧ kd x ≠ 5 ∧ kd x ≠ 6) := by omega
theorem znF (x : Lc) : zfn ⟨x.Kind, x.N⟩ = some (dr x, okd x) := by
 unfold zfn dr okd
 have hk : ((x.Kind.toNat : Nat) : Int) = kd x := rfl
 simp only [hk]
 rcases zi4 x with h | h | h | h | h | h | ⟨h1, h2, h3, h4, h5, h6⟩
 ·simp [h]
 ·simp [h, Bool.decide_and]
 ·simp [h]
 ·simp [h, Bool.beq_eq_decide_eq]
 ·simp [h, Bool.beq_eq_decide_eq]
 ·simp [h, Bool.beq_eq_decide_eq]
 ·simp [h1, h2, h3, h4, h5, h6]
theorem zpe {x : Lc} (h : okd x = true) : zgy (dr x) = some (tkn x : Int) := by
 unfold okd at h
 simp only [decide_eq_true_eq] at h
 unfold dr tkn zgy
 rcases zi4 x with h1 | h1 | h1 | h1 | h1 | h1 | ⟨h1, h2, h3, h4, h5, h6⟩
 ·simp [h1, zg5]
 ·simp [h1, zhm]
 ·simp [h1, zhQ]
 ·simp [h1, zg2]
 ·simp [h1, zhB]
 ·simp [h1, zhM]
 ·simp_all
theorem zoL (x : Lc) : tkn x ≤ 2 := by
 unfold tkn
 split
 ·omega
 ·split <;> omega
theorem zlq (l : List Lc) (d : Nat) : (if (decide ((l.length : Int) ≤ 16)) = true then (if ((l.length : Int) == 0) = true then some true else some ((d : Int) == 1)) else some false) = some (fin l d) := by
 unfold fin
 by_cases h1 : l.length ≤ 16
 ·rw [zv (by omega), if_pos rfl]
  by_cases h2 : l.length = 0
  ·rw [zbO (by omega), if_pos rfl, zv (by omega)]
  ·rw [zbJ (by omega), if_neg (by simp)]
   congr 1
   by_cases h3 : d = 1
   ·rw [zbO (by omega), zv (by omega)]
   ·rw [zbJ (by omega), zx (by omega)]
 ·rw [zx (by omega), if_neg (by simp), zx (by omega)]
theorem zma (l : List Lc) (hl : l.length ≤ 1000000) : ∀ (n i : Nat) (acc : List zbw) (d : Nat), i ≤ l.length → l.length - i < n → acc.length ≤ i → d ≤ 8 →
  zfZ l n acc (d : Int) (i : Int) = some (match rtL d (l.drop i) with | none => ([], false) | some e => (acc ++ (l.drop i).map dr, fin l e))
 | 0, i, _, _, _, h, _, _ => by omega
 | n + 1, i, acc, d, hi, h, ha, hd => by
  show zfW _ l acc (d : Int) (i : Int) = _
  unfold zfW
  by_cases hlt : i < l.length
  ·have h2 := zoL l[i]
   rw [zv (by omega), if_pos rfl, zbd hlt, Option.bind_some, znF, Option.bind_some, List.drop_eq_getElem_cons hlt, rtL]
   simp only
   cases ho : okd l[i]
   ·simp
   ·rw [Bool.not_true, if_neg (by simp), zpe ho, Option.bind_some, Option.bind_some]
    by_cases ht : tkn l[i] ≤ d
    ·have e1 : IntKind.i64.wrap ((d : Int) + IntKind.i64.wrap (1 - (tkn l[i] : Int))) = ((d + 1 - tkn l[i] : Nat) : Int) := by rw [zbc (x := 1 - (tkn l[i] : Int)) (by omega), zbc (by omega)]; omega
     rw [zx (by omega), if_neg (by simp), Option.bind_some, e1]
     by_cases h8 : d + 1 - tkn l[i] ≤ 8
     ·rw [zx (by omega), if_neg (by simp), zbF (by omega), Option.bind_some, zbh (by omega), zma l hl n (i + 1) _ (d + 1 - tkn l[i]) (by omega) (by omega) (by simp; omega) h8, if_pos ⟨rfl, ht, h8⟩]
      cases rtL (d + 1 - tkn l[i]) (l.drop (i + 1)) with
      | none => rfl
      | some e => simp only [List.map_cons, List.append_assoc, List.singleton_append]
     ·rw [zv (by omega), if_pos rfl, if_neg (fun h => h8 h.2.2)]
    ·rw [zv (by omega), if_pos rfl, if_neg (fun h => ht h.2.1)]
  ·rw [zx (by omega), if_neg (by simp), zlq, Option.bind_some, List.drop_of_length_le (by omega), rtL]
   simp
theorem zny {l : List Lc} (hl : l.length ≤ 1000000) : zfh l = some (match rtL 0 l with | none => ([], false) | some e => (l.map dr, fin l e)) := by
 have := zma l hl big 0 [] 0 (by omega) (zbj (by omega)) (by simp) (by omega)
 rw [List.drop_zero] at this
 unfold zfh
 refine Eq.trans this ?_
 cases rtL 0 l <;> simp
theorem zjS {l : List Lc} (hl : l.length ≤ 1000000) : zd4 l = some (Rt l) := by
 unfold zd4
 rw [zny hl, Option.bind_some]
 unfold Rt
 cases rtL 0 l <;> rfl
theorem zif (l : List Lc) (d : Nat) (hd : d ≤ 8) (i : Nat) (hi : i < l.length) (hl : l.length ≤ 1000000) (rec : Int → Int → Option Bool) (k : Nat) (hk : k ≤ 2) :
  zc7 rec l (d : Int) (i : Int) (k : Int) = if (k > 0 → l[i].N = 0) ∧ k ≤ d ∧ d + 1 - k ≤ 8 then rec ((d + 1 - k : Nat) : Int) ((i + 1 : Nat) : Int) else some false := by
 unfold zc7
 rw [zbd hi]
 by_cases h0 : k > 0 → l[i].N = 0
 ·have e0 : (if (decide ((k : Int) > 0)) = true then (some l[i]).bind fun y192 => some (y192.N != 0) else some false) = some false := by
   by_cases hk0 : k > 0
   ·rw [zv (by omega), if_pos rfl, Option.bind_some, zbI (h0 hk0)]
   ·rw [zx (by omega), if_neg (by simp)]
  rw [e0, Option.bind_some, Bool.false_or]
  by_cases h1 : k ≤ d
  ·have e1 : IntKind.i64.wrap (IntKind.i64.wrap ((d : Int) - k) + 1) = ((d + 1 - k : Nat) : Int) := by rw [zbc (x := (d : Int) - k) (by omega), zbc (by omega)]; omega
   rw [zx (by omega), if_neg (by simp), e1, zbh (by omega)]
   by_cases h2 : d + 1 - k ≤ 8
   ·rw [zx (by omega), if_neg (by simp), if_pos ⟨h0, h1, h2⟩]
   ·rw [zv (by omega), if_pos rfl, if_neg (fun h => h2 h.2.2)]
  ·rw [zv (by omega), if_pos rfl, if_neg (fun h => h1 h.2.1)]
 ·have hk0 : k > 0 := by
   by_cases hk0 : k > 0
   ·exact hk0
   ·exact absurd (fun h => absurd h hk0) h0
  have hN : l[i].N ≠ 0 := fun h => h0 fun _ => h
  have e0 : (if (decide ((k : Int) > 0)) = true then (some l[i]).bind fun y192 => some (y192.N != 0) else some false) = some true := by
   rw [zv (by omega), if_pos rfl, Option.bind_some, zbP hN]
  rw [e0, Option.bind_some, Bool.true_or, if_pos rfl, if_neg (fun h => h0 h.1)]
theorem zn6 (l : List Lc) (d : Nat) (hd : d ≤ 8) (i : Nat) (hi : i < l.length) (hl : l.length ≤ 1000000) (rec : Int → Int → Option Bool) :
  zd5 rec l (d : Int) (i : Int) = if okd l[i] = true ∧ tkn l[i] ≤ d ∧ d + 1 - tkn l[i] ≤ 8 then rec ((d + 1 - tkn l[i] : Nat) : Int) ((i + 1 : Nat) : Int) else some false := by
 unfold zd5 zeW zfe
 have k0 := zif l d hd i hi hl rec 0 (by omega)
 have k1 := zif l d hd i hi hl rec 1 (by omega)
 have k2 := zif l d hd i hi hl rec 2 (by omega)
 rw [show ((0 : Nat) : Int) = 0 from rfl] at k0
 rw [show ((1 : Nat) : Int) = 1 from rfl] at k1
 rw [show ((2 : Nat) : Int) = 2 from rfl] at k2
 have hk : ((l[i].Kind.toNat : Nat) : Int) = kd l[i] := rfl
 rw [zv (by omega), if_pos rfl, zbd hi, Option.bind_some]
 simp only [hk, k0, k1, k2, zbd hi, Option.bind_some]
 have hnk := (l[i].Kind.toNat_lt)
 unfold okd tkn
 rcases zi4 l[i] with h | h | h | h | h | h | ⟨h1, h2, h3, h4, h5, h6⟩
 ·simp [h]
 ·simp only [h]
  by_cases hN : 0 ≤ l[i].N ∧ l[i].N < 16
  ·simp [show ¬ l[i].N < 0 by omega, show ¬ l[i].N > 15 by omega, hN]
  ·by_cases h0 : l[i].N < 0
   ·simp [h0, hN]
   ·simp [h0, show l[i].N > 15 by omega, hN]
 ·simp [h]
 ·simp [h]
 ·simp [h]
 ·simp [h]
 ·simp [h1, h2, h3, h4, h5, h6]
theorem zlS (l : List Lc) (hl : l.length ≤ 1000000) : ∀ (n i : Nat) (d : Nat), i ≤ l.length → l.length - i < n → d ≤ 8 →
  zdl l n (d : Int) (i : Int) = some (match rtL d (l.drop i) with | none => false | some e => fin l e)
 | 0, i, _, _, h, _ => by omega
 | n + 1, i, d, hi, h, hd => by
  show zd5 _ l (d : Int) (i : Int) = _
  by_cases hlt : i < l.length
  ·rw [zn6 l d hd i hlt hl, List.drop_eq_getElem_cons hlt, rtL]
   by_cases hc : okd l[i] = true ∧ tkn l[i] ≤ d ∧ d + 1 - tkn l[i] ≤ 8
   ·rw [if_pos hc, if_pos hc, zlS l hl n (i + 1) _ (by omega) (by omega) hc.2.2]
   ·rw [if_neg hc, if_neg hc]
  ·unfold zd5
   rw [zx (by omega), if_neg (by simp), zlq, Option.bind_some, List.drop_of_length_le (by omega), rtL]
theorem zkx {l : List Lc} (hl : l.length ≤ 1000000) : zfl l = some (Rt l) := by
 have := zlS l hl big 0 0 (by omega) (zbj (by omega)) (by omega)
 rw [List.drop_zero] at this
 exact this
end Go.Proofs.YtckcngkkofemjaaGreat
