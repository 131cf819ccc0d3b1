import Derived.Test.YtckcngkkofemjaaGreatPL
namespace Go.Proofs.YtckcngkkofemjaaGreat
open Go.Ab Go.RowKit
set_option linter.unusedVariables false
set_option linter.unusedSimpArgs false
theorem zmO {l : List UInt8} {p n : Int} (h : p < 0 ∨ p > l.length) : zcJ l p n = some ([], 0, 1) := by
 unfold zcJ
 rw [if_pos (by simpa using h)]
theorem zk4 {l : List UInt8} {k n : Nat} {m : Int} (hm : m = (n : Int)) (hk : k ≤ l.length) (h : l.length < k + n) : zcJ l (k : Int) m = some ([], 0, 5) := by
 subst hm
 unfold zcJ
 rw [zx (by omega), zx (by omega), Bool.or_self, if_neg (by simp), zcX hk (Nat.le_refl _), Option.bind_some, zx, if_neg (by simp)]
 simp only [List.length_drop, List.length_take]
 omega
theorem zjK {l : List UInt8} {k n : Nat} {m : Int} (hm : m = (n : Int)) (hl : l.length ≤ 1099511627776) (h : k + n ≤ l.length) : zcJ l (k : Int) m = some ((l.drop k).take n, ((k + n : Nat) : Int), 0) := by
 subst hm
 unfold zcJ
 have hlen : ((l.take l.length).drop k).length = l.length - k := by simp
 rw [zx (by omega), zx (by omega), Bool.or_self, if_neg (by simp), zcX (by omega) (Nat.le_refl _), Option.bind_some, zv (by rw [hlen]; omega), if_pos rfl]
 have := zcX (l := (l.take l.length).drop k) (a := 0) (b := n) (by omega) (by rw [hlen]; omega)
 rw [show ((0 : Nat) : Int) = 0 from rfl] at this
 rw [this, Option.bind_some, zcH (by omega), List.drop_zero, List.take_length]
theorem zpX {l : List UInt8} {p n : Int} (h : p < 0 ∨ p > l.length) : zcD l p n = some 1 := by
 unfold zcD
 rw [if_pos (by simpa using h)]
theorem zlW {l : List UInt8} {k n : Nat} {m : Int} (hm : m = (n : Int)) (hl : l.length ≤ 1099511627776) (hk : k ≤ l.length) (h : l.length < k + n) : zcD l (k : Int) m = some 5 := by
 subst hm
 unfold zcD
 rw [zx (by omega), zx (by omega), Bool.or_self, if_neg (by simp), zbc (by omega), zv (by omega), if_pos rfl]
theorem zl0 {l : List UInt8} {k n : Nat} {m : Int} (hm : m = (n : Int)) (hl : l.length ≤ 1099511627776) (h : k + n ≤ l.length) : zcD l (k : Int) m = some 0 := by
 subst hm
 unfold zcD
 rw [zx (by omega), zx (by omega), Bool.or_self, if_neg (by simp), zbc (by omega), zx (by omega), if_neg (by simp)]
theorem zom {l : List UInt8} {p : Int} (h : p < 0 ∨ p > l.length) : zcI l p = some (0, 0, 1) := by
 unfold zcI
 rw [zmO h]
 rfl
theorem zgH {l : List UInt8} {k : Nat} (h : k = l.length) : zcI l (k : Int) = some (0, 0, 5) := by
 unfold zcI
 rw [zk4 (n := 1) (m := 1) rfl (by omega) (by omega)]
 rfl
theorem zea {l : List UInt8} {k : Nat} (hl : l.length ≤ 1099511627776) (h : k < l.length) : zcI l (k : Int) = some ((l[k].toNat : Int), ((k + 1 : Nat) : Int), 0) := by
 unfold zcI
 rw [zjK (n := 1) (m := 1) rfl hl (by omega), Option.bind_some, if_neg (by simp)]
 have := ziw ((l.drop k).take 1) 0
 rw [show ((0 : Nat) : Int) = 0 from rfl] at this
 rw [this]
 simp [List.getElem?_take, List.getElem?_drop, List.getElem?_eq_getElem h]
theorem zo8 {l : List UInt8} {p : Int} (h : p < 0 ∨ p > l.length) : zcW l p = some (0, 0, 1) := by
 unfold zcW
 rw [zpX h]
 rfl
theorem zoM {l : List UInt8} {k : Nat} (hl : l.length ≤ 1099511627776) (h : k = l.length) : zcW l (k : Int) = some (0, 0, 5) := by
 unfold zcW
 rw [zlW (n := 1) (m := 1) rfl hl (by omega) (by omega)]
 rfl
theorem zlE {l : List UInt8} {k : Nat} (hl : l.length ≤ 1099511627776) (h : k < l.length) : zcW l (k : Int) = some ((l[k].toNat : Int), ((k + 1 : Nat) : Int), 0) := by
 unfold zcW
 rw [zl0 (n := 1) (m := 1) rfl hl (by omega), Option.bind_some, if_neg (by simp), zbd h, Option.bind_some, zbh (by omega)]
def txt (l : List UInt8) (k n : Nat) : ByteArray := ⟨((l.drop k).take n).toArray⟩
theorem zoP {l : List UInt8} {p : Int} (h : p < 0 ∨ p > l.length) : zcq l p = some (⟨#[]⟩, 0, 1) := by
 unfold zcq
 rw [zom h]
 rfl
theorem zkv {l : List UInt8} {k : Nat} (h : k = l.length) : zcq l (k : Int) = some (⟨#[]⟩, 0, 5) := by
 unfold zcq
 rw [zgH h]
 rfl
theorem zkT {l : List UInt8} {k : Nat} (hl : l.length ≤ 1099511627776) (hk : k < l.length) (h : l.length < k + 1 + l[k].toNat) : zcq l (k : Int) = some (⟨#[]⟩, 0, 5) := by
 unfold zcq
 have ha := l[k].toNat_lt
 rw [zea hl hk, Option.bind_some, if_neg (by simp)]
 simp only
 rw [zdN (by omega), zk4 rfl (by omega) h]
 rfl
theorem zkn {l : List UInt8} {k : Nat} (hl : l.length ≤ 1099511627776) (hk : k < l.length) (h : k + 1 + l[k].toNat ≤ l.length) : zcq l (k : Int) = some (txt l (k + 1) l[k].toNat, ((k + 1 + l[k].toNat : Nat) : Int), 0) := by
 unfold zcq
 have ha := l[k].toNat_lt
 rw [zea hl hk, Option.bind_some, if_neg (by simp)]
 simp only
 rw [zdN (by omega), zjK rfl hl h]
 rfl
theorem znu {l : List UInt8} {p : Int} (h : p < 0 ∨ p > l.length) : zcp l p = some (⟨#[]⟩, 0, 1) := by
 unfold zcp
 rw [zo8 h]
 rfl
theorem zpd {l : List UInt8} {k : Nat} (hl : l.length ≤ 1099511627776) (h : k = l.length) : zcp l (k : Int) = some (⟨#[]⟩, 0, 5) := by
 unfold zcp
 rw [zoM hl h]
 rfl
theorem zoR {l : List UInt8} {k : Nat} (hl : l.length ≤ 1099511627776) (hk : k < l.length) (h : l.length < k + 1 + l[k].toNat) : zcp l (k : Int) = some (⟨#[]⟩, 0, 5) := by
 unfold zcp
 have ha := l[k].toNat_lt
 rw [zlE hl hk, Option.bind_some, if_pos (by simp)]
 simp only
 rw [zdN (by omega), zlW rfl hl (by omega) h]
 rfl
theorem zme {l : List UInt8} {a m n : Nat} {e : Int} (hl : l.length ≤ 1099511627776) (hn : n < 256) (h : m + n ≤ l.length) : ∀ (g i : Nat), i ≤ n → n - i < g → zgs l ((n : Int), (m : Int), e) g (txt l m i) (i : Int) = some (txt l m n, ((m + n : Nat) : Int), 0)
 | 0, i, _, h => by omega
 | g + 1, i, hi, hg => by
  show zfX _ l ((n : Int), (m : Int), e) (txt l m i) (i : Int) = _
  unfold zfX
  simp only
  rw [zdN (n := n) (by omega)]
  by_cases hlt : i < n
  ·have e1 : IntKind.i64.wrap (((m + i : Nat) : Int) + 1) = ((m + i + 1 : Nat) : Int) := zbh (by omega)
   rw [zv (by omega), if_pos rfl, zcH (by omega), e1, zcX (by omega) (by omega), Option.bind_some]
   have e2 : (l.take (m + i + 1)).drop (m + i) = [l[m + i]] := by
    rw [List.take_succ_eq_append_getElem (by omega), List.drop_left' (by simp; omega)]
   have hsz : (txt l m i).size = i := by show ((l.drop m).take i).toArray.size = i; simp; omega
   have e3 : zgj (txt l m i) ⟨((l.take (m + i + 1)).drop (m + i)).toArray⟩ = some (txt l m (i + 1)) := by
    unfold zgj
    rw [e2, hsz, if_neg]
    ·congr 1
     unfold txt
     have hd : m + i < l.length := by omega
     have : i < (l.drop m).length := by simp; omega
     rw [List.take_succ_eq_append_getElem this, List.getElem_drop]
     apply ByteArray.ext
     simp [ByteArray.data_append]
    ·show ¬ (((i + 1 : Nat) : Int) > 9223372036854775807)
     omega
   rw [e3, Option.bind_some, zbh (by omega)]
   exact zme (a := a) hl hn h g (i + 1) (by omega) (by omega)
  ·rw [zx (by omega), if_neg (by simp), zcH (by omega), show i = n from by omega]
theorem zou {l : List UInt8} {k : Nat} (hl : l.length ≤ 1099511627776) (hk : k < l.length) (h : k + 1 + l[k].toNat ≤ l.length) : zcp l (k : Int) = some (txt l (k + 1) l[k].toNat, ((k + 1 + l[k].toNat : Nat) : Int), 0) := by
 unfold zcp
 have ha := l[k].toNat_lt
 rw [zlE hl hk, Option.bind_some, if_pos (by simp)]
 simp only
 rw [zdN (by omega), zl0 rfl hl h]
 exact zme (a := 0) hl (by omega) h big 0 (by omega) (zbj (by omega))
theorem zoG {l : List UInt8} {p : Int} (hl : l.length ≤ 1099511627776) : ∃ r, zcq l p = some r ∧ zcp l p = some r := by
 by_cases h : p < 0 ∨ p > l.length
 ·exact ⟨_, zoP h, znu h⟩
 obtain ⟨k, rfl⟩ : ∃ k : Nat, p = k := ⟨p.toNat, by omega⟩
 by_cases h2 : k = l.length
 ·exact ⟨_, zkv h2, zpd hl h2⟩
 have hk : k < l.length := by omega
 by_cases h3 : l.length < k + 1 + l[k].toNat
 ·exact ⟨_, zkT hl hk h3, zoR hl hk h3⟩
 ·exact ⟨_, zkn hl hk (by omega), zou hl hk (by omega)⟩
end Go.Proofs.YtckcngkkofemjaaGreat
