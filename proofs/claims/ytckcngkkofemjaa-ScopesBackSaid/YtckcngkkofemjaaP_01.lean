import Derived.Test.YtckcngkkofemjaaAd
import Derived.Test.YtckcngkkofemjaaF
import Derived.Test.YtckcngkkofemjaaPL
namespace Go.Proofs.Ytckcngkkofemjaa
open Go.Ab Go.RowKit
set_option linter.unusedVariables false
set_option linter.unusedSimpArgs false
theorem zeK {n : Nat} (h : n ≤ 1099511627776) : zcA [] (n : Int) = some [] := by
  unfold zcA
  rw [decF (by omega), if_neg (by simp)]
  unfold zdq
  have e : IntKind.i64.wrap ((n : Int) - IntKind.i64.wrap (0 - 0)) = n := by rw [wi64 (x := 0 - 0) (by omega), wi64 (by omega)]; omega
  rw [e]
  by_cases h0 : n = 0
  · subst h0
    rfl
  · rw [decT (by omega), if_pos rfl, nneg_ok (by omega), Option.bind_some, room_ok (by simpa using h), Option.bind_some]
    have := cutI_ok (l := ([] : List UInt8) ++ List.replicate (n : Int).toNat 0) (a := 0) (b := 0) (by omega) (by omega)
    rw [show ((0 : Nat) : Int) = 0 from rfl] at this
    rw [this]
    rfl
theorem Concat_l15 (ls : List (List UInt8)) (hl : ls.length ≤ 1000000) (hz : ls.flatten.length ≤ 1099511627776) : ∀ (n i : Nat), i ≤ ls.length → ls.length - i < n → zbE ls n (ls.take i).flatten (i : Int) = some ls.flatten
  | 0, i, _, h => by omega
  | n + 1, i, hi, h => by
    show zcW _ ls _ (i : Int) = _
    unfold zcW
    by_cases hlt : i < ls.length
    · rw [decT (by omega), if_pos rfl, getI_lt hlt, Option.bind_some]
      have e : (ls.take i).flatten ++ ls[i] = (ls.take (i + 1)).flatten := by rw [List.take_succ_eq_append_getElem hlt, List.flatten_append]; simp
      have hle : (ls.take (i + 1)).flatten.length ≤ ls.flatten.length := by
        conv => rhs; rw [← List.take_append_drop (i + 1) ls, List.flatten_append, List.length_append]
        omega
      rw [room_ok (by rw [← e, List.length_append] at hle; omega), Option.bind_some, e, i64_succ (by omega)]
      exact Concat_l15 ls hl hz n (i + 1) (by omega) (by omega)
    · rw [decF (by omega), if_neg (by simp), List.take_of_length_le (by omega)]
theorem Concat_l13 (ls : List (List UInt8)) (hl : ls.length ≤ 1000000) (hz : ls.flatten.length ≤ 1099511627776) : ∀ (n i : Nat), i ≤ ls.length → ls.length - i < n → zbs ls n ((ls.take i).flatten.length : Int) (i : Int) = some ls.flatten
  | 0, i, _, h => by omega
  | n + 1, i, hi, h => by
    show zcO _ ls _ (i : Int) = _
    unfold zcO
    by_cases hlt : i < ls.length
    · rw [decT (by omega), if_pos rfl, getI_lt hlt, Option.bind_some]
      have e : (ls.take i).flatten ++ ls[i] = (ls.take (i + 1)).flatten := by rw [List.take_succ_eq_append_getElem hlt, List.flatten_append]; simp
      have hle : (ls.take (i + 1)).flatten.length ≤ ls.flatten.length := by
        conv => rhs; rw [← List.take_append_drop (i + 1) ls, List.flatten_append, List.length_append]
        omega
      have e2 : (ls.take i).flatten.length + ls[i].length = (ls.take (i + 1)).flatten.length := by rw [← e, List.length_append]
      rw [i64_add (by omega), e2, decF (by omega), if_neg (by simp), i64_succ (by omega)]
      exact Concat_l13 ls hl hz n (i + 1) (by omega) (by omega)
    · rw [decF (by omega), if_neg (by simp), List.take_of_length_le (by omega), zeK hz, Option.bind_some]
      exact Concat_l15 ls hl hz big 0 (by omega) (big_gt (by omega))
theorem zfM {ls : List (List UInt8)} (hl : ls.length ≤ 1000000) (hz : ls.flatten.length ≤ 1099511627776) : zdd ls = some ls.flatten :=
  Concat_l13 ls hl hz big 0 (by omega) (big_gt (by omega))
theorem cutB {l : List UInt8} {k n : Nat} {m : Int} (hm : m = (n : Int)) (hk : k ≤ l.length) (h : l.length < k + n) : zP l (k : Int) m = some ([], 0, 5) := by
  subst hm
  unfold zP
  rw [decF (by omega), decF (by omega), Bool.or_self, if_neg (by simp), cutI_ok hk (Nat.le_refl _), Option.bind_some, decF, if_neg (by simp)]
  simp only [List.length_drop, List.length_take]
  omega
theorem cutC {l : List UInt8} {k n : Nat} {m : Int} (hm : m = (n : Int)) (hl : l.length ≤ 1099511627776) (h : k + n ≤ l.length) : zP l (k : Int) m = some ((l.drop k).take n, ((k + n : Nat) : Int), 0) := by
  subst hm
  unfold zP
  have hlen : ((l.take l.length).drop k).length = l.length - k := by simp
  rw [decF (by omega), decF (by omega), Bool.or_self, if_neg (by simp), cutI_ok (by omega) (Nat.le_refl _), Option.bind_some, decT (by rw [hlen]; omega), if_pos rfl]
  have := cutI_ok (l := (l.take l.length).drop k) (a := 0) (b := n) (by omega) (by rw [hlen]; omega)
  rw [show ((0 : Nat) : Int) = 0 from rfl] at this
  rw [this, Option.bind_some, i64_add (by omega), List.drop_zero, List.take_length]
theorem OneB {l : List UInt8} {k : Nat} (h : k = l.length) : zN l (k : Int) = some (0, 0, 5) := by
  unfold zN
  rw [cutB (n := 1) (m := 1) rfl (by omega) (by omega)]
  rfl
theorem OneC {l : List UInt8} {k : Nat} (hl : l.length ≤ 1099511627776) (h : k < l.length) : zN l (k : Int) = some ((l[k].toNat : Int), ((k + 1 : Nat) : Int), 0) := by
  unfold zN
  rw [cutC (n := 1) (m := 1) rfl hl (by omega), Option.bind_some, if_neg (by simp)]
  have := getI_cast ((l.drop k).take 1) 0
  rw [show ((0 : Nat) : Int) = 0 from rfl] at this
  rw [this]
  simp [List.getElem?_take, List.getElem?_drop, List.getElem?_eq_getElem h]
def txt (l : List UInt8) (k n : Nat) : ByteArray := ⟨((l.drop k).take n).toArray⟩
theorem TextB {l : List UInt8} {k : Nat} (h : k = l.length) : zG l (k : Int) = some (⟨#[]⟩, 0, 5) := by
  unfold zG
  rw [OneB h]
  rfl
theorem TextD {l : List UInt8} {k : Nat} (hl : l.length ≤ 1099511627776) (hk : k < l.length) (h : l.length < k + 1 + l[k].toNat) : zG l (k : Int) = some (⟨#[]⟩, 0, 5) := by
  unfold zG
  have ha := l[k].toNat_lt
  rw [OneC hl hk, Option.bind_some, if_neg (by simp)]
  simp only
  rw [i64_nat (by omega), cutB rfl (by omega) h]
  rfl
theorem TextC {l : List UInt8} {k : Nat} (hl : l.length ≤ 1099511627776) (hk : k < l.length) (h : k + 1 + l[k].toNat ≤ l.length) : zG l (k : Int) = some (txt l (k + 1) l[k].toNat, ((k + 1 + l[k].toNat : Nat) : Int), 0) := by
  unfold zG
  have ha := l[k].toNat_lt
  rw [OneC hl hk, Option.bind_some, if_neg (by simp)]
  simp only
  rw [i64_nat (by omega), cutC rfl hl h]
  rfl
theorem zfw {l : List UInt8} {s : ByteArray} (hl : l.length ≤ 1099511000000) : zcj l s = some (if s.size > 255 then ([], 1) else (l ++ [UInt8.ofNat s.size] ++ s.data.toList, 0)) := by
  unfold zcj
  by_cases h : s.size > 255
  · rw [decT (by omega), if_pos rfl, if_pos h]
  · have hs : s.data.toList.length = s.size := by simp
    rw [decF (by omega), if_neg (by simp), if_neg h, u8o_wrap, Option.bind_some]
    have e : (((s.size : Nat) : Int) % 256).toNat = s.size := by omega
    rw [e, zfM (by simp) (by simp only [List.flatten_cons, List.flatten_nil, List.length_append, hs, List.length_cons, List.length_nil]; omega), Option.bind_some]
    simp
end Go.Proofs.Ytckcngkkofemjaa
