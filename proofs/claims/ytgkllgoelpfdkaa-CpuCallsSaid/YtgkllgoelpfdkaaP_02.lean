import Derived.Test.YtgkllgoelpfdkaaPL
namespace Go.Proofs.Ytgkllgoelpfdkaa
open Go.Ab Go.RowKit
set_option linter.unusedVariables false
set_option linter.unusedSimpArgs false
theorem ziN (y : Int) : orI .u8 (IntKind.u8.wrap y) 128 = y % 128 + 128 := by
 have h : orI .u8 (IntKind.u8.wrap y) 128 = (IntKind.u8.wrap y) % 128 + 128 := zna (IntKind.u8.wrap y)
 have e := zdx y
 omega
theorem zkP (y : Int) : zbS .u8 (IntKind.u8.wrap y) 127 = y % 128 := by
 have h : zbS .u8 (IntKind.u8.wrap y) 127 = (IntKind.u8.wrap y) % 128 := zi1 (IntKind.u8.wrap y)
 have e := zdx y
 omega
theorem ziS (k : IntKind) (hk : 7 ≤ k.bits) (y : Int) : zbu k y 7 = y / 128 := by
 unfold zbu
 rw [show min (7 : Int).toNat k.bits = 7 from by simp; omega, Int.fdiv_eq_ediv_of_nonneg _ (by decide)]
 rfl
theorem zjq : ∀ (n x : Nat) (b : List UInt8), x < 18446744073709551616 → (zS x).length ≤ n → b.length + (zS x).length ≤ 1099511627776 → zeO n (x : Int) b = some (b ++ zS x)
 | 0, x, _, _, h, _ => by have := zhL x; omega
 | n + 1, x, b, hx, h, hb => by
  show zeC _ (x : Int) b = _
  unfold zeC
  by_cases hbig : x > 127
  ·rw [zfP hbig] at h hb ⊢
   simp only [List.length_cons] at h hb
   rw [z1 (by omega), if_pos rfl, ziN, zhn (k := x % 128 + 128) (by omega) (by omega), Option.bind_some, zbo (by omega), Option.bind_some, ziS _ (by decide), show (x : Int) / 128 = ((x / 128 : Nat) : Int) from by omega, zjq n (x / 128) _ (by omega) (by omega) (by simp; omega)]
   simp
  ·rw [zfm hbig] at hb ⊢
   simp only [List.length_cons, List.length_nil] at hb
   rw [zN (by omega), if_neg (by simp), zeq, Option.bind_some, zbo (by omega), Option.bind_some, show ((x : Int) % 256).toNat = x from by omega]
theorem ziv {l : List UInt8} {x : Nat} (hl : l.length ≤ 1099511627000) (hx : x < 18446744073709551616) : zdB l (x : Int) = some (l ++ zS x) := by
 unfold zdB zcj
 have h10 := zfX hx
 rw [zbo (by omega), Option.bind_some, Option.bind_some, zjq big x l hx (by unfold big; omega) (by omega)]
theorem zjy : ∀ (n : Nat) (x : Int) (b : List UInt8), (zK x).length ≤ n → b.length + (zK x).length ≤ 1099511627776 → zem n x b = some (b ++ zK x)
 | 0, x, _, h, _ => by have := zf4 x; omega
 | n + 1, x, b, h, hb => by
  show zeT _ x b = _
  unfold zeT
  by_cases hbig : x > 63 ∨ x < -64
  ·rw [zdW hbig] at h hb ⊢
   simp only [List.length_cons] at h hb
   rw [if_pos (by simpa using hbig), ziN, zhn (k := (x % 128).toNat + 128) (by omega) (by omega), Option.bind_some, zbo (by omega), Option.bind_some, ziS _ (by decide), zjy n (x / 128) _ (by omega) (by simp; omega)]
   simp
  ·rw [zdp hbig] at hb ⊢
   simp only [List.length_cons, List.length_nil] at hb
   rw [if_neg (by simpa using hbig), zkP, zhn (k := (x % 128).toNat) (by omega) (by omega), Option.bind_some, zbo (by omega), Option.bind_some]
theorem zhj {l : List UInt8} {x : Int} (hl : l.length ≤ 1099511627000) (hx : -9223372036854775808 ≤ x ∧ x ≤ 9223372036854775807) : zdY l x = some (l ++ zK x) := by
 unfold zdY zcj
 have h10 := zf8 hx.1 hx.2
 rw [zbo (by omega), Option.bind_some, Option.bind_some, zjy big x l (by unfold big; omega) (by omega)]
theorem zmQ {b i : Nat} (hi : i < 10) : zcS .u64 (IntKind.u64.wrap ((b : Int) % 128)) (IntKind.i64.wrap (7 * (i : Int))) = some ((b % 128 * 2 ^ (7 * i) % 18446744073709551616 : Nat) : Int) := by
 have h := zmh (b := b) hi
 have e : IntKind.i64.wrap (7 * (i : Int)) = ((7 * i : Nat) : Int) := by rw [zL (by omega)]; omega
 rw [e] at h ⊢
 rw [znf (k := .u64) _ (7 * i) (show _ ≤ 64 by omega)] at h
 injection h with h
 injection h with _ h
 unfold zcS zbM
 rw [if_neg (by omega)]
 congr 1
 rw [show min ((7 * i : Nat) : Int).toNat IntKind.u64.bits = 7 * i from by rw [Int.toNat_natCast]; exact Nat.min_eq_left (show 7 * i ≤ 64 by omega)]
 exact h
theorem zj6 (l : List UInt8) (hl : l.length ≤ 1099511627776) : ∀ (n i s : Nat), i ≤ min l.length 10 → 10 - i < n → s < 2 ^ (7 * i) → s < 18446744073709551616 → dig 10 l = (dig (10 - i) (l.drop i)).map (fun p => (s + 2 ^ (7 * i) * p.1, p.2 + i)) → zfs l n (s : Int) (i : Int) = some ((zbf l : Int), (zY l : Int))
 | 0, i, s, hi, h, _, _, _ => by omega
 | n + 1, i, s, hi, h, hs, hs64, hd => by
  show zeV _ l (s : Int) (i : Int) = _
  unfold zeV
  have hm : zbp (l.length : Int) 10 = ((min l.length 10 : Nat) : Int) := by unfold zbp; split <;> omega
  rw [hm]
  by_cases hlt : i < min l.length 10
  ·have hil : i < l.length := by omega
   rw [show 10 - i = (9 - i) + 1 from by omega, zmX hil] at hd
   have ha : zbS .u8 (l[i].toNat : Int) 127 = (l[i].toNat : Int) % 128 := zi1 _
   have ho : orI .u64 (s : Int) ((l[i].toNat % 128 * 2 ^ (7 * i) % 18446744073709551616 : Nat) : Int) = _ := or7 (b := l[i].toNat) (show i < 10 by omega) hs hs64
   rw [z1 (by omega), if_pos rfl, zcl hil, Option.bind_some, ha, zmQ (show i < 10 by omega), Option.bind_some, Option.bind_some, ho, zb8 (by omega)]
   by_cases hb : l[i].toNat < 128
   ·rw [if_pos hb] at hd
    rw [z1 (by omega), if_pos rfl]
    have hX : zbf l = (s + l[i].toNat % 128 * 2 ^ (7 * i)) % 18446744073709551616 := by
     rw [zbf, hd]
     show (s + 2 ^ (7 * i) * l[i].toNat) % _ = _
     rw [Nat.mod_eq_of_lt (show l[i].toNat < 128 by omega), Nat.mul_comm]
    have hN : zY l = 1 + i := by rw [zY, hd]; rfl
    rw [hX, hN, Nat.add_comm 1 i]
   ·rw [if_neg hb] at hd
    rw [zN (by omega), if_neg (by simp)]
    have e7 : 2 ^ (7 * (i + 1)) = 2 ^ (7 * i) * 128 := by rw [Nat.mul_add, Nat.pow_add]
    have hm := Nat.mul_le_mul_right (2 ^ (7 * i)) (show l[i].toNat % 128 ≤ 127 by omega)
    have hlt7 : s + l[i].toNat % 128 * 2 ^ (7 * i) < 2 ^ (7 * (i + 1)) := by omega
    refine zj6 l hl n (i + 1) _ (by omega) (by omega) (Nat.lt_of_le_of_lt (Nat.mod_le _ _) hlt7) (Nat.mod_lt _ (by omega)) ?_
    rw [hd, show 9 - i = 10 - (i + 1) from by omega]
    by_cases h9 : i = 9
    ·subst h9; rfl
    ·have hp : 2 ^ (7 * (i + 1)) ≤ 2 ^ 63 := Nat.pow_le_pow_right (by omega) (by omega)
     rw [Nat.mod_eq_of_lt (show s + l[i].toNat % 128 * 2 ^ (7 * i) < 18446744073709551616 by omega), Option.map_map]
     congr 1
     funext p
     show (s + 2 ^ (7 * i) * (l[i].toNat % 128 + 128 * p.1), p.2 + 1 + i) = (_, _)
     rw [e7, Nat.mul_add, Nat.mul_comm (2 ^ (7 * i)) (l[i].toNat % 128), Nat.mul_assoc, Nat.add_assoc, Nat.add_assoc, Nat.add_comm 1 i]
  ·have hz : dig (10 - i) (l.drop i) = none := by
    by_cases h10 : l.length < 10
    ·rw [List.drop_eq_nil_of_le (by omega), zk3]
    ·rw [show 10 - i = 0 from by omega]; rfl
   rw [hz] at hd
   rw [zN (by omega), if_neg (by simp), zbf, zY, hd]
   rfl
theorem zjW {l : List UInt8} (hl : l.length ≤ 1099511627776) : zet l = some ((zbf l : Int), (zY l : Int)) := by
 refine zj6 l hl big 0 0 (by omega) (zcx (by omega)) (by decide) (by omega) ?_
 simp
theorem zik (l m : List UInt8) (hl : l.length ≤ 1099511627776) (hlm : l.length = m.length) : ∀ (n i : Nat), i ≤ l.length → l.length - i < n → zeg l m n (i : Int) = some (decide (l.drop i = m.drop i))
 | 0, i, _, h => by omega
 | n + 1, i, hi, h => by
  show zeU _ l m (i : Int) = _
  unfold zeU
  by_cases hlt : i < l.length
  ·have hlt2 : i < m.length := by omega
   rw [z1 (by omega), if_pos rfl, zcl hlt, Option.bind_some, zcl hlt2, Option.bind_some, List.drop_eq_getElem_cons hlt, List.drop_eq_getElem_cons hlt2]
   by_cases he : l[i] = m[i]
   ·rw [zji (zgi.2 he), if_neg (by simp), zb8 (by omega), zik l m hl hlm n (i + 1) (by omega) (by omega), he]
    congr 1
    rw [decide_eq_decide]
    exact ⟨fun h => by rw [h], fun h => by injection h⟩
   ·rw [zj4 (fun h => he (zgi.1 h)), if_pos rfl, zN]
    intro h2
    injection h2 with h3 h4
    exact he h3
  ·rw [zN (by omega), if_neg (by simp), List.drop_of_length_le (by omega), List.drop_of_length_le (by omega), z1 rfl]
theorem zju {l m : List UInt8} (hl : l.length ≤ 1099511627776) : zdQ l m = some (decide (l = m)) := by
 unfold zdQ
 by_cases h : l.length = m.length
 ·rw [zji (by omega), if_neg (by simp)]
  exact zik l m hl h big 0 (by omega) (zcx (by omega))
 ·rw [zj4 (by omega), if_pos rfl, zN (fun e => h (by rw [e]))]
theorem F_U {l : List UInt8} {x : Int} (hl : l.length ≤ 1099511627776) (hx : -9223372036854775808 ≤ x ∧ x ≤ 9223372036854775807) : zeu l x = some (((rdU l x).1 : Int), (rdU l x).2.1, (rdU l x).2.2) := by
 unfold zeu zf3
 by_cases hc : x < 0 ∨ x > l.length
 ·rw [if_pos (by simpa using hc), rdU, if_pos (by omega)]
  rfl
 ·obtain ⟨i, rfl⟩ : ∃ i : Nat, x = i := ⟨x.toNat, by omega⟩
  have hil : i ≤ l.length := by omega
  rw [if_neg (by simpa using hc), zci hil (Nat.le_refl _), List.take_length, Option.bind_some, zjW (by simp; omega), Option.bind_some]
  generalize hX : zbf (l.drop i) = y
  generalize hN : zY (l.drop i) = n
  have hy64 : y < 18446744073709551616 := hX ▸ zfL _
  have hn := zf6 (l.drop i)
  rw [hN, List.length_drop] at hn
  have hw : IntKind.i64.wrap ((i : Int) + (n : Int)) = ((i + n : Nat) : Int) := zgr (by omega)
  have hrd : rdU l i = if n = 0 ∨ zS y ≠ (l.drop i).take n then (0, 0, 5) else (y, (i : Int) + n, 0) := by
   rw [rdU, if_neg (by omega)]
   simp only [Int.toNat_natCast, hX, hN]
  have h10 := zfX hy64
  unfold zfI
  rw [Option.bind_some, hrd]
  by_cases hn0 : n = 0
  ·rw [zhz (by omega), if_pos rfl, Option.bind_some, if_pos rfl, if_pos (Or.inl hn0)]
   rfl
  ·rw [zf0 (by omega), if_neg (by simp)]
   simp only [hw]
   rw [zci (by omega) (by omega), Option.bind_some, ziv (by simp) hy64, Option.bind_some, zju (by simp; omega), Option.bind_some, Option.bind_some, List.nil_append, List.drop_take, Nat.add_sub_cancel_left]
   by_cases he : zS y = (l.drop i).take n
   ·rw [z1 he, Bool.not_true, if_neg (by simp), if_neg (by simp [hn0, he]), Option.bind_some]
    simp
   ·rw [zN he, Bool.not_false, if_pos rfl, if_pos (Or.inr he)]
    rfl
theorem zlj {x n : Nat} (hn : n ≤ 10) (hx : x < 2 ^ (7 * n)) (hx2 : x < 18446744073709551616) : ∃ y, ze7 (x : Int) (n : Int) = some y ∧ (1 ≤ n → y = sgn x n) ∧ -9223372036854775808 ≤ y ∧ y ≤ 9223372036854775807 := by
 unfold ze7
 have e1 : IntKind.i64.wrap (7 * (n : Int)) = 7 * n := zL (by omega)
 have e2 : IntKind.i64.wrap (64 - 7 * (n : Int)) = 64 - 7 * n := zL (by omega)
 have e3 : zbR 0 (64 - 7 * (n : Int)) = ((64 - 7 * n : Nat) : Int) := by unfold zbR; split <;> omega
 have e4 : ∀ (k : IntKind) (a : Int), 64 ≤ k.bits → zcS k a ((64 - 7 * n : Nat) : Int) = some (k.wrap (a * 2 ^ (64 - 7 * n))) := fun k a hk => by
  unfold zcS zbM
  rw [if_neg (by omega), Int.toNat_natCast, Nat.min_eq_left (by omega)]
 have e5 : ∀ (k : IntKind) (a : Int), 64 ≤ k.bits → zbY k a ((64 - 7 * n : Nat) : Int) = some (a / 2 ^ (64 - 7 * n)) := fun k a hk => by
  unfold zbY zbu
  rw [if_neg (by omega), Int.toNat_natCast, Nat.min_eq_left (by omega), Int.fdiv_eq_ediv_of_nonneg]
  exact Int.le_of_lt (Int.pow_pos (by decide))
 rw [e1, e2, e3, e4 _ _ (by decide), Option.bind_some, e5 _ _ (by decide), Option.bind_some]
 refine ⟨_, rfl, fun h1 => zjC h1 hn hx hx2, ?_⟩
 by_cases h1 : 1 ≤ n
 ·rw [zjC h1 hn hx hx2]; exact zjs h1 hn hx hx2
 ·have : n = 0 := by omega
  subst this
  have : x = 0 := by simpa using hx
  subst this
  decide
theorem F_S {l : List UInt8} {x : Int} (hl : l.length ≤ 1099511627776) (hx : -9223372036854775808 ≤ x ∧ x ≤ 9223372036854775807) : zff l x = some ((rdS l x).1, (rdS l x).2.1, (rdS l x).2.2) := by
 unfold zff zgM
 by_cases hc : x < 0 ∨ x > l.length
 ·rw [if_pos (by simpa using hc), rdS, if_pos (by omega)]
  rfl
 ·obtain ⟨i, rfl⟩ : ∃ i : Nat, x = i := ⟨x.toNat, by omega⟩
  have hil : i ≤ l.length := by omega
  rw [if_neg (by simpa using hc), zci hil (Nat.le_refl _), List.take_length, Option.bind_some, zjW (by simp; omega), Option.bind_some]
  have hxp := zjQ (l.drop i)
  generalize hX : zbf (l.drop i) = y at hxp
  generalize hN : zY (l.drop i) = n at hxp
  have hy64 : y < 18446744073709551616 := hX ▸ zfL _
  have hn := zf6 (l.drop i)
  rw [hN, List.length_drop] at hn
  have hw : IntKind.i64.wrap ((i : Int) + (n : Int)) = ((i + n : Nat) : Int) := zgr (by omega)
  have hrd : rdS l i = if n = 0 ∨ zK (sgn y n) ≠ (l.drop i).take n then (0, 0, 5) else (sgn y n, (i : Int) + n, 0) := by
   rw [rdS, if_neg (by omega)]
   simp only [Int.toNat_natCast, hX, hN]
  obtain ⟨z, hz, hz2, hz3⟩ := zlj hn.1 hxp hy64
  have h10 := zf8 hz3.1 hz3.2
  rw [hz, Option.bind_some, hrd]
  by_cases hn0 : n = 0
  ·rw [zhz (by omega), if_pos rfl, Option.bind_some, if_pos rfl, if_pos (Or.inl hn0)]
   rfl
  ·rw [zf0 (by omega), if_neg (by simp)]
   simp only [hw]
   rw [zci (by omega) (by omega), Option.bind_some, zhj (by simp) hz3, Option.bind_some, zju (by simp; omega), Option.bind_some, Option.bind_some, List.nil_append, List.drop_take, Nat.add_sub_cancel_left, ← hz2 (by omega)]
   by_cases he : zK z = (l.drop i).take n
   ·rw [z1 he, Bool.not_true, if_neg (by simp), if_neg (by simp [hn0, he]), Option.bind_some]
    simp
   ·rw [zN he, Bool.not_false, if_pos rfl, if_pos (Or.inr he)]
    rfl
end Go.Proofs.Ytgkllgoelpfdkaa
