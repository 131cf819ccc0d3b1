import Derived.Test.YtgkllgoelpfdkaaGreatPL
namespace Go.Proofs.YtgkllgoelpfdkaaGreat
open Go.Ab Go.RowKit
set_option linter.unusedVariables false
set_option linter.unusedSimpArgs false
theorem znf (l : List UInt8) (hl : l.length ≤ 1099511627000) : ∀ (n i : Nat) (acc : List UInt8), i ≤ l.length → l.length - i < n → acc.length ≤ i → zfv l n acc (i : Int) = some (acc ++ l.drop i)
 | 0, i, _, _, h, _ => by omega
 | n + 1, i, acc, hi, h, ha => by
  show ze6 _ l acc (i : Int) = _
  unfold ze6
  by_cases hlt : i < l.length
  ·rw [zX (by omega), if_pos rfl, zbQ hlt, Option.bind_some]
   have ih := znf l hl n (i + 1) (acc ++ [l[i]]) (by omega) (by omega) (by simp; omega)
   rw [List.append_assoc, List.singleton_append, ← List.drop_eq_getElem_cons hlt] at ih
   rw [zbi (by simp; omega), Option.bind_some, zbt (by omega)]; exact ih
  ·rw [zO (by omega), if_neg (by simp), List.drop_of_length_le (by omega), List.append_nil]
theorem zob {l : List UInt8} (hl : l.length ≤ 1099511627000) : zeF l = some l := by
 have := znf l hl big 0 [] (by omega) (zbR (by omega)) (by simp)
 exact this
theorem znL (y : Int) : orI .u8 (IntKind.u8.wrap y) 128 = y % 128 + 128 := by
 have h : orI .u8 (IntKind.u8.wrap y) 128 = (IntKind.u8.wrap y) % 128 + 128 := zqK (IntKind.u8.wrap y)
 have e := zd0 y
 omega
theorem zrI (y : Int) : zcz .u8 (IntKind.u8.wrap y) 127 = y % 128 := by
 have h : zcz .u8 (IntKind.u8.wrap y) 127 = (IntKind.u8.wrap y) % 128 := zlT (IntKind.u8.wrap y)
 have e := zd0 y
 omega
theorem zls (k : IntKind) (hk : 7 ≤ k.bits) (y : Int) : zcj k y 7 = y / 128 := by
 unfold zcj
 rw [show min (7 : Int).toNat k.bits = 7 from by simp; omega, Int.fdiv_eq_ediv_of_nonneg _ (by decide)]
 rfl
theorem zmy : ∀ (n x : Nat) (b : List UInt8), x < 18446744073709551616 → (z2 x).length ≤ n → b.length + (z2 x).length ≤ 1099511627776 → zhf n (x : Int) b = some (b ++ z2 x)
 | 0, x, _, _, h, _ => by have := zfk x; omega
 | n + 1, x, b, hx, h, hb => by
  show zhV _ (x : Int) b = _
  unfold zhV
  by_cases hbig : x > 127
  ·rw [zdT hbig] at h hb ⊢
   simp only [List.length_cons] at h hb
   rw [zX (by omega), if_pos rfl, znL, zkU (k := x % 128 + 128) (by omega) (by omega), Option.bind_some, zbi (by omega), Option.bind_some, zls _ (by decide), show (x : Int) / 128 = ((x / 128 : Nat) : Int) from by omega, zmy n (x / 128) _ (by omega) (by omega) (by simp; omega)]
   simp
  ·rw [zdQ hbig] at hb ⊢
   simp only [List.length_cons, List.length_nil] at hb
   rw [zO (by omega), if_neg (by simp), zd7, Option.bind_some, zbi (by omega), Option.bind_some, show ((x : Int) % 256).toNat = x from by omega]
theorem zlM {l : List UInt8} {x : Nat} (hl : l.length ≤ 1099511627000) (hx : x < 18446744073709551616) : zfN l (x : Int) = some (l ++ z2 x) := by
 unfold zfN zdo
 have h10 := zdX hx
 rw [zbi (by omega), Option.bind_some, Option.bind_some, zmy big x l hx (by unfold big; omega) (by omega)]
theorem znW : ∀ (n : Nat) (x : Int) (b : List UInt8), (zR x).length ≤ n → b.length + (zR x).length ≤ 1099511627776 → zgZ n x b = some (b ++ zR x)
 | 0, x, _, h, _ => by have := zfj x; omega
 | n + 1, x, b, h, hb => by
  show zhm _ x b = _
  unfold zhm
  by_cases hbig : x > 63 ∨ x < -64
  ·rw [zd6 hbig] at h hb ⊢
   simp only [List.length_cons] at h hb
   rw [if_pos (by simpa using hbig), znL, zkU (k := (x % 128).toNat + 128) (by omega) (by omega), Option.bind_some, zbi (by omega), Option.bind_some, zls _ (by decide), znW n (x / 128) _ (by omega) (by simp; omega)]
   simp
  ·rw [zdL hbig] at hb ⊢
   simp only [List.length_cons, List.length_nil] at hb
   rw [if_neg (by simpa using hbig), zrI, zkU (k := (x % 128).toNat) (by omega) (by omega), Option.bind_some, zbi (by omega), Option.bind_some]
theorem zlh {l : List UInt8} {x : Int} (hl : l.length ≤ 1099511627000) (hx : -9223372036854775808 ≤ x ∧ x ≤ 9223372036854775807) : zfZ l x = some (l ++ zR x) := by
 unfold zfZ zdo
 have h10 := zdK hx.1 hx.2
 rw [zbi (by omega), Option.bind_some, Option.bind_some, znW big x l (by unfold big; omega) (by omega)]
theorem zok {b i : Nat} (hi : i < 10) : zb6 .u64 (IntKind.u64.wrap ((b : Int) % 128)) (IntKind.i64.wrap (7 * (i : Int))) = some ((b % 128 * 2 ^ (7 * i) % 18446744073709551616 : Nat) : Int) := by
 have h := zrq (b := b) hi
 have e : IntKind.i64.wrap (7 * (i : Int)) = ((7 * i : Nat) : Int) := by rw [zN (by omega)]; omega
 rw [e] at h ⊢
 rw [zoK (k := .u64) _ (7 * i) (show _ ≤ 64 by omega)] at h
 injection h with h
 injection h with _ h
 unfold zb6 zct
 rw [if_neg (by omega)]
 congr 1
 rw [show min ((7 * i : Nat) : Int).toNat IntKind.u64.bits = 7 * i from by rw [Int.toNat_natCast]; exact Nat.min_eq_left (show 7 * i ≤ 64 by omega)]
 exact h
theorem zm3 (l : List UInt8) (hl : l.length ≤ 1099511627776) : ∀ (n i s : Nat), i ≤ min l.length 10 → 10 - i < n → s < 2 ^ (7 * i) → s < 18446744073709551616 → dig 10 l = (dig (10 - i) (l.drop i)).map (fun p => (s + 2 ^ (7 * i) * p.1, p.2 + i)) → zgm l n (s : Int) (i : Int) = some ((zbc l : Int), (zE l : Int))
 | 0, i, s, hi, h, _, _, _ => by omega
 | n + 1, i, s, hi, h, hs, hs64, hd => by
  show zhL _ l (s : Int) (i : Int) = _
  unfold zhL
  have hm : zdG (l.length : Int) 10 = ((min l.length 10 : Nat) : Int) := by unfold zdG; split <;> omega
  rw [hm]
  by_cases hlt : i < min l.length 10
  ·have hil : i < l.length := by omega
   rw [show 10 - i = (9 - i) + 1 from by omega, zno hil] at hd
   have ha : zcz .u8 (l[i].toNat : Int) 127 = (l[i].toNat : Int) % 128 := zlT _
   have ho : orI .u64 (s : Int) ((l[i].toNat % 128 * 2 ^ (7 * i) % 18446744073709551616 : Nat) : Int) = _ := or7 (b := l[i].toNat) (show i < 10 by omega) hs hs64
   rw [zX (by omega), if_pos rfl, zbQ hil, Option.bind_some, ha, zok (show i < 10 by omega), Option.bind_some, Option.bind_some, ho, zbt (by omega)]
   by_cases hb : l[i].toNat < 128
   ·rw [if_pos hb] at hd
    rw [zX (by omega), if_pos rfl]
    have hX : zbc l = (s + l[i].toNat % 128 * 2 ^ (7 * i)) % 18446744073709551616 := by
     rw [zbc, hd]
     show (s + 2 ^ (7 * i) * l[i].toNat) % _ = _
     rw [Nat.mod_eq_of_lt (show l[i].toNat < 128 by omega), Nat.mul_comm]
    have hN : zE l = 1 + i := by rw [zE, hd]; rfl
    rw [hX, hN, Nat.add_comm 1 i]
   ·rw [if_neg hb] at hd
    rw [zO (by omega), if_neg (by simp)]
    have e7 : 2 ^ (7 * (i + 1)) = 2 ^ (7 * i) * 128 := by rw [Nat.mul_add, Nat.pow_add]
    have hm := Nat.mul_le_mul_right (2 ^ (7 * i)) (show l[i].toNat % 128 ≤ 127 by omega)
    have hlt7 : s + l[i].toNat % 128 * 2 ^ (7 * i) < 2 ^ (7 * (i + 1)) := by omega
    refine zm3 l hl n (i + 1) _ (by omega) (by omega) (Nat.lt_of_le_of_lt (Nat.mod_le _ _) hlt7) (Nat.mod_lt _ (by omega)) ?_
    rw [hd, show 9 - i = 10 - (i + 1) from by omega]
    by_cases h9 : i = 9
    ·subst h9; rfl
    ·have hp : 2 ^ (7 * (i + 1)) ≤ 2 ^ 63 := Nat.pow_le_pow_right (by omega) (by omega)
     rw [Nat.mod_eq_of_lt (show s + l[i].toNat % 128 * 2 ^ (7 * i) < 18446744073709551616 by omega), Option.map_map]
     congr 1
     funext p
     show (s + 2 ^ (7 * i) * (l[i].toNat % 128 + 128 * p.1), p.2 + 1 + i) = (_, _)
     rw [e7, Nat.mul_add, Nat.mul_comm (2 ^ (7 * i)) (l[i].toNat % 128), Nat.mul_assoc, Nat.add_assoc, Nat.add_assoc, Nat.add_comm 1 i]
  ·have hz : dig (10 - i) (l.drop i) = none := by
    by_cases h10 : l.length < 10
    ·rw [List.drop_eq_nil_of_le (by omega), znH]
    ·rw [show 10 - i = 0 from by omega]; rfl
   rw [hz] at hd
   rw [zO (by omega), if_neg (by simp), zbc, zE, hd]
   rfl
theorem zmM {l : List UInt8} (hl : l.length ≤ 1099511627776) : zgz l = some ((zbc l : Int), (zE l : Int)) := by
 refine zm3 l hl big 0 0 (by omega) (zbR (by omega)) (by decide) (by omega) ?_
 simp
theorem zl9 (l m : List UInt8) (hl : l.length ≤ 1099511627776) (hlm : l.length = m.length) : ∀ (n i : Nat), i ≤ l.length → l.length - i < n → zg9 l m n (i : Int) = some (decide (l.drop i = m.drop i))
 | 0, i, _, h => by omega
 | n + 1, i, hi, h => by
  show zgW _ l m (i : Int) = _
  unfold zgW
  by_cases hlt : i < l.length
  ·have hlt2 : i < m.length := by omega
   rw [zX (by omega), if_pos rfl, zbQ hlt, Option.bind_some, zbQ hlt2, Option.bind_some, List.drop_eq_getElem_cons hlt, List.drop_eq_getElem_cons hlt2]
   by_cases he : l[i] = m[i]
   ·rw [zcy (zdS.2 he), if_neg (by simp), zbt (by omega), zl9 l m hl hlm n (i + 1) (by omega) (by omega), he]
    congr 1
    rw [decide_eq_decide]
    exact ⟨fun h => by rw [h], fun h => by injection h⟩
   ·rw [zdA (fun h => he (zdS.1 h)), if_pos rfl, zO]
    intro h2
    injection h2 with h3 h4
    exact he h3
  ·rw [zO (by omega), if_neg (by simp), List.drop_of_length_le (by omega), List.drop_of_length_le (by omega), zX rfl]
theorem zmC {l m : List UInt8} (hl : l.length ≤ 1099511627776) : zfW l m = some (decide (l = m)) := by
 unfold zfW
 by_cases h : l.length = m.length
 ·rw [zcy (by omega), if_neg (by simp)]
  exact zl9 l m hl h big 0 (by omega) (zbR (by omega))
 ·rw [zdA (by omega), if_pos rfl, zO (fun e => h (by rw [e]))]
theorem F_U {l : List UInt8} {x : Int} (hl : l.length ≤ 1099511627776) (hx : -9223372036854775808 ≤ x ∧ x ≤ 9223372036854775807) : zgL l x = some (((rdU l x).1 : Int), (rdU l x).2.1, (rdU l x).2.2) := by
 unfold zgL zie
 by_cases hc : x < 0 ∨ x > l.length
 ·rw [if_pos (by simpa using hc), rdU, if_pos (by omega)]
  rfl
 ·obtain ⟨i, rfl⟩ : ∃ i : Nat, x = i := ⟨x.toNat, by omega⟩
  have hil : i ≤ l.length := by omega
  rw [if_neg (by simpa using hc), zcV hil (Nat.le_refl _), List.take_length, Option.bind_some, zmM (by simp; omega), Option.bind_some]
  generalize hX : zbc (l.drop i) = y
  generalize hN : zE (l.drop i) = n
  have hy64 : y < 18446744073709551616 := hX ▸ zeX _
  have hn := zeo (l.drop i)
  rw [hN, List.length_drop] at hn
  have hw : IntKind.i64.wrap ((i : Int) + (n : Int)) = ((i + n : Nat) : Int) := zdW (by omega)
  have hrd : rdU l i = if n = 0 ∨ z2 y ≠ (l.drop i).take n then (0, 0, 5) else (y, (i : Int) + n, 0) := by
   rw [rdU, if_neg (by omega)]
   simp only [Int.toNat_natCast, hX, hN]
  have h10 := zdX hy64
  unfold zi5
  rw [Option.bind_some, hrd]
  by_cases hn0 : n = 0
  ·rw [zd3 (by omega), if_pos rfl, Option.bind_some, if_pos rfl, if_pos (Or.inl hn0)]
   rfl
  ·rw [zeM (by omega), if_neg (by simp)]
   simp only [hw]
   rw [zcV (by omega) (by omega), Option.bind_some, zlM (by simp) hy64, Option.bind_some, zmC (by simp; omega), Option.bind_some, Option.bind_some, List.nil_append, List.drop_take, Nat.add_sub_cancel_left]
   by_cases he : z2 y = (l.drop i).take n
   ·rw [zX he, Bool.not_true, if_neg (by simp), if_neg (by simp [hn0, he]), Option.bind_some]
    simp
   ·rw [zO he, Bool.not_false, if_pos rfl, if_pos (Or.inr he)]
    rfl
theorem zqR {x n : Nat} (hn : n ≤ 10) (hx : x < 2 ^ (7 * n)) (hx2 : x < 18446744073709551616) : ∃ y, zgJ (x : Int) (n : Int) = some y ∧ (1 ≤ n → y = sgn x n) ∧ -9223372036854775808 ≤ y ∧ y ≤ 9223372036854775807 := by
 unfold zgJ
 have e1 : IntKind.i64.wrap (7 * (n : Int)) = 7 * n := zN (by omega)
 have e2 : IntKind.i64.wrap (64 - 7 * (n : Int)) = 64 - 7 * n := zN (by omega)
 have e3 : zdy 0 (64 - 7 * (n : Int)) = ((64 - 7 * n : Nat) : Int) := by unfold zdy; split <;> omega
 have e4 : ∀ (k : IntKind) (a : Int), 64 ≤ k.bits → zb6 k a ((64 - 7 * n : Nat) : Int) = some (k.wrap (a * 2 ^ (64 - 7 * n))) := fun k a hk => by
  unfold zb6 zct
  rw [if_neg (by omega), Int.toNat_natCast, Nat.min_eq_left (by omega)]
 have e5 : ∀ (k : IntKind) (a : Int), 64 ≤ k.bits → zc6 k a ((64 - 7 * n : Nat) : Int) = some (a / 2 ^ (64 - 7 * n)) := fun k a hk => by
  unfold zc6 zcj
  rw [if_neg (by omega), Int.toNat_natCast, Nat.min_eq_left (by omega), Int.fdiv_eq_ediv_of_nonneg]
  exact Int.le_of_lt (Int.pow_pos (by decide))
 rw [e1, e2, e3, e4 _ _ (by decide), Option.bind_some, e5 _ _ (by decide), Option.bind_some]
 refine ⟨_, rfl, fun h1 => zmB h1 hn hx hx2, ?_⟩
 by_cases h1 : 1 ≤ n
 ·rw [zmB h1 hn hx hx2]; exact zjR h1 hn hx hx2
 ·have : n = 0 := by omega
  subst this
  have : x = 0 := by simpa using hx
  subst this
  decide
theorem F_S {l : List UInt8} {x : Int} (hl : l.length ≤ 1099511627776) (hx : -9223372036854775808 ≤ x ∧ x ≤ 9223372036854775807) : zhG l x = some ((rdS l x).1, (rdS l x).2.1, (rdS l x).2.2) := by
 unfold zhG ziH
 by_cases hc : x < 0 ∨ x > l.length
 ·rw [if_pos (by simpa using hc), rdS, if_pos (by omega)]
  rfl
 ·obtain ⟨i, rfl⟩ : ∃ i : Nat, x = i := ⟨x.toNat, by omega⟩
  have hil : i ≤ l.length := by omega
  rw [if_neg (by simpa using hc), zcV hil (Nat.le_refl _), List.take_length, Option.bind_some, zmM (by simp; omega), Option.bind_some]
  have hxp := zj0 (l.drop i)
  generalize hX : zbc (l.drop i) = y at hxp
  generalize hN : zE (l.drop i) = n at hxp
  have hy64 : y < 18446744073709551616 := hX ▸ zeX _
  have hn := zeo (l.drop i)
  rw [hN, List.length_drop] at hn
  have hw : IntKind.i64.wrap ((i : Int) + (n : Int)) = ((i + n : Nat) : Int) := zdW (by omega)
  have hrd : rdS l i = if n = 0 ∨ zR (sgn y n) ≠ (l.drop i).take n then (0, 0, 5) else (sgn y n, (i : Int) + n, 0) := by
   rw [rdS, if_neg (by omega)]
   simp only [Int.toNat_natCast, hX, hN]
  obtain ⟨z, hz, hz2, hz3⟩ := zqR hn.1 hxp hy64
  have h10 := zdK hz3.1 hz3.2
  rw [hz, Option.bind_some, hrd]
  by_cases hn0 : n = 0
  ·rw [zd3 (by omega), if_pos rfl, Option.bind_some, if_pos rfl, if_pos (Or.inl hn0)]
   rfl
  ·rw [zeM (by omega), if_neg (by simp)]
   simp only [hw]
   rw [zcV (by omega) (by omega), Option.bind_some, zlh (by simp) hz3, Option.bind_some, zmC (by simp; omega), Option.bind_some, Option.bind_some, List.nil_append, List.drop_take, Nat.add_sub_cancel_left, ← hz2 (by omega)]
   by_cases he : zR z = (l.drop i).take n
   ·rw [zX he, Bool.not_true, if_neg (by simp), if_neg (by simp [hn0, he]), Option.bind_some]
    simp
   ·rw [zO he, Bool.not_false, if_pos rfl, if_pos (Or.inr he)]
    rfl
theorem zqA {k : IntKind} {n : Nat} (hk : 64 ≤ k.bits) (hn : n ≤ 64) : zb6 k 1 (n : Int) = some (k.wrap ((2 ^ n : Nat) : Int)) := by
 unfold zb6 zct
 rw [if_neg (by omega), Int.toNat_natCast, Nat.min_eq_left (by omega), Int.one_mul]
 simp
theorem zoF {x n : Nat} (hx : x < 18446744073709551616) (h1 : 1 ≤ n) (h10 : n ≤ 10) : zhR (x : Int) (n : Int) = some (decide ((z2 x).length ≤ n)) := by
 unfold zhR
 have f1 : IntKind.i64.wrap (7 * (n : Int)) = ((7 * n : Nat) : Int) := by rw [zN (by omega)]; omega
 rw [f1]
 by_cases hn : 7 * n ≥ 64
 ·rw [zX (by omega), if_pos rfl, Option.bind_some]
  have := zdX hx
  rw [zX (show (z2 x).length ≤ n by omega)]
 ·have f2 : IntKind.u64.wrap ((7 * n : Nat) : Int) = ((7 * n : Nat) : Int) := zdx (by omega)
  have hp : 2 ^ (7 * n) < 18446744073709551616 := Nat.lt_of_le_of_lt (Nat.pow_le_pow_right (by omega) (show 7 * n ≤ 63 by omega)) (by decide)
  have hl := zlD (n - 1) x
  rw [Nat.sub_add_cancel h1, ← zjg] at hl
  rw [zO (by omega), if_neg (by simp), f2, zqA (by decide) (by omega), zdx (by generalize 2 ^ (7 * n) = q at *; omega), Option.bind_some, Option.bind_some]
  congr 1
  rw [decide_eq_decide, hl]
  omega
theorem zpB {k : IntKind} {n : Nat} (hk : 64 ≤ k.bits) (hn : n ≤ 64) : zb6 k 1 (n : Int) = some (k.wrap ((2 ^ n : Nat) : Int)) := by
 unfold zb6 zct
 rw [if_neg (by omega), Int.toNat_natCast, Nat.min_eq_left (by omega), Int.one_mul]
 simp
theorem zpw {x : Int} {n : Nat} (hx : -9223372036854775808 ≤ x ∧ x ≤ 9223372036854775807) (h1 : 1 ≤ n) (h10 : n ≤ 10) : zgn x (n : Int) = some (decide ((zR x).length ≤ n)) := by
 unfold zgn
 have f1 : IntKind.i64.wrap (7 * (n : Int)) = ((7 * n : Nat) : Int) := by rw [zN (by omega)]; omega
 have f2 : IntKind.i64.wrap (((7 * n : Nat) : Int) - 1) = ((7 * n - 1 : Nat) : Int) := by rw [zN (by omega)]; omega
 rw [f1, f2]
 by_cases hn : 7 * n - 1 ≥ 63
 ·rw [zX (by omega), if_pos rfl]
  have := zdK hx.1 hx.2
  rw [zX (show (zR x).length ≤ n by omega)]
 ·have f3 : IntKind.u64.wrap ((7 * n - 1 : Nat) : Int) = ((7 * n - 1 : Nat) : Int) := zdx (by omega)
  have hl := zkX (n - 1) x
  rw [Nat.sub_add_cancel h1] at hl
  have hp : 2 ^ (7 * n - 1) = 64 * 128 ^ (n - 1) := by rw [← zjg, show 7 * n - 1 = 6 + 7 * (n - 1) from by omega, Nat.pow_add]
  have hp2 : 2 ^ (7 * n - 1) ≤ 4611686018427387904 := Nat.le_trans (Nat.pow_le_pow_right (by omega) (show 7 * n - 1 ≤ 62 by omega)) (by decide)
  have e : ((128 ^ (n - 1) : Nat) : Int) = 128 ^ (n - 1) := by simp
  rw [← e] at hl
  rw [zO (by omega), if_neg (by simp), f3, zpB (by decide) (by omega), Option.bind_some, hp]
  rw [hp] at hp2
  generalize 128 ^ (n - 1) = q at *
  have f5 : IntKind.i64.wrap (((64 * q : Nat)) : Int) = ((64 * q : Nat) : Int) := zN (by omega)
  have f6 : IntKind.i64.wrap (0 - ((64 * q : Nat) : Int)) = -((64 * q : Nat) : Int) := by rw [zN (by omega)]; omega
  rw [f5, f6]
  by_cases hlo : x ≥ -((64 * q : Nat) : Int)
  ·rw [zX hlo, if_pos rfl, Option.bind_some, Option.bind_some]
   congr 1
   rw [decide_eq_decide, hl]
   omega
  ·rw [zO hlo, if_neg (by simp), Option.bind_some]
   congr 1
   rw [eq_comm, decide_eq_false_iff_not, hl]
   omega
theorem zmn (neg : Bool) (n : Nat) (h1 : 1 ≤ n) (h10 : n ≤ 10) : ∀ (g i : Nat) (z : Int) (b : List UInt8), i ≤ n → n - i < g → (z < 0 ↔ neg = true) → (-9223372036854775808 ≤ z ∧ z < 18446744073709551616) → b.length ≤ 1099511627700 + i →
  zen neg (n : Int) g (z % 18446744073709551616) b (i : Int) = some (b ++ zcK z (n - i))
 | 0, i, z, b, _, h, _, _, _ => by omega
 | g + 1, i, z, b, hi, h, hz, hr, hb => by
  show zhr _ neg (n : Int) (z % 18446744073709551616) b (i : Int) = _
  unfold zhr zhA
  by_cases hlt : i < n
  ·have f1 : (z % 18446744073709551616).tmod 128 = z % 128 := by rw [Int.tmod_eq_emod_of_nonneg (by omega)]; omega
   have f2 : IntKind.u64.wrap ((z % 18446744073709551616).tdiv 128) = z % 18446744073709551616 / 128 := by rw [Int.tdiv_eq_ediv_of_nonneg (by omega), zdx (by omega)]
   have f5 : IntKind.i64.wrap ((n : Int) - 1) = n - 1 := zN (by omega)
   have f6 : IntKind.u64.wrap (z % 128 + 128) = z % 128 + 128 := zdx (by omega)
   have hnext : (if neg = true then (orI .u64 (z % 18446744073709551616 / 128) 18302628885633695744) else z % 18446744073709551616 / 128) = (z / 128) % 18446744073709551616 := by
    cases neg
    ·rw [if_neg (by simp)]
     have : ¬ z < 0 := fun h => by have := hz.1 h; cases this
     omega
    ·rw [if_pos rfl]
     have hneg := hz.2 rfl
     obtain ⟨m, hm⟩ : ∃ m : Nat, z % 18446744073709551616 / 128 = m := ⟨(z % 18446744073709551616 / 128).toNat, by omega⟩
     rw [hm]
     have := zl4 (a := m) (b := 18302628885633695744) (k := 57) (by omega) (by decide) (by omega)
     refine Eq.trans this ?_
     omega
   have ih := zmn neg n h1 h10 g (i + 1) (z / 128)
   have hs : z / 128 < 0 ↔ neg = true := by rw [← hz]; omega
   rw [zX (by omega), if_pos rfl]
   have key : ∀ X : Int, X = (z / 128) % 18446744073709551616 → (if decide ((i : Int) < IntKind.i64.wrap ((n : Int) - 1)) = true then (u8o (IntKind.u8.wrap (IntKind.u64.wrap (Int.tmod (z % 18446744073709551616) 128 + 128)))).bind fun z76 => (room (b.length + 1)).bind fun _ => zen neg (n : Int) g X (b ++ [z76]) (IntKind.i64.wrap ((i : Int) + 1)) else (u8o (IntKind.u8.wrap (Int.tmod (z % 18446744073709551616) 128))).bind fun z81 => (room (b.length + 1)).bind fun _ => zen neg (n : Int) g X (b ++ [z81]) (IntKind.i64.wrap ((i : Int) + 1))) = some (b ++ zcK z (n - i)) := by
    rintro X rfl
    rw [f1, f5, f6, zbt (by omega)]
    by_cases hl : i + 1 < n
    ·rw [zX (by omega), if_pos rfl, zd7, Option.bind_some, zbi (by omega), Option.bind_some, ih _ (by omega) (by omega) hs (by omega) (by simp; omega), show n - i = (n - i - 2) + 2 from by omega, zcK, show n - (i + 1) = (n - i - 2) + 1 from by omega, show ((z % 128 + 128) % 256).toNat = (z % 128).toNat + 128 from by omega]
     simp
    ·rw [zO (by omega), if_neg (by simp), zd7, Option.bind_some, zbi (by omega), Option.bind_some, ih _ (by omega) (by omega) hs (by omega) (by simp; omega), show n - i = 1 from by omega, zcK, show n - (i + 1) = 0 from by omega, zcK, show (z % 128 % 256).toNat = (z % 128).toNat from by omega]
     simp
   cases neg
   ·rw [if_neg (by simp)]
    exact key _ (by rw [f2]; simpa using hnext)
   ·rw [if_pos rfl]
    exact key _ (by rw [f2]; simpa using hnext)
  ·rw [zO (by omega), if_neg (by simp), show n - i = 0 from by omega, zcK, List.append_nil]
theorem zlr {l : List UInt8} {y : Int} {n : Nat} (hl : l.length ≤ 1099511627000) (hy : -9223372036854775808 ≤ y ∧ y < 18446744073709551616) (h1 : 1 ≤ n) (h10 : n ≤ 10) : zgi l (y % 18446744073709551616) (decide (y < 0)) (n : Int) = some (l ++ zcK y n) := by
 unfold zgi
 rw [zob hl, Option.bind_some]
 exact zmn (decide (y < 0)) n h1 h10 big 0 y l (by omega) (zbR (by omega)) (by simp) hy (by omega)
theorem znz {l : List UInt8} {x : Nat} (hl : l.length ≤ 1099511627000) (hx : x < 18446744073709551616) : ∀ (g k : Nat), 1 ≤ k → k ≤ (z2 x).length → (z2 x).length - k < g → zhY l (x : Int) g (k : Int) = some (l ++ z2 x)
 | 0, k, _, _, h => by omega
 | g + 1, k, hk, hk2, h => by
  have h10 := zdX hx
  show zgu _ l (x : Int) (k : Int) = _
  unfold zgu
  rw [zoF hx hk (by omega), Option.bind_some]
  by_cases hf : (z2 x).length ≤ k
  ·have hkl : k = (z2 x).length := by omega
   have := zlr (l := l) (y := (x : Int)) (n := k) hl (by omega) hk (by omega)
   rw [show (x : Int) % 18446744073709551616 = x from by omega, zO (show ¬ (x : Int) < 0 by omega), zmi k x hkl.symm] at this
   rw [zX hf, Bool.not_true, if_neg (by simp), this]
   rfl
  ·rw [zO hf, Bool.not_false, if_pos rfl, zbt (by omega)]
   exact znz hl hx g (k + 1) (by omega) (by omega) (by omega)
theorem zmo {l : List UInt8} {x : Nat} (hl : l.length ≤ 1099511627000) (hx : x < 18446744073709551616) : zfS l (x : Int) = some (l ++ z2 x) := by
 have h10 := zdX hx
 exact znz hl hx big 1 (by omega) (zfk x) (by unfold big; omega)
theorem znn {l : List UInt8} {x : Int} (hl : l.length ≤ 1099511627000) (hx : -9223372036854775808 ≤ x ∧ x ≤ 9223372036854775807) : ∀ (g k : Nat), 1 ≤ k → k ≤ (zR x).length → (zR x).length - k < g → zhh l x g (k : Int) = some (l ++ zR x)
 | 0, k, _, _, h => by omega
 | g + 1, k, hk, hk2, h => by
  have h10 := zdK hx.1 hx.2
  show zhn _ l x (k : Int) = _
  unfold zhn
  rw [zpw hx hk (by omega), Option.bind_some]
  by_cases hf : (zR x).length ≤ k
  ·have hkl : k = (zR x).length := by omega
   have := zlr (l := l) (y := x) (n := k) hl (by omega) hk (by omega)
   rw [zlo k x hkl.symm] at this
   rw [zX hf, Bool.not_true, if_neg (by simp), zeK, this]
   rfl
  ·rw [zO hf, Bool.not_false, if_pos rfl, zbt (by omega)]
   exact znn hl hx g (k + 1) (by omega) (by omega) (by omega)
theorem zkF {l : List UInt8} {x : Int} (hl : l.length ≤ 1099511627000) (hx : -9223372036854775808 ≤ x ∧ x ≤ 9223372036854775807) : zfi l x = some (l ++ zR x) := by
 have h10 := zdK hx.1 hx.2
 exact znn hl hx big 1 (by omega) (zfj x) (by unfold big; omega)
theorem zmT (l m : List UInt8) (i0 : Nat) (hl : l.length ≤ 1099511627776) (hm : i0 + m.length ≤ l.length) : ∀ (n i : Nat), i ≤ m.length → m.length - i < n → zh6 l (i0 : Int) m n (i : Int) = some (decide (m.drop i = ((l.drop i0).take m.length).drop i))
 | 0, i, _, h => by omega
 | n + 1, i, hi, h => by
  show zhs _ l (i0 : Int) m (i : Int) = _
  unfold zhs
  by_cases hlt : i < m.length
  ·have hi2 : i < ((l.drop i0).take m.length).length := by simp only [List.length_take, List.length_drop]; omega
   have hel : ((l.drop i0).take m.length)[i] = l[i0 + i] := by simp
   rw [zX (by omega), if_pos rfl, zdW (by omega), zbQ (show i0 + i < l.length by omega), Option.bind_some, zbQ hlt, Option.bind_some, List.drop_eq_getElem_cons hlt, List.drop_eq_getElem_cons hi2, hel]
   by_cases he : m[i] = l[i0 + i]
   ·rw [zcy (zdS.2 he.symm), if_neg (by simp), zbt (by omega), zmT l m i0 hl hm n (i + 1) (by omega) (by omega), he]
    congr 1
    rw [decide_eq_decide]
    exact ⟨fun h => by rw [h], fun h => by injection h⟩
   ·rw [zdA (fun h => he (zdS.1 h).symm), if_pos rfl, zO]
    intro h2
    injection h2 with h3 h4
    exact he h3
  ·rw [zO (by omega), if_neg (by simp), List.drop_of_length_le (by omega), List.drop_of_length_le (by simp only [List.length_take, List.length_drop]; omega), zX rfl]
theorem zlU {l m : List UInt8} {i0 : Nat} (hl : l.length ≤ 1099511627776) (hi : i0 ≤ l.length) (hm : m.length ≤ 1099511627776) : zfB l (i0 : Int) m = some (decide (m = (l.drop i0).take m.length)) := by
 unfold zfB
 have f1 : IntKind.i64.wrap ((l.length : Int) - i0) = (l.length : Int) - i0 := zN (by omega)
 rw [f1]
 by_cases hb : (m.length : Int) > (l.length : Int) - i0
 ·rw [zX hb, if_pos rfl, zO (fun h => by have := congrArg List.length h; simp only [List.length_take, List.length_drop] at this; omega)]
 ·rw [zO hb, if_neg (by simp)]
  have := zmT l m i0 hl (by omega) big 0 (by omega) (zbR (by omega))
  rw [List.drop_zero, List.drop_zero] at this
  exact this
theorem znC (l : List UInt8) (i0 : Nat) (hl : l.length ≤ 1099511627776) (hi0 : i0 ≤ l.length) : ∀ (n i : Nat), i ≤ 10 → 10 - i < n → (dig 10 (l.drop i0)).map (·.2) = (dig (10 - i) (l.drop (i0 + i))).map (·.2 + i) → zh3 l (i0 : Int) n (i : Int) = some (zE (l.drop i0) : Int)
 | 0, i, _, h, _ => by omega
 | n + 1, i, hi, h, hd => by
  show zhj _ l (i0 : Int) (i : Int) = _
  unfold zhj
  have hN : zE (l.drop i0) = ((dig 10 (l.drop i0)).map (·.2)).getD 0 := by unfold zE; split <;> simp [*]
  rw [zdW (by omega)]
  by_cases hlt : i < 10 ∧ i0 + i < l.length
  ·rw [zX (by omega), zX (by omega), Bool.and_self, if_pos rfl, zbQ hlt.2, Option.bind_some, zbt (by omega)]
   rw [show 10 - i = (9 - i) + 1 from by omega, zno hlt.2] at hd
   by_cases hb : l[i0 + i].toNat < 128
   ·rw [if_pos hb] at hd
    rw [zX (by omega), if_pos rfl, hN, hd]
    simp [Nat.add_comm]
   ·rw [if_neg hb] at hd
    rw [zO (by omega), if_neg (by simp)]
    refine znC l i0 hl hi0 n (i + 1) (by omega) (by omega) ?_
    rw [hd, show 10 - (i + 1) = 9 - i from by omega, ← Nat.add_assoc, Option.map_map]
    congr 1
    funext p
    show p.2 + 1 + i = p.2 + (i + 1)
    omega
  ·rw [if_neg (by simp only [Bool.and_eq_true, decide_eq_true_eq]; omega), hN, hd]
   by_cases h10 : i < 10
   ·rw [List.drop_eq_nil_of_le (by omega), znH]; rfl
   ·rw [show 10 - i = 0 from by omega]; rfl
theorem zmw {l : List UInt8} {i0 : Nat} (hl : l.length ≤ 1099511627776) (hi : i0 ≤ l.length) : zgH l (i0 : Int) = some (zE (l.drop i0) : Int) :=
 znC l i0 hl hi big 0 (by omega) (zbR (by omega)) (by simp)
theorem zmf (l : List UInt8) (i0 m : Nat) (hl : l.length ≤ 1099511627776) (hi0 : i0 + m ≤ l.length) : ∀ (n j Y : Nat), j ≤ m → j < n → Y = zc9 (m - j) (l.drop (i0 + j)) % 18446744073709551616 → zgX l (i0 : Int) n (Y : Int) ((j : Int) - 1) = some ((zc9 m (l.drop i0) % 18446744073709551616 : Nat) : Int)
 | 0, j, Y, _, h, _ => by omega
 | n + 1, j, Y, hj, h, hY => by
  show zib _ l (i0 : Int) (Y : Int) ((j : Int) - 1) = _
  unfold zib
  by_cases hlt : 1 ≤ j
  ·have hil : i0 + (j - 1) < l.length := by omega
   have f2 : IntKind.i64.wrap ((i0 : Int) + (j - 1)) = ((i0 + (j - 1) : Nat) : Int) := by rw [zN (by omega)]; omega
   have hb := UInt8.lt l[i0 + (j - 1)]
   have hs := zpS (n := m - j) hil
   rw [show m - j + 1 = m - (j - 1) from by omega, show i0 + (j - 1) + 1 = i0 + j from by omega] at hs
   rw [zX (by omega), if_pos rfl, f2, zbQ hil, Option.bind_some]
   generalize hB : l[i0 + (j - 1)].toNat = B at hb hs
   have f3 : (B : Int).tmod 128 = ((B % 128 : Nat) : Int) := by rw [Int.tmod_eq_emod_of_nonneg (by omega)]; rfl
   have f4 : IntKind.u64.wrap ((B % 128 : Nat) : Int) = ((B % 128 : Nat) : Int) := zdx (by omega)
   have f5 : IntKind.u64.wrap (128 * (Y : Int)) = ((128 * Y % 18446744073709551616 : Nat) : Int) := by rw [zeK]; omega
   have f6 : IntKind.u64.wrap (((128 * Y % 18446744073709551616 : Nat) : Int) + ((B % 128 : Nat) : Int)) = (((128 * Y % 18446744073709551616 + B % 128) % 18446744073709551616 : Nat) : Int) := by rw [zeK]; omega
   have f7 : IntKind.i64.wrap ((j : Int) - 1 - 1) = ((j - 1 : Nat) : Int) - 1 := by rw [zN (by omega)]; omega
   rw [f3, f4, f5, f6, f7]
   refine zmf l i0 m hl hi0 n (j - 1) _ (by omega) (by omega) ?_
   rw [hs, hY]
   omega
  ·rw [zO (by omega), if_neg (by simp), hY, show j = 0 from by omega, Nat.sub_zero, Nat.add_zero]
theorem zmG {l : List UInt8} {i0 m : Nat} (hl : l.length ≤ 1099511627776) (hm : m ≤ 100) (hi : i0 + m ≤ l.length) : zgg l (i0 : Int) (m : Int) = some ((zc9 m (l.drop i0) % 18446744073709551616 : Nat) : Int) := by
 unfold zgg
 rw [zN (by omega)]
 exact zmf l i0 m hl hi big m 0 (by omega) (zbR (by omega)) (by simp [zc9])
theorem zrm {l : List UInt8} {x : Int} (hl : l.length ≤ 1099511627776) (hx : -9223372036854775808 ≤ x ∧ x ≤ 9223372036854775807) : zgd l x = some (((rdU l x).1 : Int), (rdU l x).2.1, (rdU l x).2.2) := by
 unfold zgd
 by_cases hc : x < 0 ∨ x > l.length
 ·rw [if_pos (by simpa using hc), rdU, if_pos (by omega)]
  rfl
 ·obtain ⟨i, rfl⟩ : ∃ i : Nat, x = i := ⟨x.toNat, by omega⟩
  have hil : i ≤ l.length := by omega
  have hn := zeo (l.drop i)
  rw [List.length_drop] at hn
  have hX := zeX (l.drop i)
  have h10 := zdX hX
  have hpre := zsD (l.drop i)
  have hrd : rdU l (i : Int) = if zE (l.drop i) = 0 ∨ z2 (zbc (l.drop i)) ≠ (l.drop i).take (zE (l.drop i)) then (0, 0, 5) else (zbc (l.drop i), (i : Int) + (zE (l.drop i) : Nat), 0) := by
   rw [rdU, if_neg (by omega)]
   try rfl
  rw [hrd, if_neg (by simpa using hc), zmw hl hil, Option.bind_some, zmG hl (by omega) (by omega), zmP, Option.bind_some]
  by_cases hn0 : zE (l.drop i) = 0
  ·rw [zd3 (by omega), if_pos rfl, Option.bind_some, if_pos rfl, if_pos (Or.inl hn0)]
   rfl
  ·rw [zeM (by omega), if_neg (by simp), zmo (by simp) hX, Option.bind_some, List.nil_append, zlU hl hil (by omega), Option.bind_some, Option.bind_some]
   by_cases he : z2 (zbc (l.drop i)) = (l.drop i).take (zE (l.drop i))
   ·rw [zX ((hpre hn0).2 he), Bool.not_true, if_neg (by simp), if_neg (by simp [hn0, he]), zdW (by omega)]
    simp
   ·rw [zO (fun h => he ((hpre hn0).1 h)), Bool.not_false, if_pos rfl, if_pos (Or.inr he)]
    rfl
theorem zpx {l : List UInt8} {x : Int} (hl : l.length ≤ 1099511627776) (hx : -9223372036854775808 ≤ x ∧ x ≤ 9223372036854775807) : zf4 l x = some ((rdS l x).1, (rdS l x).2.1, (rdS l x).2.2) := by
 unfold zf4
 by_cases hc : x < 0 ∨ x > l.length
 ·rw [if_pos (by simpa using hc), rdS, if_pos (by omega)]
 ·obtain ⟨i, rfl⟩ : ∃ i : Nat, x = i := ⟨x.toNat, by omega⟩
  have hil : i ≤ l.length := by omega
  have hn := zeo (l.drop i)
  rw [List.length_drop] at hn
  have hX := zeX (l.drop i)
  have hXp := zj0 (l.drop i)
  have hrd : rdS l (i : Int) = if zE (l.drop i) = 0 ∨ zR (sgn (zbc (l.drop i)) (zE (l.drop i))) ≠ (l.drop i).take (zE (l.drop i)) then ((0 : Int), (0 : Int), (5 : Int)) else (sgn (zbc (l.drop i)) (zE (l.drop i)), (i : Int) + (zE (l.drop i) : Nat), 0) := by
   rw [rdS, if_neg (by omega)]
   try rfl
  rw [hrd, if_neg (by simpa using hc), zmw hl hil, Option.bind_some]
  by_cases hn0 : zE (l.drop i) = 0
  ·rw [zd3 (by omega), if_pos rfl, if_pos (Or.inl hn0)]
  ·obtain ⟨w, hw, hw2⟩ := zn3 (l.drop i) (by omega)
   have hb := zjR (x := zbc (l.drop i)) (n := zE (l.drop i)) (by omega) (by omega) hXp hX
   have h10 := zdK hb.1 hb.2
   have hpre := zoq (l.drop i) hb
   have fin : ∀ c : Int, IntKind.i64.wrap c = sgn (zbc (l.drop i)) (zE (l.drop i)) → zfw l (i : Int) ((zE (l.drop i) : Nat) : Int) c = some ((if zE (l.drop i) = 0 ∨ zR (sgn (zbc (l.drop i)) (zE (l.drop i))) ≠ (l.drop i).take (zE (l.drop i)) then ((0 : Int), (0 : Int), (5 : Int)) else (sgn (zbc (l.drop i)) (zE (l.drop i)), (i : Int) + (zE (l.drop i) : Nat), 0))) := by
    intro c hc
    unfold zfw
    rw [hc, zkF (by simp) hb, Option.bind_some, List.nil_append, zlU hl hil (by omega), Option.bind_some]
    by_cases he : zR (sgn (zbc (l.drop i)) (zE (l.drop i))) = (l.drop i).take (zE (l.drop i))
    ·rw [zX (hpre.2 he), Bool.not_true, if_neg (by simp), if_neg (by simp [hn0, he]), zdW (by omega)]
     simp
    ·rw [zO (fun h => he (hpre.1 h)), Bool.not_false, if_pos rfl, if_pos (Or.inr he)]
   have hidx : IntKind.i64.wrap (IntKind.i64.wrap ((i : Int) + ((zE (l.drop i) : Nat) : Int)) - 1) = ((i + zE (l.drop i) - 1 : Nat) : Int) := by rw [zdW (by omega), zN (by omega)]; omega
   have hget : zz l ((i + zE (l.drop i) - 1 : Nat) : Int) = some w := by
    rw [zh1, ← hw, List.getElem?_drop]
    congr 1
    omega
   rw [zeM (by omega), if_neg (by simp), zmG hl (by omega) (by omega), zmP, Option.bind_some, hidx, hget, Option.bind_some]
   by_cases hc10 : w.toNat ≥ 64 ∧ zE (l.drop i) < 10
   ·have h7 : IntKind.i64.wrap (7 * ((zE (l.drop i) : Nat) : Int)) = ((7 * zE (l.drop i) : Nat) : Int) := by rw [zN (by omega)]; omega
    have h7u : IntKind.u64.wrap ((7 * zE (l.drop i) : Nat) : Int) = ((7 * zE (l.drop i) : Nat) : Int) := zdx (by omega)
    have hp2 : 2 ^ (7 * zE (l.drop i)) ≤ 2 ^ 63 := Nat.pow_le_pow_right (by omega) (by omega)
    rw [zX (by omega), zX (by omega), Bool.and_self, if_pos rfl, h7, h7u]
    have hsh : zb6 .u64 1 ((7 * zE (l.drop i) : Nat) : Int) = some ((2 ^ (7 * zE (l.drop i)) : Nat) : Int) := by
     unfold zb6 zct
     rw [if_neg (by omega), Int.toNat_natCast, Nat.min_eq_left (show 7 * zE (l.drop i) ≤ IntKind.u64.bits by show _ ≤ 64; omega), Int.one_mul]
     have e : ((2 ^ (7 * zE (l.drop i)) : Nat) : Int) = 2 ^ (7 * zE (l.drop i)) := by simp
     rw [← e, zdx (by generalize 2 ^ (7 * zE (l.drop i)) = q at *; omega)]
    rw [hsh, Option.bind_some]
    refine Eq.trans (fin _ ?_) ?_
    ·have hge := (hw2 hc10.2).1 hc10.1
     rw [wiu]
     unfold sgn
     rw [if_pos hc10.2, if_neg (by omega)]
     have e : ((2 ^ (7 * zE (l.drop i)) : Nat) : Int) = 2 ^ (7 * zE (l.drop i)) := by simp
     rw [← e]
     generalize 2 ^ (7 * zE (l.drop i)) = q at *
     rw [zN (by omega)]
    ·split <;> rfl
   ·rw [if_neg (by simp only [Bool.and_eq_true, decide_eq_true_eq]; omega)]
    refine Eq.trans (fin _ ?_) ?_
    ·unfold sgn
     by_cases h9 : zE (l.drop i) < 10
     ·rw [if_pos h9]
      have : ¬ 2 ^ (7 * zE (l.drop i) - 1) ≤ zbc (l.drop i) := fun h => hc10 ⟨(hw2 h9).2 h, h9⟩
      rw [if_pos (by omega)]
      have hp2 : 2 ^ (7 * zE (l.drop i) - 1) ≤ 2 ^ 62 := Nat.pow_le_pow_right (by omega) (by omega)
      generalize 2 ^ (7 * zE (l.drop i) - 1) = q at *
      rw [zN (by omega)]
     ·rw [if_neg h9]
    ·split <;> rfl
end Go.Proofs.YtgkllgoelpfdkaaGreat
