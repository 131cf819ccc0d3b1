import Derived.Test.YtgkllgoelpfdkaaGreatPL
namespace Go.Proofs.YtgkllgoelpfdkaaGreat
open Go.Ab Go.RowKit
set_option linter.unusedVariables false
set_option linter.unusedSimpArgs false
theorem zkX (l : List UInt8) (hl : l.length ≤ 1099511627000) : ∀ (n i : Nat) (acc : List UInt8), i ≤ l.length → l.length - i < n → acc.length ≤ i → zeh l n acc (i : Int) = some (acc ++ l.drop i)
 | 0, i, _, _, h, _ => by omega
 | n + 1, i, acc, hi, h, ha => by
  show zdS _ l acc (i : Int) = _
  unfold zdS
  by_cases hlt : i < l.length
  ·rw [z0 (by omega), if_pos rfl, zb8 hlt, Option.bind_some]
   have ih := zkX l hl n (i + 1) (acc ++ [l[i]]) (by omega) (by omega) (by simp; omega)
   rw [List.append_assoc, List.singleton_append, ← List.drop_eq_getElem_cons hlt] at ih
   rw [z5 (by simp; omega), Option.bind_some, zbt (by omega)]; exact ih
  ·rw [zR (by omega), if_neg (by simp), List.drop_of_length_le (by omega), List.append_nil]
theorem zlU {l : List UInt8} (hl : l.length ≤ 1099511627000) : zd9 l = some l := by
 have := zkX l hl big 0 [] (by omega) (zbV (by omega)) (by simp)
 exact this
theorem zlE (y : Int) : orI .u8 (IntKind.u8.wrap y) 128 = y % 128 + 128 := by
 have h : orI .u8 (IntKind.u8.wrap y) 128 = (IntKind.u8.wrap y) % 128 + 128 := zoD (IntKind.u8.wrap y)
 have e := zdX y
 omega
theorem zpG (y : Int) : zca .u8 (IntKind.u8.wrap y) 127 = y % 128 := by
 have h : zca .u8 (IntKind.u8.wrap y) 127 = (IntKind.u8.wrap y) % 128 := zjQ (IntKind.u8.wrap y)
 have e := zdX y
 omega
theorem zlg (k : IntKind) (hk : 7 ≤ k.bits) (y : Int) : zbL k y 7 = y / 128 := by
 unfold zbL
 rw [show min (7 : Int).toNat k.bits = 7 from by simp; omega, Int.fdiv_eq_ediv_of_nonneg _ (by decide)]
 rfl
theorem zlJ : ∀ (n x : Nat) (b : List UInt8), x < 18446744073709551616 → (zW x).length ≤ n → b.length + (zW x).length ≤ 1099511627776 → zgs n (x : Int) b = some (b ++ zW x)
 | 0, x, _, _, h, _ => by have := zd0 x; omega
 | n + 1, x, b, hx, h, hb => by
  show zfs _ (x : Int) b = _
  unfold zfs
  by_cases hbig : x > 127
  ·rw [zcU hbig] at h hb ⊢
   simp only [List.length_cons] at h hb
   rw [z0 (by omega), if_pos rfl, zlE, ziz (k := x % 128 + 128) (by omega) (by omega), Option.bind_some, z5 (by omega), Option.bind_some, zlg _ (by decide), show (x : Int) / 128 = ((x / 128 : Nat) : Int) from by omega, zlJ n (x / 128) _ (by omega) (by omega) (by simp; omega)]
   simp
  ·rw [zcT hbig] at hb ⊢
   simp only [List.length_cons, List.length_nil] at hb
   rw [zR (by omega), if_neg (by simp), zdb, Option.bind_some, z5 (by omega), Option.bind_some, show ((x : Int) % 256).toNat = x from by omega]
theorem zku {l : List UInt8} {x : Nat} (hl : l.length ≤ 1099511627000) (hx : x < 18446744073709551616) : zeK l (x : Int) = some (l ++ zW x) := by
 unfold zeK zcq
 have h10 := zdW hx
 rw [z5 (by omega), Option.bind_some, Option.bind_some, zlJ big x l hx (by unfold big; omega) (by omega)]
theorem zjJ : ∀ (n : Nat) (x : Int) (b : List UInt8), (zL x).length ≤ n → b.length + (zL x).length ≤ 1099511627776 → zgx n x b = some (b ++ zL x)
 | 0, x, _, h, _ => by have := zdN x; omega
 | n + 1, x, b, h, hb => by
  show zfG _ x b = _
  unfold zfG
  by_cases hbig : x > 63 ∨ x < -64
  ·rw [zcV hbig] at h hb ⊢
   simp only [List.length_cons] at h hb
   rw [if_pos (by simpa using hbig), zlE, ziz (k := (x % 128).toNat + 128) (by omega) (by omega), Option.bind_some, z5 (by omega), Option.bind_some, zlg _ (by decide), zjJ n (x / 128) _ (by omega) (by simp; omega)]
   simp
  ·rw [zcS hbig] at hb ⊢
   simp only [List.length_cons, List.length_nil] at hb
   rw [if_neg (by simpa using hbig), zpG, ziz (k := (x % 128).toNat) (by omega) (by omega), Option.bind_some, z5 (by omega), Option.bind_some]
theorem zii {l : List UInt8} {x : Int} (hl : l.length ≤ 1099511627000) (hx : -9223372036854775808 ≤ x ∧ x ≤ 9223372036854775807) : zec l x = some (l ++ zL x) := by
 unfold zec zcq
 have h10 := zd3 hx.1 hx.2
 rw [z5 (by omega), Option.bind_some, Option.bind_some, zjJ big x l (by unfold big; omega) (by omega)]
theorem zpZ {b i : Nat} (hi : i < 10) : zbY .u64 (IntKind.u64.wrap ((b : Int) % 128)) (IntKind.i64.wrap (7 * (i : Int))) = some ((b % 128 * 2 ^ (7 * i) % 18446744073709551616 : Nat) : Int) := by
 have h := zpk (b := b) hi
 have e : IntKind.i64.wrap (7 * (i : Int)) = ((7 * i : Nat) : Int) := by rw [zV (by omega)]; omega
 rw [e] at h ⊢
 rw [zmu (k := .u64) _ (7 * i) (show _ ≤ 64 by omega)] at h
 injection h with h
 injection h with _ h
 unfold zbY zbU
 rw [if_neg (by omega)]
 congr 1
 rw [show min ((7 * i : Nat) : Int).toNat IntKind.u64.bits = 7 * i from by rw [Int.toNat_natCast]; exact Nat.min_eq_left (show 7 * i ≤ 64 by omega)]
 exact h
theorem zj8 (l : List UInt8) (hl : l.length ≤ 1099511627776) : ∀ (n i s : Nat), i ≤ min l.length 10 → 10 - i < n → s < 2 ^ (7 * i) → s < 18446744073709551616 → dig 10 l = (dig (10 - i) (l.drop i)).map (fun p => (s + 2 ^ (7 * i) * p.1, p.2 + i)) → zgi l n (s : Int) (i : Int) = some ((zbv l : Int), (zbc l : Int))
 | 0, i, s, hi, h, _, _, _ => by omega
 | n + 1, i, s, hi, h, hs, hs64, hd => by
  show zfp _ l (s : Int) (i : Int) = _
  unfold zfp
  have hm : zbF (l.length : Int) 10 = ((min l.length 10 : Nat) : Int) := by unfold zbF; split <;> omega
  rw [hm]
  by_cases hlt : i < min l.length 10
  ·have hil : i < l.length := by omega
   rw [show 10 - i = (9 - i) + 1 from by omega, zpl hil] at hd
   have ha : zca .u8 (l[i].toNat : Int) 127 = (l[i].toNat : Int) % 128 := zjQ _
   have ho : orI .u64 (s : Int) ((l[i].toNat % 128 * 2 ^ (7 * i) % 18446744073709551616 : Nat) : Int) = _ := or7 (b := l[i].toNat) (show i < 10 by omega) hs hs64
   rw [z0 (by omega), if_pos rfl, zb8 hil, Option.bind_some, ha, zpZ (show i < 10 by omega), Option.bind_some, Option.bind_some, ho, zbt (by omega)]
   by_cases hb : l[i].toNat < 128
   ·rw [if_pos hb] at hd
    rw [z0 (by omega), if_pos rfl]
    have hX : zbv l = (s + l[i].toNat % 128 * 2 ^ (7 * i)) % 18446744073709551616 := by
     rw [zbv, hd]
     show (s + 2 ^ (7 * i) * l[i].toNat) % _ = _
     rw [Nat.mod_eq_of_lt (show l[i].toNat < 128 by omega), Nat.mul_comm]
    have hN : zbc l = 1 + i := by rw [zbc, hd]; rfl
    rw [hX, hN, Nat.add_comm 1 i]
   ·rw [if_neg hb] at hd
    rw [zR (by omega), if_neg (by simp)]
    have e7 : 2 ^ (7 * (i + 1)) = 2 ^ (7 * i) * 128 := by rw [Nat.mul_add, Nat.pow_add]
    have hm := Nat.mul_le_mul_right (2 ^ (7 * i)) (show l[i].toNat % 128 ≤ 127 by omega)
    have hlt7 : s + l[i].toNat % 128 * 2 ^ (7 * i) < 2 ^ (7 * (i + 1)) := by omega
    refine zj8 l hl n (i + 1) _ (by omega) (by omega) (Nat.lt_of_le_of_lt (Nat.mod_le _ _) hlt7) (Nat.mod_lt _ (by omega)) ?_
    rw [hd, show 9 - i = 10 - (i + 1) from by omega]
    by_cases h9 : i = 9
    ·subst h9; rfl
    ·have hp : 2 ^ (7 * (i + 1)) ≤ 2 ^ 63 := Nat.pow_le_pow_right (by omega) (by omega)
     rw [Nat.mod_eq_of_lt (show s + l[i].toNat % 128 * 2 ^ (7 * i) < 18446744073709551616 by omega), Option.map_map]
     congr 1
     funext p
     show (s + 2 ^ (7 * i) * (l[i].toNat % 128 + 128 * p.1), p.2 + 1 + i) = (_, _)
     rw [e7, Nat.mul_add, Nat.mul_comm (2 ^ (7 * i)) (l[i].toNat % 128), Nat.mul_assoc, Nat.add_assoc, Nat.add_assoc, Nat.add_comm 1 i]
  ·have hz : dig (10 - i) (l.drop i) = none := by
    by_cases h10 : l.length < 10
    ·rw [List.drop_eq_nil_of_le (by omega), zmK]
    ·rw [show 10 - i = 0 from by omega]; rfl
   rw [hz] at hd
   rw [zR (by omega), if_neg (by simp), zbv, zbc, hd]
   rfl
theorem zki {l : List UInt8} (hl : l.length ≤ 1099511627776) : zfx l = some ((zbv l : Int), (zbc l : Int)) := by
 refine zj8 l hl big 0 0 (by omega) (zbV (by omega)) (by decide) (by omega) ?_
 simp
theorem zlH (l m : List UInt8) (hl : l.length ≤ 1099511627776) (hlm : l.length = m.length) : ∀ (n i : Nat), i ≤ l.length → l.length - i < n → zgC l m n (i : Int) = some (decide (l.drop i = m.drop i))
 | 0, i, _, h => by omega
 | n + 1, i, hi, h => by
  show zgv _ l m (i : Int) = _
  unfold zgv
  by_cases hlt : i < l.length
  ·have hlt2 : i < m.length := by omega
   rw [z0 (by omega), if_pos rfl, zb8 hlt, Option.bind_some, zb8 hlt2, Option.bind_some, List.drop_eq_getElem_cons hlt, List.drop_eq_getElem_cons hlt2]
   by_cases he : l[i] = m[i]
   ·rw [zhD (zfS.2 he), if_neg (by simp), zbt (by omega), zlH l m hl hlm n (i + 1) (by omega) (by omega), he]
    congr 1
    rw [decide_eq_decide]
    exact ⟨fun h => by rw [h], fun h => by injection h⟩
   ·rw [zgV (fun h => he (zfS.1 h)), if_pos rfl, zR]
    intro h2
    injection h2 with h3 h4
    exact he h3
  ·rw [zR (by omega), if_neg (by simp), List.drop_of_length_le (by omega), List.drop_of_length_le (by omega), z0 rfl]
theorem zke {l m : List UInt8} (hl : l.length ≤ 1099511627776) : zd5 l m = some (decide (l = m)) := by
 unfold zd5
 by_cases h : l.length = m.length
 ·rw [zhD (by omega), if_neg (by simp)]
  exact zlH l m hl h big 0 (by omega) (zbV (by omega))
 ·rw [zgV (by omega), if_pos rfl, zR (fun e => h (by rw [e]))]
theorem F_U {l : List UInt8} {x : Int} (hl : l.length ≤ 1099511627776) (hx : -9223372036854775808 ≤ x ∧ x ≤ 9223372036854775807) : zgy l x = some (((rdU l x).1 : Int), (rdU l x).2.1, (rdU l x).2.2) := by
 unfold zgy zhL
 by_cases hc : x < 0 ∨ x > l.length
 ·rw [if_pos (by simpa using hc), rdU, if_pos (by omega)]
  rfl
 ·obtain ⟨i, rfl⟩ : ∃ i : Nat, x = i := ⟨x.toNat, by omega⟩
  have hil : i ≤ l.length := by omega
  rw [if_neg (by simpa using hc), zcE hil (Nat.le_refl _), List.take_length, Option.bind_some, zki (by simp; omega), Option.bind_some]
  generalize hX : zbv (l.drop i) = y
  generalize hN : zbc (l.drop i) = n
  have hy64 : y < 18446744073709551616 := hX ▸ zg2 _
  have hn := zgO (l.drop i)
  rw [hN, List.length_drop] at hn
  have hw : IntKind.i64.wrap ((i : Int) + (n : Int)) = ((i + n : Nat) : Int) := zho (by omega)
  have hrd : rdU l i = if n = 0 ∨ zW y ≠ (l.drop i).take n then (0, 0, 5) else (y, (i : Int) + n, 0) := by
   rw [rdU, if_neg (by omega)]
   simp only [Int.toNat_natCast, hX, hN]
  have h10 := zdW hy64
  unfold zhu
  rw [Option.bind_some, hrd]
  by_cases hn0 : n = 0
  ·rw [zdt (by omega), if_pos rfl, Option.bind_some, if_pos rfl, if_pos (Or.inl hn0)]
   rfl
  ·rw [zhI (by omega), if_neg (by simp)]
   simp only [hw]
   rw [zcE (by omega) (by omega), Option.bind_some, zku (by simp) hy64, Option.bind_some, zke (by simp; omega), Option.bind_some, Option.bind_some, List.nil_append, List.drop_take, Nat.add_sub_cancel_left]
   by_cases he : zW y = (l.drop i).take n
   ·rw [z0 he, Bool.not_true, if_neg (by simp), if_neg (by simp [hn0, he]), Option.bind_some]
    simp
   ·rw [zR he, Bool.not_false, if_pos rfl, if_pos (Or.inr he)]
    rfl
theorem znB {x n : Nat} (hn : n ≤ 10) (hx : x < 2 ^ (7 * n)) (hx2 : x < 18446744073709551616) : ∃ y, zfi (x : Int) (n : Int) = some y ∧ (1 ≤ n → y = sgn x n) ∧ -9223372036854775808 ≤ y ∧ y ≤ 9223372036854775807 := by
 unfold zfi
 have e1 : IntKind.i64.wrap (7 * (n : Int)) = 7 * n := zV (by omega)
 have e2 : IntKind.i64.wrap (64 - 7 * (n : Int)) = 64 - 7 * n := zV (by omega)
 have e3 : zcr 0 (64 - 7 * (n : Int)) = ((64 - 7 * n : Nat) : Int) := by unfold zcr; split <;> omega
 have e4 : ∀ (k : IntKind) (a : Int), 64 ≤ k.bits → zbY k a ((64 - 7 * n : Nat) : Int) = some (k.wrap (a * 2 ^ (64 - 7 * n))) := fun k a hk => by
  unfold zbY zbU
  rw [if_neg (by omega), Int.toNat_natCast, Nat.min_eq_left (by omega)]
 have e5 : ∀ (k : IntKind) (a : Int), 64 ≤ k.bits → zcp k a ((64 - 7 * n : Nat) : Int) = some (a / 2 ^ (64 - 7 * n)) := fun k a hk => by
  unfold zcp zbL
  rw [if_neg (by omega), Int.toNat_natCast, Nat.min_eq_left (by omega), Int.fdiv_eq_ediv_of_nonneg]
  exact Int.le_of_lt (Int.pow_pos (by decide))
 rw [e1, e2, e3, e4 _ _ (by decide), Option.bind_some, e5 _ _ (by decide), Option.bind_some]
 refine ⟨_, rfl, fun h1 => zkL h1 hn hx hx2, ?_⟩
 by_cases h1 : 1 ≤ n
 ·rw [zkL h1 hn hx hx2]; exact zkO h1 hn hx hx2
 ·have : n = 0 := by omega
  subst this
  have : x = 0 := by simpa using hx
  subst this
  decide
theorem F_S {l : List UInt8} {x : Int} (hl : l.length ≤ 1099511627776) (hx : -9223372036854775808 ≤ x ∧ x ≤ 9223372036854775807) : zge l x = some ((rdS l x).1, (rdS l x).2.1, (rdS l x).2.2) := by
 unfold zge zhZ
 by_cases hc : x < 0 ∨ x > l.length
 ·rw [if_pos (by simpa using hc), rdS, if_pos (by omega)]
  rfl
 ·obtain ⟨i, rfl⟩ : ∃ i : Nat, x = i := ⟨x.toNat, by omega⟩
  have hil : i ≤ l.length := by omega
  rw [if_neg (by simpa using hc), zcE hil (Nat.le_refl _), List.take_length, Option.bind_some, zki (by simp; omega), Option.bind_some]
  have hxp := zjX (l.drop i)
  generalize hX : zbv (l.drop i) = y at hxp
  generalize hN : zbc (l.drop i) = n at hxp
  have hy64 : y < 18446744073709551616 := hX ▸ zg2 _
  have hn := zgO (l.drop i)
  rw [hN, List.length_drop] at hn
  have hw : IntKind.i64.wrap ((i : Int) + (n : Int)) = ((i + n : Nat) : Int) := zho (by omega)
  have hrd : rdS l i = if n = 0 ∨ zL (sgn y n) ≠ (l.drop i).take n then (0, 0, 5) else (sgn y n, (i : Int) + n, 0) := by
   rw [rdS, if_neg (by omega)]
   simp only [Int.toNat_natCast, hX, hN]
  obtain ⟨z, hz, hz2, hz3⟩ := znB hn.1 hxp hy64
  have h10 := zd3 hz3.1 hz3.2
  rw [hz, Option.bind_some, hrd]
  by_cases hn0 : n = 0
  ·rw [zdt (by omega), if_pos rfl, Option.bind_some, if_pos rfl, if_pos (Or.inl hn0)]
   rfl
  ·rw [zhI (by omega), if_neg (by simp)]
   simp only [hw]
   rw [zcE (by omega) (by omega), Option.bind_some, zii (by simp) hz3, Option.bind_some, zke (by simp; omega), Option.bind_some, Option.bind_some, List.nil_append, List.drop_take, Nat.add_sub_cancel_left, ← hz2 (by omega)]
   by_cases he : zL z = (l.drop i).take n
   ·rw [z0 he, Bool.not_true, if_neg (by simp), if_neg (by simp [hn0, he]), Option.bind_some]
    simp
   ·rw [zR he, Bool.not_false, if_pos rfl, if_pos (Or.inr he)]
    rfl
theorem zl7 {k : IntKind} {n : Nat} (hk : 64 ≤ k.bits) (hn : n ≤ 64) : zbY k 1 (n : Int) = some (k.wrap ((2 ^ n : Nat) : Int)) := by
 unfold zbY zbU
 rw [if_neg (by omega), Int.toNat_natCast, Nat.min_eq_left (by omega), Int.one_mul]
 simp
theorem zmq {x n : Nat} (hx : x < 18446744073709551616) (h1 : 1 ≤ n) (h10 : n ≤ 10) : zfK (x : Int) (n : Int) = some (decide ((zW x).length ≤ n)) := by
 unfold zfK
 have f1 : IntKind.i64.wrap (7 * (n : Int)) = ((7 * n : Nat) : Int) := by rw [zV (by omega)]; omega
 rw [f1]
 by_cases hn : 7 * n ≥ 64
 ·rw [z0 (by omega), if_pos rfl, Option.bind_some]
  have := zdW hx
  rw [z0 (show (zW x).length ≤ n by omega)]
 ·have f2 : IntKind.u64.wrap ((7 * n : Nat) : Int) = ((7 * n : Nat) : Int) := zdU (by omega)
  have hp : 2 ^ (7 * n) < 18446744073709551616 := Nat.lt_of_le_of_lt (Nat.pow_le_pow_right (by omega) (show 7 * n ≤ 63 by omega)) (by decide)
  have hl := zlp (n - 1) x
  rw [Nat.sub_add_cancel h1, ← zkT] at hl
  rw [zR (by omega), if_neg (by simp), f2, zl7 (by decide) (by omega), zdU (by generalize 2 ^ (7 * n) = q at *; omega), Option.bind_some, Option.bind_some]
  congr 1
  rw [decide_eq_decide, hl]
  omega
theorem zn5 {k : IntKind} {n : Nat} (hk : 64 ≤ k.bits) (hn : n ≤ 64) : zbY k 1 (n : Int) = some (k.wrap ((2 ^ n : Nat) : Int)) := by
 unfold zbY zbU
 rw [if_neg (by omega), Int.toNat_natCast, Nat.min_eq_left (by omega), Int.one_mul]
 simp
theorem zpz {x : Int} {n : Nat} (hx : -9223372036854775808 ≤ x ∧ x ≤ 9223372036854775807) (h1 : 1 ≤ n) (h10 : n ≤ 10) : zgu x (n : Int) = some (decide ((zL x).length ≤ n)) := by
 unfold zgu
 have f1 : IntKind.i64.wrap (7 * (n : Int)) = ((7 * n : Nat) : Int) := by rw [zV (by omega)]; omega
 have f2 : IntKind.i64.wrap (((7 * n : Nat) : Int) - 1) = ((7 * n - 1 : Nat) : Int) := by rw [zV (by omega)]; omega
 rw [f1, f2]
 by_cases hn : 7 * n - 1 ≥ 63
 ·rw [z0 (by omega), if_pos rfl]
  have := zd3 hx.1 hx.2
  rw [z0 (show (zL x).length ≤ n by omega)]
 ·have f3 : IntKind.u64.wrap ((7 * n - 1 : Nat) : Int) = ((7 * n - 1 : Nat) : Int) := zdU (by omega)
  have hl := zip (n - 1) x
  rw [Nat.sub_add_cancel h1] at hl
  have hp : 2 ^ (7 * n - 1) = 64 * 128 ^ (n - 1) := by rw [← zkT, show 7 * n - 1 = 6 + 7 * (n - 1) from by omega, Nat.pow_add]
  have hp2 : 2 ^ (7 * n - 1) ≤ 4611686018427387904 := Nat.le_trans (Nat.pow_le_pow_right (by omega) (show 7 * n - 1 ≤ 62 by omega)) (by decide)
  have e : ((128 ^ (n - 1) : Nat) : Int) = 128 ^ (n - 1) := by simp
  rw [← e] at hl
  rw [zR (by omega), if_neg (by simp), f3, zn5 (by decide) (by omega), Option.bind_some, hp]
  rw [hp] at hp2
  generalize 128 ^ (n - 1) = q at *
  have f5 : IntKind.i64.wrap (((64 * q : Nat)) : Int) = ((64 * q : Nat) : Int) := zV (by omega)
  have f6 : IntKind.i64.wrap (0 - ((64 * q : Nat) : Int)) = -((64 * q : Nat) : Int) := by rw [zV (by omega)]; omega
  rw [f5, f6]
  by_cases hlo : x ≥ -((64 * q : Nat) : Int)
  ·rw [z0 hlo, if_pos rfl, Option.bind_some, Option.bind_some]
   congr 1
   rw [decide_eq_decide, hl]
   omega
  ·rw [zR hlo, if_neg (by simp), Option.bind_some]
   congr 1
   rw [eq_comm, decide_eq_false_iff_not, hl]
   omega
theorem zkv (neg : Bool) (n : Nat) (h1 : 1 ≤ n) (h10 : n ≤ 10) : ∀ (g i : Nat) (z : Int) (b : List UInt8), i ≤ n → n - i < g → (z < 0 ↔ neg = true) → (-9223372036854775808 ≤ z ∧ z < 18446744073709551616) → b.length ≤ 1099511627700 + i →
  zdr neg (n : Int) g (z % 18446744073709551616) b (i : Int) = some (b ++ zb1 z (n - i))
 | 0, i, z, b, _, h, _, _, _ => by omega
 | g + 1, i, z, b, hi, h, hz, hr, hb => by
  show zgl _ neg (n : Int) (z % 18446744073709551616) b (i : Int) = _
  unfold zgl zfe
  by_cases hlt : i < n
  ·have f1 : (z % 18446744073709551616).tmod 128 = z % 128 := by rw [Int.tmod_eq_emod_of_nonneg (by omega)]; omega
   have f2 : IntKind.u64.wrap ((z % 18446744073709551616).tdiv 128) = z % 18446744073709551616 / 128 := by rw [Int.tdiv_eq_ediv_of_nonneg (by omega), zdU (by omega)]
   have f5 : IntKind.i64.wrap ((n : Int) - 1) = n - 1 := zV (by omega)
   have f6 : IntKind.u64.wrap (z % 128 + 128) = z % 128 + 128 := zdU (by omega)
   have hnext : (if neg = true then (orI .u64 (z % 18446744073709551616 / 128) 18302628885633695744) else z % 18446744073709551616 / 128) = (z / 128) % 18446744073709551616 := by
    cases neg
    ·rw [if_neg (by simp)]
     have : ¬ z < 0 := fun h => by have := hz.1 h; cases this
     omega
    ·rw [if_pos rfl]
     have hneg := hz.2 rfl
     obtain ⟨m, hm⟩ : ∃ m : Nat, z % 18446744073709551616 / 128 = m := ⟨(z % 18446744073709551616 / 128).toNat, by omega⟩
     rw [hm]
     have := zlq (a := m) (b := 18302628885633695744) (k := 57) (by omega) (by decide) (by omega)
     refine Eq.trans this ?_
     omega
   have ih := zkv neg n h1 h10 g (i + 1) (z / 128)
   have hs : z / 128 < 0 ↔ neg = true := by rw [← hz]; omega
   rw [z0 (by omega), if_pos rfl]
   have key : ∀ X : Int, X = (z / 128) % 18446744073709551616 → (if decide ((i : Int) < IntKind.i64.wrap ((n : Int) - 1)) = true then (u8o (IntKind.u8.wrap (IntKind.u64.wrap (Int.tmod (z % 18446744073709551616) 128 + 128)))).bind fun z76 => (room (b.length + 1)).bind fun _ => zdr neg (n : Int) g X (b ++ [z76]) (IntKind.i64.wrap ((i : Int) + 1)) else (u8o (IntKind.u8.wrap (Int.tmod (z % 18446744073709551616) 128))).bind fun z81 => (room (b.length + 1)).bind fun _ => zdr neg (n : Int) g X (b ++ [z81]) (IntKind.i64.wrap ((i : Int) + 1))) = some (b ++ zb1 z (n - i)) := by
    rintro X rfl
    rw [f1, f5, f6, zbt (by omega)]
    by_cases hl : i + 1 < n
    ·rw [z0 (by omega), if_pos rfl, zdb, Option.bind_some, z5 (by omega), Option.bind_some, ih _ (by omega) (by omega) hs (by omega) (by simp; omega), show n - i = (n - i - 2) + 2 from by omega, zb1, show n - (i + 1) = (n - i - 2) + 1 from by omega, show ((z % 128 + 128) % 256).toNat = (z % 128).toNat + 128 from by omega]
     simp
    ·rw [zR (by omega), if_neg (by simp), zdb, Option.bind_some, z5 (by omega), Option.bind_some, ih _ (by omega) (by omega) hs (by omega) (by simp; omega), show n - i = 1 from by omega, zb1, show n - (i + 1) = 0 from by omega, zb1, show (z % 128 % 256).toNat = (z % 128).toNat from by omega]
     simp
   cases neg
   ·rw [if_neg (by simp)]
    exact key _ (by rw [f2]; simpa using hnext)
   ·rw [if_pos rfl]
    exact key _ (by rw [f2]; simpa using hnext)
  ·rw [zR (by omega), if_neg (by simp), show n - i = 0 from by omega, zb1, List.append_nil]
theorem zlN {l : List UInt8} {y : Int} {n : Nat} (hl : l.length ≤ 1099511627000) (hy : -9223372036854775808 ≤ y ∧ y < 18446744073709551616) (h1 : 1 ≤ n) (h10 : n ≤ 10) : zet l (y % 18446744073709551616) (decide (y < 0)) (n : Int) = some (l ++ zb1 y n) := by
 unfold zet
 rw [zlU hl, Option.bind_some]
 exact zkv (decide (y < 0)) n h1 h10 big 0 y l (by omega) (zbV (by omega)) (by simp) hy (by omega)
theorem zj4 {l : List UInt8} {x : Nat} (hl : l.length ≤ 1099511627000) (hx : x < 18446744073709551616) : ∀ (g k : Nat), 1 ≤ k → k ≤ (zW x).length → (zW x).length - k < g → zgg l (x : Int) g (k : Int) = some (l ++ zW x)
 | 0, k, _, _, h => by omega
 | g + 1, k, hk, hk2, h => by
  have h10 := zdW hx
  show zeV _ l (x : Int) (k : Int) = _
  unfold zeV
  rw [zmq hx hk (by omega), Option.bind_some]
  by_cases hf : (zW x).length ≤ k
  ·have hkl : k = (zW x).length := by omega
   have := zlN (l := l) (y := (x : Int)) (n := k) hl (by omega) hk (by omega)
   rw [show (x : Int) % 18446744073709551616 = x from by omega, zR (show ¬ (x : Int) < 0 by omega), zjF k x hkl.symm] at this
   rw [z0 hf, Bool.not_true, if_neg (by simp), this]
   rfl
  ·rw [zR hf, Bool.not_false, if_pos rfl, zbt (by omega)]
   exact zj4 hl hx g (k + 1) (by omega) (by omega) (by omega)
theorem zng {l : List UInt8} {x : Nat} (hl : l.length ≤ 1099511627000) (hx : x < 18446744073709551616) : zfj l (x : Int) = some (l ++ zW x) := by
 have h10 := zdW hx
 exact zj4 hl hx big 1 (by omega) (zd0 x) (by unfold big; omega)
theorem zkJ {l : List UInt8} {x : Int} (hl : l.length ≤ 1099511627000) (hx : -9223372036854775808 ≤ x ∧ x ≤ 9223372036854775807) : ∀ (g k : Nat), 1 ≤ k → k ≤ (zL x).length → (zL x).length - k < g → zeP l x g (k : Int) = some (l ++ zL x)
 | 0, k, _, _, h => by omega
 | g + 1, k, hk, hk2, h => by
  have h10 := zd3 hx.1 hx.2
  show zfZ _ l x (k : Int) = _
  unfold zfZ
  rw [zpz hx hk (by omega), Option.bind_some]
  by_cases hf : (zL x).length ≤ k
  ·have hkl : k = (zL x).length := by omega
   have := zlN (l := l) (y := x) (n := k) hl (by omega) hk (by omega)
   rw [zlv k x hkl.symm] at this
   rw [z0 hf, Bool.not_true, if_neg (by simp), zgr, this]
   rfl
  ·rw [zR hf, Bool.not_false, if_pos rfl, zbt (by omega)]
   exact zkJ hl hx g (k + 1) (by omega) (by omega) (by omega)
theorem zkQ {l : List UInt8} {x : Int} (hl : l.length ≤ 1099511627000) (hx : -9223372036854775808 ≤ x ∧ x ≤ 9223372036854775807) : zep l x = some (l ++ zL x) := by
 have h10 := zd3 hx.1 hx.2
 exact zkJ hl hx big 1 (by omega) (zdN x) (by unfold big; omega)
end Go.Proofs.YtgkllgoelpfdkaaGreat
