import Derived.Test.YtckcngkkofemjaaGreatPL
namespace Go.Proofs.YtckcngkkofemjaaGreat
open Go.Ab Go.RowKit
set_option linter.unusedVariables false
set_option linter.unusedSimpArgs false
theorem zlm {l : List UInt8} (hl : l.length ≤ 1099511000000) : ∀ (n i : Nat), i ≤ l.length + 8 → l.length + 8 - i < n → zgk l (l ++ [8, 7, 6, 5, 4, 3, 2, 1]) n (i : Int) = some true
 | 0, i, _, h => by omega
 | n + 1, i, hi, h => by
  show zfr _ l (l ++ [8, 7, 6, 5, 4, 3, 2, 1]) (i : Int) = some true
  unfold zfr
  have hlen : (l ++ ([8, 7, 6, 5, 4, 3, 2, 1] : List UInt8)).length = l.length + 8 := by simp
  by_cases hlt : i < l.length + 8
  ·rw [zv (by rw [hlen]; omega), if_pos rfl, zbd (by rw [hlen]; exact hlt), Option.bind_some, zbh (by omega)]
   have ih := zlm hl n (i + 1) (by omega) (by omega)
   by_cases h1 : i < l.length
   ·rw [zv (by omega), if_pos rfl, zbd h1, Option.bind_some, List.getElem_append_left h1, zbI rfl, if_neg (by simp)]
    exact ih
   ·rw [zx (by omega), if_neg (by simp)]
    have e1 : IntKind.i64.wrap (8 + (l.length : Int)) = 8 + l.length := zbc (by omega)
    have e2 : IntKind.i64.wrap (8 + (l.length : Int) - i) = 8 + l.length - i := zbc (by omega)
    rw [e1, e2, zd6, zbI, if_neg (by simp)]
    ·exact ih
    ·rw [List.getElem_append_right (by omega)]
     obtain ⟨k, hk⟩ : ∃ k, i = l.length + k := ⟨i - l.length, by omega⟩
     subst hk
     have : k = 0 ∨ k = 1 ∨ k = 2 ∨ k = 3 ∨ k = 4 ∨ k = 5 ∨ k = 6 ∨ k = 7 := by omega
     simp only [Nat.add_sub_cancel_left]
     rcases this with rfl | rfl | rfl | rfl | rfl | rfl | rfl | rfl <;> simp <;> omega
  ·rw [zx (by rw [hlen]; omega), if_neg (by simp)]
theorem znG {l : List UInt8} (hl : l.length ≤ 1099511000000) : zgr l (l ++ [8, 7, 6, 5, 4, 3, 2, 1]) l = some true := by
 unfold zgr
 have hlen : (l ++ ([8, 7, 6, 5, 4, 3, 2, 1] : List UInt8)).length = l.length + 8 := by simp
 have e1 : IntKind.i64.wrap ((l.length : Int) + 8) = ((l.length + 8 : Nat) : Int) := by rw [zbc (by omega)]; omega
 rw [zbI rfl, e1, zx (by rw [hlen]; omega), Bool.or_self, if_neg (by simp)]
 have := zcX (l := l ++ ([8, 7, 6, 5, 4, 3, 2, 1] : List UInt8)) (a := 0) (b := l.length + 8) (by omega) (by rw [hlen]; exact Nat.le_refl _)
 rw [← hlen] at this ⊢
 rw [List.take_length] at this
 rw [show ((0 : Nat) : Int) = 0 from rfl] at this
 rw [this, Option.bind_some]
 exact zlm hl big 0 (by omega) (zbj (by omega))
theorem zkd (l : List UInt8) (hl : l.length ≤ 1099511627000) : ∀ (n i : Nat) (acc : List UInt8), i ≤ l.length → l.length - i < n → acc.length ≤ i → ze2 l n acc (i : Int) = some (acc ++ l.drop i)
 | 0, i, _, _, h, _ => by omega
 | n + 1, i, acc, hi, h, ha => by
  show zf5 _ l acc (i : Int) = _
  unfold zf5
  by_cases hlt : i < l.length
  ·rw [zv (by omega), if_pos rfl, zbd hlt, Option.bind_some]
   have ih := zkd l hl n (i + 1) (acc ++ [l[i]]) (by omega) (by omega) (by simp; omega)
   rw [List.append_assoc, List.singleton_append, ← List.drop_eq_getElem_cons hlt] at ih
   rw [zbF (by simp; omega), Option.bind_some, zbh (by omega)]; exact ih
  ·rw [zx (by omega), if_neg (by simp), List.drop_of_length_le (by omega), List.append_nil]
theorem zpb {l : List UInt8} (hl : l.length ≤ 1099511627000) : zhk l = some l := by
 have := zkd l hl big 0 [] (by omega) (zbj (by omega)) (by simp)
 exact this
theorem zla (y : Int) : orI .u8 (IntKind.u8.wrap y) 128 = y % 128 + 128 := by
 have h : orI .u8 (IntKind.u8.wrap y) 128 = (IntKind.u8.wrap y) % 128 + 128 := zn2 (IntKind.u8.wrap y)
 have e := zd6 y
 omega
theorem zmG (y : Int) : zdK .u8 (IntKind.u8.wrap y) 127 = y % 128 := by
 have h : zdK .u8 (IntKind.u8.wrap y) 127 = (IntKind.u8.wrap y) % 128 := zkM (IntKind.u8.wrap y)
 have e := zd6 y
 omega
theorem zk5 (k : IntKind) (hk : 7 ≤ k.bits) (y : Int) : zcy k y 7 = y / 128 := by
 unfold zcy
 rw [show min (7 : Int).toNat k.bits = 7 from by simp; omega, Int.fdiv_eq_ediv_of_nonneg _ (by decide)]
 rfl
theorem zlg : ∀ (n x : Nat) (b : List UInt8), x < 18446744073709551616 → (zS x).length ≤ n → b.length + (zS x).length ≤ 1099511627776 → zeR n (x : Int) b = some (b ++ zS x)
 | 0, x, _, _, h, _ => by have := zd9 x; omega
 | n + 1, x, b, hx, h, hb => by
  show zeU _ (x : Int) b = _
  unfold zeU
  by_cases hbig : x > 127
  ·rw [zc0 hbig] at h hb ⊢
   simp only [List.length_cons] at h hb
   rw [zv (by omega), if_pos rfl, zla, zju (k := x % 128 + 128) (by omega) (by omega), Option.bind_some, zbF (by omega), Option.bind_some, zk5 _ (by decide), show (x : Int) / 128 = ((x / 128 : Nat) : Int) from by omega, zlg n (x / 128) _ (by omega) (by omega) (by simp; omega)]
   simp
  ·rw [zc3 hbig] at hb ⊢
   simp only [List.length_cons, List.length_nil] at hb
   rw [zx (by omega), if_neg (by simp), zjw, Option.bind_some, zbF (by omega), Option.bind_some, show ((x : Int) % 256).toNat = x from by omega]
theorem zoy {l : List UInt8} {x : Nat} (hl : l.length ≤ 1099511627000) (hx : x < 18446744073709551616) : zcu l (x : Int) = some (l ++ zS x) := by
 unfold zcu zey
 have h10 := zdM hx
 rw [zbF (by omega), Option.bind_some, Option.bind_some, zlg big x l hx (by unfold big; omega) (by omega)]
theorem zjU : ∀ (n : Nat) (x : Int) (b : List UInt8), (zbe x).length ≤ n → b.length + (zbe x).length ≤ 1099511627776 → zf8 n x b = some (b ++ zbe x)
 | 0, x, _, h, _ => by have := zd7 x; omega
 | n + 1, x, b, h, hb => by
  show zff _ x b = _
  unfold zff
  by_cases hbig : x > 63 ∨ x < -64
  ·rw [zcQ hbig] at h hb ⊢
   simp only [List.length_cons] at h hb
   rw [if_pos (by simpa using hbig), zla, zju (k := (x % 128).toNat + 128) (by omega) (by omega), Option.bind_some, zbF (by omega), Option.bind_some, zk5 _ (by decide), zjU n (x / 128) _ (by omega) (by simp; omega)]
   simp
  ·rw [zc1 hbig] at hb ⊢
   simp only [List.length_cons, List.length_nil] at hb
   rw [if_neg (by simpa using hbig), zmG, zju (k := (x % 128).toNat) (by omega) (by omega), Option.bind_some, zbF (by omega), Option.bind_some]
theorem zp3 {l : List UInt8} {x : Int} (hl : l.length ≤ 1099511627000) (hx : -9223372036854775808 ≤ x ∧ x ≤ 9223372036854775807) : zeF l x = some (l ++ zbe x) := by
 unfold zeF zey
 have h10 := zdX hx.1 hx.2
 rw [zbF (by omega), Option.bind_some, Option.bind_some, zjU big x l (by unfold big; omega) (by omega)]
theorem zpV {b i : Nat} (hi : i < 10) : zbU .u64 (IntKind.u64.wrap ((b : Int) % 128)) (IntKind.i64.wrap (7 * (i : Int))) = some ((b % 128 * 2 ^ (7 * i) % 18446744073709551616 : Nat) : Int) := by
 have h := zmI (b := b) hi
 have e : IntKind.i64.wrap (7 * (i : Int)) = ((7 * i : Nat) : Int) := by rw [zbc (by omega)]; omega
 rw [e] at h ⊢
 rw [zot (k := .u64) _ (7 * i) (show _ ≤ 64 by omega)] at h
 injection h with h
 injection h with _ h
 unfold zbU zdW
 rw [if_neg (by omega)]
 congr 1
 rw [show min ((7 * i : Nat) : Int).toNat IntKind.u64.bits = 7 * i from by rw [Int.toNat_natCast]; exact Nat.min_eq_left (show 7 * i ≤ 64 by omega)]
 exact h
theorem zkg (l : List UInt8) (hl : l.length ≤ 1099511627776) : ∀ (n i s : Nat), i ≤ min l.length 10 → 10 - i < n → s < 2 ^ (7 * i) → s < 18446744073709551616 → dig 10 l = (dig (10 - i) (l.drop i)).map (fun p => (s + 2 ^ (7 * i) * p.1, p.2 + i)) → zfg l n (s : Int) (i : Int) = some ((zbn l : Int), (zR l : Int))
 | 0, i, s, hi, h, _, _, _ => by omega
 | n + 1, i, s, hi, h, hs, hs64, hd => by
  show zf7 _ l (s : Int) (i : Int) = _
  unfold zf7
  have hm : zbY (l.length : Int) 10 = ((min l.length 10 : Nat) : Int) := by unfold zbY; split <;> omega
  rw [hm]
  by_cases hlt : i < min l.length 10
  ·have hil : i < l.length := by omega
   rw [show 10 - i = (9 - i) + 1 from by omega, zmf hil] at hd
   have ha : zdK .u8 (l[i].toNat : Int) 127 = (l[i].toNat : Int) % 128 := zkM _
   have ho : orI .u64 (s : Int) ((l[i].toNat % 128 * 2 ^ (7 * i) % 18446744073709551616 : Nat) : Int) = _ := or7 (b := l[i].toNat) (show i < 10 by omega) hs hs64
   rw [zv (by omega), if_pos rfl, zbd hil, Option.bind_some, ha, zpV (show i < 10 by omega), Option.bind_some, Option.bind_some, ho, zbh (by omega)]
   by_cases hb : l[i].toNat < 128
   ·rw [if_pos hb] at hd
    rw [zv (by omega), if_pos rfl]
    have hX : zbn l = (s + l[i].toNat % 128 * 2 ^ (7 * i)) % 18446744073709551616 := by
     rw [zbn, hd]
     show (s + 2 ^ (7 * i) * l[i].toNat) % _ = _
     rw [Nat.mod_eq_of_lt (show l[i].toNat < 128 by omega), Nat.mul_comm]
    have hN : zR l = 1 + i := by rw [zR, hd]; rfl
    rw [hX, hN, Nat.add_comm 1 i]
   ·rw [if_neg hb] at hd
    rw [zx (by omega), if_neg (by simp)]
    have e7 : 2 ^ (7 * (i + 1)) = 2 ^ (7 * i) * 128 := by rw [Nat.mul_add, Nat.pow_add]
    have hm := Nat.mul_le_mul_right (2 ^ (7 * i)) (show l[i].toNat % 128 ≤ 127 by omega)
    have hlt7 : s + l[i].toNat % 128 * 2 ^ (7 * i) < 2 ^ (7 * (i + 1)) := by omega
    refine zkg l hl n (i + 1) _ (by omega) (by omega) (Nat.lt_of_le_of_lt (Nat.mod_le _ _) hlt7) (Nat.mod_lt _ (by omega)) ?_
    rw [hd, show 9 - i = 10 - (i + 1) from by omega]
    by_cases h9 : i = 9
    ·subst h9; rfl
    ·have hp : 2 ^ (7 * (i + 1)) ≤ 2 ^ 63 := Nat.pow_le_pow_right (by omega) (by omega)
     rw [Nat.mod_eq_of_lt (show s + l[i].toNat % 128 * 2 ^ (7 * i) < 18446744073709551616 by omega), Option.map_map]
     congr 1
     funext p
     show (s + 2 ^ (7 * i) * (l[i].toNat % 128 + 128 * p.1), p.2 + 1 + i) = (_, _)
     rw [e7, Nat.mul_add, Nat.mul_comm (2 ^ (7 * i)) (l[i].toNat % 128), Nat.mul_assoc, Nat.add_assoc, Nat.add_assoc, Nat.add_comm 1 i]
  ·have hz : dig (10 - i) (l.drop i) = none := by
    by_cases h10 : l.length < 10
    ·rw [List.drop_eq_nil_of_le (by omega), zkY]
    ·rw [show 10 - i = 0 from by omega]; rfl
   rw [hz] at hd
   rw [zx (by omega), if_neg (by simp), zbn, zR, hd]
   rfl
theorem zkr {l : List UInt8} (hl : l.length ≤ 1099511627776) : ze4 l = some ((zbn l : Int), (zR l : Int)) := by
 refine zkg l hl big 0 0 (by omega) (zbj (by omega)) (by decide) (by omega) ?_
 simp
theorem zlK (l m : List UInt8) (hl : l.length ≤ 1099511627776) (hlm : l.length = m.length) : ∀ (n i : Nat), i ≤ l.length → l.length - i < n → zfH l m n (i : Int) = some (decide (l.drop i = m.drop i))
 | 0, i, _, h => by omega
 | n + 1, i, hi, h => by
  show zgB _ l m (i : Int) = _
  unfold zgB
  by_cases hlt : i < l.length
  ·have hlt2 : i < m.length := by omega
   rw [zv (by omega), if_pos rfl, zbd hlt, Option.bind_some, zbd hlt2, Option.bind_some, List.drop_eq_getElem_cons hlt, List.drop_eq_getElem_cons hlt2]
   by_cases he : l[i] = m[i]
   ·rw [zbI (zgt.2 he), if_neg (by simp), zbh (by omega), zlK l m hl hlm n (i + 1) (by omega) (by omega), he]
    congr 1
    rw [decide_eq_decide]
    exact ⟨fun h => by rw [h], fun h => by injection h⟩
   ·rw [zbP (fun h => he (zgt.1 h)), if_pos rfl, zx]
    intro h2
    injection h2 with h3 h4
    exact he h3
  ·rw [zx (by omega), if_neg (by simp), List.drop_of_length_le (by omega), List.drop_of_length_le (by omega), zv rfl]
theorem zk1 {l m : List UInt8} (hl : l.length ≤ 1099511627776) : zer l m = some (decide (l = m)) := by
 unfold zer
 by_cases h : l.length = m.length
 ·rw [zbI (by omega), if_neg (by simp)]
  exact zlK l m hl h big 0 (by omega) (zbj (by omega))
 ·rw [zbP (by omega), if_pos rfl, zx (fun e => h (by rw [e]))]
theorem F_U {l : List UInt8} {x : Int} (hl : l.length ≤ 1099511627776) (hx : -9223372036854775808 ≤ x ∧ x ≤ 9223372036854775807) : zcZ l x = some (((rdU l x).1 : Int), (rdU l x).2.1, (rdU l x).2.2) := by
 unfold zcZ zhp
 by_cases hc : x < 0 ∨ x > l.length
 ·rw [if_pos (by simpa using hc), rdU, if_pos (by omega)]
  rfl
 ·obtain ⟨i, rfl⟩ : ∃ i : Nat, x = i := ⟨x.toNat, by omega⟩
  have hil : i ≤ l.length := by omega
  rw [if_neg (by simpa using hc), zcX hil (Nat.le_refl _), List.take_length, Option.bind_some, zkr (by simp; omega), Option.bind_some]
  generalize hX : zbn (l.drop i) = y
  generalize hN : zR (l.drop i) = n
  have hy64 : y < 18446744073709551616 := hX ▸ zdL _
  have hn := zdm (l.drop i)
  rw [hN, List.length_drop] at hn
  have hw : IntKind.i64.wrap ((i : Int) + (n : Int)) = ((i + n : Nat) : Int) := zcH (by omega)
  have hrd : rdU l i = if n = 0 ∨ zS y ≠ (l.drop i).take n then (0, 0, 5) else (y, (i : Int) + n, 0) := by
   rw [rdU, if_neg (by omega)]
   simp only [Int.toNat_natCast, hX, hN]
  have h10 := zdM hy64
  unfold zg8
  rw [Option.bind_some, hrd]
  by_cases hn0 : n = 0
  ·rw [zbO (by omega), if_pos rfl, Option.bind_some, if_pos rfl, if_pos (Or.inl hn0)]
   rfl
  ·rw [zbJ (by omega), if_neg (by simp)]
   simp only [hw]
   rw [zcX (by omega) (by omega), Option.bind_some, zoy (by simp) hy64, Option.bind_some, zk1 (by simp; omega), Option.bind_some, Option.bind_some, List.nil_append, List.drop_take, Nat.add_sub_cancel_left]
   by_cases he : zS y = (l.drop i).take n
   ·rw [zv he, Bool.not_true, if_neg (by simp), if_neg (by simp [hn0, he]), Option.bind_some]
    simp
   ·rw [zx he, Bool.not_false, if_pos rfl, if_pos (Or.inr he)]
    rfl
theorem zoq {x n : Nat} (hn : n ≤ 10) (hx : x < 2 ^ (7 * n)) (hx2 : x < 18446744073709551616) : ∃ y, zgI (x : Int) (n : Int) = some y ∧ (1 ≤ n → y = sgn x n) ∧ -9223372036854775808 ≤ y ∧ y ≤ 9223372036854775807 := by
 unfold zgI
 have e1 : IntKind.i64.wrap (7 * (n : Int)) = 7 * n := zbc (by omega)
 have e2 : IntKind.i64.wrap (64 - 7 * (n : Int)) = 64 - 7 * n := zbc (by omega)
 have e3 : zdz 0 (64 - 7 * (n : Int)) = ((64 - 7 * n : Nat) : Int) := by unfold zdz; split <;> omega
 have e4 : ∀ (k : IntKind) (a : Int), 64 ≤ k.bits → zbU k a ((64 - 7 * n : Nat) : Int) = some (k.wrap (a * 2 ^ (64 - 7 * n))) := fun k a hk => by
  unfold zbU zdW
  rw [if_neg (by omega), Int.toNat_natCast, Nat.min_eq_left (by omega)]
 have e5 : ∀ (k : IntKind) (a : Int), 64 ≤ k.bits → zfA k a ((64 - 7 * n : Nat) : Int) = some (a / 2 ^ (64 - 7 * n)) := fun k a hk => by
  unfold zfA zcy
  rw [if_neg (by omega), Int.toNat_natCast, Nat.min_eq_left (by omega), Int.fdiv_eq_ediv_of_nonneg]
  exact Int.le_of_lt (Int.pow_pos (by decide))
 rw [e1, e2, e3, e4 _ _ (by decide), Option.bind_some, e5 _ _ (by decide), Option.bind_some]
 refine ⟨_, rfl, fun h1 => zmh h1 hn hx hx2, ?_⟩
 by_cases h1 : 1 ≤ n
 ·rw [zmh h1 hn hx hx2]; exact zie h1 hn hx hx2
 ·have : n = 0 := by omega
  subst this
  have : x = 0 := by simpa using hx
  subst this
  decide
theorem F_S {l : List UInt8} {x : Int} (hl : l.length ≤ 1099511627776) (hx : -9223372036854775808 ≤ x ∧ x ≤ 9223372036854775807) : zgW l x = some ((rdS l x).1, (rdS l x).2.1, (rdS l x).2.2) := by
 unfold zgW zhD
 by_cases hc : x < 0 ∨ x > l.length
 ·rw [if_pos (by simpa using hc), rdS, if_pos (by omega)]
  rfl
 ·obtain ⟨i, rfl⟩ : ∃ i : Nat, x = i := ⟨x.toNat, by omega⟩
  have hil : i ≤ l.length := by omega
  rw [if_neg (by simpa using hc), zcX hil (Nat.le_refl _), List.take_length, Option.bind_some, zkr (by simp; omega), Option.bind_some]
  have hxp := zjj (l.drop i)
  generalize hX : zbn (l.drop i) = y at hxp
  generalize hN : zR (l.drop i) = n at hxp
  have hy64 : y < 18446744073709551616 := hX ▸ zdL _
  have hn := zdm (l.drop i)
  rw [hN, List.length_drop] at hn
  have hw : IntKind.i64.wrap ((i : Int) + (n : Int)) = ((i + n : Nat) : Int) := zcH (by omega)
  have hrd : rdS l i = if n = 0 ∨ zbe (sgn y n) ≠ (l.drop i).take n then (0, 0, 5) else (sgn y n, (i : Int) + n, 0) := by
   rw [rdS, if_neg (by omega)]
   simp only [Int.toNat_natCast, hX, hN]
  obtain ⟨z, hz, hz2, hz3⟩ := zoq hn.1 hxp hy64
  have h10 := zdX hz3.1 hz3.2
  rw [hz, Option.bind_some, hrd]
  by_cases hn0 : n = 0
  ·rw [zbO (by omega), if_pos rfl, Option.bind_some, if_pos rfl, if_pos (Or.inl hn0)]
   rfl
  ·rw [zbJ (by omega), if_neg (by simp)]
   simp only [hw]
   rw [zcX (by omega) (by omega), Option.bind_some, zp3 (by simp) hz3, Option.bind_some, zk1 (by simp; omega), Option.bind_some, Option.bind_some, List.nil_append, List.drop_take, Nat.add_sub_cancel_left, ← hz2 (by omega)]
   by_cases he : zbe z = (l.drop i).take n
   ·rw [zv he, Bool.not_true, if_neg (by simp), if_neg (by simp [hn0, he]), Option.bind_some]
    simp
   ·rw [zx he, Bool.not_false, if_pos rfl, if_pos (Or.inr he)]
    rfl
theorem znL {k : IntKind} {n : Nat} (hk : 64 ≤ k.bits) (hn : n ≤ 64) : zbU k 1 (n : Int) = some (k.wrap ((2 ^ n : Nat) : Int)) := by
 unfold zbU zdW
 rw [if_neg (by omega), Int.toNat_natCast, Nat.min_eq_left (by omega), Int.one_mul]
 simp
theorem zmR {x n : Nat} (hx : x < 18446744073709551616) (h1 : 1 ≤ n) (h10 : n ≤ 10) : zgg (x : Int) (n : Int) = some (decide ((zS x).length ≤ n)) := by
 unfold zgg
 have f1 : IntKind.i64.wrap (7 * (n : Int)) = ((7 * n : Nat) : Int) := by rw [zbc (by omega)]; omega
 rw [f1]
 by_cases hn : 7 * n ≥ 64
 ·rw [zv (by omega), if_pos rfl, Option.bind_some]
  have := zdM hx
  rw [zv (show (zS x).length ≤ n by omega)]
 ·have f2 : IntKind.u64.wrap ((7 * n : Nat) : Int) = ((7 * n : Nat) : Int) := zct (by omega)
  have hp : 2 ^ (7 * n) < 18446744073709551616 := Nat.lt_of_le_of_lt (Nat.pow_le_pow_right (by omega) (show 7 * n ≤ 63 by omega)) (by decide)
  have hl := zkD (n - 1) x
  rw [Nat.sub_add_cancel h1, ← zhs] at hl
  rw [zx (by omega), if_neg (by simp), f2, znL (by decide) (by omega), zct (by generalize 2 ^ (7 * n) = q at *; omega), Option.bind_some, Option.bind_some]
  congr 1
  rw [decide_eq_decide, hl]
  omega
theorem znX {k : IntKind} {n : Nat} (hk : 64 ≤ k.bits) (hn : n ≤ 64) : zbU k 1 (n : Int) = some (k.wrap ((2 ^ n : Nat) : Int)) := by
 unfold zbU zdW
 rw [if_neg (by omega), Int.toNat_natCast, Nat.min_eq_left (by omega), Int.one_mul]
 simp
theorem zmV {x : Int} {n : Nat} (hx : -9223372036854775808 ≤ x ∧ x ≤ 9223372036854775807) (h1 : 1 ≤ n) (h10 : n ≤ 10) : zgG x (n : Int) = some (decide ((zbe x).length ≤ n)) := by
 unfold zgG
 have f1 : IntKind.i64.wrap (7 * (n : Int)) = ((7 * n : Nat) : Int) := by rw [zbc (by omega)]; omega
 have f2 : IntKind.i64.wrap (((7 * n : Nat) : Int) - 1) = ((7 * n - 1 : Nat) : Int) := by rw [zbc (by omega)]; omega
 rw [f1, f2]
 by_cases hn : 7 * n - 1 ≥ 63
 ·rw [zv (by omega), if_pos rfl]
  have := zdX hx.1 hx.2
  rw [zv (show (zbe x).length ≤ n by omega)]
 ·have f3 : IntKind.u64.wrap ((7 * n - 1 : Nat) : Int) = ((7 * n - 1 : Nat) : Int) := zct (by omega)
  have hl := zlv (n - 1) x
  rw [Nat.sub_add_cancel h1] at hl
  have hp : 2 ^ (7 * n - 1) = 64 * 128 ^ (n - 1) := by rw [← zhs, show 7 * n - 1 = 6 + 7 * (n - 1) from by omega, Nat.pow_add]
  have hp2 : 2 ^ (7 * n - 1) ≤ 4611686018427387904 := Nat.le_trans (Nat.pow_le_pow_right (by omega) (show 7 * n - 1 ≤ 62 by omega)) (by decide)
  have e : ((128 ^ (n - 1) : Nat) : Int) = 128 ^ (n - 1) := by simp
  rw [← e] at hl
  rw [zx (by omega), if_neg (by simp), f3, znX (by decide) (by omega), Option.bind_some, hp]
  rw [hp] at hp2
  generalize 128 ^ (n - 1) = q at *
  have f5 : IntKind.i64.wrap (((64 * q : Nat)) : Int) = ((64 * q : Nat) : Int) := zbc (by omega)
  have f6 : IntKind.i64.wrap (0 - ((64 * q : Nat) : Int)) = -((64 * q : Nat) : Int) := by rw [zbc (by omega)]; omega
  rw [f5, f6]
  by_cases hlo : x ≥ -((64 * q : Nat) : Int)
  ·rw [zv hlo, if_pos rfl, Option.bind_some, Option.bind_some]
   congr 1
   rw [decide_eq_decide, hl]
   omega
  ·rw [zx hlo, if_neg (by simp), Option.bind_some]
   congr 1
   rw [eq_comm, decide_eq_false_iff_not, hl]
   omega
theorem zjV (neg : Bool) (n : Nat) (h1 : 1 ≤ n) (h10 : n ≤ 10) : ∀ (g i : Nat) (z : Int) (b : List UInt8), i ≤ n → n - i < g → (z < 0 ↔ neg = true) → (-9223372036854775808 ≤ z ∧ z < 18446744073709551616) → b.length ≤ 1099511627700 + i →
  zdj neg (n : Int) g (z % 18446744073709551616) b (i : Int) = some (b ++ zcb z (n - i))
 | 0, i, z, b, _, h, _, _, _ => by omega
 | g + 1, i, z, b, hi, h, hz, hr, hb => by
  show zfz _ neg (n : Int) (z % 18446744073709551616) b (i : Int) = _
  unfold zfz zgm
  by_cases hlt : i < n
  ·have f1 : (z % 18446744073709551616).tmod 128 = z % 128 := by rw [Int.tmod_eq_emod_of_nonneg (by omega)]; omega
   have f2 : IntKind.u64.wrap ((z % 18446744073709551616).tdiv 128) = z % 18446744073709551616 / 128 := by rw [Int.tdiv_eq_ediv_of_nonneg (by omega), zct (by omega)]
   have f5 : IntKind.i64.wrap ((n : Int) - 1) = n - 1 := zbc (by omega)
   have f6 : IntKind.u64.wrap (z % 128 + 128) = z % 128 + 128 := zct (by omega)
   have hnext : (if neg = true then (orI .u64 (z % 18446744073709551616 / 128) 18302628885633695744) else z % 18446744073709551616 / 128) = (z / 128) % 18446744073709551616 := by
    cases neg
    ·rw [if_neg (by simp)]
     have : ¬ z < 0 := fun h => by have := hz.1 h; cases this
     omega
    ·rw [if_pos rfl]
     have hneg := hz.2 rfl
     obtain ⟨m, hm⟩ : ∃ m : Nat, z % 18446744073709551616 / 128 = m := ⟨(z % 18446744073709551616 / 128).toNat, by omega⟩
     rw [hm]
     have := zlb (a := m) (b := 18302628885633695744) (k := 57) (by omega) (by decide) (by omega)
     refine Eq.trans this ?_
     omega
   have ih := zjV neg n h1 h10 g (i + 1) (z / 128)
   have hs : z / 128 < 0 ↔ neg = true := by rw [← hz]; omega
   rw [zv (by omega), if_pos rfl]
   have key : ∀ X : Int, X = (z / 128) % 18446744073709551616 → (if decide ((i : Int) < IntKind.i64.wrap ((n : Int) - 1)) = true then (u8o (IntKind.u8.wrap (IntKind.u64.wrap (Int.tmod (z % 18446744073709551616) 128 + 128)))).bind fun z76 => (room (b.length + 1)).bind fun _ => zdj neg (n : Int) g X (b ++ [z76]) (IntKind.i64.wrap ((i : Int) + 1)) else (u8o (IntKind.u8.wrap (Int.tmod (z % 18446744073709551616) 128))).bind fun z81 => (room (b.length + 1)).bind fun _ => zdj neg (n : Int) g X (b ++ [z81]) (IntKind.i64.wrap ((i : Int) + 1))) = some (b ++ zcb z (n - i)) := by
    rintro X rfl
    rw [f1, f5, f6, zbh (by omega)]
    by_cases hl : i + 1 < n
    ·rw [zv (by omega), if_pos rfl, zjw, Option.bind_some, zbF (by omega), Option.bind_some, ih _ (by omega) (by omega) hs (by omega) (by simp; omega), show n - i = (n - i - 2) + 2 from by omega, zcb, show n - (i + 1) = (n - i - 2) + 1 from by omega, show ((z % 128 + 128) % 256).toNat = (z % 128).toNat + 128 from by omega]
     simp
    ·rw [zx (by omega), if_neg (by simp), zjw, Option.bind_some, zbF (by omega), Option.bind_some, ih _ (by omega) (by omega) hs (by omega) (by simp; omega), show n - i = 1 from by omega, zcb, show n - (i + 1) = 0 from by omega, zcb, show (z % 128 % 256).toNat = (z % 128).toNat from by omega]
     simp
   cases neg
   ·rw [if_neg (by simp)]
    exact key _ (by rw [f2]; simpa using hnext)
   ·rw [if_pos rfl]
    exact key _ (by rw [f2]; simpa using hnext)
  ·rw [zx (by omega), if_neg (by simp), show n - i = 0 from by omega, zcb, List.append_nil]
theorem zj2 {l : List UInt8} {y : Int} {n : Nat} (hl : l.length ≤ 1099511627000) (hy : -9223372036854775808 ≤ y ∧ y < 18446744073709551616) (h1 : 1 ≤ n) (h10 : n ≤ 10) : zeg l (y % 18446744073709551616) (decide (y < 0)) (n : Int) = some (l ++ zcb y n) := by
 unfold zeg
 rw [zpb hl, Option.bind_some]
 exact zjV (decide (y < 0)) n h1 h10 big 0 y l (by omega) (zbj (by omega)) (by simp) hy (by omega)
theorem zl9 {l : List UInt8} {x : Nat} (hl : l.length ≤ 1099511627000) (hx : x < 18446744073709551616) : ∀ (g k : Nat), 1 ≤ k → k ≤ (zS x).length → (zS x).length - k < g → zeL l (x : Int) g (k : Int) = some (l ++ zS x)
 | 0, k, _, _, h => by omega
 | g + 1, k, hk, hk2, h => by
  have h10 := zdM hx
  show zga _ l (x : Int) (k : Int) = _
  unfold zga
  rw [zmR hx hk (by omega), Option.bind_some]
  by_cases hf : (zS x).length ≤ k
  ·have hkl : k = (zS x).length := by omega
   have := zj2 (l := l) (y := (x : Int)) (n := k) hl (by omega) hk (by omega)
   rw [show (x : Int) % 18446744073709551616 = x from by omega, zx (show ¬ (x : Int) < 0 by omega), zlL k x hkl.symm] at this
   rw [zv hf, Bool.not_true, if_neg (by simp), this]
   rfl
  ·rw [zx hf, Bool.not_false, if_pos rfl, zbh (by omega)]
   exact zl9 hl hx g (k + 1) (by omega) (by omega) (by omega)
theorem zo7 {l : List UInt8} {x : Nat} (hl : l.length ≤ 1099511627000) (hx : x < 18446744073709551616) : zhh l (x : Int) = some (l ++ zS x) := by
 have h10 := zdM hx
 exact zl9 hl hx big 1 (by omega) (zd9 x) (by unfold big; omega)
theorem zjP {l : List UInt8} {x : Int} (hl : l.length ≤ 1099511627000) (hx : -9223372036854775808 ≤ x ∧ x ≤ 9223372036854775807) : ∀ (g k : Nat), 1 ≤ k → k ≤ (zbe x).length → (zbe x).length - k < g → zfx l x g (k : Int) = some (l ++ zbe x)
 | 0, k, _, _, h => by omega
 | g + 1, k, hk, hk2, h => by
  have h10 := zdX hx.1 hx.2
  show zfo _ l x (k : Int) = _
  unfold zfo
  rw [zmV hx hk (by omega), Option.bind_some]
  by_cases hf : (zbe x).length ≤ k
  ·have hkl : k = (zbe x).length := by omega
   have := zj2 (l := l) (y := x) (n := k) hl (by omega) hk (by omega)
   rw [zlz k x hkl.symm] at this
   rw [zv hf, Bool.not_true, if_neg (by simp), zdo, this]
   rfl
  ·rw [zx hf, Bool.not_false, if_pos rfl, zbh (by omega)]
   exact zjP hl hx g (k + 1) (by omega) (by omega) (by omega)
theorem zm0 {l : List UInt8} {x : Int} (hl : l.length ≤ 1099511627000) (hx : -9223372036854775808 ≤ x ∧ x ≤ 9223372036854775807) : zhE l x = some (l ++ zbe x) := by
 have h10 := zdX hx.1 hx.2
 exact zjP hl hx big 1 (by omega) (zd7 x) (by unfold big; omega)
theorem zkB (l m : List UInt8) (i0 : Nat) (hl : l.length ≤ 1099511627776) (hm : i0 + m.length ≤ l.length) : ∀ (n i : Nat), i ≤ m.length → m.length - i < n → zeX l (i0 : Int) m n (i : Int) = some (decide (m.drop i = ((l.drop i0).take m.length).drop i))
 | 0, i, _, h => by omega
 | n + 1, i, hi, h => by
  show ze0 _ l (i0 : Int) m (i : Int) = _
  unfold ze0
  by_cases hlt : i < m.length
  ·have hi2 : i < ((l.drop i0).take m.length).length := by simp only [List.length_take, List.length_drop]; omega
   have hel : ((l.drop i0).take m.length)[i] = l[i0 + i] := by simp
   rw [zv (by omega), if_pos rfl, zcH (by omega), zbd (show i0 + i < l.length by omega), Option.bind_some, zbd hlt, Option.bind_some, List.drop_eq_getElem_cons hlt, List.drop_eq_getElem_cons hi2, hel]
   by_cases he : m[i] = l[i0 + i]
   ·rw [zbI (zgt.2 he.symm), if_neg (by simp), zbh (by omega), zkB l m i0 hl hm n (i + 1) (by omega) (by omega), he]
    congr 1
    rw [decide_eq_decide]
    exact ⟨fun h => by rw [h], fun h => by injection h⟩
   ·rw [zbP (fun h => he (zgt.1 h).symm), if_pos rfl, zx]
    intro h2
    injection h2 with h3 h4
    exact he h3
  ·rw [zx (by omega), if_neg (by simp), List.drop_of_length_le (by omega), List.drop_of_length_le (by simp only [List.length_take, List.length_drop]; omega), zv rfl]
theorem zkH {l m : List UInt8} {i0 : Nat} (hl : l.length ≤ 1099511627776) (hi : i0 ≤ l.length) (hm : m.length ≤ 1099511627776) : zeo l (i0 : Int) m = some (decide (m = (l.drop i0).take m.length)) := by
 unfold zeo
 have f1 : IntKind.i64.wrap ((l.length : Int) - i0) = (l.length : Int) - i0 := zbc (by omega)
 rw [f1]
 by_cases hb : (m.length : Int) > (l.length : Int) - i0
 ·rw [zv hb, if_pos rfl, zx (fun h => by have := congrArg List.length h; simp only [List.length_take, List.length_drop] at this; omega)]
 ·rw [zx hb, if_neg (by simp)]
  have := zkB l m i0 hl (by omega) big 0 (by omega) (zbj (by omega))
  rw [List.drop_zero, List.drop_zero] at this
  exact this
theorem zkX (l : List UInt8) (i0 : Nat) (hl : l.length ≤ 1099511627776) (hi0 : i0 ≤ l.length) : ∀ (n i : Nat), i ≤ 10 → 10 - i < n → (dig 10 (l.drop i0)).map (·.2) = (dig (10 - i) (l.drop (i0 + i))).map (·.2 + i) → zfE l (i0 : Int) n (i : Int) = some (zR (l.drop i0) : Int)
 | 0, i, _, h, _ => by omega
 | n + 1, i, hi, h, hd => by
  show zeK _ l (i0 : Int) (i : Int) = _
  unfold zeK
  have hN : zR (l.drop i0) = ((dig 10 (l.drop i0)).map (·.2)).getD 0 := by unfold zR; split <;> simp [*]
  rw [zcH (by omega)]
  by_cases hlt : i < 10 ∧ i0 + i < l.length
  ·rw [zv (by omega), zv (by omega), Bool.and_self, if_pos rfl, zbd hlt.2, Option.bind_some, zbh (by omega)]
   rw [show 10 - i = (9 - i) + 1 from by omega, zmf hlt.2] at hd
   by_cases hb : l[i0 + i].toNat < 128
   ·rw [if_pos hb] at hd
    rw [zv (by omega), if_pos rfl, hN, hd]
    simp [Nat.add_comm]
   ·rw [if_neg hb] at hd
    rw [zx (by omega), if_neg (by simp)]
    refine zkX l i0 hl hi0 n (i + 1) (by omega) (by omega) ?_
    rw [hd, show 10 - (i + 1) = 9 - i from by omega, ← Nat.add_assoc, Option.map_map]
    congr 1
    funext p
    show p.2 + 1 + i = p.2 + (i + 1)
    omega
  ·rw [if_neg (by simp only [Bool.and_eq_true, decide_eq_true_eq]; omega), hN, hd]
   by_cases h10 : i < 10
   ·rw [List.drop_eq_nil_of_le (by omega), zkY]; rfl
   ·rw [show 10 - i = 0 from by omega]; rfl
theorem zlp {l : List UInt8} {i0 : Nat} (hl : l.length ≤ 1099511627776) (hi : i0 ≤ l.length) : zfp l (i0 : Int) = some (zR (l.drop i0) : Int) :=
 zkX l i0 hl hi big 0 (by omega) (zbj (by omega)) (by simp)
theorem zlY (l : List UInt8) (i0 m : Nat) (hl : l.length ≤ 1099511627776) (hi0 : i0 + m ≤ l.length) : ∀ (n j Y : Nat), j ≤ m → j < n → Y = zcs (m - j) (l.drop (i0 + j)) % 18446744073709551616 → zfC l (i0 : Int) n (Y : Int) ((j : Int) - 1) = some ((zcs m (l.drop i0) % 18446744073709551616 : Nat) : Int)
 | 0, j, Y, _, h, _ => by omega
 | n + 1, j, Y, hj, h, hY => by
  show zf6 _ l (i0 : Int) (Y : Int) ((j : Int) - 1) = _
  unfold zf6
  by_cases hlt : 1 ≤ j
  ·have hil : i0 + (j - 1) < l.length := by omega
   have f2 : IntKind.i64.wrap ((i0 : Int) + (j - 1)) = ((i0 + (j - 1) : Nat) : Int) := by rw [zbc (by omega)]; omega
   have hb := UInt8.lt l[i0 + (j - 1)]
   have hs := zoh (n := m - j) hil
   rw [show m - j + 1 = m - (j - 1) from by omega, show i0 + (j - 1) + 1 = i0 + j from by omega] at hs
   rw [zv (by omega), if_pos rfl, f2, zbd hil, Option.bind_some]
   generalize hB : l[i0 + (j - 1)].toNat = B at hb hs
   have f3 : (B : Int).tmod 128 = ((B % 128 : Nat) : Int) := by rw [Int.tmod_eq_emod_of_nonneg (by omega)]; rfl
   have f4 : IntKind.u64.wrap ((B % 128 : Nat) : Int) = ((B % 128 : Nat) : Int) := zct (by omega)
   have f5 : IntKind.u64.wrap (128 * (Y : Int)) = ((128 * Y % 18446744073709551616 : Nat) : Int) := by rw [zdo]; omega
   have f6 : IntKind.u64.wrap (((128 * Y % 18446744073709551616 : Nat) : Int) + ((B % 128 : Nat) : Int)) = (((128 * Y % 18446744073709551616 + B % 128) % 18446744073709551616 : Nat) : Int) := by rw [zdo]; omega
   have f7 : IntKind.i64.wrap ((j : Int) - 1 - 1) = ((j - 1 : Nat) : Int) - 1 := by rw [zbc (by omega)]; omega
   rw [f3, f4, f5, f6, f7]
   refine zlY l i0 m hl hi0 n (j - 1) _ (by omega) (by omega) ?_
   rw [hs, hY]
   omega
  ·rw [zx (by omega), if_neg (by simp), hY, show j = 0 from by omega, Nat.sub_zero, Nat.add_zero]
theorem zl5 {l : List UInt8} {i0 m : Nat} (hl : l.length ≤ 1099511627776) (hm : m ≤ 100) (hi : i0 + m ≤ l.length) : zec l (i0 : Int) (m : Int) = some ((zcs m (l.drop i0) % 18446744073709551616 : Nat) : Int) := by
 unfold zec
 rw [zbc (by omega)]
 exact zlY l i0 m hl hi big m 0 (by omega) (zbj (by omega)) (by simp [zcs])
theorem zjx {l : List UInt8} {x : Int} (hl : l.length ≤ 1099511627776) (hx : -9223372036854775808 ≤ x ∧ x ≤ 9223372036854775807) : zc8 l x = some (((rdU l x).1 : Int), (rdU l x).2.1, (rdU l x).2.2) := by
 unfold zc8
 by_cases hc : x < 0 ∨ x > l.length
 ·rw [if_pos (by simpa using hc), rdU, if_pos (by omega)]
  rfl
 ·obtain ⟨i, rfl⟩ : ∃ i : Nat, x = i := ⟨x.toNat, by omega⟩
  have hil : i ≤ l.length := by omega
  have hn := zdm (l.drop i)
  rw [List.length_drop] at hn
  have hX := zdL (l.drop i)
  have h10 := zdM hX
  have hpre := zoa (l.drop i)
  have hrd : rdU l (i : Int) = if zR (l.drop i) = 0 ∨ zS (zbn (l.drop i)) ≠ (l.drop i).take (zR (l.drop i)) then (0, 0, 5) else (zbn (l.drop i), (i : Int) + (zR (l.drop i) : Nat), 0) := by
   rw [rdU, if_neg (by omega)]
   try rfl
  rw [hrd, if_neg (by simpa using hc), zlp hl hil, Option.bind_some, zl5 hl (by omega) (by omega), zl2, Option.bind_some]
  by_cases hn0 : zR (l.drop i) = 0
  ·rw [zbO (by omega), if_pos rfl, Option.bind_some, if_pos rfl, if_pos (Or.inl hn0)]
   rfl
  ·rw [zbJ (by omega), if_neg (by simp), zo7 (by simp) hX, Option.bind_some, List.nil_append, zkH hl hil (by omega), Option.bind_some, Option.bind_some]
   by_cases he : zS (zbn (l.drop i)) = (l.drop i).take (zR (l.drop i))
   ·rw [zv ((hpre hn0).2 he), Bool.not_true, if_neg (by simp), if_neg (by simp [hn0, he]), zcH (by omega)]
    simp
   ·rw [zx (fun h => he ((hpre hn0).1 h)), Bool.not_false, if_pos rfl, if_pos (Or.inr he)]
    rfl
theorem zn3 {l : List UInt8} {x : Int} (hl : l.length ≤ 1099511627776) (hx : -9223372036854775808 ≤ x ∧ x ≤ 9223372036854775807) : zei l x = some ((rdS l x).1, (rdS l x).2.1, (rdS l x).2.2) := by
 unfold zei
 by_cases hc : x < 0 ∨ x > l.length
 ·rw [if_pos (by simpa using hc), rdS, if_pos (by omega)]
 ·obtain ⟨i, rfl⟩ : ∃ i : Nat, x = i := ⟨x.toNat, by omega⟩
  have hil : i ≤ l.length := by omega
  have hn := zdm (l.drop i)
  rw [List.length_drop] at hn
  have hX := zdL (l.drop i)
  have hXp := zjj (l.drop i)
  have hrd : rdS l (i : Int) = if zR (l.drop i) = 0 ∨ zbe (sgn (zbn (l.drop i)) (zR (l.drop i))) ≠ (l.drop i).take (zR (l.drop i)) then ((0 : Int), (0 : Int), (5 : Int)) else (sgn (zbn (l.drop i)) (zR (l.drop i)), (i : Int) + (zR (l.drop i) : Nat), 0) := by
   rw [rdS, if_neg (by omega)]
   try rfl
  rw [hrd, if_neg (by simpa using hc), zlp hl hil, Option.bind_some]
  by_cases hn0 : zR (l.drop i) = 0
  ·rw [zbO (by omega), if_pos rfl, if_pos (Or.inl hn0)]
  ·obtain ⟨w, hw, hw2⟩ := zo6 (l.drop i) (by omega)
   have hb := zie (x := zbn (l.drop i)) (n := zR (l.drop i)) (by omega) (by omega) hXp hX
   have h10 := zdX hb.1 hb.2
   have hpre := znH (l.drop i) hb
   have fin : ∀ c : Int, IntKind.i64.wrap c = sgn (zbn (l.drop i)) (zR (l.drop i)) → zeh l (i : Int) ((zR (l.drop i) : Nat) : Int) c = some ((if zR (l.drop i) = 0 ∨ zbe (sgn (zbn (l.drop i)) (zR (l.drop i))) ≠ (l.drop i).take (zR (l.drop i)) then ((0 : Int), (0 : Int), (5 : Int)) else (sgn (zbn (l.drop i)) (zR (l.drop i)), (i : Int) + (zR (l.drop i) : Nat), 0))) := by
    intro c hc
    unfold zeh
    rw [hc, zm0 (by simp) hb, Option.bind_some, List.nil_append, zkH hl hil (by omega), Option.bind_some]
    by_cases he : zbe (sgn (zbn (l.drop i)) (zR (l.drop i))) = (l.drop i).take (zR (l.drop i))
    ·rw [zv (hpre.2 he), Bool.not_true, if_neg (by simp), if_neg (by simp [hn0, he]), zcH (by omega)]
     simp
    ·rw [zx (fun h => he (hpre.1 h)), Bool.not_false, if_pos rfl, if_pos (Or.inr he)]
   have hidx : IntKind.i64.wrap (IntKind.i64.wrap ((i : Int) + ((zR (l.drop i) : Nat) : Int)) - 1) = ((i + zR (l.drop i) - 1 : Nat) : Int) := by rw [zcH (by omega), zbc (by omega)]; omega
   have hget : zz l ((i + zR (l.drop i) - 1 : Nat) : Int) = some w := by
    rw [ziw, ← hw, List.getElem?_drop]
    congr 1
    omega
   rw [zbJ (by omega), if_neg (by simp), zl5 hl (by omega) (by omega), zl2, Option.bind_some, hidx, hget, Option.bind_some]
   by_cases hc10 : w.toNat ≥ 64 ∧ zR (l.drop i) < 10
   ·have h7 : IntKind.i64.wrap (7 * ((zR (l.drop i) : Nat) : Int)) = ((7 * zR (l.drop i) : Nat) : Int) := by rw [zbc (by omega)]; omega
    have h7u : IntKind.u64.wrap ((7 * zR (l.drop i) : Nat) : Int) = ((7 * zR (l.drop i) : Nat) : Int) := zct (by omega)
    have hp2 : 2 ^ (7 * zR (l.drop i)) ≤ 2 ^ 63 := Nat.pow_le_pow_right (by omega) (by omega)
    rw [zv (by omega), zv (by omega), Bool.and_self, if_pos rfl, h7, h7u]
    have hsh : zbU .u64 1 ((7 * zR (l.drop i) : Nat) : Int) = some ((2 ^ (7 * zR (l.drop i)) : Nat) : Int) := by
     unfold zbU zdW
     rw [if_neg (by omega), Int.toNat_natCast, Nat.min_eq_left (show 7 * zR (l.drop i) ≤ IntKind.u64.bits by show _ ≤ 64; omega), Int.one_mul]
     have e : ((2 ^ (7 * zR (l.drop i)) : Nat) : Int) = 2 ^ (7 * zR (l.drop i)) := by simp
     rw [← e, zct (by generalize 2 ^ (7 * zR (l.drop i)) = q at *; omega)]
    rw [hsh, Option.bind_some]
    refine Eq.trans (fin _ ?_) ?_
    ·have hge := (hw2 hc10.2).1 hc10.1
     rw [wiu]
     unfold sgn
     rw [if_pos hc10.2, if_neg (by omega)]
     have e : ((2 ^ (7 * zR (l.drop i)) : Nat) : Int) = 2 ^ (7 * zR (l.drop i)) := by simp
     rw [← e]
     generalize 2 ^ (7 * zR (l.drop i)) = q at *
     rw [zbc (by omega)]
    ·split <;> rfl
   ·rw [if_neg (by simp only [Bool.and_eq_true, decide_eq_true_eq]; omega)]
    refine Eq.trans (fin _ ?_) ?_
    ·unfold sgn
     by_cases h9 : zR (l.drop i) < 10
     ·rw [if_pos h9]
      have : ¬ 2 ^ (7 * zR (l.drop i) - 1) ≤ zbn (l.drop i) := fun h => hc10 ⟨(hw2 h9).2 h, h9⟩
      rw [if_pos (by omega)]
      have hp2 : 2 ^ (7 * zR (l.drop i) - 1) ≤ 2 ^ 62 := Nat.pow_le_pow_right (by omega) (by omega)
      generalize 2 ^ (7 * zR (l.drop i) - 1) = q at *
      rw [zbc (by omega)]
     ·rw [if_neg h9]
    ·split <;> rfl
end Go.Proofs.YtckcngkkofemjaaGreat
