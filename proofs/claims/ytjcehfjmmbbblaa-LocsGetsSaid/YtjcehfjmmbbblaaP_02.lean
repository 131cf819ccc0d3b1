import Derived.Test.YtjcehfjmmbbblaaAd
import Derived.Test.YtjcehfjmmbbblaaF
import Derived.Test.YtjcehfjmmbbblaaPL
namespace Go.Proofs.Ytjcehfjmmbbblaa
open Go.Ab Go.RowKit
set_option linter.unusedVariables false
set_option linter.unusedSimpArgs false
theorem Kept_loop {l : List UInt8} (hl : l.length ≤ 1099511000000) : ∀ (n i : Nat), i ≤ l.length + 8 → l.length + 8 - i < n → zbj l (l ++ [8, 7, 6, 5, 4, 3, 2, 1]) n (i : Int) = some true
  | 0, i, _, h => by omega
  | n + 1, i, hi, h => by
    show zK _ l (l ++ [8, 7, 6, 5, 4, 3, 2, 1]) (i : Int) = some true
    unfold zK
    have hlen : (l ++ ([8, 7, 6, 5, 4, 3, 2, 1] : List UInt8)).length = l.length + 8 := by simp
    by_cases hlt : i < l.length + 8
    · rw [decT (by rw [hlen]; omega), if_pos rfl, getI_lt (by rw [hlen]; exact hlt), Option.bind_some, i64_succ (by omega)]
      have ih := Kept_loop hl n (i + 1) (by omega) (by omega)
      by_cases h1 : i < l.length
      · rw [decT (by omega), if_pos rfl, getI_lt h1, Option.bind_some, List.getElem_append_left h1, bneF rfl, if_neg (by simp)]
        exact ih
      · rw [decF (by omega), if_neg (by simp)]
        have e1 : IntKind.i64.wrap (8 + (l.length : Int)) = 8 + l.length := wi64 (by omega)
        have e2 : IntKind.i64.wrap (8 + (l.length : Int) - i) = 8 + l.length - i := wi64 (by omega)
        rw [e1, e2, wu8_mod, bneF, if_neg (by simp)]
        · exact ih
        · rw [List.getElem_append_right (by omega)]
          obtain ⟨k, hk⟩ : ∃ k, i = l.length + k := ⟨i - l.length, by omega⟩
          subst hk
          have : k = 0 ∨ k = 1 ∨ k = 2 ∨ k = 3 ∨ k = 4 ∨ k = 5 ∨ k = 6 ∨ k = 7 := by omega
          simp only [Nat.add_sub_cancel_left]
          rcases this with rfl | rfl | rfl | rfl | rfl | rfl | rfl | rfl <;> simp <;> omega
    · rw [decF (by rw [hlen]; omega), if_neg (by simp)]
theorem Kept_true {l : List UInt8} (hl : l.length ≤ 1099511000000) : zbE l (l ++ [8, 7, 6, 5, 4, 3, 2, 1]) l = some true := by
  unfold zbE
  have hlen : (l ++ ([8, 7, 6, 5, 4, 3, 2, 1] : List UInt8)).length = l.length + 8 := by simp
  have e1 : IntKind.i64.wrap ((l.length : Int) + 8) = ((l.length + 8 : Nat) : Int) := by rw [wi64 (by omega)]; omega
  rw [bneF rfl, e1, decF (by rw [hlen]; omega), Bool.or_self, if_neg (by simp)]
  have := cutI_ok (l := l ++ ([8, 7, 6, 5, 4, 3, 2, 1] : List UInt8)) (a := 0) (b := l.length + 8) (by omega) (by rw [hlen]; exact Nat.le_refl _)
  rw [← hlen] at this ⊢
  rw [List.take_length] at this
  rw [show ((0 : Nat) : Int) = 0 from rfl] at this
  rw [this, Option.bind_some]
  exact Kept_loop hl big 0 (by omega) (big_gt (by omega))
theorem copy_loop (l : List UInt8) (hl : l.length ≤ 1099511627000) : ∀ (n i : Nat) (acc : List UInt8), i ≤ l.length → l.length - i < n → acc.length ≤ i → zbc l n acc (i : Int) = some (acc ++ l.drop i)
  | 0, i, _, _, h, _ => by omega
  | n + 1, i, acc, hi, h, ha => by
    show zS _ l acc (i : Int) = _
    unfold zS
    by_cases hlt : i < l.length
    · rw [decT (by omega), if_pos rfl, getI_lt hlt, Option.bind_some]
      have ih := copy_loop l hl n (i + 1) (acc ++ [l[i]]) (by omega) (by omega) (by simp; omega)
      rw [List.append_assoc, List.singleton_append, ← List.drop_eq_getElem_cons hlt] at ih
      rw [room_ok (by simp; omega), Option.bind_some, i64_succ (by omega)]; exact ih
    · rw [decF (by omega), if_neg (by simp), List.drop_of_length_le (by omega), List.append_nil]
theorem zds {l : List UInt8} (hl : l.length ≤ 1099511627000) : zbI l = some l := by
  have := copy_loop l hl big 0 [] (by omega) (big_gt (by omega)) (by simp)
  exact this
theorem or128F (y : Int) : orI .u8 (IntKind.u8.wrap y) 128 = y % 128 + 128 := by
  have h : orI .u8 (IntKind.u8.wrap y) 128 = (IntKind.u8.wrap y) % 128 + 128 := or128 (IntKind.u8.wrap y)
  have e := wu8_mod y
  omega
theorem and127F (y : Int) : andI .u8 (IntKind.u8.wrap y) 127 = y % 128 := by
  have h : andI .u8 (IntKind.u8.wrap y) 127 = (IntKind.u8.wrap y) % 128 := and127 (IntKind.u8.wrap y)
  have e := wu8_mod y
  omega
theorem shrI7 (k : IntKind) (hk : 7 ≤ k.bits) (y : Int) : shrI k y 7 = y / 128 := by
  unfold shrI
  rw [show min (7 : Int).toNat k.bits = 7 from by simp; omega, Int.fdiv_eq_ediv_of_nonneg _ (by decide)]
  rfl
theorem PutU_loop : ∀ (n x : Nat) (b : List UInt8), x < 18446744073709551616 → (encU x).length ≤ n → b.length + (encU x).length ≤ 1099511627776 → zJ n (x : Int) b = some (b ++ encU x)
  | 0, x, _, _, h, _ => by have := encU_pos x; omega
  | n + 1, x, b, hx, h, hb => by
    show z5 _ (x : Int) b = _
    unfold z5
    by_cases hbig : x > 127
    · rw [encU_big hbig] at h hb ⊢
      simp only [List.length_cons] at h hb
      rw [decT (by omega), if_pos rfl, or128F, u8o_lit (k := x % 128 + 128) (by omega) (by omega), Option.bind_some, room_ok (by omega), Option.bind_some, shrI7 _ (by decide), show (x : Int) / 128 = ((x / 128 : Nat) : Int) from by omega, PutU_loop n (x / 128) _ (by omega) (by omega) (by simp; omega)]
      simp
    · rw [encU_small hbig] at hb ⊢
      simp only [List.length_cons, List.length_nil] at hb
      rw [decF (by omega), if_neg (by simp), u8o_wrap, Option.bind_some, room_ok (by omega), Option.bind_some, show ((x : Int) % 256).toNat = x from by omega]
theorem zcT {l : List UInt8} {x : Nat} (hl : l.length ≤ 1099511627000) (hx : x < 18446744073709551616) : zh l (x : Int) = some (l ++ encU x) := by
  unfold zh zA
  have h10 := encU_le10 hx
  rw [room_ok (by omega), Option.bind_some, Option.bind_some, PutU_loop big x l hx (by unfold big; omega) (by omega)]
theorem PutS_loop : ∀ (n : Nat) (x : Int) (b : List UInt8), (encS x).length ≤ n → b.length + (encS x).length ≤ 1099511627776 → zbD n x b = some (b ++ encS x)
  | 0, x, _, h, _ => by have := encS_pos x; omega
  | n + 1, x, b, h, hb => by
    show zbh _ x b = _
    unfold zbh
    by_cases hbig : x > 63 ∨ x < -64
    · rw [encS_big hbig] at h hb ⊢
      simp only [List.length_cons] at h hb
      rw [if_pos (by simpa using hbig), or128F, u8o_lit (k := (x % 128).toNat + 128) (by omega) (by omega), Option.bind_some, room_ok (by omega), Option.bind_some, shrI7 _ (by decide), PutS_loop n (x / 128) _ (by omega) (by simp; omega)]
      simp
    · rw [encS_small hbig] at hb ⊢
      simp only [List.length_cons, List.length_nil] at hb
      rw [if_neg (by simpa using hbig), and127F, u8o_lit (k := (x % 128).toNat) (by omega) (by omega), Option.bind_some, room_ok (by omega), Option.bind_some]
theorem zdF {l : List UInt8} {x : Int} (hl : l.length ≤ 1099511627000) (hx : -9223372036854775808 ≤ x ∧ x ≤ 9223372036854775807) : zD l x = some (l ++ encS x) := by
  unfold zD zA
  have h10 := encS_le10 hx.1 hx.2
  rw [room_ok (by omega), Option.bind_some, Option.bind_some, PutS_loop big x l (by unfold big; omega) (by omega)]
theorem shl7I {b i : Nat} (hi : i < 10) : shlO .u64 (IntKind.u64.wrap ((b : Int) % 128)) (IntKind.i64.wrap (7 * (i : Int))) = some ((b % 128 * 2 ^ (7 * i) % 18446744073709551616 : Nat) : Int) := by
  have h := shl7 (b := b) hi
  have e : IntKind.i64.wrap (7 * (i : Int)) = ((7 * i : Nat) : Int) := by rw [wi64 (by omega)]; omega
  rw [e] at h ⊢
  rw [shl_nat (k := .u64) _ (7 * i) (show _ ≤ 64 by omega)] at h
  injection h with h
  injection h with _ h
  unfold shlO shlI
  rw [if_neg (by omega)]
  congr 1
  rw [show min ((7 * i : Nat) : Int).toNat IntKind.u64.bits = 7 * i from by rw [Int.toNat_natCast]; exact Nat.min_eq_left (show 7 * i ≤ 64 by omega)]
  exact h
theorem digits_loop (l : List UInt8) (hl : l.length ≤ 1099511627776) : ∀ (n i s : Nat), i ≤ min l.length 10 → 10 - i < n → s < 2 ^ (7 * i) → s < 18446744073709551616 → dig 10 l = (dig (10 - i) (l.drop i)).map (fun p => (s + 2 ^ (7 * i) * p.1, p.2 + i)) → zbq l n (s : Int) (i : Int) = some ((digX l : Int), (digN l : Int))
  | 0, i, s, hi, h, _, _, _ => by omega
  | n + 1, i, s, hi, h, hs, hs64, hd => by
    show zW _ l (s : Int) (i : Int) = _
    unfold zW
    have hm : minI (l.length : Int) 10 = ((min l.length 10 : Nat) : Int) := by unfold minI; split <;> omega
    rw [hm]
    by_cases hlt : i < min l.length 10
    · have hil : i < l.length := by omega
      rw [show 10 - i = (9 - i) + 1 from by omega, dig_at hil] at hd
      have ha : andI .u8 (l[i].toNat : Int) 127 = (l[i].toNat : Int) % 128 := and127 _
      have ho : orI .u64 (s : Int) ((l[i].toNat % 128 * 2 ^ (7 * i) % 18446744073709551616 : Nat) : Int) = _ := or7 (b := l[i].toNat) (show i < 10 by omega) hs hs64
      rw [decT (by omega), if_pos rfl, getI_lt hil, Option.bind_some, ha, shl7I (show i < 10 by omega), Option.bind_some, Option.bind_some, ho, i64_succ (by omega)]
      by_cases hb : l[i].toNat < 128
      · rw [if_pos hb] at hd
        rw [decT (by omega), if_pos rfl]
        have hX : digX l = (s + l[i].toNat % 128 * 2 ^ (7 * i)) % 18446744073709551616 := by
          rw [digX, hd]
          show (s + 2 ^ (7 * i) * l[i].toNat) % _ = _
          rw [Nat.mod_eq_of_lt (show l[i].toNat < 128 by omega), Nat.mul_comm]
        have hN : digN l = 1 + i := by rw [digN, hd]; rfl
        rw [hX, hN, Nat.add_comm 1 i]
      · rw [if_neg hb] at hd
        rw [decF (by omega), if_neg (by simp)]
        have e7 : 2 ^ (7 * (i + 1)) = 2 ^ (7 * i) * 128 := by rw [Nat.mul_add, Nat.pow_add]
        have hm := Nat.mul_le_mul_right (2 ^ (7 * i)) (show l[i].toNat % 128 ≤ 127 by omega)
        have hlt7 : s + l[i].toNat % 128 * 2 ^ (7 * i) < 2 ^ (7 * (i + 1)) := by omega
        refine digits_loop l hl n (i + 1) _ (by omega) (by omega) (Nat.lt_of_le_of_lt (Nat.mod_le _ _) hlt7) (Nat.mod_lt _ (by omega)) ?_
        rw [hd, show 9 - i = 10 - (i + 1) from by omega]
        by_cases h9 : i = 9
        · subst h9; rfl
        · have hp : 2 ^ (7 * (i + 1)) ≤ 2 ^ 63 := Nat.pow_le_pow_right (by omega) (by omega)
          rw [Nat.mod_eq_of_lt (show s + l[i].toNat % 128 * 2 ^ (7 * i) < 18446744073709551616 by omega), Option.map_map]
          congr 1
          funext p
          show (s + 2 ^ (7 * i) * (l[i].toNat % 128 + 128 * p.1), p.2 + 1 + i) = (_, _)
          rw [e7, Nat.mul_add, Nat.mul_comm (2 ^ (7 * i)) (l[i].toNat % 128), Nat.mul_assoc, Nat.add_assoc, Nat.add_assoc, Nat.add_comm 1 i]
    · have hz : dig (10 - i) (l.drop i) = none := by
        by_cases h10 : l.length < 10
        · rw [List.drop_eq_nil_of_le (by omega), dig_nil]
        · rw [show 10 - i = 0 from by omega]; rfl
      rw [hz] at hd
      rw [decF (by omega), if_neg (by simp), digX, digN, hd]
      rfl
theorem zcv {l : List UInt8} (hl : l.length ≤ 1099511627776) : zbn l = some ((digX l : Int), (digN l : Int)) := by
  refine digits_loop l hl big 0 0 (by omega) (big_gt (by omega)) (by decide) (by omega) ?_
  simp
theorem Equal_loop (l m : List UInt8) (hl : l.length ≤ 1099511627776) (hlm : l.length = m.length) : ∀ (n i : Nat), i ≤ l.length → l.length - i < n → zP l m n (i : Int) = some (decide (l.drop i = m.drop i))
  | 0, i, _, h => by omega
  | n + 1, i, hi, h => by
    show z6 _ l m (i : Int) = _
    unfold z6
    by_cases hlt : i < l.length
    · have hlt2 : i < m.length := by omega
      rw [decT (by omega), if_pos rfl, getI_lt hlt, Option.bind_some, getI_lt hlt2, Option.bind_some, List.drop_eq_getElem_cons hlt, List.drop_eq_getElem_cons hlt2]
      by_cases he : l[i] = m[i]
      · rw [bneF (u8toNat_inj.2 he), if_neg (by simp), i64_succ (by omega), Equal_loop l m hl hlm n (i + 1) (by omega) (by omega), he]
        congr 1
        rw [decide_eq_decide]
        exact ⟨fun h => by rw [h], fun h => by injection h⟩
      · rw [bneT (fun h => he (u8toNat_inj.1 h)), if_pos rfl, decF]
        intro h2
        injection h2 with h3 h4
        exact he h3
    · rw [decF (by omega), if_neg (by simp), List.drop_of_length_le (by omega), List.drop_of_length_le (by omega), decT rfl]
theorem zcM {l m : List UInt8} (hl : l.length ≤ 1099511627776) : zx l m = some (decide (l = m)) := by
  unfold zx
  by_cases h : l.length = m.length
  · rw [bneF (by omega), if_neg (by simp)]
    exact Equal_loop l m hl h big 0 (by omega) (big_gt (by omega))
  · rw [bneT (by omega), if_pos rfl, decF (fun e => h (by rw [e]))]
theorem F_U {l : List UInt8} {x : Int} (hl : l.length ≤ 1099511627776) (hx : -9223372036854775808 ≤ x ∧ x ≤ 9223372036854775807) : zi l x = some (((rdU l x).1 : Int), (rdU l x).2.1, (rdU l x).2.2) := by
  unfold zi zbK
  by_cases hc : x < 0 ∨ x > l.length
  · rw [if_pos (by simpa using hc), rdU, if_pos (by omega)]
    rfl
  · obtain ⟨i, rfl⟩ : ∃ i : Nat, x = i := ⟨x.toNat, by omega⟩
    have hil : i ≤ l.length := by omega
    rw [if_neg (by simpa using hc), cutI_ok hil (Nat.le_refl _), List.take_length, Option.bind_some, zcv (by simp; omega), Option.bind_some]
    generalize hX : digX (l.drop i) = y
    generalize hN : digN (l.drop i) = n
    have hy64 : y < 18446744073709551616 := hX ▸ digX_lt _
    have hn := digN_le (l.drop i)
    rw [hN, List.length_drop] at hn
    have hw : IntKind.i64.wrap ((i : Int) + (n : Int)) = ((i + n : Nat) : Int) := i64_add (by omega)
    have hrd : rdU l i = if n = 0 ∨ encU y ≠ (l.drop i).take n then (0, 0, 5) else (y, (i : Int) + n, 0) := by
      rw [rdU, if_neg (by omega)]
      simp only [Int.toNat_natCast, hX, hN]
    have h10 := encU_le10 hy64
    unfold zbX
    rw [Option.bind_some, hrd]
    by_cases hn0 : n = 0
    · rw [beqT (by omega), if_pos rfl, Option.bind_some, if_pos rfl, if_pos (Or.inl hn0)]
      rfl
    · rw [beqF (by omega), if_neg (by simp)]
      simp only [hw]
      rw [cutI_ok (by omega) (by omega), Option.bind_some, zcT (by simp) hy64, Option.bind_some, zcM (by simp; omega), Option.bind_some, Option.bind_some, List.nil_append, List.drop_take, Nat.add_sub_cancel_left]
      by_cases he : encU y = (l.drop i).take n
      · rw [decT he, Bool.not_true, if_neg (by simp), if_neg (by simp [hn0, he]), Option.bind_some]
        simp
      · rw [decF he, Bool.not_false, if_pos rfl, if_pos (Or.inr he)]
        rfl
theorem P_S1 {x n : Nat} (hn : n ≤ 10) (hx : x < 2 ^ (7 * n)) (hx2 : x < 18446744073709551616) : ∃ y, z8 (x : Int) (n : Int) = some y ∧ (1 ≤ n → y = sgn x n) ∧ -9223372036854775808 ≤ y ∧ y ≤ 9223372036854775807 := by
  unfold z8
  have e1 : IntKind.i64.wrap (7 * (n : Int)) = 7 * n := wi64 (by omega)
  have e2 : IntKind.i64.wrap (64 - 7 * (n : Int)) = 64 - 7 * n := wi64 (by omega)
  have e3 : maxI 0 (64 - 7 * (n : Int)) = ((64 - 7 * n : Nat) : Int) := by unfold maxI; split <;> omega
  have e4 : ∀ (k : IntKind) (a : Int), 64 ≤ k.bits → shlO k a ((64 - 7 * n : Nat) : Int) = some (k.wrap (a * 2 ^ (64 - 7 * n))) := fun k a hk => by
    unfold shlO shlI
    rw [if_neg (by omega), Int.toNat_natCast, Nat.min_eq_left (by omega)]
  have e5 : ∀ (k : IntKind) (a : Int), 64 ≤ k.bits → shrO k a ((64 - 7 * n : Nat) : Int) = some (a / 2 ^ (64 - 7 * n)) := fun k a hk => by
    unfold shrO shrI
    rw [if_neg (by omega), Int.toNat_natCast, Nat.min_eq_left (by omega), Int.fdiv_eq_ediv_of_nonneg]
    exact Int.le_of_lt (Int.pow_pos (by decide))
  rw [e1, e2, e3, e4 _ _ (by decide), Option.bind_some, e5 _ _ (by decide), Option.bind_some]
  refine ⟨_, rfl, fun h1 => sgn_eq h1 hn hx hx2, ?_⟩
  by_cases h1 : 1 ≤ n
  · rw [sgn_eq h1 hn hx hx2]; exact sgn_bnd h1 hn hx hx2
  · have : n = 0 := by omega
    subst this
    have : x = 0 := by simpa using hx
    subst this
    decide
theorem F_S {l : List UInt8} {x : Int} (hl : l.length ≤ 1099511627776) (hx : -9223372036854775808 ≤ x ∧ x ≤ 9223372036854775807) : zbs l x = some ((rdS l x).1, (rdS l x).2.1, (rdS l x).2.2) := by
  unfold zbs zbL
  by_cases hc : x < 0 ∨ x > l.length
  · rw [if_pos (by simpa using hc), rdS, if_pos (by omega)]
    rfl
  · obtain ⟨i, rfl⟩ : ∃ i : Nat, x = i := ⟨x.toNat, by omega⟩
    have hil : i ≤ l.length := by omega
    rw [if_neg (by simpa using hc), cutI_ok hil (Nat.le_refl _), List.take_length, Option.bind_some, zcv (by simp; omega), Option.bind_some]
    have hxp := digX_pow (l.drop i)
    generalize hX : digX (l.drop i) = y at hxp
    generalize hN : digN (l.drop i) = n at hxp
    have hy64 : y < 18446744073709551616 := hX ▸ digX_lt _
    have hn := digN_le (l.drop i)
    rw [hN, List.length_drop] at hn
    have hw : IntKind.i64.wrap ((i : Int) + (n : Int)) = ((i + n : Nat) : Int) := i64_add (by omega)
    have hrd : rdS l i = if n = 0 ∨ encS (sgn y n) ≠ (l.drop i).take n then (0, 0, 5) else (sgn y n, (i : Int) + n, 0) := by
      rw [rdS, if_neg (by omega)]
      simp only [Int.toNat_natCast, hX, hN]
    obtain ⟨z, hz, hz2, hz3⟩ := P_S1 hn.1 hxp hy64
    have h10 := encS_le10 hz3.1 hz3.2
    rw [hz, Option.bind_some, hrd]
    by_cases hn0 : n = 0
    · rw [beqT (by omega), if_pos rfl, Option.bind_some, if_pos rfl, if_pos (Or.inl hn0)]
      rfl
    · rw [beqF (by omega), if_neg (by simp)]
      simp only [hw]
      rw [cutI_ok (by omega) (by omega), Option.bind_some, zdF (by simp) hz3, Option.bind_some, zcM (by simp; omega), Option.bind_some, Option.bind_some, List.nil_append, List.drop_take, Nat.add_sub_cancel_left, ← hz2 (by omega)]
      by_cases he : encS z = (l.drop i).take n
      · rw [decT he, Bool.not_true, if_neg (by simp), if_neg (by simp [hn0, he]), Option.bind_some]
        simp
      · rw [decF he, Bool.not_false, if_pos rfl, if_pos (Or.inr he)]
        rfl
theorem shl1 {k : IntKind} {n : Nat} (hk : 64 ≤ k.bits) (hn : n ≤ 64) : shlO k 1 (n : Int) = some (k.wrap ((2 ^ n : Nat) : Int)) := by
  unfold shlO shlI
  rw [if_neg (by omega), Int.toNat_natCast, Nat.min_eq_left (by omega), Int.one_mul]
  simp
theorem zdv {x n : Nat} (hx : x < 18446744073709551616) (h1 : 1 ≤ n) (h10 : n ≤ 10) : zX (x : Int) (n : Int) = some (decide ((encU x).length ≤ n)) := by
  unfold zX
  have f1 : IntKind.i64.wrap (7 * (n : Int)) = ((7 * n : Nat) : Int) := by rw [wi64 (by omega)]; omega
  rw [f1]
  by_cases hn : 7 * n ≥ 64
  · rw [decT (by omega), if_pos rfl, Option.bind_some]
    have := encU_le10 hx
    rw [decT (show (encU x).length ≤ n by omega)]
  · have f2 : IntKind.u64.wrap ((7 * n : Nat) : Int) = ((7 * n : Nat) : Int) := wu64 (by omega)
    have hp : 2 ^ (7 * n) < 18446744073709551616 := Nat.lt_of_le_of_lt (Nat.pow_le_pow_right (by omega) (show 7 * n ≤ 63 by omega)) (by decide)
    have hl := lenU_iff (n - 1) x
    rw [Nat.sub_add_cancel h1, ← pow7] at hl
    rw [decF (by omega), if_neg (by simp), f2, shl1 (by decide) (by omega), wu64 (by generalize 2 ^ (7 * n) = q at *; omega), Option.bind_some, Option.bind_some]
    congr 1
    rw [decide_eq_decide, hl]
    omega
theorem shl1s {k : IntKind} {n : Nat} (hk : 64 ≤ k.bits) (hn : n ≤ 64) : shlO k 1 (n : Int) = some (k.wrap ((2 ^ n : Nat) : Int)) := by
  unfold shlO shlI
  rw [if_neg (by omega), Int.toNat_natCast, Nat.min_eq_left (by omega), Int.one_mul]
  simp
theorem zdu {x : Int} {n : Nat} (hx : -9223372036854775808 ≤ x ∧ x ≤ 9223372036854775807) (h1 : 1 ≤ n) (h10 : n ≤ 10) : zba x (n : Int) = some (decide ((encS x).length ≤ n)) := by
  unfold zba
  have f1 : IntKind.i64.wrap (7 * (n : Int)) = ((7 * n : Nat) : Int) := by rw [wi64 (by omega)]; omega
  have f2 : IntKind.i64.wrap (((7 * n : Nat) : Int) - 1) = ((7 * n - 1 : Nat) : Int) := by rw [wi64 (by omega)]; omega
  rw [f1, f2]
  by_cases hn : 7 * n - 1 ≥ 63
  · rw [decT (by omega), if_pos rfl]
    have := encS_le10 hx.1 hx.2
    rw [decT (show (encS x).length ≤ n by omega)]
  · have f3 : IntKind.u64.wrap ((7 * n - 1 : Nat) : Int) = ((7 * n - 1 : Nat) : Int) := wu64 (by omega)
    have hl := lenS_iff (n - 1) x
    rw [Nat.sub_add_cancel h1] at hl
    have hp : 2 ^ (7 * n - 1) = 64 * 128 ^ (n - 1) := by rw [← pow7, show 7 * n - 1 = 6 + 7 * (n - 1) from by omega, Nat.pow_add]
    have hp2 : 2 ^ (7 * n - 1) ≤ 4611686018427387904 := Nat.le_trans (Nat.pow_le_pow_right (by omega) (show 7 * n - 1 ≤ 62 by omega)) (by decide)
    have e : ((128 ^ (n - 1) : Nat) : Int) = 128 ^ (n - 1) := by simp
    rw [← e] at hl
    rw [decF (by omega), if_neg (by simp), f3, shl1s (by decide) (by omega), Option.bind_some, hp]
    rw [hp] at hp2
    generalize 128 ^ (n - 1) = q at *
    have f5 : IntKind.i64.wrap (((64 * q : Nat)) : Int) = ((64 * q : Nat) : Int) := wi64 (by omega)
    have f6 : IntKind.i64.wrap (0 - ((64 * q : Nat) : Int)) = -((64 * q : Nat) : Int) := by rw [wi64 (by omega)]; omega
    rw [f5, f6]
    by_cases hlo : x ≥ -((64 * q : Nat) : Int)
    · rw [decT hlo, if_pos rfl, Option.bind_some, Option.bind_some]
      congr 1
      rw [decide_eq_decide, hl]
      omega
    · rw [decF hlo, if_neg (by simp), Option.bind_some]
      congr 1
      rw [eq_comm, decide_eq_false_iff_not, hl]
      omega
theorem rdig_loop (neg : Bool) (n : Nat) (h1 : 1 ≤ n) (h10 : n ≤ 10) : ∀ (g i : Nat) (z : Int) (b : List UInt8), i ≤ n → n - i < g → (z < 0 ↔ neg = true) → (-9223372036854775808 ≤ z ∧ z < 18446744073709551616) → b.length ≤ 1099511627700 + i →
    zk neg (n : Int) g (z % 18446744073709551616) b (i : Int) = some (b ++ digsZ z (n - i))
  | 0, i, z, b, _, h, _, _, _ => by omega
  | g + 1, i, z, b, hi, h, hz, hr, hb => by
    show z3 _ neg (n : Int) (z % 18446744073709551616) b (i : Int) = _
    unfold z3 zL
    by_cases hlt : i < n
    · have f1 : (z % 18446744073709551616).tmod 128 = z % 128 := by rw [Int.tmod_eq_emod_of_nonneg (by omega)]; omega
      have f2 : IntKind.u64.wrap ((z % 18446744073709551616).tdiv 128) = z % 18446744073709551616 / 128 := by rw [Int.tdiv_eq_ediv_of_nonneg (by omega), wu64 (by omega)]
      have f5 : IntKind.i64.wrap ((n : Int) - 1) = n - 1 := wi64 (by omega)
      have f6 : IntKind.u64.wrap (z % 128 + 128) = z % 128 + 128 := wu64 (by omega)
      have hnext : (if neg = true then (orI .u64 (z % 18446744073709551616 / 128) 18302628885633695744) else z % 18446744073709551616 / 128) = (z / 128) % 18446744073709551616 := by
        cases neg
        · rw [if_neg (by simp)]
          have : ¬ z < 0 := fun h => by have := hz.1 h; cases this
          omega
        · rw [if_pos rfl]
          have hneg := hz.2 rfl
          obtain ⟨m, hm⟩ : ∃ m : Nat, z % 18446744073709551616 / 128 = m := ⟨(z % 18446744073709551616 / 128).toNat, by omega⟩
          rw [hm]
          have := or_add (a := m) (b := 18302628885633695744) (k := 57) (by omega) (by decide) (by omega)
          refine Eq.trans this ?_
          omega
      have ih := rdig_loop neg n h1 h10 g (i + 1) (z / 128)
      have hs : z / 128 < 0 ↔ neg = true := by rw [← hz]; omega
      rw [decT (by omega), if_pos rfl]
      have key : ∀ X : Int, X = (z / 128) % 18446744073709551616 → (if decide ((i : Int) < IntKind.i64.wrap ((n : Int) - 1)) = true then (u8o (IntKind.u8.wrap (IntKind.u64.wrap (Int.tmod (z % 18446744073709551616) 128 + 128)))).bind fun z76 => (room (b.length + 1)).bind fun _ => zk neg (n : Int) g X (b ++ [z76]) (IntKind.i64.wrap ((i : Int) + 1)) else (u8o (IntKind.u8.wrap (Int.tmod (z % 18446744073709551616) 128))).bind fun z81 => (room (b.length + 1)).bind fun _ => zk neg (n : Int) g X (b ++ [z81]) (IntKind.i64.wrap ((i : Int) + 1))) = some (b ++ digsZ z (n - i)) := by
        rintro X rfl
        rw [f1, f5, f6, i64_succ (by omega)]
        by_cases hl : i + 1 < n
        · rw [decT (by omega), if_pos rfl, u8o_wrap, Option.bind_some, room_ok (by omega), Option.bind_some, ih _ (by omega) (by omega) hs (by omega) (by simp; omega), show n - i = (n - i - 2) + 2 from by omega, digsZ, show n - (i + 1) = (n - i - 2) + 1 from by omega, show ((z % 128 + 128) % 256).toNat = (z % 128).toNat + 128 from by omega]
          simp
        · rw [decF (by omega), if_neg (by simp), u8o_wrap, Option.bind_some, room_ok (by omega), Option.bind_some, ih _ (by omega) (by omega) hs (by omega) (by simp; omega), show n - i = 1 from by omega, digsZ, show n - (i + 1) = 0 from by omega, digsZ, show (z % 128 % 256).toNat = (z % 128).toNat from by omega]
          simp
      cases neg
      · rw [if_neg (by simp)]
        exact key _ (by rw [f2]; simpa using hnext)
      · rw [if_pos rfl]
        exact key _ (by rw [f2]; simpa using hnext)
    · rw [decF (by omega), if_neg (by simp), show n - i = 0 from by omega, digsZ, List.append_nil]
theorem zcu {l : List UInt8} {y : Int} {n : Nat} (hl : l.length ≤ 1099511627000) (hy : -9223372036854775808 ≤ y ∧ y < 18446744073709551616) (h1 : 1 ≤ n) (h10 : n ≤ 10) : zC l (y % 18446744073709551616) (decide (y < 0)) (n : Int) = some (l ++ digsZ y n) := by
  unfold zC
  rw [zds hl, Option.bind_some]
  exact rdig_loop (decide (y < 0)) n h1 h10 big 0 y l (by omega) (big_gt (by omega)) (by simp) hy (by omega)
theorem rPutU_loop {l : List UInt8} {x : Nat} (hl : l.length ≤ 1099511627000) (hx : x < 18446744073709551616) : ∀ (g k : Nat), 1 ≤ k → k ≤ (encU x).length → (encU x).length - k < g → zF l (x : Int) g (k : Int) = some (l ++ encU x)
  | 0, k, _, _, h => by omega
  | g + 1, k, hk, hk2, h => by
    have h10 := encU_le10 hx
    show zN _ l (x : Int) (k : Int) = _
    unfold zN
    rw [zdv hx hk (by omega), Option.bind_some]
    by_cases hf : (encU x).length ≤ k
    · have hkl : k = (encU x).length := by omega
      have := zcu (l := l) (y := (x : Int)) (n := k) hl (by omega) hk (by omega)
      rw [show (x : Int) % 18446744073709551616 = x from by omega, decF (show ¬ (x : Int) < 0 by omega), digsZ_U k x hkl.symm] at this
      rw [decT hf, Bool.not_true, if_neg (by simp), this]
      rfl
    · rw [decF hf, Bool.not_false, if_pos rfl, i64_succ (by omega)]
      exact rPutU_loop hl hx g (k + 1) (by omega) (by omega) (by omega)
theorem zcW {l : List UInt8} {x : Nat} (hl : l.length ≤ 1099511627000) (hx : x < 18446744073709551616) : zbM l (x : Int) = some (l ++ encU x) := by
  have h10 := encU_le10 hx
  exact rPutU_loop hl hx big 1 (by omega) (encU_pos x) (by unfold big; omega)
theorem rPutS_loop {l : List UInt8} {x : Int} (hl : l.length ≤ 1099511627000) (hx : -9223372036854775808 ≤ x ∧ x ≤ 9223372036854775807) : ∀ (g k : Nat), 1 ≤ k → k ≤ (encS x).length → (encS x).length - k < g → zI l x g (k : Int) = some (l ++ encS x)
  | 0, k, _, _, h => by omega
  | g + 1, k, hk, hk2, h => by
    have h10 := encS_le10 hx.1 hx.2
    show zbt _ l x (k : Int) = _
    unfold zbt
    rw [zdu hx hk (by omega), Option.bind_some]
    by_cases hf : (encS x).length ≤ k
    · have hkl : k = (encS x).length := by omega
      have := zcu (l := l) (y := x) (n := k) hl (by omega) hk (by omega)
      rw [digsZ_S k x hkl.symm] at this
      rw [decT hf, Bool.not_true, if_neg (by simp), wu64_mod, this]
      rfl
    · rw [decF hf, Bool.not_false, if_pos rfl, i64_succ (by omega)]
      exact rPutS_loop hl hx g (k + 1) (by omega) (by omega) (by omega)
theorem zdl {l : List UInt8} {x : Int} (hl : l.length ≤ 1099511627000) (hx : -9223372036854775808 ≤ x ∧ x ≤ 9223372036854775807) : zb5 l x = some (l ++ encS x) := by
  have h10 := encS_le10 hx.1 hx.2
  exact rPutS_loop hl hx big 1 (by omega) (encS_pos x) (by unfold big; omega)
theorem stands_loop (l m : List UInt8) (i0 : Nat) (hl : l.length ≤ 1099511627776) (hm : i0 + m.length ≤ l.length) : ∀ (n i : Nat), i ≤ m.length → m.length - i < n → zbb l (i0 : Int) m n (i : Int) = some (decide (m.drop i = ((l.drop i0).take m.length).drop i))
  | 0, i, _, h => by omega
  | n + 1, i, hi, h => by
    show zbz _ l (i0 : Int) m (i : Int) = _
    unfold zbz
    by_cases hlt : i < m.length
    · have hi2 : i < ((l.drop i0).take m.length).length := by simp only [List.length_take, List.length_drop]; omega
      have hel : ((l.drop i0).take m.length)[i] = l[i0 + i] := by simp
      rw [decT (by omega), if_pos rfl, i64_add (by omega), getI_lt (show i0 + i < l.length by omega), Option.bind_some, getI_lt hlt, Option.bind_some, List.drop_eq_getElem_cons hlt, List.drop_eq_getElem_cons hi2, hel]
      by_cases he : m[i] = l[i0 + i]
      · rw [bneF (u8toNat_inj.2 he.symm), if_neg (by simp), i64_succ (by omega), stands_loop l m i0 hl hm n (i + 1) (by omega) (by omega), he]
        congr 1
        rw [decide_eq_decide]
        exact ⟨fun h => by rw [h], fun h => by injection h⟩
      · rw [bneT (fun h => he (u8toNat_inj.1 h).symm), if_pos rfl, decF]
        intro h2
        injection h2 with h3 h4
        exact he h3
    · rw [decF (by omega), if_neg (by simp), List.drop_of_length_le (by omega), List.drop_of_length_le (by simp only [List.length_take, List.length_drop]; omega), decT rfl]
theorem zcq {l m : List UInt8} {i0 : Nat} (hl : l.length ≤ 1099511627776) (hi : i0 ≤ l.length) (hm : m.length ≤ 1099511627776) : zu l (i0 : Int) m = some (decide (m = (l.drop i0).take m.length)) := by
  unfold zu
  have f1 : IntKind.i64.wrap ((l.length : Int) - i0) = (l.length : Int) - i0 := wi64 (by omega)
  rw [f1]
  by_cases hb : (m.length : Int) > (l.length : Int) - i0
  · rw [decT hb, if_pos rfl, decF (fun h => by have := congrArg List.length h; simp only [List.length_take, List.length_drop] at this; omega)]
  · rw [decF hb, if_neg (by simp)]
    have := stands_loop l m i0 hl (by omega) big 0 (by omega) (big_gt (by omega))
    rw [List.drop_zero, List.drop_zero] at this
    exact this
theorem long_loop (l : List UInt8) (i0 : Nat) (hl : l.length ≤ 1099511627776) (hi0 : i0 ≤ l.length) : ∀ (n i : Nat), i ≤ 10 → 10 - i < n → (dig 10 (l.drop i0)).map (·.2) = (dig (10 - i) (l.drop (i0 + i))).map (·.2 + i) → zbf l (i0 : Int) n (i : Int) = some (digN (l.drop i0) : Int)
  | 0, i, _, h, _ => by omega
  | n + 1, i, hi, h, hd => by
    show zbg _ l (i0 : Int) (i : Int) = _
    unfold zbg
    have hN : digN (l.drop i0) = ((dig 10 (l.drop i0)).map (·.2)).getD 0 := by unfold digN; split <;> simp [*]
    rw [i64_add (by omega)]
    by_cases hlt : i < 10 ∧ i0 + i < l.length
    · rw [decT (by omega), decT (by omega), Bool.and_self, if_pos rfl, getI_lt hlt.2, Option.bind_some, i64_succ (by omega)]
      rw [show 10 - i = (9 - i) + 1 from by omega, dig_at hlt.2] at hd
      by_cases hb : l[i0 + i].toNat < 128
      · rw [if_pos hb] at hd
        rw [decT (by omega), if_pos rfl, hN, hd]
        simp [Nat.add_comm]
      · rw [if_neg hb] at hd
        rw [decF (by omega), if_neg (by simp)]
        refine long_loop l i0 hl hi0 n (i + 1) (by omega) (by omega) ?_
        rw [hd, show 10 - (i + 1) = 9 - i from by omega, ← Nat.add_assoc, Option.map_map]
        congr 1
        funext p
        show p.2 + 1 + i = p.2 + (i + 1)
        omega
    · rw [if_neg (by simp only [Bool.and_eq_true, decide_eq_true_eq]; omega), hN, hd]
      by_cases h10 : i < 10
      · rw [List.drop_eq_nil_of_le (by omega), dig_nil]; rfl
      · rw [show 10 - i = 0 from by omega]; rfl
theorem zcz {l : List UInt8} {i0 : Nat} (hl : l.length ≤ 1099511627776) (hi : i0 ≤ l.length) : zbo l (i0 : Int) = some (digN (l.drop i0) : Int) :=
  long_loop l i0 hl hi big 0 (by omega) (big_gt (by omega)) (by simp)
theorem sum_loop (l : List UInt8) (i0 m : Nat) (hl : l.length ≤ 1099511627776) (hi0 : i0 + m ≤ l.length) : ∀ (n j Y : Nat), j ≤ m → j < n → Y = sumD (m - j) (l.drop (i0 + j)) % 18446744073709551616 → zbp l (i0 : Int) n (Y : Int) ((j : Int) - 1) = some ((sumD m (l.drop i0) % 18446744073709551616 : Nat) : Int)
  | 0, j, Y, _, h, _ => by omega
  | n + 1, j, Y, hj, h, hY => by
    show z1 _ l (i0 : Int) (Y : Int) ((j : Int) - 1) = _
    unfold z1
    by_cases hlt : 1 ≤ j
    · have hil : i0 + (j - 1) < l.length := by omega
      have f2 : IntKind.i64.wrap ((i0 : Int) + (j - 1)) = ((i0 + (j - 1) : Nat) : Int) := by rw [wi64 (by omega)]; omega
      have hb := UInt8.lt l[i0 + (j - 1)]
      have hs := sumD_at (n := m - j) hil
      rw [show m - j + 1 = m - (j - 1) from by omega, show i0 + (j - 1) + 1 = i0 + j from by omega] at hs
      rw [decT (by omega), if_pos rfl, f2, getI_lt hil, Option.bind_some]
      generalize hB : l[i0 + (j - 1)].toNat = B at hb hs
      have f3 : (B : Int).tmod 128 = ((B % 128 : Nat) : Int) := by rw [Int.tmod_eq_emod_of_nonneg (by omega)]; rfl
      have f4 : IntKind.u64.wrap ((B % 128 : Nat) : Int) = ((B % 128 : Nat) : Int) := wu64 (by omega)
      have f5 : IntKind.u64.wrap (128 * (Y : Int)) = ((128 * Y % 18446744073709551616 : Nat) : Int) := by rw [wu64_mod]; omega
      have f6 : IntKind.u64.wrap (((128 * Y % 18446744073709551616 : Nat) : Int) + ((B % 128 : Nat) : Int)) = (((128 * Y % 18446744073709551616 + B % 128) % 18446744073709551616 : Nat) : Int) := by rw [wu64_mod]; omega
      have f7 : IntKind.i64.wrap ((j : Int) - 1 - 1) = ((j - 1 : Nat) : Int) - 1 := by rw [wi64 (by omega)]; omega
      rw [f3, f4, f5, f6, f7]
      refine sum_loop l i0 m hl hi0 n (j - 1) _ (by omega) (by omega) ?_
      rw [hs, hY]
      omega
    · rw [decF (by omega), if_neg (by simp), hY, show j = 0 from by omega, Nat.sub_zero, Nat.add_zero]
theorem zcy {l : List UInt8} {i0 m : Nat} (hl : l.length ≤ 1099511627776) (hm : m ≤ 100) (hi : i0 + m ≤ l.length) : zv l (i0 : Int) (m : Int) = some ((sumD m (l.drop i0) % 18446744073709551616 : Nat) : Int) := by
  unfold zv
  rw [wi64 (by omega)]
  exact sum_loop l i0 m hl hi big m 0 (by omega) (big_gt (by omega)) (by simp [sumD])
theorem F_rU {l : List UInt8} {x : Int} (hl : l.length ≤ 1099511627776) (hx : -9223372036854775808 ≤ x ∧ x ≤ 9223372036854775807) : zt l x = some (((rdU l x).1 : Int), (rdU l x).2.1, (rdU l x).2.2) := by
  unfold zt
  by_cases hc : x < 0 ∨ x > l.length
  · rw [if_pos (by simpa using hc), rdU, if_pos (by omega)]
    rfl
  · obtain ⟨i, rfl⟩ : ∃ i : Nat, x = i := ⟨x.toNat, by omega⟩
    have hil : i ≤ l.length := by omega
    have hn := digN_le (l.drop i)
    rw [List.length_drop] at hn
    have hX := digX_lt (l.drop i)
    have h10 := encU_le10 hX
    have hpre := encU_pre (l.drop i)
    have hrd : rdU l (i : Int) = if digN (l.drop i) = 0 ∨ encU (digX (l.drop i)) ≠ (l.drop i).take (digN (l.drop i)) then (0, 0, 5) else (digX (l.drop i), (i : Int) + (digN (l.drop i) : Nat), 0) := by
      rw [rdU, if_neg (by omega)]
      try rfl
    rw [hrd, if_neg (by simpa using hc), zcz hl hil, Option.bind_some, zcy hl (by omega) (by omega), digX_sum, Option.bind_some]
    by_cases hn0 : digN (l.drop i) = 0
    · rw [beqT (by omega), if_pos rfl, Option.bind_some, if_pos rfl, if_pos (Or.inl hn0)]
      rfl
    · rw [beqF (by omega), if_neg (by simp), zcW (by simp) hX, Option.bind_some, List.nil_append, zcq hl hil (by omega), Option.bind_some, Option.bind_some]
      by_cases he : encU (digX (l.drop i)) = (l.drop i).take (digN (l.drop i))
      · rw [decT ((hpre hn0).2 he), Bool.not_true, if_neg (by simp), if_neg (by simp [hn0, he]), i64_add (by omega)]
        simp
      · rw [decF (fun h => he ((hpre hn0).1 h)), Bool.not_false, if_pos rfl, if_pos (Or.inr he)]
        rfl
theorem F_rS {l : List UInt8} {x : Int} (hl : l.length ≤ 1099511627776) (hx : -9223372036854775808 ≤ x ∧ x ≤ 9223372036854775807) : zy l x = some ((rdS l x).1, (rdS l x).2.1, (rdS l x).2.2) := by
  unfold zy
  by_cases hc : x < 0 ∨ x > l.length
  · rw [if_pos (by simpa using hc), rdS, if_pos (by omega)]
  · obtain ⟨i, rfl⟩ : ∃ i : Nat, x = i := ⟨x.toNat, by omega⟩
    have hil : i ≤ l.length := by omega
    have hn := digN_le (l.drop i)
    rw [List.length_drop] at hn
    have hX := digX_lt (l.drop i)
    have hXp := digX_pow (l.drop i)
    have hrd : rdS l (i : Int) = if digN (l.drop i) = 0 ∨ encS (sgn (digX (l.drop i)) (digN (l.drop i))) ≠ (l.drop i).take (digN (l.drop i)) then ((0 : Int), (0 : Int), (5 : Int)) else (sgn (digX (l.drop i)) (digN (l.drop i)), (i : Int) + (digN (l.drop i) : Nat), 0) := by
      rw [rdS, if_neg (by omega)]
      try rfl
    rw [hrd, if_neg (by simpa using hc), zcz hl hil, Option.bind_some]
    by_cases hn0 : digN (l.drop i) = 0
    · rw [beqT (by omega), if_pos rfl, if_pos (Or.inl hn0)]
    · obtain ⟨w, hw, hw2⟩ := last64 (l.drop i) (by omega)
      have hb := sgn_bnd (x := digX (l.drop i)) (n := digN (l.drop i)) (by omega) (by omega) hXp hX
      have h10 := encS_le10 hb.1 hb.2
      have hpre := encS_pre (l.drop i) hb
      have fin : ∀ c : Int, IntKind.i64.wrap c = sgn (digX (l.drop i)) (digN (l.drop i)) → zz l (i : Int) ((digN (l.drop i) : Nat) : Int) c = some ((if digN (l.drop i) = 0 ∨ encS (sgn (digX (l.drop i)) (digN (l.drop i))) ≠ (l.drop i).take (digN (l.drop i)) then ((0 : Int), (0 : Int), (5 : Int)) else (sgn (digX (l.drop i)) (digN (l.drop i)), (i : Int) + (digN (l.drop i) : Nat), 0))) := by
        intro c hc
        unfold zz
        rw [hc, zdl (by simp) hb, Option.bind_some, List.nil_append, zcq hl hil (by omega), Option.bind_some]
        by_cases he : encS (sgn (digX (l.drop i)) (digN (l.drop i))) = (l.drop i).take (digN (l.drop i))
        · rw [decT (hpre.2 he), Bool.not_true, if_neg (by simp), if_neg (by simp [hn0, he]), i64_add (by omega)]
          simp
        · rw [decF (fun h => he (hpre.1 h)), Bool.not_false, if_pos rfl, if_pos (Or.inr he)]
      have hidx : IntKind.i64.wrap (IntKind.i64.wrap ((i : Int) + ((digN (l.drop i) : Nat) : Int)) - 1) = ((i + digN (l.drop i) - 1 : Nat) : Int) := by rw [i64_add (by omega), wi64 (by omega)]; omega
      have hget : getI l ((i + digN (l.drop i) - 1 : Nat) : Int) = some w := by
        rw [getI_cast, ← hw, List.getElem?_drop]
        congr 1
        omega
      rw [beqF (by omega), if_neg (by simp), zcy hl (by omega) (by omega), digX_sum, Option.bind_some, hidx, hget, Option.bind_some]
      by_cases hc10 : w.toNat ≥ 64 ∧ digN (l.drop i) < 10
      · have h7 : IntKind.i64.wrap (7 * ((digN (l.drop i) : Nat) : Int)) = ((7 * digN (l.drop i) : Nat) : Int) := by rw [wi64 (by omega)]; omega
        have h7u : IntKind.u64.wrap ((7 * digN (l.drop i) : Nat) : Int) = ((7 * digN (l.drop i) : Nat) : Int) := wu64 (by omega)
        have hp2 : 2 ^ (7 * digN (l.drop i)) ≤ 2 ^ 63 := Nat.pow_le_pow_right (by omega) (by omega)
        rw [decT (by omega), decT (by omega), Bool.and_self, if_pos rfl, h7, h7u]
        have hsh : shlO .u64 1 ((7 * digN (l.drop i) : Nat) : Int) = some ((2 ^ (7 * digN (l.drop i)) : Nat) : Int) := by
          unfold shlO shlI
          rw [if_neg (by omega), Int.toNat_natCast, Nat.min_eq_left (show 7 * digN (l.drop i) ≤ IntKind.u64.bits by show _ ≤ 64; omega), Int.one_mul]
          have e : ((2 ^ (7 * digN (l.drop i)) : Nat) : Int) = 2 ^ (7 * digN (l.drop i)) := by simp
          rw [← e, wu64 (by generalize 2 ^ (7 * digN (l.drop i)) = q at *; omega)]
        rw [hsh, Option.bind_some]
        refine Eq.trans (fin _ ?_) ?_
        · have hge := (hw2 hc10.2).1 hc10.1
          rw [wiu]
          unfold sgn
          rw [if_pos hc10.2, if_neg (by omega)]
          have e : ((2 ^ (7 * digN (l.drop i)) : Nat) : Int) = 2 ^ (7 * digN (l.drop i)) := by simp
          rw [← e]
          generalize 2 ^ (7 * digN (l.drop i)) = q at *
          rw [wi64 (by omega)]
        · split <;> rfl
      · rw [if_neg (by simp only [Bool.and_eq_true, decide_eq_true_eq]; omega)]
        refine Eq.trans (fin _ ?_) ?_
        · unfold sgn
          by_cases h9 : digN (l.drop i) < 10
          · rw [if_pos h9]
            have : ¬ 2 ^ (7 * digN (l.drop i) - 1) ≤ digX (l.drop i) := fun h => hc10 ⟨(hw2 h9).2 h, h9⟩
            rw [if_pos (by omega)]
            have hp2 : 2 ^ (7 * digN (l.drop i) - 1) ≤ 2 ^ 62 := Nat.pow_le_pow_right (by omega) (by omega)
            generalize 2 ^ (7 * digN (l.drop i) - 1) = q at *
            rw [wi64 (by omega)]
          · rw [if_neg h9]
        · split <;> rfl
end Go.Proofs.Ytjcehfjmmbbblaa
