import Derived.Test.YtckcngkkofemjaaAd
import Derived.Test.YtckcngkkofemjaaF
import Derived.Test.YtckcngkkofemjaaPL
namespace Go.Proofs.Ytckcngkkofemjaa
open Go.Ab Go.RowKit
set_option linter.unusedVariables false
set_option linter.unusedSimpArgs false
theorem copy_loop (l : List UInt8) (hl : l.length ≤ 1099511627000) : ∀ (n i : Nat) (acc : List UInt8), i ≤ l.length → l.length - i < n → acc.length ≤ i → zcN l n acc (i : Int) = some (acc ++ l.drop i)
  | 0, i, _, _, h, _ => by omega
  | n + 1, i, acc, hi, h, ha => by
    show zbY _ l acc (i : Int) = _
    unfold zbY
    by_cases hlt : i < l.length
    · rw [decT (by omega), if_pos rfl, getI_lt hlt, Option.bind_some]
      have ih := copy_loop l hl n (i + 1) (acc ++ [l[i]]) (by omega) (by omega) (by simp; omega)
      rw [List.append_assoc, List.singleton_append, ← List.drop_eq_getElem_cons hlt] at ih
      rw [room_ok (by simp; omega), Option.bind_some, i64_succ (by omega)]; exact ih
    · rw [decF (by omega), if_neg (by simp), List.drop_of_length_le (by omega), List.append_nil]
theorem zeJ {l : List UInt8} (hl : l.length ≤ 1099511627000) : zdf l = some l := by
  have := copy_loop l hl big 0 [] (by omega) (big_gt (by omega)) (by simp)
  exact this
theorem or128F (y : Int) : orI .u8 (IntKind.u8.wrap y) 128 = y % 128 + 128 := by
  have h : orI .u8 (IntKind.u8.wrap y) 128 = (IntKind.u8.wrap y) % 128 + 128 := or128 (IntKind.u8.wrap y)
  have e := wu8_mod y
  omega
theorem and127F (y : Int) : andI .u8 (IntKind.u8.wrap y) 127 = y % 128 := by
  have h : andI .u8 (IntKind.u8.wrap y) 127 = (IntKind.u8.wrap y) % 128 := and127 (IntKind.u8.wrap y)
  have e := wu8_mod y
  omega
theorem shrI7 (k : IntKind) (hk : 7 ≤ k.bits) (y : Int) : shrI k y 7 = y / 128 := by
  unfold shrI
  rw [show min (7 : Int).toNat k.bits = 7 from by simp; omega, Int.fdiv_eq_ediv_of_nonneg _ (by decide)]
  rfl
theorem PutU_loop : ∀ (n x : Nat) (b : List UInt8), x < 18446744073709551616 → (encU x).length ≤ n → b.length + (encU x).length ≤ 1099511627776 → zbC n (x : Int) b = some (b ++ encU x)
  | 0, x, _, _, h, _ => by have := encU_pos x; omega
  | n + 1, x, b, hx, h, hb => by
    show zc6 _ (x : Int) b = _
    unfold zc6
    by_cases hbig : x > 127
    · rw [encU_big hbig] at h hb ⊢
      simp only [List.length_cons] at h hb
      rw [decT (by omega), if_pos rfl, or128F, u8o_lit (k := x % 128 + 128) (by omega) (by omega), Option.bind_some, room_ok (by omega), Option.bind_some, shrI7 _ (by decide), show (x : Int) / 128 = ((x / 128 : Nat) : Int) from by omega, PutU_loop n (x / 128) _ (by omega) (by omega) (by simp; omega)]
      simp
    · rw [encU_small hbig] at hb ⊢
      simp only [List.length_cons, List.length_nil] at hb
      rw [decF (by omega), if_neg (by simp), u8o_wrap, Option.bind_some, room_ok (by omega), Option.bind_some, show ((x : Int) % 256).toNat = x from by omega]
theorem zX {l : List UInt8} {x : Nat} (hl : l.length ≤ 1099511627000) (hx : x < 18446744073709551616) : zC l (x : Int) = some (l ++ encU x) := by
  unfold zC zbf
  have h10 := encU_le10 hx
  rw [room_ok (by omega), Option.bind_some, Option.bind_some, PutU_loop big x l hx (by unfold big; omega) (by omega)]
theorem PutS_loop : ∀ (n : Nat) (x : Int) (b : List UInt8), (encS x).length ≤ n → b.length + (encS x).length ≤ 1099511627776 → zbM n x b = some (b ++ encS x)
  | 0, x, _, h, _ => by have := encS_pos x; omega
  | n + 1, x, b, h, hb => by
    show zbr _ x b = _
    unfold zbr
    by_cases hbig : x > 63 ∨ x < -64
    · rw [encS_big hbig] at h hb ⊢
      simp only [List.length_cons] at h hb
      rw [if_pos (by simpa using hbig), or128F, u8o_lit (k := (x % 128).toNat + 128) (by omega) (by omega), Option.bind_some, room_ok (by omega), Option.bind_some, shrI7 _ (by decide), PutS_loop n (x / 128) _ (by omega) (by simp; omega)]
      simp
    · rw [encS_small hbig] at hb ⊢
      simp only [List.length_cons, List.length_nil] at hb
      rw [if_neg (by simpa using hbig), and127F, u8o_lit (k := (x % 128).toNat) (by omega) (by omega), Option.bind_some, room_ok (by omega), Option.bind_some]
theorem zd9 {l : List UInt8} {x : Int} (hl : l.length ≤ 1099511627000) (hx : -9223372036854775808 ≤ x ∧ x ≤ 9223372036854775807) : z6 l x = some (l ++ encS x) := by
  unfold z6 zbf
  have h10 := encS_le10 hx.1 hx.2
  rw [room_ok (by omega), Option.bind_some, Option.bind_some, PutS_loop big x l (by unfold big; omega) (by omega)]
theorem shl7I {b i : Nat} (hi : i < 10) : shlO .u64 (IntKind.u64.wrap ((b : Int) % 128)) (IntKind.i64.wrap (7 * (i : Int))) = some ((b % 128 * 2 ^ (7 * i) % 18446744073709551616 : Nat) : Int) := by
  have h := shl7 (b := b) hi
  have e : IntKind.i64.wrap (7 * (i : Int)) = ((7 * i : Nat) : Int) := by rw [wi64 (by omega)]; omega
  rw [e] at h ⊢
  rw [shl_nat (k := .u64) _ (7 * i) (show _ ≤ 64 by omega)] at h
  injection h with h
  injection h with _ h
  unfold shlO shlI
  rw [if_neg (by omega)]
  congr 1
  rw [show min ((7 * i : Nat) : Int).toNat IntKind.u64.bits = 7 * i from by rw [Int.toNat_natCast]; exact Nat.min_eq_left (show 7 * i ≤ 64 by omega)]
  exact h
theorem digits_loop (l : List UInt8) (hl : l.length ≤ 1099511627776) : ∀ (n i s : Nat), i ≤ min l.length 10 → 10 - i < n → s < 2 ^ (7 * i) → s < 18446744073709551616 → dig 10 l = (dig (10 - i) (l.drop i)).map (fun p => (s + 2 ^ (7 * i) * p.1, p.2 + i)) → zcc l n (s : Int) (i : Int) = some ((digX l : Int), (digN l : Int))
  | 0, i, s, hi, h, _, _, _ => by omega
  | n + 1, i, s, hi, h, hs, hs64, hd => by
    show zcx _ l (s : Int) (i : Int) = _
    unfold zcx
    have hm : minI (l.length : Int) 10 = ((min l.length 10 : Nat) : Int) := by unfold minI; split <;> omega
    rw [hm]
    by_cases hlt : i < min l.length 10
    · have hil : i < l.length := by omega
      rw [show 10 - i = (9 - i) + 1 from by omega, dig_at hil] at hd
      have ha : andI .u8 (l[i].toNat : Int) 127 = (l[i].toNat : Int) % 128 := and127 _
      have ho : orI .u64 (s : Int) ((l[i].toNat % 128 * 2 ^ (7 * i) % 18446744073709551616 : Nat) : Int) = _ := or7 (b := l[i].toNat) (show i < 10 by omega) hs hs64
      rw [decT (by omega), if_pos rfl, getI_lt hil, Option.bind_some, ha, shl7I (show i < 10 by omega), Option.bind_some, Option.bind_some, ho, i64_succ (by omega)]
      by_cases hb : l[i].toNat < 128
      · rw [if_pos hb] at hd
        rw [decT (by omega), if_pos rfl]
        have hX : digX l = (s + l[i].toNat % 128 * 2 ^ (7 * i)) % 18446744073709551616 := by
          rw [digX, hd]
          show (s + 2 ^ (7 * i) * l[i].toNat) % _ = _
          rw [Nat.mod_eq_of_lt (show l[i].toNat < 128 by omega), Nat.mul_comm]
        have hN : digN l = 1 + i := by rw [digN, hd]; rfl
        rw [hX, hN, Nat.add_comm 1 i]
      · rw [if_neg hb] at hd
        rw [decF (by omega), if_neg (by simp)]
        have e7 : 2 ^ (7 * (i + 1)) = 2 ^ (7 * i) * 128 := by rw [Nat.mul_add, Nat.pow_add]
        have hm := Nat.mul_le_mul_right (2 ^ (7 * i)) (show l[i].toNat % 128 ≤ 127 by omega)
        have hlt7 : s + l[i].toNat % 128 * 2 ^ (7 * i) < 2 ^ (7 * (i + 1)) := by omega
        refine digits_loop l hl n (i + 1) _ (by omega) (by omega) (Nat.lt_of_le_of_lt (Nat.mod_le _ _) hlt7) (Nat.mod_lt _ (by omega)) ?_
        rw [hd, show 9 - i = 10 - (i + 1) from by omega]
        by_cases h9 : i = 9
        · subst h9; rfl
        · have hp : 2 ^ (7 * (i + 1)) ≤ 2 ^ 63 := Nat.pow_le_pow_right (by omega) (by omega)
          rw [Nat.mod_eq_of_lt (show s + l[i].toNat % 128 * 2 ^ (7 * i) < 18446744073709551616 by omega), Option.map_map]
          congr 1
          funext p
          show (s + 2 ^ (7 * i) * (l[i].toNat % 128 + 128 * p.1), p.2 + 1 + i) = (_, _)
          rw [e7, Nat.mul_add, Nat.mul_comm (2 ^ (7 * i)) (l[i].toNat % 128), Nat.mul_assoc, Nat.add_assoc, Nat.add_assoc, Nat.add_comm 1 i]
    · have hz : dig (10 - i) (l.drop i) = none := by
        by_cases h10 : l.length < 10
        · rw [List.drop_eq_nil_of_le (by omega), dig_nil]
        · rw [show 10 - i = 0 from by omega]; rfl
      rw [hz] at hd
      rw [decF (by omega), if_neg (by simp), digX, digN, hd]
      rfl
theorem zed {l : List UInt8} (hl : l.length ≤ 1099511627776) : zcq l = some ((digX l : Int), (digN l : Int)) := by
  refine digits_loop l hl big 0 0 (by omega) (big_gt (by omega)) (by decide) (by omega) ?_
  simp
theorem Equal_loop (l m : List UInt8) (hl : l.length ≤ 1099511627776) (hlm : l.length = m.length) : ∀ (n i : Nat), i ≤ l.length → l.length - i < n → zbL l m n (i : Int) = some (decide (l.drop i = m.drop i))
  | 0, i, _, h => by omega
  | n + 1, i, hi, h => by
    show zcF _ l m (i : Int) = _
    unfold zcF
    by_cases hlt : i < l.length
    · have hlt2 : i < m.length := by omega
      rw [decT (by omega), if_pos rfl, getI_lt hlt, Option.bind_some, getI_lt hlt2, Option.bind_some, List.drop_eq_getElem_cons hlt, List.drop_eq_getElem_cons hlt2]
      by_cases he : l[i] = m[i]
      · rw [bneF (u8toNat_inj.2 he), if_neg (by simp), i64_succ (by omega), Equal_loop l m hl hlm n (i + 1) (by omega) (by omega), he]
        congr 1
        rw [decide_eq_decide]
        exact ⟨fun h => by rw [h], fun h => by injection h⟩
      · rw [bneT (fun h => he (u8toNat_inj.1 h)), if_pos rfl, decF]
        intro h2
        injection h2 with h3 h4
        exact he h3
    · rw [decF (by omega), if_neg (by simp), List.drop_of_length_le (by omega), List.drop_of_length_le (by omega), decT rfl]
theorem zd6 {l m : List UInt8} (hl : l.length ≤ 1099511627776) : z9 l m = some (decide (l = m)) := by
  unfold z9
  by_cases h : l.length = m.length
  · rw [bneF (by omega), if_neg (by simp)]
    exact Equal_loop l m hl h big 0 (by omega) (big_gt (by omega))
  · rw [bneT (by omega), if_pos rfl, decF (fun e => h (by rw [e]))]
theorem F_U {l : List UInt8} {x : Int} (hl : l.length ≤ 1099511627776) (hx : -9223372036854775808 ≤ x ∧ x ≤ 9223372036854775807) : zK l x = some (((rdU l x).1 : Int), (rdU l x).2.1, (rdU l x).2.2) := by
  unfold zK zdy
  by_cases hc : x < 0 ∨ x > l.length
  · rw [if_pos (by simpa using hc), rdU, if_pos (by omega)]
    rfl
  · obtain ⟨i, rfl⟩ : ∃ i : Nat, x = i := ⟨x.toNat, by omega⟩
    have hil : i ≤ l.length := by omega
    rw [if_neg (by simpa using hc), cutI_ok hil (Nat.le_refl _), List.take_length, Option.bind_some, zed (by simp; omega), Option.bind_some]
    generalize hX : digX (l.drop i) = y
    generalize hN : digN (l.drop i) = n
    have hy64 : y < 18446744073709551616 := hX ▸ digX_lt _
    have hn := digN_le (l.drop i)
    rw [hN, List.length_drop] at hn
    have hw : IntKind.i64.wrap ((i : Int) + (n : Int)) = ((i + n : Nat) : Int) := i64_add (by omega)
    have hrd : rdU l i = if n = 0 ∨ encU y ≠ (l.drop i).take n then (0, 0, 5) else (y, (i : Int) + n, 0) := by
      rw [rdU, if_neg (by omega)]
      simp only [Int.toNat_natCast, hX, hN]
    have h10 := encU_le10 hy64
    unfold zdw
    rw [Option.bind_some, hrd]
    by_cases hn0 : n = 0
    · rw [beqT (by omega), if_pos rfl, Option.bind_some, if_pos rfl, if_pos (Or.inl hn0)]
      rfl
    · rw [beqF (by omega), if_neg (by simp)]
      simp only [hw]
      rw [cutI_ok (by omega) (by omega), Option.bind_some, zX (by simp) hy64, Option.bind_some, zd6 (by simp; omega), Option.bind_some, Option.bind_some, List.nil_append, List.drop_take, Nat.add_sub_cancel_left]
      by_cases he : encU y = (l.drop i).take n
      · rw [decT he, Bool.not_true, if_neg (by simp), if_neg (by simp [hn0, he]), Option.bind_some]
        simp
      · rw [decF he, Bool.not_false, if_pos rfl, if_pos (Or.inr he)]
        rfl
theorem P_S1 {x n : Nat} (hn : n ≤ 10) (hx : x < 2 ^ (7 * n)) (hx2 : x < 18446744073709551616) : ∃ y, zbx (x : Int) (n : Int) = some y ∧ (1 ≤ n → y = sgn x n) ∧ -9223372036854775808 ≤ y ∧ y ≤ 9223372036854775807 := by
  unfold zbx
  have e1 : IntKind.i64.wrap (7 * (n : Int)) = 7 * n := wi64 (by omega)
  have e2 : IntKind.i64.wrap (64 - 7 * (n : Int)) = 64 - 7 * n := wi64 (by omega)
  have e3 : maxI 0 (64 - 7 * (n : Int)) = ((64 - 7 * n : Nat) : Int) := by unfold maxI; split <;> omega
  have e4 : ∀ (k : IntKind) (a : Int), 64 ≤ k.bits → shlO k a ((64 - 7 * n : Nat) : Int) = some (k.wrap (a * 2 ^ (64 - 7 * n))) := fun k a hk => by
    unfold shlO shlI
    rw [if_neg (by omega), Int.toNat_natCast, Nat.min_eq_left (by omega)]
  have e5 : ∀ (k : IntKind) (a : Int), 64 ≤ k.bits → shrO k a ((64 - 7 * n : Nat) : Int) = some (a / 2 ^ (64 - 7 * n)) := fun k a hk => by
    unfold shrO shrI
    rw [if_neg (by omega), Int.toNat_natCast, Nat.min_eq_left (by omega), Int.fdiv_eq_ediv_of_nonneg]
    exact Int.le_of_lt (Int.pow_pos (by decide))
  rw [e1, e2, e3, e4 _ _ (by decide), Option.bind_some, e5 _ _ (by decide), Option.bind_some]
  refine ⟨_, rfl, fun h1 => sgn_eq h1 hn hx hx2, ?_⟩
  by_cases h1 : 1 ≤ n
  · rw [sgn_eq h1 hn hx hx2]; exact sgn_bnd h1 hn hx hx2
  · have : n = 0 := by omega
    subst this
    have : x = 0 := by simpa using hx
    subst this
    decide
theorem F_S {l : List UInt8} {x : Int} (hl : l.length ≤ 1099511627776) (hx : -9223372036854775808 ≤ x ∧ x ≤ 9223372036854775807) : zbG l x = some ((rdS l x).1, (rdS l x).2.1, (rdS l x).2.2) := by
  unfold zbG zdA
  by_cases hc : x < 0 ∨ x > l.length
  · rw [if_pos (by simpa using hc), rdS, if_pos (by omega)]
    rfl
  · obtain ⟨i, rfl⟩ : ∃ i : Nat, x = i := ⟨x.toNat, by omega⟩
    have hil : i ≤ l.length := by omega
    rw [if_neg (by simpa using hc), cutI_ok hil (Nat.le_refl _), List.take_length, Option.bind_some, zed (by simp; omega), Option.bind_some]
    have hxp := digX_pow (l.drop i)
    generalize hX : digX (l.drop i) = y at hxp
    generalize hN : digN (l.drop i) = n at hxp
    have hy64 : y < 18446744073709551616 := hX ▸ digX_lt _
    have hn := digN_le (l.drop i)
    rw [hN, List.length_drop] at hn
    have hw : IntKind.i64.wrap ((i : Int) + (n : Int)) = ((i + n : Nat) : Int) := i64_add (by omega)
    have hrd : rdS l i = if n = 0 ∨ encS (sgn y n) ≠ (l.drop i).take n then (0, 0, 5) else (sgn y n, (i : Int) + n, 0) := by
      rw [rdS, if_neg (by omega)]
      simp only [Int.toNat_natCast, hX, hN]
    obtain ⟨z, hz, hz2, hz3⟩ := P_S1 hn.1 hxp hy64
    have h10 := encS_le10 hz3.1 hz3.2
    rw [hz, Option.bind_some, hrd]
    by_cases hn0 : n = 0
    · rw [beqT (by omega), if_pos rfl, Option.bind_some, if_pos rfl, if_pos (Or.inl hn0)]
      rfl
    · rw [beqF (by omega), if_neg (by simp)]
      simp only [hw]
      rw [cutI_ok (by omega) (by omega), Option.bind_some, zd9 (by simp) hz3, Option.bind_some, zd6 (by simp; omega), Option.bind_some, Option.bind_some, List.nil_append, List.drop_take, Nat.add_sub_cancel_left, ← hz2 (by omega)]
      by_cases he : encS z = (l.drop i).take n
      · rw [decT he, Bool.not_true, if_neg (by simp), if_neg (by simp [hn0, he]), Option.bind_some]
        simp
      · rw [decF he, Bool.not_false, if_pos rfl, if_pos (Or.inr he)]
        rfl
end Go.Proofs.Ytckcngkkofemjaa
