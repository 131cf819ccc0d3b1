import Derived.Test.YtmcfgapknoiohaaAd
import Derived.Test.YtmcfgapknoiohaaF
import Derived.Test.YtmcfgapknoiohaaPL
namespace Go.Proofs.Ytmcfgapknoiohaa
open Go.Ab Go.RowKit
set_option linter.unusedVariables false
set_option linter.unusedSimpArgs false
-- octet.Pair, octet.Halves, theodoliteref01.Pair
theorem or_halves : ∀ h l : Fin 16, andI .u8 ((h.val * 16 + l.val : Nat) : Int) 15 = l.val ∧ shrI .u8 ((h.val * 16 + l.val : Nat) : Int) 4 = h.val ∧ IntKind.u8.wrap (orI .i64 (shlI .i64 (h.val : Int) 4) (l.val : Int)) = ((h.val * 16 + l.val : Nat) : Int) := by decide +kernel
theorem P_Pair {a b : Int} : F_octet_Pair a b = some (if 0 ≤ a ∧ a < 16 ∧ 0 ≤ b ∧ b < 16 then (16 * a + b, true) else (0, false)) := by
  unfold F_octet_Pair
  by_cases h : 0 ≤ a ∧ a < 16 ∧ 0 ≤ b ∧ b < 16
  · rw [decF (by omega), decF (by omega), decF (by omega), decF (by omega), if_pos h]
    have := (or_halves ⟨a.toNat, by omega⟩ ⟨b.toNat, by omega⟩).2.2
    simp only [Int.toNat_of_nonneg h.1, Int.toNat_of_nonneg h.2.2.1] at this
    simp only [Bool.or_self, Bool.false_eq_true, if_false, this]
    congr 2
    omega
  · rw [if_neg h]
    have : (((decide (a < 0) || decide (a ≥ 16)) || decide (b < 0)) || decide (b ≥ 16)) = true := by
      simp only [Bool.or_eq_true, decide_eq_true_eq]; omega
    rw [this, if_pos rfl]
theorem P_Halves {x : Nat} (hx : x < 256) : F_octet_Halves (x : Int) = some (((x / 16 : Nat) : Int), ((x % 16 : Nat) : Int)) := by
  unfold F_octet_Halves
  have := or_halves ⟨x / 16, by omega⟩ ⟨x % 16, by omega⟩
  rw [show ((x / 16 * 16 + x % 16 : Nat)) = x from by omega] at this
  simp only at this
  rw [this.1, this.2.1, wi64 (by omega), wi64 (by omega)]
theorem rPair_loop {a b : Int} : ∀ (n x : Nat), x ≤ 256 → 256 - x < n → F_ref01_Pair_l3 a b n (x : Int) = some (if 0 ≤ a ∧ a < 16 ∧ 0 ≤ b ∧ b < 16 ∧ (x : Int) ≤ 16 * a + b then (16 * a + b, true) else (0, false))
  | 0, x, _, h => by omega
  | n + 1, x, hx, h => by
    show F_ref01_Pair_l3B _ a b (x : Int) = _
    unfold F_ref01_Pair_l3B
    by_cases hlt : x < 256
    · rw [decT (by omega), if_pos rfl]
      have e1 : Int.tdiv (x : Int) 16 = ((x / 16 : Nat) : Int) := by rw [Int.tdiv_eq_ediv_of_nonneg (by omega)]; rfl
      have e2 : Int.tmod (x : Int) 16 = ((x % 16 : Nat) : Int) := by rw [Int.tmod_eq_emod_of_nonneg (by omega)]; rfl
      rw [e1, e2, wi64 (by omega)]
      by_cases hit : ((x / 16 : Nat) : Int) = a ∧ ((x % 16 : Nat) : Int) = b
      · rw [beqT hit.1, beqT hit.2, Bool.and_self, if_pos rfl, if_pos (by omega), wu8_mod]
        congr 2
        omega
      · have : ((((x / 16 : Nat) : Int) == a) && (((x % 16 : Nat) : Int) == b)) = false := by
          rw [Bool.and_eq_false_iff]
          simp only [beq_eq_false_iff_ne, ne_eq]
          omega
        rw [this, if_neg (by simp), i64_succ (by omega), rPair_loop n (x + 1) (by omega) (by omega)]
        congr 1
        by_cases hc : 0 ≤ a ∧ a < 16 ∧ 0 ≤ b ∧ b < 16 ∧ (x : Int) ≤ 16 * a + b
        · rw [if_pos hc, if_pos (by omega)]
        · rw [if_neg hc, if_neg (by omega)]
    · rw [decF (by omega), if_neg (by simp), if_neg (by omega)]
theorem P_rPair {a b : Int} : F_ref01_Pair a b = some (if 0 ≤ a ∧ a < 16 ∧ 0 ≤ b ∧ b < 16 then (16 * a + b, true) else (0, false)) := by
  unfold F_ref01_Pair
  have := rPair_loop (a := a) (b := b) big 0 (by omega) (big_gt (by omega))
  rw [show ((0 : Nat) : Int) = 0 from rfl] at this
  rw [this]
  congr 1
  by_cases hc : 0 ≤ a ∧ a < 16 ∧ 0 ≤ b ∧ b < 16
  · rw [if_pos hc, if_pos (by omega)]
  · rw [if_neg hc, if_neg (by omega)]
-- slices.Concat[[]byte,byte]
theorem P_Grow {n : Nat} (h : n ≤ 1099511627776) : F_slices_Grow_Sbyte_byte [] (n : Int) = some [] := by
  unfold F_slices_Grow_Sbyte_byte
  rw [decF (by omega), if_neg (by simp)]
  unfold F_slices_Grow_Sbyte_byte_k3
  have e : IntKind.i64.wrap ((n : Int) - IntKind.i64.wrap (0 - 0)) = n := by rw [wi64 (x := 0 - 0) (by omega), wi64 (by omega)]; omega
  rw [e]
  by_cases h0 : n = 0
  · subst h0
    rfl
  · rw [decT (by omega), if_pos rfl, nneg_ok (by omega), Option.bind_some, room_ok (by simpa using h), Option.bind_some]
    have := cutI_ok (l := ([] : List UInt8) ++ List.replicate (n : Int).toNat 0) (a := 0) (b := 0) (by omega) (by omega)
    rw [show ((0 : Nat) : Int) = 0 from rfl] at this
    rw [this]
    rfl
theorem Concat_l15 (ls : List (List UInt8)) (hl : ls.length ≤ 1000000) (hz : ls.flatten.length ≤ 1099511627776) : ∀ (n i : Nat), i ≤ ls.length → ls.length - i < n → F_slices_Concat_Sbyte_byte_l15 ls n (ls.take i).flatten (i : Int) = some ls.flatten
  | 0, i, _, h => by omega
  | n + 1, i, hi, h => by
    show F_slices_Concat_Sbyte_byte_l15B _ ls _ (i : Int) = _
    unfold F_slices_Concat_Sbyte_byte_l15B
    by_cases hlt : i < ls.length
    · rw [decT (by omega), if_pos rfl, getI_lt hlt, Option.bind_some]
      have e : (ls.take i).flatten ++ ls[i] = (ls.take (i + 1)).flatten := by rw [List.take_succ_eq_append_getElem hlt, List.flatten_append]; simp
      have hle : (ls.take (i + 1)).flatten.length ≤ ls.flatten.length := by
        conv => rhs; rw [← List.take_append_drop (i + 1) ls, List.flatten_append, List.length_append]
        omega
      rw [room_ok (by rw [← e, List.length_append] at hle; omega), Option.bind_some, e, i64_succ (by omega)]
      exact Concat_l15 ls hl hz n (i + 1) (by omega) (by omega)
    · rw [decF (by omega), if_neg (by simp), List.take_of_length_le (by omega)]
theorem Concat_l13 (ls : List (List UInt8)) (hl : ls.length ≤ 1000000) (hz : ls.flatten.length ≤ 1099511627776) : ∀ (n i : Nat), i ≤ ls.length → ls.length - i < n → F_slices_Concat_Sbyte_byte_l13 ls n ((ls.take i).flatten.length : Int) (i : Int) = some ls.flatten
  | 0, i, _, h => by omega
  | n + 1, i, hi, h => by
    show F_slices_Concat_Sbyte_byte_l13B _ ls _ (i : Int) = _
    unfold F_slices_Concat_Sbyte_byte_l13B
    by_cases hlt : i < ls.length
    · rw [decT (by omega), if_pos rfl, getI_lt hlt, Option.bind_some]
      have e : (ls.take i).flatten ++ ls[i] = (ls.take (i + 1)).flatten := by rw [List.take_succ_eq_append_getElem hlt, List.flatten_append]; simp
      have hle : (ls.take (i + 1)).flatten.length ≤ ls.flatten.length := by
        conv => rhs; rw [← List.take_append_drop (i + 1) ls, List.flatten_append, List.length_append]
        omega
      have e2 : (ls.take i).flatten.length + ls[i].length = (ls.take (i + 1)).flatten.length := by rw [← e, List.length_append]
      rw [i64_add (by omega), e2, decF (by omega), if_neg (by simp), i64_succ (by omega)]
      exact Concat_l13 ls hl hz n (i + 1) (by omega) (by omega)
    · rw [decF (by omega), if_neg (by simp), List.take_of_length_le (by omega), P_Grow hz, Option.bind_some]
      exact Concat_l15 ls hl hz big 0 (by omega) (big_gt (by omega))
theorem P_Concat {ls : List (List UInt8)} (hl : ls.length ≤ 1000000) (hz : ls.flatten.length ≤ 1099511627776) : F_slices_Concat_Sbyte_byte ls = some ls.flatten :=
  Concat_l13 ls hl hz big 0 (by omega) (big_gt (by omega))
-- octet.cut, octet.One, octet.Place, octet.Text, theodoliteref01.have, theodoliteref01.One, theodoliteref01.Place, theodoliteref01.Text
theorem cutA {l : List UInt8} {p n : Int} (h : p < 0 ∨ p > l.length) : F_octet_cut l p n = some ([], 0, 1) := by
  unfold F_octet_cut
  rw [if_pos (by simpa using h)]
theorem cutB {l : List UInt8} {k n : Nat} {m : Int} (hm : m = (n : Int)) (hk : k ≤ l.length) (h : l.length < k + n) : F_octet_cut l (k : Int) m = some ([], 0, 5) := by
  subst hm
  unfold F_octet_cut
  rw [decF (by omega), decF (by omega), Bool.or_self, if_neg (by simp), cutI_ok hk (Nat.le_refl _), Option.bind_some, decF, if_neg (by simp)]
  simp only [List.length_drop, List.length_take]
  omega
theorem cutC {l : List UInt8} {k n : Nat} {m : Int} (hm : m = (n : Int)) (hl : l.length ≤ 1099511627776) (h : k + n ≤ l.length) : F_octet_cut l (k : Int) m = some ((l.drop k).take n, ((k + n : Nat) : Int), 0) := by
  subst hm
  unfold F_octet_cut
  have hlen : ((l.take l.length).drop k).length = l.length - k := by simp
  rw [decF (by omega), decF (by omega), Bool.or_self, if_neg (by simp), cutI_ok (by omega) (Nat.le_refl _), Option.bind_some, decT (by rw [hlen]; omega), if_pos rfl]
  have := cutI_ok (l := (l.take l.length).drop k) (a := 0) (b := n) (by omega) (by rw [hlen]; omega)
  rw [show ((0 : Nat) : Int) = 0 from rfl] at this
  rw [this, Option.bind_some, i64_add (by omega), List.drop_zero, List.take_length]
theorem haveA {l : List UInt8} {p n : Int} (h : p < 0 ∨ p > l.length) : F_ref01_have l p n = some 1 := by
  unfold F_ref01_have
  rw [if_pos (by simpa using h)]
theorem haveB {l : List UInt8} {k n : Nat} {m : Int} (hm : m = (n : Int)) (hl : l.length ≤ 1099511627776) (hk : k ≤ l.length) (h : l.length < k + n) : F_ref01_have l (k : Int) m = some 5 := by
  subst hm
  unfold F_ref01_have
  rw [decF (by omega), decF (by omega), Bool.or_self, if_neg (by simp), wi64 (by omega), decT (by omega), if_pos rfl]
theorem haveC {l : List UInt8} {k n : Nat} {m : Int} (hm : m = (n : Int)) (hl : l.length ≤ 1099511627776) (h : k + n ≤ l.length) : F_ref01_have l (k : Int) m = some 0 := by
  subst hm
  unfold F_ref01_have
  rw [decF (by omega), decF (by omega), Bool.or_self, if_neg (by simp), wi64 (by omega), decF (by omega), if_neg (by simp)]
theorem OneA {l : List UInt8} {p : Int} (h : p < 0 ∨ p > l.length) : F_octet_One l p = some (0, 0, 1) := by
  unfold F_octet_One
  rw [cutA h]
  rfl
theorem OneB {l : List UInt8} {k : Nat} (h : k = l.length) : F_octet_One l (k : Int) = some (0, 0, 5) := by
  unfold F_octet_One
  rw [cutB (n := 1) (m := 1) rfl (by omega) (by omega)]
  rfl
theorem OneC {l : List UInt8} {k : Nat} (hl : l.length ≤ 1099511627776) (h : k < l.length) : F_octet_One l (k : Int) = some ((l[k].toNat : Int), ((k + 1 : Nat) : Int), 0) := by
  unfold F_octet_One
  rw [cutC (n := 1) (m := 1) rfl hl (by omega), Option.bind_some, if_neg (by simp)]
  have := getI_cast ((l.drop k).take 1) 0
  rw [show ((0 : Nat) : Int) = 0 from rfl] at this
  rw [this]
  simp [List.getElem?_take, List.getElem?_drop, List.getElem?_eq_getElem h]
theorem rOneA {l : List UInt8} {p : Int} (h : p < 0 ∨ p > l.length) : F_ref01_One l p = some (0, 0, 1) := by
  unfold F_ref01_One
  rw [haveA h]
  rfl
theorem rOneB {l : List UInt8} {k : Nat} (hl : l.length ≤ 1099511627776) (h : k = l.length) : F_ref01_One l (k : Int) = some (0, 0, 5) := by
  unfold F_ref01_One
  rw [haveB (n := 1) (m := 1) rfl hl (by omega) (by omega)]
  rfl
theorem rOneC {l : List UInt8} {k : Nat} (hl : l.length ≤ 1099511627776) (h : k < l.length) : F_ref01_One l (k : Int) = some ((l[k].toNat : Int), ((k + 1 : Nat) : Int), 0) := by
  unfold F_ref01_One
  rw [haveC (n := 1) (m := 1) rfl hl (by omega), Option.bind_some, if_neg (by simp), getI_lt h, Option.bind_some, i64_succ (by omega)]
theorem shl8 {x : Nat} (h : x < 65536) : shlI .i64 (x : Int) 8 = ((x * 256 : Nat) : Int) := by
  unfold shlI
  rw [show (2 : Int) ^ min (8 : Int).toNat IntKind.i64.bits = 256 from by decide, wi64 (by omega)]
  omega
theorem or8 {x y : Nat} (h : x < 65536) (hy : y < 256) : orI .i64 ((x * 256 : Nat) : Int) (y : Int) = ((x * 256 + y : Nat) : Int) := by
  unfold orI
  rw [BitVec.toNat_or, BitVec.ofInt_natCast, BitVec.ofInt_natCast, BitVec.toNat_ofNat, BitVec.toNat_ofNat, Nat.mod_eq_of_lt (Nat.lt_of_lt_of_le (show x * 256 < 16777216 by omega) (by decide)), Nat.mod_eq_of_lt (Nat.lt_of_lt_of_le hy (by decide))]
  have := Nat.two_pow_add_eq_or_of_lt (i := 8) (b := y) hy x
  rw [Nat.mul_comm] at this
  rw [show x * 256 = x * 2 ^ 8 from rfl, ← this, wi64 (by omega)]
def pl3 (a b c : UInt8) : Nat := (a.toNat * 256 + b.toNat) * 256 + c.toNat
theorem PlaceA {l : List UInt8} {p : Int} (h : p < 0 ∨ p > l.length) : F_octet_Place l p = some (0, 0, 1) := by
  unfold F_octet_Place
  rw [cutA h]
  rfl
theorem PlaceB {l : List UInt8} {k : Nat} (hk : k ≤ l.length) (h : l.length < k + 3) : F_octet_Place l (k : Int) = some (0, 0, 5) := by
  unfold F_octet_Place
  rw [cutB (n := 3) (m := 3) rfl hk (by omega)]
  rfl
theorem or8s {x : Int} {m y : Nat} (hx : x = m) (h : m < 65536) (hy : y < 256) : orI .i64 (shlI .i64 x 8) (IntKind.i64.wrap (y : Int)) = ((m * 256 + y : Nat) : Int) := by
  subst hx
  rw [shl8 h, i64_nat (by omega), or8 h hy]
theorem Place_loop {a b c : UInt8} {m e : Int} : F_octet_Place_l3 ([a, b, c], m, e) big 0 0 = some ((pl3 a b c : Int), m, e) := by
  have ha := a.toNat_lt
  have hb := b.toNat_lt
  have hc := c.toNat_lt
  obtain ⟨n, hn⟩ : ∃ n, big = n + 4 := ⟨big - 4, rfl⟩
  rw [hn]
  have o0 := or8s (x := 0) (m := 0) (y := a.toNat) rfl (by omega) ha
  have o1 := or8s (x := _) (m := 0 * 256 + a.toNat) (y := b.toNat) rfl (by omega) hb
  have o2 := or8s (x := _) (m := (0 * 256 + a.toNat) * 256 + b.toNat) (y := c.toNat) rfl (by omega) hc
  have g0 : getI [a, b, c] 0 = some a := rfl
  have g1 : getI [a, b, c] 1 = some b := rfl
  have g2 : getI [a, b, c] 2 = some c := rfl
  have w1 : IntKind.i64.wrap (0 + 1) = 1 := wi64 (by omega)
  have w2 : IntKind.i64.wrap (1 + 1) = 2 := wi64 (by omega)
  have w3 : IntKind.i64.wrap (2 + 1) = 3 := wi64 (by omega)
  have d0 : decide ((0 : Int) < (([a, b, c] : List UInt8).length : Int)) = true := rfl
  have d1 : decide ((1 : Int) < (([a, b, c] : List UInt8).length : Int)) = true := rfl
  have d2 : decide ((2 : Int) < (([a, b, c] : List UInt8).length : Int)) = true := rfl
  have d3 : decide ((3 : Int) < (([a, b, c] : List UInt8).length : Int)) = false := rfl
  simp only [F_octet_Place_l3, F_octet_Place_l3B]
  rw [d0, if_pos rfl, g0, Option.bind_some, o0, w1, d1, if_pos rfl, g1, Option.bind_some, o1, w2, d2, if_pos rfl, g2, Option.bind_some, o2, w3, d3, if_neg (by simp)]
  simp [pl3]
theorem take3 {l : List UInt8} {k : Nat} (h : k + 3 ≤ l.length) : (l.drop k).take 3 = [l[k], l[k + 1], l[k + 2]] := by
  rw [List.drop_eq_getElem_cons (by omega), List.drop_eq_getElem_cons (by omega), List.drop_eq_getElem_cons (by omega)]
  rfl
theorem PlaceC {l : List UInt8} {k : Nat} (hl : l.length ≤ 1099511627776) (h : k + 3 ≤ l.length) : F_octet_Place l (k : Int) = some ((pl3 l[k] l[k + 1] l[k + 2] : Int), ((k + 3 : Nat) : Int), 0) := by
  unfold F_octet_Place
  rw [cutC (n := 3) (m := 3) rfl hl (by omega), Option.bind_some, take3 h]
  exact Place_loop
theorem rPlaceA {l : List UInt8} {p : Int} (h : p < 0 ∨ p > l.length) : F_ref01_Place l p = some (0, 0, 1) := by
  unfold F_ref01_Place
  rw [haveA h]
  rfl
theorem rPlaceB {l : List UInt8} {k : Nat} (hl : l.length ≤ 1099511627776) (hk : k ≤ l.length) (h : l.length < k + 3) : F_ref01_Place l (k : Int) = some (0, 0, 5) := by
  unfold F_ref01_Place
  rw [haveB (n := 3) (m := 3) rfl hl hk (by omega)]
  rfl
theorem rPlaceC {l : List UInt8} {k : Nat} (hl : l.length ≤ 1099511627776) (h : k + 3 ≤ l.length) : F_ref01_Place l (k : Int) = some ((pl3 l[k] l[k + 1] l[k + 2] : Int), ((k + 3 : Nat) : Int), 0) := by
  unfold F_ref01_Place
  have ha := l[k].toNat_lt
  have hb := l[k + 1].toNat_lt
  have hc := l[k + 2].toNat_lt
  have e1 : IntKind.i64.wrap ((k : Int) + 1) = ((k + 1 : Nat) : Int) := i64_succ (by omega)
  have e2 : IntKind.i64.wrap ((k : Int) + 2) = ((k + 2 : Nat) : Int) := by rw [wi64 (by omega)]; omega
  have e3 : IntKind.i64.wrap ((k : Int) + 3) = ((k + 3 : Nat) : Int) := by rw [wi64 (by omega)]; omega
  rw [haveC (n := 3) (m := 3) rfl hl (by omega), Option.bind_some, if_neg (by simp), getI_lt (by omega), Option.bind_some, e1, getI_lt (by omega), Option.bind_some, e2, getI_lt (by omega), Option.bind_some, e3]
  rw [wi64 (x := (l[k].toNat : Int)) (by omega), wi64 (x := (l[k + 1].toNat : Int)) (by omega), wi64 (x := (l[k + 2].toNat : Int)) (by omega), wi64 (x := 65536 * (l[k].toNat : Int)) (by omega), wi64 (x := 256 * (l[k + 1].toNat : Int)) (by omega), wi64 (x := 65536 * (l[k].toNat : Int) + 256 * (l[k + 1].toNat : Int)) (by omega), wi64 (by omega)]
  unfold pl3
  congr 2
  omega
def txt (l : List UInt8) (k n : Nat) : ByteArray := ⟨((l.drop k).take n).toArray⟩
theorem TextA {l : List UInt8} {p : Int} (h : p < 0 ∨ p > l.length) : F_octet_Text l p = some (⟨#[]⟩, 0, 1) := by
  unfold F_octet_Text
  rw [OneA h]
  rfl
theorem TextB {l : List UInt8} {k : Nat} (h : k = l.length) : F_octet_Text l (k : Int) = some (⟨#[]⟩, 0, 5) := by
  unfold F_octet_Text
  rw [OneB h]
  rfl
theorem TextD {l : List UInt8} {k : Nat} (hl : l.length ≤ 1099511627776) (hk : k < l.length) (h : l.length < k + 1 + l[k].toNat) : F_octet_Text l (k : Int) = some (⟨#[]⟩, 0, 5) := by
  unfold F_octet_Text
  have ha := l[k].toNat_lt
  rw [OneC hl hk, Option.bind_some, if_neg (by simp)]
  simp only
  rw [i64_nat (by omega), cutB rfl (by omega) h]
  rfl
theorem TextC {l : List UInt8} {k : Nat} (hl : l.length ≤ 1099511627776) (hk : k < l.length) (h : k + 1 + l[k].toNat ≤ l.length) : F_octet_Text l (k : Int) = some (txt l (k + 1) l[k].toNat, ((k + 1 + l[k].toNat : Nat) : Int), 0) := by
  unfold F_octet_Text
  have ha := l[k].toNat_lt
  rw [OneC hl hk, Option.bind_some, if_neg (by simp)]
  simp only
  rw [i64_nat (by omega), cutC rfl hl h]
  rfl
theorem rTextA {l : List UInt8} {p : Int} (h : p < 0 ∨ p > l.length) : F_ref01_Text l p = some (⟨#[]⟩, 0, 1) := by
  unfold F_ref01_Text
  rw [rOneA h]
  rfl
theorem rTextB {l : List UInt8} {k : Nat} (hl : l.length ≤ 1099511627776) (h : k = l.length) : F_ref01_Text l (k : Int) = some (⟨#[]⟩, 0, 5) := by
  unfold F_ref01_Text
  rw [rOneB hl h]
  rfl
theorem rTextD {l : List UInt8} {k : Nat} (hl : l.length ≤ 1099511627776) (hk : k < l.length) (h : l.length < k + 1 + l[k].toNat) : F_ref01_Text l (k : Int) = some (⟨#[]⟩, 0, 5) := by
  unfold F_ref01_Text
  have ha := l[k].toNat_lt
  rw [rOneC hl hk, Option.bind_some, if_pos (by simp)]
  simp only
  rw [i64_nat (by omega), haveB rfl hl (by omega) h]
  rfl
theorem rText_loop {l : List UInt8} {a m n : Nat} {e : Int} (hl : l.length ≤ 1099511627776) (hn : n < 256) (h : m + n ≤ l.length) : ∀ (g i : Nat), i ≤ n → n - i < g → F_ref01_Text_l5 l ((n : Int), (m : Int), e) g (txt l m i) (i : Int) = some (txt l m n, ((m + n : Nat) : Int), 0)
  | 0, i, _, h => by omega
  | g + 1, i, hi, hg => by
    show F_ref01_Text_l5B _ l ((n : Int), (m : Int), e) (txt l m i) (i : Int) = _
    unfold F_ref01_Text_l5B
    simp only
    rw [i64_nat (n := n) (by omega)]
    by_cases hlt : i < n
    · have e1 : IntKind.i64.wrap (((m + i : Nat) : Int) + 1) = ((m + i + 1 : Nat) : Int) := i64_succ (by omega)
      rw [decT (by omega), if_pos rfl, i64_add (by omega), e1, cutI_ok (by omega) (by omega), Option.bind_some]
      have e2 : (l.take (m + i + 1)).drop (m + i) = [l[m + i]] := by
        rw [List.take_succ_eq_append_getElem (by omega), List.drop_left' (by simp; omega)]
      have hsz : (txt l m i).size = i := by show ((l.drop m).take i).toArray.size = i; simp; omega
      have e3 : catS (txt l m i) ⟨((l.take (m + i + 1)).drop (m + i)).toArray⟩ = some (txt l m (i + 1)) := by
        unfold catS
        rw [e2, hsz, if_neg]
        · congr 1
          unfold txt
          have hd : m + i < l.length := by omega
          have : i < (l.drop m).length := by simp; omega
          rw [List.take_succ_eq_append_getElem this, List.getElem_drop]
          apply ByteArray.ext
          simp [ByteArray.data_append]
        · show ¬ (((i + 1 : Nat) : Int) > 9223372036854775807)
          omega
      rw [e3, Option.bind_some, i64_succ (by omega)]
      exact rText_loop (a := a) hl hn h g (i + 1) (by omega) (by omega)
    · rw [decF (by omega), if_neg (by simp), i64_add (by omega), show i = n from by omega]
theorem rTextC {l : List UInt8} {k : Nat} (hl : l.length ≤ 1099511627776) (hk : k < l.length) (h : k + 1 + l[k].toNat ≤ l.length) : F_ref01_Text l (k : Int) = some (txt l (k + 1) l[k].toNat, ((k + 1 + l[k].toNat : Nat) : Int), 0) := by
  unfold F_ref01_Text
  have ha := l[k].toNat_lt
  rw [rOneC hl hk, Option.bind_some, if_pos (by simp)]
  simp only
  rw [i64_nat (by omega), haveC rfl hl h]
  exact rText_loop (a := 0) hl (by omega) h big 0 (by omega) (big_gt (by omega))
theorem P_One {l : List UInt8} {p : Int} (hl : l.length ≤ 1099511627776) : ∃ r, F_octet_One l p = some r ∧ F_ref01_One l p = some r := by
  by_cases h : p < 0 ∨ p > l.length
  · exact ⟨_, OneA h, rOneA h⟩
  obtain ⟨k, rfl⟩ : ∃ k : Nat, p = k := ⟨p.toNat, by omega⟩
  by_cases h2 : k = l.length
  · exact ⟨_, OneB h2, rOneB hl h2⟩
  · exact ⟨_, OneC hl (by omega), rOneC hl (by omega)⟩
theorem P_Place {l : List UInt8} {p : Int} (hl : l.length ≤ 1099511627776) : ∃ r, F_octet_Place l p = some r ∧ F_ref01_Place l p = some r := by
  by_cases h : p < 0 ∨ p > l.length
  · exact ⟨_, PlaceA h, rPlaceA h⟩
  obtain ⟨k, rfl⟩ : ∃ k : Nat, p = k := ⟨p.toNat, by omega⟩
  by_cases h2 : l.length < k + 3
  · exact ⟨_, PlaceB (by omega) h2, rPlaceB hl (by omega) h2⟩
  · exact ⟨_, PlaceC hl (by omega), rPlaceC hl (by omega)⟩
theorem P_Text {l : List UInt8} {p : Int} (hl : l.length ≤ 1099511627776) : ∃ r, F_octet_Text l p = some r ∧ F_ref01_Text l p = some r := by
  by_cases h : p < 0 ∨ p > l.length
  · exact ⟨_, TextA h, rTextA h⟩
  obtain ⟨k, rfl⟩ : ∃ k : Nat, p = k := ⟨p.toNat, by omega⟩
  by_cases h2 : k = l.length
  · exact ⟨_, TextB h2, rTextB hl h2⟩
  have hk : k < l.length := by omega
  by_cases h3 : l.length < k + 1 + l[k].toNat
  · exact ⟨_, TextD hl hk h3, rTextD hl hk h3⟩
  · exact ⟨_, TextC hl hk (by omega), rTextC hl hk (by omega)⟩
-- octet.PutPlace, octet.PutText, theodoliteref01.PutPlace, theodoliteref01.PutText
def pb (p : Int) : List UInt8 := [UInt8.ofNat (p / 65536 % 256).toNat, UInt8.ofNat (p / 256 % 256).toNat, UInt8.ofNat (p % 256).toNat]
theorem pl_loop {l : List UInt8} {p : Int} (hl : l.length ≤ 1099511000000) : F_octet_PutPlace_l3 l p big [0, 0, 0] 0 = some (l ++ pb p, 0) := by
  obtain ⟨n, hn⟩ : ∃ n, big = n + 4 := ⟨big - 4, rfl⟩
  rw [hn]
  have w1 : IntKind.i64.wrap (0 + 1) = 1 := wi64 (by omega)
  have w2 : IntKind.i64.wrap (1 + 1) = 2 := wi64 (by omega)
  have w3 : IntKind.i64.wrap (2 + 1) = 3 := wi64 (by omega)
  have v0 : IntKind.i64.wrap (2 - 0) = 2 := wi64 (by omega)
  have v1 : IntKind.i64.wrap (2 - 1) = 1 := wi64 (by omega)
  have v2 : IntKind.i64.wrap (2 - 2) = 0 := wi64 (by omega)
  have e0 : IntKind.i64.wrap (8 * 0) = 0 := wi64 (by omega)
  have e1 : IntKind.i64.wrap (8 * 1) = 8 := wi64 (by omega)
  have e2 : IntKind.i64.wrap (8 * 2) = 16 := wi64 (by omega)
  have s0 : shrO .i64 p 0 = some p := by simp [shrO, shrI, Int.fdiv_one]
  have s1 : shrO .i64 p 8 = some (p / 256) := by
    unfold shrO shrI
    rw [if_neg (by omega), show (2 : Int) ^ min (8 : Int).toNat IntKind.i64.bits = 256 from by decide, Int.fdiv_eq_ediv_of_nonneg _ (by omega)]
  have s2 : shrO .i64 p 16 = some (p / 65536) := by
    unfold shrO shrI
    rw [if_neg (by omega), show (2 : Int) ^ min (16 : Int).toNat IntKind.i64.bits = 65536 from by decide, Int.fdiv_eq_ediv_of_nonneg _ (by omega)]
  have g0 : getI [(0 : UInt8), 0, 0] 2 = some 0 := rfl
  have g1 : ∀ a : UInt8, getI [(0 : UInt8), 0, a] 1 = some 0 := fun a => rfl
  have g2 : ∀ a b : UInt8, getI [(0 : UInt8), b, a] 0 = some 0 := fun a b => rfl
  have hc := P_Concat (ls := [l, pb p]) (by simp) (by simp [pb]; omega)
  simp only [F_octet_PutPlace_l3, F_octet_PutPlace_l3B]
  rw [decT (by omega), if_pos rfl, e0, s0, Option.bind_some, v0, g0, Option.bind_some, u8o_wrap, Option.bind_some, show List.set [(0 : UInt8), 0, 0] (2 : Int).toNat (UInt8.ofNat (p % 256).toNat) = [0, 0, UInt8.ofNat (p % 256).toNat] from rfl]
  rw [w1, decT (by omega), if_pos rfl, e1, s1, Option.bind_some, v1, g1, Option.bind_some, u8o_wrap, Option.bind_some, show List.set [(0 : UInt8), 0, (UInt8.ofNat (p % 256).toNat)] (1 : Int).toNat (UInt8.ofNat (p / 256 % 256).toNat) = [0, UInt8.ofNat (p / 256 % 256).toNat, UInt8.ofNat (p % 256).toNat] from rfl]
  rw [w2, decT (by omega), if_pos rfl, e2, s2, Option.bind_some, v2, g2, Option.bind_some, u8o_wrap, Option.bind_some, show List.set [(0 : UInt8), (UInt8.ofNat (p / 256 % 256).toNat), (UInt8.ofNat (p % 256).toNat)] (0 : Int).toNat (UInt8.ofNat (p / 65536 % 256).toNat) = pb p from rfl]
  rw [w3, decF (by omega), if_neg (by simp), hc, Option.bind_some]
  simp
theorem P_PutPlace {l : List UInt8} {p : Int} (hl : l.length ≤ 1099511000000) : F_octet_PutPlace l p = some (if p < 0 ∨ p ≥ 16777216 then ([], 1) else (l ++ pb p, 0)) := by
  unfold F_octet_PutPlace
  by_cases h : p < 0 ∨ p ≥ 16777216
  · rw [if_pos (by simpa using h), if_pos h]
  · rw [if_neg (by simpa using h), if_neg h]
    exact pl_loop hl
theorem P_rPutPlace {l : List UInt8} {p : Int} (hl : l.length ≤ 1099511000000) : F_ref01_PutPlace l p = some (if p < 0 ∨ p ≥ 16777216 then ([], 1) else (l ++ pb p, 0)) := by
  unfold F_ref01_PutPlace
  by_cases h : p < 0 ∨ p ≥ 16777216
  · rw [if_pos (by simpa using h), if_pos h]
  · rw [if_neg (by simpa using h), if_neg h, room_ok (by simp; omega), Option.bind_some]
    have t1 : Int.tdiv p 65536 = p / 65536 := Int.tdiv_eq_ediv_of_nonneg (by omega)
    have t2 : Int.tdiv p 256 = p / 256 := Int.tdiv_eq_ediv_of_nonneg (by omega)
    have t3 : Int.tmod p 256 = p % 256 := Int.tmod_eq_emod_of_nonneg (by omega)
    have t4 : Int.tmod (p / 256) 256 = p / 256 % 256 := Int.tmod_eq_emod_of_nonneg (by omega)
    have k1 : p / 256 % 256 % 256 = p / 256 % 256 := by omega
    have k2 : p % 256 % 256 = p % 256 := by omega
    rw [t1, t2, t3, wi64 (x := p / 65536) (by omega), wi64 (x := p / 256) (by omega), t4]
    simp only [u8o_wrap, Option.bind_some, k1, k2]
    rw [room_ok (by simp; omega), Option.bind_some]
    rfl
theorem P_PutText {l : List UInt8} {s : ByteArray} (hl : l.length ≤ 1099511000000) : F_octet_PutText l s = some (if s.size > 255 then ([], 1) else (l ++ [UInt8.ofNat s.size] ++ s.data.toList, 0)) := by
  unfold F_octet_PutText
  by_cases h : s.size > 255
  · rw [decT (by omega), if_pos rfl, if_pos h]
  · have hs : s.data.toList.length = s.size := by simp
    rw [decF (by omega), if_neg (by simp), if_neg h, u8o_wrap, Option.bind_some]
    have e : (((s.size : Nat) : Int) % 256).toNat = s.size := by omega
    rw [e, P_Concat (by simp) (by simp only [List.flatten_cons, List.flatten_nil, List.length_append, hs, List.length_cons, List.length_nil]; omega), Option.bind_some]
    simp
theorem P_rPutText {l : List UInt8} {s : ByteArray} (hl : l.length ≤ 1099511000000) : F_ref01_PutText l s = some (if s.size > 255 then ([], 1) else (l ++ [UInt8.ofNat s.size] ++ s.data.toList, 0)) := by
  unfold F_ref01_PutText
  by_cases h : s.size > 255
  · rw [decT (by omega), if_pos rfl, if_pos h]
  · rw [decF (by omega), if_neg (by simp), if_neg h, room_ok (by simp; omega), Option.bind_some, u8o_wrap, Option.bind_some]
    have e : (((s.size : Nat) : Int) % 256).toNat = s.size := by omega
    rw [e, room_ok (by simp; omega), Option.bind_some, room_ok (by simp; omega), Option.bind_some]
    rfl
-- theodolitelaw01.works
theorem P_works01 : F_law01_works = some true := by
  unfold F_law01_works
  have h1 : F_octet_Pair 1 2 = some (18, true) := by rw [P_Pair]; rfl
  have h2 : F_octet_PutPlace [18] 258 = some ([18, 0, 1, 2], 0) := by rw [P_PutPlace (by simp)]; rfl
  have h3 : F_octet_PutText [18, 0, 1, 2] ⟨#[97, 98]⟩ = some ([18, 0, 1, 2, 2, 97, 98], 0) := by rw [P_PutText (by simp)]; rfl
  have h4 : F_octet_One [18, 0, 1, 2, 2, 97, 98] 0 = some (18, 1, 0) := OneC (k := 0) (by simp) (by simp)
  have h5 : F_octet_Place [18, 0, 1, 2, 2, 97, 98] 1 = some (258, 4, 0) := by
    refine (PlaceC (l := [18, 0, 1, 2, 2, 97, 98]) (k := 1) (by simp) (by simp)).trans ?_
    simp [pl3]
  have h6 : F_octet_Text [18, 0, 1, 2, 2, 97, 98] 4 = some (⟨#[97, 98]⟩, 7, 0) := TextC (k := 4) (by simp) (by simp) (by decide)
  have h7 : F_octet_Halves 18 = some (1, 2) := P_Halves (x := 18) (by omega)
  have h8 : u8o 18 = some 18 := rfl
  have h9 : strEq ⟨#[97, 98]⟩ ⟨#[97, 98]⟩ = true := by rw [strEq_eq]; simp
  rw [h1, Option.bind_some, h8, Option.bind_some, h2, Option.bind_some, h3, Option.bind_some, h4, Option.bind_some, h5, Option.bind_some, h6, Option.bind_some, h7, Option.bind_some, h9]
  rfl
-- theodolitelaw01.OctetHalves
theorem P_OctetHalves (a b : Int) {x : Nat} (hx : x < 256) : F_law01_OctetHalves a b (x : Int) = some true := by
  unfold F_law01_OctetHalves
  rw [P_Pair, Option.bind_some, P_rPair, Option.bind_some, P_Halves hx, Option.bind_some, P_Pair, Option.bind_some, P_works01]
  have e1 : Int.tdiv (x : Int) 16 = ((x / 16 : Nat) : Int) := by rw [Int.tdiv_eq_ediv_of_nonneg (by omega)]; rfl
  have e2 : Int.tmod (x : Int) 16 = ((x % 16 : Nat) : Int) := by rw [Int.tmod_eq_emod_of_nonneg (by omega)]; rfl
  have hc : (0 : Int) ≤ ((x / 16 : Nat) : Int) ∧ ((x / 16 : Nat) : Int) < 16 ∧ (0 : Int) ≤ ((x % 16 : Nat) : Int) ∧ ((x % 16 : Nat) : Int) < 16 := by omega
  have e3 : 16 * ((x / 16 : Nat) : Int) + ((x % 16 : Nat) : Int) = x := by omega
  simp only
  rw [if_pos hc, i64_nat (n := x) (by omega), e1, e2, i64_nat (by omega), e3]
  simp
-- theodolitelaw01.still
theorem still_loop {l : List UInt8} (hl : l.length ≤ 1099511000000) : ∀ (n i : Nat), i ≤ l.length + 40 → l.length + 40 - i < n → F_law01_still_l8 l l (l ++ List.replicate 40 0) n (i : Int) = some true
  | 0, i, _, h => by omega
  | n + 1, i, hi, h => by
    show F_law01_still_l8B _ l l (l ++ List.replicate 40 0) (i : Int) = some true
    unfold F_law01_still_l8B
    have hlen : (l ++ (List.replicate 40 (0 : UInt8))).length = l.length + 40 := by simp
    by_cases hlt : i < l.length + 40
    · have ih := still_loop hl n (i + 1) (by omega) (by omega)
      rw [decT (by rw [hlen]; omega), if_pos rfl]
      by_cases h1 : i < l.length
      · rw [decT (by omega), if_pos rfl, getI_lt h1, Option.bind_some]
        unfold F_law01_still_k11
        rw [getI_lt (by rw [hlen]; omega), Option.bind_some, List.getElem_append_left h1, bneF rfl, if_neg (by simp), i64_succ (by omega)]
        exact ih
      · rw [decF (by omega), if_neg (by simp)]
        unfold F_law01_still_k11
        rw [getI_lt (by rw [hlen]; omega), Option.bind_some, List.getElem_append_right (by omega), List.getElem_replicate, bneF (by simp), if_neg (by simp), i64_succ (by omega)]
        exact ih
    · rw [decF (by rw [hlen]; omega), if_neg (by simp)]
      simp
theorem still_true {l : List UInt8} (hl : l.length ≤ 1099511000000) : F_law01_still l (l ++ List.replicate 40 0) l = some true := by
  unfold F_law01_still
  have hlen : (l ++ (List.replicate 40 (0 : UInt8))).length = l.length + 40 := by simp
  have := cutI_ok (l := l ++ (List.replicate 40 (0 : UInt8))) (a := 0) (b := l.length + 40) (by omega) (by rw [hlen]; exact Nat.le_refl _)
  rw [← hlen] at this
  rw [List.take_length] at this
  rw [show ((0 : Nat) : Int) = 0 from rfl] at this
  rw [this, Option.bind_some]
  exact still_loop hl big 0 (by omega) (big_gt (by omega))
-- theodolitelaw01.OctetReads
theorem P_OctetReads (p0 : List UInt8) (p1 : Int) : F_law01_OctetReads p0 p1 = some true := by
  unfold F_law01_OctetReads
  by_cases hb : (p0.length : Int) > 65536
  · rw [decT hb, if_pos rfl, P_works01]; rfl
  have hR : F_law01_mine p0 = some (p0, p0 ++ List.replicate 40 0) := if_pos (by omega)
  have hl : p0.length ≤ 1099511627776 := by omega
  obtain ⟨r1, a1, b1⟩ := P_One (p := p1) hl
  obtain ⟨r2, a2, b2⟩ := P_Place (p := p1) hl
  obtain ⟨r3, a3, b3⟩ := P_Text (p := p1) hl
  rw [decF hb, if_neg (by simp), hR, Option.bind_some, a1, Option.bind_some, b1, Option.bind_some, bneF rfl, bneF rfl, bneF rfl, if_neg (by simp), a2, Option.bind_some, b2, Option.bind_some, bneF rfl, bneF rfl, bneF rfl, if_neg (by simp), a3, Option.bind_some, b3, Option.bind_some]
  simp only [strEq_eq, decide_true, beq_self_eq_true, Bool.and_self, if_true, still_true (show p0.length ≤ 1099511000000 by omega), P_works01, Option.bind_some]
-- theodolitelaw01.OctetPuts
theorem Puts_loop {l t : List UInt8} (hl : l.length ≤ 1000000) {c : List UInt8 × List UInt8} (hc : c = (l, l ++ List.replicate 40 0)) : ∀ (n : Nat) (x : List UInt8) (i : Nat), x.length ≤ 1000010 → i ≤ x.length → x.length - i < n → F_law01_OctetPuts_l3 l c n x t t (i : Int) = some true
  | 0, x, i, _, _, h => by omega
  | n + 1, x, i, hx, hi, h => by
    show F_law01_OctetPuts_l3B _ l c x t t (i : Int) = some true
    unfold F_law01_OctetPuts_l3B
    by_cases hlt : i < x.length
    · rw [decT (by omega), if_pos rfl, getI_lt hlt, Option.bind_some, Option.bind_some, u8o_wrap, Option.bind_some, i64_succ (by omega)]
      exact Puts_loop hl hc n _ (i + 1) (by simpa using hx) (by simp; omega) (by simp; omega)
    · subst hc
      rw [decF (by omega), if_neg (by simp)]
      simp only [strEq_eq, decide_true, if_true, still_true (show l.length ≤ 1099511000000 by omega), P_works01, Option.bind_some]
theorem P_OctetPuts (p0 : List UInt8) (p1 : Int) (p2 : ByteArray) : F_law01_OctetPuts p0 p1 p2 = some true := by
  unfold F_law01_OctetPuts
  by_cases hb : (p0.length : Int) > 65536 ∨ (p2.size : Int) > 65536
  · rw [if_pos (by simpa using hb), P_works01]; rfl
  have hR : F_law01_mine p0 = some (p0, p0 ++ List.replicate 40 0) := if_pos (by omega)
  have hl : p0.length ≤ 1099511000000 := by omega
  rw [if_neg (by simpa using hb), hR, Option.bind_some, P_PutPlace hl, Option.bind_some, P_rPutPlace hl, Option.bind_some, P_PutText hl, Option.bind_some, P_rPutText hl, Option.bind_some]
  simp only [bne_self_eq_false, Bool.false_eq_true, if_false, strEq_eq, decide_true, Bool.not_true, Option.bind_some, Bool.or_self, still_true hl]
  refine Puts_loop (by omega) rfl big _ 0 ?_ (by omega) (big_gt ?_)
  all_goals
    split
    · simp
    · simp [pb]; omega
-- theodolitelaw01.OctetOrder
theorem pb_lt {a b : Int} (ha : 0 ≤ a ∧ a < 16777216) (hb : 0 ≤ b ∧ b < 16777216) : strLt ⟨(pb a).toArray⟩ ⟨(pb b).toArray⟩ = decide (a < b) := by
  unfold strLt
  rw [ByteArray.toList_eq, ByteArray.toList_eq]
  show Op.bytesLess (pb a) (pb b) = _
  unfold pb
  simp only [Op.bytesLess, Bool.and_false, Bool.or_false]
  have k : ∀ x : Int, (UInt8.ofNat (x % 256).toNat).toNat = (x % 256).toNat := fun x => by rw [UInt8.toNat_ofNat']; omega
  rw [Bool.eq_iff_iff]
  simp only [Bool.or_eq_true, Bool.and_eq_true, decide_eq_true_eq, beq_iff_eq, ← UInt8.toNat_inj, UInt8.lt_iff_toNat_lt, k]
  omega
theorem P_OctetOrder (a b : Int) : F_law01_OctetOrder a b = some true := by
  unfold F_law01_OctetOrder
  rw [P_PutPlace (by simp), Option.bind_some, P_PutPlace (by simp), Option.bind_some, P_works01]
  by_cases ha : a < 0 ∨ a ≥ 16777216
  · rw [if_pos ha]
    have : (decide (a ≥ 0) && decide (a < 16777216)) = false := by rw [Bool.and_eq_false_iff]; simp only [decide_eq_false_iff_not]; omega
    by_cases hb : b < 0 ∨ b ≥ 16777216
    · rw [if_pos hb, this]
      by_cases h0 : b ≥ 0
      · rw [decT h0, decF (show ¬ b < 16777216 by omega)]; rfl
      · rw [decF h0]; rfl
    · rw [if_neg hb, this, decT (show b ≥ 0 by omega), decT (show b < 16777216 by omega)]; rfl
  · rw [if_neg ha, decT (show a ≥ 0 by omega), decT (show a < 16777216 by omega)]
    by_cases hb : b < 0 ∨ b ≥ 16777216
    · rw [if_pos hb]
      by_cases h0 : b ≥ 0
      · rw [decT h0, decF (show ¬ b < 16777216 by omega)]; rfl
      · rw [decF h0]; rfl
    · rw [if_neg hb, decT (show b ≥ 0 by omega), decT (show b < 16777216 by omega)]
      simp only [List.nil_append, pb_lt (show 0 ≤ a ∧ a < 16777216 by omega) (show 0 ≤ b ∧ b < 16777216 by omega)]
      simp [pb]

end Go.Proofs.Ytmcfgapknoiohaa
