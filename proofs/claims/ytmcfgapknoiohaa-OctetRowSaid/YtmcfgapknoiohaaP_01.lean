import Derived.Test.YtmcfgapknoiohaaAd
import Derived.Test.YtmcfgapknoiohaaF
import Derived.Test.YtmcfgapknoiohaaPL
namespace Go.Proofs.Ytmcfgapknoiohaa
open Go.Ab Go.RowKit
set_option linter.unusedVariables false
set_option linter.unusedSimpArgs false
theorem or_halves : ∀ h l : Fin 16, andI .u8 ((h.val * 16 + l.val : Nat) : Int) 15 = l.val ∧ shrI .u8 ((h.val * 16 + l.val : Nat) : Int) 4 = h.val ∧ IntKind.u8.wrap (orI .i64 (shlI .i64 (h.val : Int) 4) (l.val : Int)) = ((h.val * 16 + l.val : Nat) : Int) := by decide +kernel
theorem zO {a b : Int} : zi a b = some (if 0 ≤ a ∧ a < 16 ∧ 0 ≤ b ∧ b < 16 then (16 * a + b, true) else (0, false)) := by
  unfold zi
  by_cases h : 0 ≤ a ∧ a < 16 ∧ 0 ≤ b ∧ b < 16
  · rw [decF (by omega), decF (by omega), decF (by omega), decF (by omega), if_pos h]
    have := (or_halves ⟨a.toNat, by omega⟩ ⟨b.toNat, by omega⟩).2.2
    simp only [Int.toNat_of_nonneg h.1, Int.toNat_of_nonneg h.2.2.1] at this
    simp only [Bool.or_self, Bool.false_eq_true, if_false, this]
    congr 2
    omega
  · rw [if_neg h]
    have : (((decide (a < 0) || decide (a ≥ 16)) || decide (b < 0)) || decide (b ≥ 16)) = true := by
      simp only [Bool.or_eq_true, decide_eq_true_eq]; omega
    rw [this, if_pos rfl]
theorem zL {x : Nat} (hx : x < 256) : zl (x : Int) = some (((x / 16 : Nat) : Int), ((x % 16 : Nat) : Int)) := by
  unfold zl
  have := or_halves ⟨x / 16, by omega⟩ ⟨x % 16, by omega⟩
  rw [show ((x / 16 * 16 + x % 16 : Nat)) = x from by omega] at this
  simp only at this
  rw [this.1, this.2.1, wi64 (by omega), wi64 (by omega)]
theorem zbb {n : Nat} (h : n ≤ 1099511627776) : zx [] (n : Int) = some [] := by
  unfold zx
  rw [decF (by omega), if_neg (by simp)]
  unfold zF
  have e : IntKind.i64.wrap ((n : Int) - IntKind.i64.wrap (0 - 0)) = n := by rw [wi64 (x := 0 - 0) (by omega), wi64 (by omega)]; omega
  rw [e]
  by_cases h0 : n = 0
  · subst h0
    rfl
  · rw [decT (by omega), if_pos rfl, nneg_ok (by omega), Option.bind_some, room_ok (by simpa using h), Option.bind_some]
    have := cutI_ok (l := ([] : List UInt8) ++ List.replicate (n : Int).toNat 0) (a := 0) (b := 0) (by omega) (by omega)
    rw [show ((0 : Nat) : Int) = 0 from rfl] at this
    rw [this]
    rfl
theorem Concat_l15 (ls : List (List UInt8)) (hl : ls.length ≤ 1000000) (hz : ls.flatten.length ≤ 1099511627776) : ∀ (n i : Nat), i ≤ ls.length → ls.length - i < n → zC ls n (ls.take i).flatten (i : Int) = some ls.flatten
  | 0, i, _, h => by omega
  | n + 1, i, hi, h => by
    show zr _ ls _ (i : Int) = _
    unfold zr
    by_cases hlt : i < ls.length
    · rw [decT (by omega), if_pos rfl, getI_lt hlt, Option.bind_some]
      have e : (ls.take i).flatten ++ ls[i] = (ls.take (i + 1)).flatten := by rw [List.take_succ_eq_append_getElem hlt, List.flatten_append]; simp
      have hle : (ls.take (i + 1)).flatten.length ≤ ls.flatten.length := by
        conv => rhs; rw [← List.take_append_drop (i + 1) ls, List.flatten_append, List.length_append]
        omega
      rw [room_ok (by rw [← e, List.length_append] at hle; omega), Option.bind_some, e, i64_succ (by omega)]
      exact Concat_l15 ls hl hz n (i + 1) (by omega) (by omega)
    · rw [decF (by omega), if_neg (by simp), List.take_of_length_le (by omega)]
theorem Concat_l13 (ls : List (List UInt8)) (hl : ls.length ≤ 1000000) (hz : ls.flatten.length ≤ 1099511627776) : ∀ (n i : Nat), i ≤ ls.length → ls.length - i < n → zy ls n ((ls.take i).flatten.length : Int) (i : Int) = some ls.flatten
  | 0, i, _, h => by omega
  | n + 1, i, hi, h => by
    show zq _ ls _ (i : Int) = _
    unfold zq
    by_cases hlt : i < ls.length
    · rw [decT (by omega), if_pos rfl, getI_lt hlt, Option.bind_some]
      have e : (ls.take i).flatten ++ ls[i] = (ls.take (i + 1)).flatten := by rw [List.take_succ_eq_append_getElem hlt, List.flatten_append]; simp
      have hle : (ls.take (i + 1)).flatten.length ≤ ls.flatten.length := by
        conv => rhs; rw [← List.take_append_drop (i + 1) ls, List.flatten_append, List.length_append]
        omega
      have e2 : (ls.take i).flatten.length + ls[i].length = (ls.take (i + 1)).flatten.length := by rw [← e, List.length_append]
      rw [i64_add (by omega), e2, decF (by omega), if_neg (by simp), i64_succ (by omega)]
      exact Concat_l13 ls hl hz n (i + 1) (by omega) (by omega)
    · rw [decF (by omega), if_neg (by simp), List.take_of_length_le (by omega), zbb hz, Option.bind_some]
      exact Concat_l15 ls hl hz big 0 (by omega) (big_gt (by omega))
theorem zT {ls : List (List UInt8)} (hl : ls.length ≤ 1000000) (hz : ls.flatten.length ≤ 1099511627776) : zv ls = some ls.flatten :=
  Concat_l13 ls hl hz big 0 (by omega) (big_gt (by omega))
theorem cutB {l : List UInt8} {k n : Nat} {m : Int} (hm : m = (n : Int)) (hk : k ≤ l.length) (h : l.length < k + n) : zg l (k : Int) m = some ([], 0, 5) := by
  subst hm
  unfold zg
  rw [decF (by omega), decF (by omega), Bool.or_self, if_neg (by simp), cutI_ok hk (Nat.le_refl _), Option.bind_some, decF, if_neg (by simp)]
  simp only [List.length_drop, List.length_take]
  omega
theorem cutC {l : List UInt8} {k n : Nat} {m : Int} (hm : m = (n : Int)) (hl : l.length ≤ 1099511627776) (h : k + n ≤ l.length) : zg l (k : Int) m = some ((l.drop k).take n, ((k + n : Nat) : Int), 0) := by
  subst hm
  unfold zg
  have hlen : ((l.take l.length).drop k).length = l.length - k := by simp
  rw [decF (by omega), decF (by omega), Bool.or_self, if_neg (by simp), cutI_ok (by omega) (Nat.le_refl _), Option.bind_some, decT (by rw [hlen]; omega), if_pos rfl]
  have := cutI_ok (l := (l.take l.length).drop k) (a := 0) (b := n) (by omega) (by rw [hlen]; omega)
  rw [show ((0 : Nat) : Int) = 0 from rfl] at this
  rw [this, Option.bind_some, i64_add (by omega), List.drop_zero, List.take_length]
theorem OneB {l : List UInt8} {k : Nat} (h : k = l.length) : zd l (k : Int) = some (0, 0, 5) := by
  unfold zd
  rw [cutB (n := 1) (m := 1) rfl (by omega) (by omega)]
  rfl
theorem OneC {l : List UInt8} {k : Nat} (hl : l.length ≤ 1099511627776) (h : k < l.length) : zd l (k : Int) = some ((l[k].toNat : Int), ((k + 1 : Nat) : Int), 0) := by
  unfold zd
  rw [cutC (n := 1) (m := 1) rfl hl (by omega), Option.bind_some, if_neg (by simp)]
  have := getI_cast ((l.drop k).take 1) 0
  rw [show ((0 : Nat) : Int) = 0 from rfl] at this
  rw [this]
  simp [List.getElem?_take, List.getElem?_drop, List.getElem?_eq_getElem h]
theorem shl8 {x : Nat} (h : x < 65536) : shlI .i64 (x : Int) 8 = ((x * 256 : Nat) : Int) := by
  unfold shlI
  rw [show (2 : Int) ^ min (8 : Int).toNat IntKind.i64.bits = 256 from by decide, wi64 (by omega)]
  omega
theorem or8 {x y : Nat} (h : x < 65536) (hy : y < 256) : orI .i64 ((x * 256 : Nat) : Int) (y : Int) = ((x * 256 + y : Nat) : Int) := by
  unfold orI
  rw [BitVec.toNat_or, BitVec.ofInt_natCast, BitVec.ofInt_natCast, BitVec.toNat_ofNat, BitVec.toNat_ofNat, Nat.mod_eq_of_lt (Nat.lt_of_lt_of_le (show x * 256 < 16777216 by omega) (by decide)), Nat.mod_eq_of_lt (Nat.lt_of_lt_of_le hy (by decide))]
  have := Nat.two_pow_add_eq_or_of_lt (i := 8) (b := y) hy x
  rw [Nat.mul_comm] at this
  rw [show x * 256 = x * 2 ^ 8 from rfl, ← this, wi64 (by omega)]
def pl3 (a b c : UInt8) : Nat := (a.toNat * 256 + b.toNat) * 256 + c.toNat
theorem PlaceB {l : List UInt8} {k : Nat} (hk : k ≤ l.length) (h : l.length < k + 3) : zf l (k : Int) = some (0, 0, 5) := by
  unfold zf
  rw [cutB (n := 3) (m := 3) rfl hk (by omega)]
  rfl
theorem or8s {x : Int} {m y : Nat} (hx : x = m) (h : m < 65536) (hy : y < 256) : orI .i64 (shlI .i64 x 8) (IntKind.i64.wrap (y : Int)) = ((m * 256 + y : Nat) : Int) := by
  subst hx
  rw [shl8 h, i64_nat (by omega), or8 h hy]
theorem Place_loop {a b c : UInt8} {m e : Int} : zo ([a, b, c], m, e) big 0 0 = some ((pl3 a b c : Int), m, e) := by
  have ha := a.toNat_lt
  have hb := b.toNat_lt
  have hc := c.toNat_lt
  obtain ⟨n, hn⟩ : ∃ n, big = n + 4 := ⟨big - 4, rfl⟩
  rw [hn]
  have o0 := or8s (x := 0) (m := 0) (y := a.toNat) rfl (by omega) ha
  have o1 := or8s (x := _) (m := 0 * 256 + a.toNat) (y := b.toNat) rfl (by omega) hb
  have o2 := or8s (x := _) (m := (0 * 256 + a.toNat) * 256 + b.toNat) (y := c.toNat) rfl (by omega) hc
  have g0 : getI [a, b, c] 0 = some a := rfl
  have g1 : getI [a, b, c] 1 = some b := rfl
  have g2 : getI [a, b, c] 2 = some c := rfl
  have w1 : IntKind.i64.wrap (0 + 1) = 1 := wi64 (by omega)
  have w2 : IntKind.i64.wrap (1 + 1) = 2 := wi64 (by omega)
  have w3 : IntKind.i64.wrap (2 + 1) = 3 := wi64 (by omega)
  have d0 : decide ((0 : Int) < (([a, b, c] : List UInt8).length : Int)) = true := rfl
  have d1 : decide ((1 : Int) < (([a, b, c] : List UInt8).length : Int)) = true := rfl
  have d2 : decide ((2 : Int) < (([a, b, c] : List UInt8).length : Int)) = true := rfl
  have d3 : decide ((3 : Int) < (([a, b, c] : List UInt8).length : Int)) = false := rfl
  simp only [zo, zG]
  rw [d0, if_pos rfl, g0, Option.bind_some, o0, w1, d1, if_pos rfl, g1, Option.bind_some, o1, w2, d2, if_pos rfl, g2, Option.bind_some, o2, w3, d3, if_neg (by simp)]
  simp [pl3]
theorem take3 {l : List UInt8} {k : Nat} (h : k + 3 ≤ l.length) : (l.drop k).take 3 = [l[k], l[k + 1], l[k + 2]] := by
  rw [List.drop_eq_getElem_cons (by omega), List.drop_eq_getElem_cons (by omega), List.drop_eq_getElem_cons (by omega)]
  rfl
theorem PlaceC {l : List UInt8} {k : Nat} (hl : l.length ≤ 1099511627776) (h : k + 3 ≤ l.length) : zf l (k : Int) = some ((pl3 l[k] l[k + 1] l[k + 2] : Int), ((k + 3 : Nat) : Int), 0) := by
  unfold zf
  rw [cutC (n := 3) (m := 3) rfl hl (by omega), Option.bind_some, take3 h]
  exact Place_loop
def txt (l : List UInt8) (k n : Nat) : ByteArray := ⟨((l.drop k).take n).toArray⟩
theorem TextB {l : List UInt8} {k : Nat} (h : k = l.length) : zc l (k : Int) = some (⟨#[]⟩, 0, 5) := by
  unfold zc
  rw [OneB h]
  rfl
theorem TextD {l : List UInt8} {k : Nat} (hl : l.length ≤ 1099511627776) (hk : k < l.length) (h : l.length < k + 1 + l[k].toNat) : zc l (k : Int) = some (⟨#[]⟩, 0, 5) := by
  unfold zc
  have ha := l[k].toNat_lt
  rw [OneC hl hk, Option.bind_some, if_neg (by simp)]
  simp only
  rw [i64_nat (by omega), cutB rfl (by omega) h]
  rfl
theorem TextC {l : List UInt8} {k : Nat} (hl : l.length ≤ 1099511627776) (hk : k < l.length) (h : k + 1 + l[k].toNat ≤ l.length) : zc l (k : Int) = some (txt l (k + 1) l[k].toNat, ((k + 1 + l[k].toNat : Nat) : Int), 0) := by
  unfold zc
  have ha := l[k].toNat_lt
  rw [OneC hl hk, Option.bind_some, if_neg (by simp)]
  simp only
  rw [i64_nat (by omega), cutC rfl hl h]
  rfl
def pb (p : Int) : List UInt8 := [UInt8.ofNat (p / 65536 % 256).toNat, UInt8.ofNat (p / 256 % 256).toNat, UInt8.ofNat (p % 256).toNat]
theorem pl_loop {l : List UInt8} {p : Int} (hl : l.length ≤ 1099511000000) : zm l p big [0, 0, 0] 0 = some (l ++ pb p, 0) := by
  obtain ⟨n, hn⟩ : ∃ n, big = n + 4 := ⟨big - 4, rfl⟩
  rw [hn]
  have w1 : IntKind.i64.wrap (0 + 1) = 1 := wi64 (by omega)
  have w2 : IntKind.i64.wrap (1 + 1) = 2 := wi64 (by omega)
  have w3 : IntKind.i64.wrap (2 + 1) = 3 := wi64 (by omega)
  have v0 : IntKind.i64.wrap (2 - 0) = 2 := wi64 (by omega)
  have v1 : IntKind.i64.wrap (2 - 1) = 1 := wi64 (by omega)
  have v2 : IntKind.i64.wrap (2 - 2) = 0 := wi64 (by omega)
  have e0 : IntKind.i64.wrap (8 * 0) = 0 := wi64 (by omega)
  have e1 : IntKind.i64.wrap (8 * 1) = 8 := wi64 (by omega)
  have e2 : IntKind.i64.wrap (8 * 2) = 16 := wi64 (by omega)
  have s0 : shrO .i64 p 0 = some p := by simp [shrO, shrI, Int.fdiv_one]
  have s1 : shrO .i64 p 8 = some (p / 256) := by
    unfold shrO shrI
    rw [if_neg (by omega), show (2 : Int) ^ min (8 : Int).toNat IntKind.i64.bits = 256 from by decide, Int.fdiv_eq_ediv_of_nonneg _ (by omega)]
  have s2 : shrO .i64 p 16 = some (p / 65536) := by
    unfold shrO shrI
    rw [if_neg (by omega), show (2 : Int) ^ min (16 : Int).toNat IntKind.i64.bits = 65536 from by decide, Int.fdiv_eq_ediv_of_nonneg _ (by omega)]
  have g0 : getI [(0 : UInt8), 0, 0] 2 = some 0 := rfl
  have g1 : ∀ a : UInt8, getI [(0 : UInt8), 0, a] 1 = some 0 := fun a => rfl
  have g2 : ∀ a b : UInt8, getI [(0 : UInt8), b, a] 0 = some 0 := fun a b => rfl
  have hc := zT (ls := [l, pb p]) (by simp) (by simp [pb]; omega)
  simp only [zm, zE]
  rw [decT (by omega), if_pos rfl, e0, s0, Option.bind_some, v0, g0, Option.bind_some, u8o_wrap, Option.bind_some, show List.set [(0 : UInt8), 0, 0] (2 : Int).toNat (UInt8.ofNat (p % 256).toNat) = [0, 0, UInt8.ofNat (p % 256).toNat] from rfl]
  rw [w1, decT (by omega), if_pos rfl, e1, s1, Option.bind_some, v1, g1, Option.bind_some, u8o_wrap, Option.bind_some, show List.set [(0 : UInt8), 0, (UInt8.ofNat (p % 256).toNat)] (1 : Int).toNat (UInt8.ofNat (p / 256 % 256).toNat) = [0, UInt8.ofNat (p / 256 % 256).toNat, UInt8.ofNat (p % 256).toNat] from rfl]
  rw [w2, decT (by omega), if_pos rfl, e2, s2, Option.bind_some, v2, g2, Option.bind_some, u8o_wrap, Option.bind_some, show List.set [(0 : UInt8), (UInt8.ofNat (p / 256 % 256).toNat), (UInt8.ofNat (p % 256).toNat)] (0 : Int).toNat (UInt8.ofNat (p / 65536 % 256).toNat) = pb p from rfl]
  rw [w3, decF (by omega), if_neg (by simp), hc, Option.bind_some]
  simp
theorem zR {l : List UInt8} {p : Int} (hl : l.length ≤ 1099511000000) : zk l p = some (if p < 0 ∨ p ≥ 16777216 then ([], 1) else (l ++ pb p, 0)) := by
  unfold zk
  by_cases h : p < 0 ∨ p ≥ 16777216
  · rw [if_pos (by simpa using h), if_pos h]
  · rw [if_neg (by simpa using h), if_neg h]
    exact pl_loop hl
theorem zQ {l : List UInt8} {s : ByteArray} (hl : l.length ≤ 1099511000000) : zj l s = some (if s.size > 255 then ([], 1) else (l ++ [UInt8.ofNat s.size] ++ s.data.toList, 0)) := by
  unfold zj
  by_cases h : s.size > 255
  · rw [decT (by omega), if_pos rfl, if_pos h]
  · have hs : s.data.toList.length = s.size := by simp
    rw [decF (by omega), if_neg (by simp), if_neg h, u8o_wrap, Option.bind_some]
    have e : (((s.size : Nat) : Int) % 256).toNat = s.size := by omega
    rw [e, zT (by simp) (by simp only [List.flatten_cons, List.flatten_nil, List.length_append, hs, List.length_cons, List.length_nil]; omega), Option.bind_some]
    simp
theorem zD : zh = some true := by
  unfold zh
  have h1 : zi 1 2 = some (18, true) := by rw [zO]; rfl
  have h2 : zk [18] 258 = some ([18, 0, 1, 2], 0) := by rw [zR (by simp)]; rfl
  have h3 : zj [18, 0, 1, 2] ⟨#[97, 98]⟩ = some ([18, 0, 1, 2, 2, 97, 98], 0) := by rw [zQ (by simp)]; rfl
  have h4 : zd [18, 0, 1, 2, 2, 97, 98] 0 = some (18, 1, 0) := OneC (k := 0) (by simp) (by simp)
  have h5 : zf [18, 0, 1, 2, 2, 97, 98] 1 = some (258, 4, 0) := by
    refine (PlaceC (l := [18, 0, 1, 2, 2, 97, 98]) (k := 1) (by simp) (by simp)).trans ?_
    simp [pl3]
  have h6 : zc [18, 0, 1, 2, 2, 97, 98] 4 = some (⟨#[97, 98]⟩, 7, 0) := TextC (k := 4) (by simp) (by simp) (by decide)
  have h7 : zl 18 = some (1, 2) := zL (x := 18) (by omega)
  have h8 : u8o 18 = some 18 := rfl
  have h9 : strEq ⟨#[97, 98]⟩ ⟨#[97, 98]⟩ = true := by rw [strEq_eq]; simp
  rw [h1, Option.bind_some, h8, Option.bind_some, h2, Option.bind_some, h3, Option.bind_some, h4, Option.bind_some, h5, Option.bind_some, h6, Option.bind_some, h7, Option.bind_some, h9]
  rfl
end Go.Proofs.Ytmcfgapknoiohaa
