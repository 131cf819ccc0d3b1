import Derived.Test.YtgkllgoelpfdkaaGreatPL
namespace Go.Proofs.YtgkllgoelpfdkaaGreat
open Go.Ab Go.RowKit
set_option linter.unusedVariables false
set_option linter.unusedSimpArgs false
theorem zlt : ∀ h l : Fin 16, zcz .u8 ((h.val * 16 + l.val : Nat) : Int) 15 = l.val ∧ zcj .u8 ((h.val * 16 + l.val : Nat) : Int) 4 = h.val ∧ IntKind.u8.wrap (orI .i64 (zct .i64 (h.val : Int) 4) (l.val : Int)) = ((h.val * 16 + l.val : Nat) : Int) := by decide +kernel
theorem zqT {a b : Int} : zhe a b = some (if 0 ≤ a ∧ a < 16 ∧ 0 ≤ b ∧ b < 16 then (16 * a + b, true) else (0, false)) := by
 unfold zhe
 by_cases h : 0 ≤ a ∧ a < 16 ∧ 0 ≤ b ∧ b < 16
 ·rw [zO (by omega), zO (by omega), zO (by omega), zO (by omega), if_pos h]
  have := (zlt ⟨a.toNat, by omega⟩ ⟨b.toNat, by omega⟩).2.2
  simp only [Int.toNat_of_nonneg h.1, Int.toNat_of_nonneg h.2.2.1] at this
  simp only [Bool.or_self, Bool.false_eq_true, if_false, this]
  congr 2
  omega
 ·rw [if_neg h]
  have : (((decide (a < 0) || decide (a ≥ 16)) || decide (b < 0)) || decide (b ≥ 16)) = true := by
   simp only [Bool.or_eq_true, decide_eq_true_eq]; omega
  rw [this, if_pos rfl]
theorem zlG {x : Nat} (hx : x < 256) : zhq (x : Int) = some (((x / 16 : Nat) : Int), ((x % 16 : Nat) : Int)) := by
 unfold zhq
 have := zlt ⟨x / 16, by omega⟩ ⟨x % 16, by omega⟩
 rw [show ((x / 16 * 16 + x % 16 : Nat)) = x from by omega] at this
 simp only at this
 rw [this.1, this.2.1, zN (by omega), zN (by omega)]
theorem zmc {a b : Int} : ∀ (n x : Nat), x ≤ 256 → 256 - x < n → zgD a b n (x : Int) = some (if 0 ≤ a ∧ a < 16 ∧ 0 ≤ b ∧ b < 16 ∧ (x : Int) ≤ 16 * a + b then (16 * a + b, true) else (0, false))
 | 0, x, _, h => by omega
 | n + 1, x, hx, h => by
  show zgV _ a b (x : Int) = _
  unfold zgV
  by_cases hlt : x < 256
  ·rw [zX (by omega), if_pos rfl]
   have e1 : Int.tdiv (x : Int) 16 = ((x / 16 : Nat) : Int) := by rw [Int.tdiv_eq_ediv_of_nonneg (by omega)]; rfl
   have e2 : Int.tmod (x : Int) 16 = ((x % 16 : Nat) : Int) := by rw [Int.tmod_eq_emod_of_nonneg (by omega)]; rfl
   rw [e1, e2, zN (by omega)]
   by_cases hit : ((x / 16 : Nat) : Int) = a ∧ ((x % 16 : Nat) : Int) = b
   ·rw [zd3 hit.1, zd3 hit.2, Bool.and_self, if_pos rfl, if_pos (by omega), zd0]
    congr 2
    omega
   ·have : ((((x / 16 : Nat) : Int) == a) && (((x % 16 : Nat) : Int) == b)) = false := by
     rw [Bool.and_eq_false_iff]
     simp only [beq_eq_false_iff_ne, ne_eq]
     omega
    rw [this, if_neg (by simp), zbt (by omega), zmc n (x + 1) (by omega) (by omega)]
    congr 1
    by_cases hc : 0 ≤ a ∧ a < 16 ∧ 0 ≤ b ∧ b < 16 ∧ (x : Int) ≤ 16 * a + b
    ·rw [if_pos hc, if_pos (by omega)]
    ·rw [if_neg hc, if_neg (by omega)]
  ·rw [zO (by omega), if_neg (by simp), if_neg (by omega)]
theorem zpd {a b : Int} : zhp a b = some (if 0 ≤ a ∧ a < 16 ∧ 0 ≤ b ∧ b < 16 then (16 * a + b, true) else (0, false)) := by
 unfold zhp
 have := zmc (a := a) (b := b) big 0 (by omega) (zbR (by omega))
 rw [show ((0 : Nat) : Int) = 0 from rfl] at this
 rw [this]
 congr 1
 by_cases hc : 0 ≤ a ∧ a < 16 ∧ 0 ≤ b ∧ b < 16
 ·rw [if_pos hc, if_pos (by omega)]
 ·rw [if_neg hc, if_neg (by omega)]
theorem zqi {n : Nat} (h : n ≤ 1099511627776) : zht [] (n : Int) = some [] := by
 unfold zht
 rw [zO (by omega), if_neg (by simp)]
 unfold zip
 have e : IntKind.i64.wrap ((n : Int) - IntKind.i64.wrap (0 - 0)) = n := by rw [zN (x := 0 - 0) (by omega), zN (by omega)]; omega
 rw [e]
 by_cases h0 : n = 0
 ·subst h0
  rfl
 ·rw [zX (by omega), if_pos rfl, zsA (by omega), Option.bind_some, zbi (by simpa using h), Option.bind_some]
  have := zcV (l := ([] : List UInt8) ++ List.replicate (n : Int).toNat 0) (a := 0) (b := 0) (by omega) (by omega)
  rw [show ((0 : Nat) : Int) = 0 from rfl] at this
  rw [this]
  rfl
theorem zmh (ls : List (List UInt8)) (hl : ls.length ≤ 1000000) (hz : ls.flatten.length ≤ 1099511627776) : ∀ (n i : Nat), i ≤ ls.length → ls.length - i < n → zh9 ls n (ls.take i).flatten (i : Int) = some ls.flatten
 | 0, i, _, h => by omega
 | n + 1, i, hi, h => by
  show zhw _ ls _ (i : Int) = _
  unfold zhw
  by_cases hlt : i < ls.length
  ·rw [zX (by omega), if_pos rfl, zbQ hlt, Option.bind_some]
   have e : (ls.take i).flatten ++ ls[i] = (ls.take (i + 1)).flatten := by rw [List.take_succ_eq_append_getElem hlt, List.flatten_append]; simp
   have hle : (ls.take (i + 1)).flatten.length ≤ ls.flatten.length := by
    conv => rhs; rw [← List.take_append_drop (i + 1) ls, List.flatten_append, List.length_append]
    omega
   rw [zbi (by rw [← e, List.length_append] at hle; omega), Option.bind_some, e, zbt (by omega)]
   exact zmh ls hl hz n (i + 1) (by omega) (by omega)
  ·rw [zO (by omega), if_neg (by simp), List.take_of_length_le (by omega)]
theorem zmN (ls : List (List UInt8)) (hl : ls.length ≤ 1000000) (hz : ls.flatten.length ≤ 1099511627776) : ∀ (n i : Nat), i ≤ ls.length → ls.length - i < n → zgs ls n ((ls.take i).flatten.length : Int) (i : Int) = some ls.flatten
 | 0, i, _, h => by omega
 | n + 1, i, hi, h => by
  show zgK _ ls _ (i : Int) = _
  unfold zgK
  by_cases hlt : i < ls.length
  ·rw [zX (by omega), if_pos rfl, zbQ hlt, Option.bind_some]
   have e : (ls.take i).flatten ++ ls[i] = (ls.take (i + 1)).flatten := by rw [List.take_succ_eq_append_getElem hlt, List.flatten_append]; simp
   have hle : (ls.take (i + 1)).flatten.length ≤ ls.flatten.length := by
    conv => rhs; rw [← List.take_append_drop (i + 1) ls, List.flatten_append, List.length_append]
    omega
   have e2 : (ls.take i).flatten.length + ls[i].length = (ls.take (i + 1)).flatten.length := by rw [← e, List.length_append]
   rw [zdW (by omega), e2, zO (by omega), if_neg (by simp), zbt (by omega)]
   exact zmN ls hl hz n (i + 1) (by omega) (by omega)
  ·rw [zO (by omega), if_neg (by simp), List.take_of_length_le (by omega), zqi hz, Option.bind_some]
   exact zmh ls hl hz big 0 (by omega) (zbR (by omega))
theorem zof {ls : List (List UInt8)} (hl : ls.length ≤ 1000000) (hz : ls.flatten.length ≤ 1099511627776) : zi2 ls = some ls.flatten :=
 zmN ls hl hz big 0 (by omega) (zbR (by omega))
theorem zlz {l : List UInt8} {k n : Nat} {m : Int} (hm : m = (n : Int)) (hk : k ≤ l.length) (h : l.length < k + n) : zer l (k : Int) m = some ([], 0, 5) := by
 subst hm
 unfold zer
 rw [zO (by omega), zO (by omega), Bool.or_self, if_neg (by simp), zcV hk (Nat.le_refl _), Option.bind_some, zO, if_neg (by simp)]
 simp only [List.length_drop, List.length_take]
 omega
theorem zlx {l : List UInt8} {k n : Nat} {m : Int} (hm : m = (n : Int)) (hl : l.length ≤ 1099511627776) (h : k + n ≤ l.length) : zer l (k : Int) m = some ((l.drop k).take n, ((k + n : Nat) : Int), 0) := by
 subst hm
 unfold zer
 have hlen : ((l.take l.length).drop k).length = l.length - k := by simp
 rw [zO (by omega), zO (by omega), Bool.or_self, if_neg (by simp), zcV (by omega) (Nat.le_refl _), Option.bind_some, zX (by rw [hlen]; omega), if_pos rfl]
 have := zcV (l := (l.take l.length).drop k) (a := 0) (b := n) (by omega) (by rw [hlen]; omega)
 rw [show ((0 : Nat) : Int) = 0 from rfl] at this
 rw [this, Option.bind_some, zdW (by omega), List.drop_zero, List.take_length]
theorem zlS {l : List UInt8} {k n : Nat} {m : Int} (hm : m = (n : Int)) (hl : l.length ≤ 1099511627776) (hk : k ≤ l.length) (h : l.length < k + n) : zez l (k : Int) m = some 5 := by
 subst hm
 unfold zez
 rw [zO (by omega), zO (by omega), Bool.or_self, if_neg (by simp), zN (by omega), zX (by omega), if_pos rfl]
theorem zmm {l : List UInt8} {k n : Nat} {m : Int} (hm : m = (n : Int)) (hl : l.length ≤ 1099511627776) (h : k + n ≤ l.length) : zez l (k : Int) m = some 0 := by
 subst hm
 unfold zez
 rw [zO (by omega), zO (by omega), Bool.or_self, if_neg (by simp), zN (by omega), zO (by omega), if_neg (by simp)]
theorem zoQ {l : List UInt8} {k : Nat} (h : k = l.length) : zcR l (k : Int) = some (0, 0, 5) := by
 unfold zcR
 rw [zlz (n := 1) (m := 1) rfl (by omega) (by omega)]
 rfl
theorem znV {l : List UInt8} {k : Nat} (hl : l.length ≤ 1099511627776) (h : k < l.length) : zcR l (k : Int) = some ((l[k].toNat : Int), ((k + 1 : Nat) : Int), 0) := by
 unfold zcR
 rw [zlx (n := 1) (m := 1) rfl hl (by omega), Option.bind_some, if_neg (by simp)]
 have := zh1 ((l.drop k).take 1) 0
 rw [show ((0 : Nat) : Int) = 0 from rfl] at this
 rw [this]
 simp [List.getElem?_take, List.getElem?_drop, List.getElem?_eq_getElem h]
theorem zoR {l : List UInt8} {k : Nat} (hl : l.length ≤ 1099511627776) (h : k = l.length) : zeD l (k : Int) = some (0, 0, 5) := by
 unfold zeD
 rw [zlS (n := 1) (m := 1) rfl hl (by omega) (by omega)]
 rfl
theorem zp6 {l : List UInt8} {k : Nat} (hl : l.length ≤ 1099511627776) (h : k < l.length) : zeD l (k : Int) = some ((l[k].toNat : Int), ((k + 1 : Nat) : Int), 0) := by
 unfold zeD
 rw [zmm (n := 1) (m := 1) rfl hl (by omega), Option.bind_some, if_neg (by simp), zbQ h, Option.bind_some, zbt (by omega)]
theorem zpe {x : Nat} (h : x < 65536) : zct .i64 (x : Int) 8 = ((x * 256 : Nat) : Int) := by
 unfold zct
 rw [show (2 : Int) ^ min (8 : Int).toNat IntKind.i64.bits = 256 from by decide, zN (by omega)]
 omega
theorem or8 {x y : Nat} (h : x < 65536) (hy : y < 256) : orI .i64 ((x * 256 : Nat) : Int) (y : Int) = ((x * 256 + y : Nat) : Int) := by
 unfold orI
 rw [BitVec.toNat_or, BitVec.ofInt_natCast, BitVec.ofInt_natCast, BitVec.toNat_ofNat, BitVec.toNat_ofNat, Nat.mod_eq_of_lt (Nat.lt_of_lt_of_le (show x * 256 < 16777216 by omega) (by decide)), Nat.mod_eq_of_lt (Nat.lt_of_lt_of_le hy (by decide))]
 have := Nat.two_pow_add_eq_or_of_lt (i := 8) (b := y) hy x
 rw [Nat.mul_comm] at this
 rw [show x * 256 = x * 2 ^ 8 from rfl, ← this, zN (by omega)]
def pl3 (a b c : UInt8) : Nat := (a.toNat * 256 + b.toNat) * 256 + c.toNat
theorem zpM {l : List UInt8} {k : Nat} (hk : k ≤ l.length) (h : l.length < k + 3) : zeI l (k : Int) = some (0, 0, 5) := by
 unfold zeI
 rw [zlz (n := 3) (m := 3) rfl hk (by omega)]
 rfl
theorem zlk {x : Int} {m y : Nat} (hx : x = m) (h : m < 65536) (hy : y < 256) : orI .i64 (zct .i64 x 8) (IntKind.i64.wrap (y : Int)) = ((m * 256 + y : Nat) : Int) := by
 subst hx
 rw [zpe h, zoW (by omega), or8 h hy]
theorem zpn {a b c : UInt8} {m e : Int} : zfQ ([a, b, c], m, e) big 0 0 = some ((pl3 a b c : Int), m, e) := by
 have ha := a.toNat_lt
 have hb := b.toNat_lt
 have hc := c.toNat_lt
 obtain ⟨n, hn⟩ : ∃ n, big = n + 4 := ⟨big - 4, rfl⟩
 rw [hn]
 have o0 := zlk (x := 0) (m := 0) (y := a.toNat) rfl (by omega) ha
 have o1 := zlk (x := _) (m := 0 * 256 + a.toNat) (y := b.toNat) rfl (by omega) hb
 have o2 := zlk (x := _) (m := (0 * 256 + a.toNat) * 256 + b.toNat) (y := c.toNat) rfl (by omega) hc
 have g0 : zz [a, b, c] 0 = some a := rfl
 have g1 : zz [a, b, c] 1 = some b := rfl
 have g2 : zz [a, b, c] 2 = some c := rfl
 have w1 : IntKind.i64.wrap (0 + 1) = 1 := zN (by omega)
 have w2 : IntKind.i64.wrap (1 + 1) = 2 := zN (by omega)
 have w3 : IntKind.i64.wrap (2 + 1) = 3 := zN (by omega)
 have d0 : decide ((0 : Int) < (([a, b, c] : List UInt8).length : Int)) = true := rfl
 have d1 : decide ((1 : Int) < (([a, b, c] : List UInt8).length : Int)) = true := rfl
 have d2 : decide ((2 : Int) < (([a, b, c] : List UInt8).length : Int)) = true := rfl
 have d3 : decide ((3 : Int) < (([a, b, c] : List UInt8).length : Int)) = false := rfl
 simp only [zfQ, zjD]
 rw [d0, if_pos rfl, g0, Option.bind_some, o0, w1, d1, if_pos rfl, g1, Option.bind_some, o1, w2, d2, if_pos rfl, g2, Option.bind_some, o2, w3, d3, if_neg (by simp)]
 simp [pl3]
theorem zr4 {l : List UInt8} {k : Nat} (h : k + 3 ≤ l.length) : (l.drop k).take 3 = [l[k], l[k + 1], l[k + 2]] := by
 rw [List.drop_eq_getElem_cons (by omega), List.drop_eq_getElem_cons (by omega), List.drop_eq_getElem_cons (by omega)]
 rfl
theorem zmZ {l : List UInt8} {k : Nat} (hl : l.length ≤ 1099511627776) (h : k + 3 ≤ l.length) : zeI l (k : Int) = some ((pl3 l[k] l[k + 1] l[k + 2] : Int), ((k + 3 : Nat) : Int), 0) := by
 unfold zeI
 rw [zlx (n := 3) (m := 3) rfl hl (by omega), Option.bind_some, zr4 h]
 exact zpn
theorem zst {l : List UInt8} {k : Nat} (hl : l.length ≤ 1099511627776) (hk : k ≤ l.length) (h : l.length < k + 3) : zfr l (k : Int) = some (0, 0, 5) := by
 unfold zfr
 rw [zlS (n := 3) (m := 3) rfl hl hk (by omega)]
 rfl
theorem zol {l : List UInt8} {k : Nat} (hl : l.length ≤ 1099511627776) (h : k + 3 ≤ l.length) : zfr l (k : Int) = some ((pl3 l[k] l[k + 1] l[k + 2] : Int), ((k + 3 : Nat) : Int), 0) := by
 unfold zfr
 have ha := l[k].toNat_lt
 have hb := l[k + 1].toNat_lt
 have hc := l[k + 2].toNat_lt
 have e1 : IntKind.i64.wrap ((k : Int) + 1) = ((k + 1 : Nat) : Int) := zbt (by omega)
 have e2 : IntKind.i64.wrap ((k : Int) + 2) = ((k + 2 : Nat) : Int) := by rw [zN (by omega)]; omega
 have e3 : IntKind.i64.wrap ((k : Int) + 3) = ((k + 3 : Nat) : Int) := by rw [zN (by omega)]; omega
 rw [zmm (n := 3) (m := 3) rfl hl (by omega), Option.bind_some, if_neg (by simp), zbQ (by omega), Option.bind_some, e1, zbQ (by omega), Option.bind_some, e2, zbQ (by omega), Option.bind_some, e3]
 rw [zN (x := (l[k].toNat : Int)) (by omega), zN (x := (l[k + 1].toNat : Int)) (by omega), zN (x := (l[k + 2].toNat : Int)) (by omega), zN (x := 65536 * (l[k].toNat : Int)) (by omega), zN (x := 256 * (l[k + 1].toNat : Int)) (by omega), zN (x := 65536 * (l[k].toNat : Int) + 256 * (l[k + 1].toNat : Int)) (by omega), zN (by omega)]
 unfold pl3
 congr 2
 omega
def pb (p : Int) : List UInt8 := [UInt8.ofNat (p / 65536 % 256).toNat, UInt8.ofNat (p / 256 % 256).toNat, UInt8.ofNat (p % 256).toNat]
theorem zp9 {l : List UInt8} {p : Int} (hl : l.length ≤ 1099511000000) : zfM l p big [0, 0, 0] 0 = some (l ++ pb p, 0) := by
 obtain ⟨n, hn⟩ : ∃ n, big = n + 4 := ⟨big - 4, rfl⟩
 rw [hn]
 have w1 : IntKind.i64.wrap (0 + 1) = 1 := zN (by omega)
 have w2 : IntKind.i64.wrap (1 + 1) = 2 := zN (by omega)
 have w3 : IntKind.i64.wrap (2 + 1) = 3 := zN (by omega)
 have v0 : IntKind.i64.wrap (2 - 0) = 2 := zN (by omega)
 have v1 : IntKind.i64.wrap (2 - 1) = 1 := zN (by omega)
 have v2 : IntKind.i64.wrap (2 - 2) = 0 := zN (by omega)
 have e0 : IntKind.i64.wrap (8 * 0) = 0 := zN (by omega)
 have e1 : IntKind.i64.wrap (8 * 1) = 8 := zN (by omega)
 have e2 : IntKind.i64.wrap (8 * 2) = 16 := zN (by omega)
 have s0 : zc6 .i64 p 0 = some p := by simp [zc6, zcj, Int.fdiv_one]
 have s1 : zc6 .i64 p 8 = some (p / 256) := by
  unfold zc6 zcj
  rw [if_neg (by omega), show (2 : Int) ^ min (8 : Int).toNat IntKind.i64.bits = 256 from by decide, Int.fdiv_eq_ediv_of_nonneg _ (by omega)]
 have s2 : zc6 .i64 p 16 = some (p / 65536) := by
  unfold zc6 zcj
  rw [if_neg (by omega), show (2 : Int) ^ min (16 : Int).toNat IntKind.i64.bits = 65536 from by decide, Int.fdiv_eq_ediv_of_nonneg _ (by omega)]
 have g0 : zz [(0 : UInt8), 0, 0] 2 = some 0 := rfl
 have g1 : ∀ a : UInt8, zz [(0 : UInt8), 0, a] 1 = some 0 := fun a => rfl
 have g2 : ∀ a b : UInt8, zz [(0 : UInt8), b, a] 0 = some 0 := fun a b => rfl
 have hc := zof (ls := [l, pb p]) (by simp) (by simp [pb]; omega)
 simp only [zfM, zju]
 rw [zX (by omega), if_pos rfl, e0, s0, Option.bind_some, v0, g0, Option.bind_some, zd7, Option.bind_some, show List.set [(0 : UInt8), 0, 0] (2 : Int).toNat (UInt8.ofNat (p % 256).toNat) = [0, 0, UInt8.ofNat (p % 256).toNat] from rfl]
 rw [w1, zX (by omega), if_pos rfl, e1, s1, Option.bind_some, v1, g1, Option.bind_some, zd7, Option.bind_some, show List.set [(0 : UInt8), 0, (UInt8.ofNat (p % 256).toNat)] (1 : Int).toNat (UInt8.ofNat (p / 256 % 256).toNat) = [0, UInt8.ofNat (p / 256 % 256).toNat, UInt8.ofNat (p % 256).toNat] from rfl]
 rw [w2, zX (by omega), if_pos rfl, e2, s2, Option.bind_some, v2, g2, Option.bind_some, zd7, Option.bind_some, show List.set [(0 : UInt8), (UInt8.ofNat (p / 256 % 256).toNat), (UInt8.ofNat (p % 256).toNat)] (0 : Int).toNat (UInt8.ofNat (p / 65536 % 256).toNat) = pb p from rfl]
 rw [w3, zO (by omega), if_neg (by simp), hc, Option.bind_some]
 simp
theorem zon {l : List UInt8} {p : Int} (hl : l.length ≤ 1099511000000) : zhi l p = some (if p < 0 ∨ p ≥ 16777216 then ([], 1) else (l ++ pb p, 0)) := by
 unfold zhi
 by_cases h : p < 0 ∨ p ≥ 16777216
 ·rw [if_pos (by simpa using h), if_pos h]
 ·rw [if_neg (by simpa using h), if_neg h]
  exact zp9 hl
theorem zrl {l : List UInt8} {p : Int} (hl : l.length ≤ 1099511000000) : zhJ l p = some (if p < 0 ∨ p ≥ 16777216 then ([], 1) else (l ++ pb p, 0)) := by
 unfold zhJ
 by_cases h : p < 0 ∨ p ≥ 16777216
 ·rw [if_pos (by simpa using h), if_pos h]
 ·rw [if_neg (by simpa using h), if_neg h, zbi (by simp; omega), Option.bind_some]
  have t1 : Int.tdiv p 65536 = p / 65536 := Int.tdiv_eq_ediv_of_nonneg (by omega)
  have t2 : Int.tdiv p 256 = p / 256 := Int.tdiv_eq_ediv_of_nonneg (by omega)
  have t3 : Int.tmod p 256 = p % 256 := Int.tmod_eq_emod_of_nonneg (by omega)
  have t4 : Int.tmod (p / 256) 256 = p / 256 % 256 := Int.tmod_eq_emod_of_nonneg (by omega)
  have k1 : p / 256 % 256 % 256 = p / 256 % 256 := by omega
  have k2 : p % 256 % 256 = p % 256 := by omega
  rw [t1, t2, t3, zN (x := p / 65536) (by omega), zN (x := p / 256) (by omega), t4]
  simp only [zd7, Option.bind_some, k1, k2]
  rw [zbi (by simp; omega), Option.bind_some]
  rfl
end Go.Proofs.YtgkllgoelpfdkaaGreat
