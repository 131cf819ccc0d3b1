import Derived.Test.YtgkllgoelpfdkaaGreatAd
namespace Go.Proofs.YtgkllgoelpfdkaaGreat
open Go.Ab Go.RowKit
set_option linter.unusedVariables false
set_option linter.unusedSimpArgs false
def zW (x : Nat) : List UInt8 := if x > 127 then UInt8.ofNat (x % 128 + 128) :: zW (x / 128) else [UInt8.ofNat x]
termination_by x
decreasing_by omega
def zL (x : Int) : List UInt8 := if x > 63 ∨ x < -64 then UInt8.ofNat ((x % 128).toNat + 128) :: zL (x / 128) else [UInt8.ofNat (x % 128).toNat]
termination_by x.natAbs
decreasing_by omega
theorem zcU {x : Nat} (h : x > 127) : zW x = UInt8.ofNat (x % 128 + 128) :: zW (x / 128) := by rw [zW, if_pos h]
theorem zcT {x : Nat} (h : ¬ x > 127) : zW x = [UInt8.ofNat x] := by rw [zW, if_neg h]
theorem zcV {x : Int} (h : x > 63 ∨ x < -64) : zL x = UInt8.ofNat ((x % 128).toNat + 128) :: zL (x / 128) := by rw [zL, if_pos h]
theorem zcS {x : Int} (h : ¬ (x > 63 ∨ x < -64)) : zL x = [UInt8.ofNat (x % 128).toNat] := by rw [zL, if_neg h]
theorem zd0 (x : Nat) : 0 < (zW x).length := by
 by_cases h : x > 127
 ·rw [zcU h]; simp
 ·rw [zcT h]; simp
theorem zdN (x : Int) : 0 < (zL x).length := by
 by_cases h : x > 63 ∨ x < -64
 ·rw [zcV h]; simp
 ·rw [zcS h]; simp
theorem zko : ∀ (n : Nat) (x : Nat), x < 128 ^ (n + 1) → (zW x).length ≤ n + 1
 | 0, x, h => by rw [zcT (by omega)]; simp
 | n + 1, x, h => by
  by_cases hx : x > 127
  ·rw [zcU hx, List.length_cons]
   have := zko n (x / 128) (by rw [Nat.pow_succ] at h; omega)
   omega
  ·rw [zcT hx]; simp
theorem zkA : ∀ (n : Nat) (x : Int), -(64 * 128 ^ n) ≤ x → x < 64 * 128 ^ n → (zL x).length ≤ n + 1
 | 0, x, h, h2 => by rw [zcS (by omega)]; simp
 | n + 1, x, h, h2 => by
  by_cases hx : x > 63 ∨ x < -64
  ·rw [zcV hx, List.length_cons]
   have := zkA n (x / 128) (by rw [Int.pow_succ] at h; omega) (by rw [Int.pow_succ] at h2; omega)
   omega
  ·rw [zcS hx]; simp
theorem zdW {x : Nat} (h : x < 18446744073709551616) : (zW x).length ≤ 10 := zko 9 x (by omega)
theorem zd3 {x : Int} (h : -9223372036854775808 ≤ x) (h2 : x ≤ 9223372036854775807) : (zL x).length ≤ 10 := zkA 9 x (by omega) (by omega)
def dig : Nat → List UInt8 → Option (Nat × Nat)
 | 0, _ => none
 | _ + 1, [] => none
 | n + 1, b :: r => if b.toNat < 128 then some (b.toNat, 1) else (dig n r).map fun p => (b.toNat % 128 + 128 * p.1, p.2 + 1)
def zbv (l : List UInt8) : Nat := match dig 10 l with
 | none => 0
 | some p => p.1 % 18446744073709551616
def zbc (l : List UInt8) : Nat := match dig 10 l with
 | none => 0
 | some p => p.2
theorem zmK (n : Nat) : dig n [] = none := by cases n <;> rfl
theorem zpl {n : Nat} {l : List UInt8} {i : Nat} (hi : i < l.length) : dig (n + 1) (l.drop i) = if l[i].toNat < 128 then some (l[i].toNat, 1) else (dig n (l.drop (i + 1))).map fun p => (l[i].toNat % 128 + 128 * p.1, p.2 + 1) := by
 rw [List.drop_eq_getElem_cons hi]; rfl
theorem zlq {a b k : Nat} (ha : a < 2 ^ k) (hb : 2 ^ k ∣ b) (h64 : a + b < 18446744073709551616) : IntKind.u64.wrap (((BitVec.ofInt IntKind.u64.bits (a : Int)) ||| BitVec.ofInt IntKind.u64.bits (b : Int)).toNat : Int) = ((a + b : Nat) : Int) := by
 show IntKind.u64.wrap ((BitVec.ofInt 64 (a : Int) ||| BitVec.ofInt 64 (b : Int)).toNat : Int) = _
 obtain ⟨q, rfl⟩ := hb
 have h1 : (BitVec.ofInt 64 (a : Int)).toNat = a := by rw [BitVec.toNat_ofInt]; omega
 have h2 : (BitVec.ofInt 64 ((2 ^ k * q : Nat) : Int)).toNat = 2 ^ k * q := by
  rw [BitVec.toNat_ofInt]; omega
 rw [BitVec.toNat_or, h1, h2, Nat.or_comm, ← Nat.two_pow_add_eq_or_of_lt ha, zdU (by omega)]
 omega
theorem zpk {b i : Nat} (hi : i < 10) : shv .shl .u64 (IntKind.u64.wrap ((b : Int) % 128)) (IntKind.i64.wrap (7 * (i : Int))) = some (.int .u64 ((b % 128 * 2 ^ (7 * i) % 18446744073709551616 : Nat) : Int)) := by
 rw [zV (by omega), zdU (by omega)]
 show (if (7 * (i : Int)) < 0 then none else some (Value.int .u64 (IntKind.u64.wrap (((b : Int) % 128) * 2 ^ min (7 * (i : Int)).toNat 64)))) = _
 rw [if_neg (by omega), show min (7 * (i : Int)).toNat 64 = 7 * i from by omega, zgr]
 congr 2
theorem or7 {s b i : Nat} (hi : i < 10) (hs : s < 2 ^ (7 * i)) (h63 : s < 18446744073709551616) : IntKind.u64.wrap (((BitVec.ofInt IntKind.u64.bits (s : Int)) ||| BitVec.ofInt IntKind.u64.bits ((b % 128 * 2 ^ (7 * i) % 18446744073709551616 : Nat) : Int)).toNat : Int) = (((s + b % 128 * 2 ^ (7 * i)) % 18446744073709551616 : Nat) : Int) := by
 have e : (18446744073709551616 : Nat) = 2 ^ (7 * i) * 2 ^ (64 - 7 * i) := by rw [← Nat.pow_add]; rw [show 7 * i + (64 - 7 * i) = 64 from by omega]
 have hd : b % 128 * 2 ^ (7 * i) % 18446744073709551616 = 2 ^ (7 * i) * (b % 128 % 2 ^ (64 - 7 * i)) := by
  rw [e, Nat.mul_comm (b % 128), Nat.mul_mod_mul_left]
 have hlt : s + b % 128 * 2 ^ (7 * i) % 18446744073709551616 < 18446744073709551616 := by
  rw [hd]
  have : b % 128 % 2 ^ (64 - 7 * i) + 1 ≤ 2 ^ (64 - 7 * i) := Nat.mod_lt _ (Nat.two_pow_pos _)
  have := Nat.mul_le_mul_left (2 ^ (7 * i)) this
  rw [← e, Nat.mul_add] at this
  omega
 rw [zlq hs ⟨_, hd⟩ hlt]
 congr 1
 omega
def rdU (l : List UInt8) (at_ : Int) : Nat × Int × Int :=
 if at_ < 0 ∨ (l.length : Int) < at_ then (0, 0, 1) else
 let r := l.drop at_.toNat
 if zbc r = 0 ∨ zW (zbv r) ≠ r.take (zbc r) then (0, 0, 5) else (zbv r, at_ + zbc r, 0)
def sgn (x n : Nat) : Int := if n < 10 then (if x < 2 ^ (7 * n - 1) then x else (x : Int) - 2 ^ (7 * n)) else IntKind.i64.wrap x
def rdS (l : List UInt8) (at_ : Int) : Int × Int × Int :=
 if at_ < 0 ∨ (l.length : Int) < at_ then (0, 0, 1) else
 let r := l.drop at_.toNat
 if zbc r = 0 ∨ zL (sgn (zbv r) (zbc r)) ≠ r.take (zbc r) then (0, 0, 5) else (sgn (zbv r) (zbc r), at_ + zbc r, 0)
theorem zjv : ∀ (n : Nat) (l : List UInt8) (p : Nat × Nat), dig n l = some p → 1 ≤ p.2 ∧ p.2 ≤ n ∧ p.2 ≤ l.length ∧ p.1 < 128 ^ p.2
 | 0, _, p, h => by cases h
 | n + 1, [], p, h => by cases h
 | n + 1, b :: r, p, h => by
  rw [dig] at h
  split at h
  ·rename_i hb
   injection h with h
   subst h
   exact ⟨Nat.le_refl _, by omega, by simp, by simpa using hb⟩
  ·obtain ⟨q, hq, rfl⟩ := Option.map_eq_some_iff.1 h
   have := zjv n r q hq
   refine ⟨by omega, by omega, by simp; omega, ?_⟩
   show b.toNat % 128 + 128 * q.1 < 128 ^ (q.2 + 1)
   rw [Nat.pow_succ]; omega
theorem zgO (l : List UInt8) : zbc l ≤ 10 ∧ zbc l ≤ l.length := by
 unfold zbc
 split
 ·omega
 ·rename_i p hp
  have := zjv _ _ _ hp
  omega
theorem zg2 (l : List UInt8) : zbv l < 18446744073709551616 := by
 unfold zbv
 split
 ·omega
 ·exact Nat.mod_lt _ (by omega)
theorem zjX (l : List UInt8) : zbv l < 2 ^ (7 * zbc l) := by
 unfold zbv zbc
 split
 ·simp
 ·rename_i p hp
  have h := (zjv _ _ _ hp).2.2.2
  rw [show 128 = 2 ^ 7 from rfl, ← Nat.pow_mul] at h
  exact Nat.lt_of_le_of_lt (Nat.mod_le _ _) h
theorem zkL {x n : Nat} (h1 : 1 ≤ n) (hn : n ≤ 10) (hx : x < 2 ^ (7 * n)) (h64 : x < 18446744073709551616) : IntKind.i64.wrap (IntKind.u64.wrap ((x : Int) * 2 ^ (64 - 7 * n))) / 2 ^ (64 - 7 * n) = sgn x n := by
 rw [zgr, zhN]
 have : n = 1 ∨ n = 2 ∨ n = 3 ∨ n = 4 ∨ n = 5 ∨ n = 6 ∨ n = 7 ∨ n = 8 ∨ n = 9 ∨ n = 10 := by omega
 unfold sgn
 rcases this with rfl | rfl | rfl | rfl | rfl | rfl | rfl | rfl | rfl | rfl
 all_goals simp only [Nat.reduceMul, Nat.reduceSub, Nat.reducePow, Int.reducePow, Nat.reduceLT, ↓reduceIte, zhN] at hx ⊢
 all_goals first | omega | (split <;> omega)
theorem zkO {x n : Nat} (h1 : 1 ≤ n) (hn : n ≤ 10) (hx : x < 2 ^ (7 * n)) (h64 : x < 18446744073709551616) : -9223372036854775808 ≤ sgn x n ∧ sgn x n ≤ 9223372036854775807 := by
 have : n = 1 ∨ n = 2 ∨ n = 3 ∨ n = 4 ∨ n = 5 ∨ n = 6 ∨ n = 7 ∨ n = 8 ∨ n = 9 ∨ n = 10 := by omega
 unfold sgn
 rcases this with rfl | rfl | rfl | rfl | rfl | rfl | rfl | rfl | rfl | rfl
 all_goals simp only [Nat.reduceMul, Nat.reduceSub, Nat.reducePow, Int.reducePow, Nat.reduceLT, ↓reduceIte, zhN] at hx ⊢
 all_goals first | omega | (split <;> omega)
theorem zlp : ∀ (n : Nat) (x : Nat), (zW x).length ≤ n + 1 ↔ x < 128 ^ (n + 1)
 | 0, x => by
  by_cases hx : x > 127
  ·rw [zcU hx, List.length_cons]; have := zd0 (x / 128); constructor <;> intro h <;> omega
  ·rw [zcT hx]; simp; omega
 | n + 1, x => by
  by_cases hx : x > 127
  ·rw [zcU hx, List.length_cons]
   have := zlp n (x / 128)
   rw [Nat.pow_succ 128 (n + 1)]
   omega
  ·rw [zcT hx]
   have : 0 < 128 ^ (n + 1) := Nat.pow_pos (by omega)
   rw [Nat.pow_succ]
   simp; omega
theorem zip : ∀ (n : Nat) (x : Int), (zL x).length ≤ n + 1 ↔ -(64 * 128 ^ n) ≤ x ∧ x < 64 * 128 ^ n
 | 0, x => by
  by_cases hx : x > 63 ∨ x < -64
  ·rw [zcV hx, List.length_cons]; have := zdN (x / 128); constructor <;> intro h <;> omega
  ·rw [zcS hx]; simp; omega
 | n + 1, x => by
  have hp : (0 : Int) < 128 ^ n := Int.pow_pos (by omega)
  rw [Int.pow_succ]
  by_cases hx : x > 63 ∨ x < -64
  ·rw [zcV hx, List.length_cons]
   have := zip n (x / 128)
   generalize (128 : Int) ^ n = p at *
   omega
  ·rw [zcS hx]
   generalize (128 : Int) ^ n = p at *
   simp; omega
theorem zkT (n : Nat) : 2 ^ (7 * n) = 128 ^ n := by rw [Nat.pow_mul]
theorem zlT (l : List UInt8) (at_ : Int) : (∃ e, rdU l at_ = (0, 0, e) ∧ (e = 1 ∨ e = 5)) ∨ ∃ i n x : Nat, at_ = i ∧ 1 ≤ n ∧ n ≤ 10 ∧ i + n ≤ l.length ∧ x < 18446744073709551616 ∧ zW x = (l.drop i).take n ∧ rdU l at_ = (x, ((i + n : Nat) : Int), 0) := by
 rw [rdU]
 split
 ·exact .inl ⟨1, rfl, .inl rfl⟩
 ·rename_i h
  dsimp only
  split
  ·exact .inl ⟨5, rfl, .inr rfl⟩
  ·rename_i h2
   rw [not_or] at h2
   have hn := zgO (l.drop at_.toNat)
   rw [List.length_drop] at hn
   exact .inr ⟨at_.toNat, zbc (l.drop at_.toNat), zbv (l.drop at_.toNat), by omega, by omega, hn.1, by omega, zg2 _, Classical.not_not.1 h2.2, by congr 2; omega⟩
theorem zm1 (l : List UInt8) (at_ : Int) : (∃ e, rdS l at_ = (0, 0, e) ∧ (e = 1 ∨ e = 5)) ∨ ∃ i n : Nat, ∃ x : Int, at_ = i ∧ 1 ≤ n ∧ n ≤ 10 ∧ i + n ≤ l.length ∧ (-9223372036854775808 ≤ x ∧ x ≤ 9223372036854775807) ∧ zL x = (l.drop i).take n ∧ rdS l at_ = (x, ((i + n : Nat) : Int), 0) := by
 rw [rdS]
 split
 ·exact .inl ⟨1, rfl, .inl rfl⟩
 ·rename_i h
  dsimp only
  split
  ·exact .inl ⟨5, rfl, .inr rfl⟩
  ·rename_i h2
   rw [not_or] at h2
   have hn := zgO (l.drop at_.toNat)
   rw [List.length_drop] at hn
   exact .inr ⟨at_.toNat, zbc (l.drop at_.toNat), sgn (zbv (l.drop at_.toNat)) (zbc (l.drop at_.toNat)), by omega, by omega, hn.1, by omega, zkO (by omega) hn.1 (zjX _) (zg2 _), Classical.not_not.1 h2.2, by congr 2; omega⟩
theorem zgW {n : Nat} (h : n < 256) : (UInt8.ofNat n).toNat = n := UInt8.toNat_ofNat_of_lt' h
theorem zkr : ∀ (n : Nat) (x : Nat) (r : List UInt8), (zW x).length ≤ n → dig n (zW x ++ r) = some (x, (zW x).length)
 | 0, x, r, h => absurd h (by have := zd0 x; omega)
 | n + 1, x, r, h => by
  by_cases hx : x > 127
  ·rw [zcU hx] at h ⊢
   rw [List.cons_append, dig, zgW (by omega), if_neg (by omega), zkr n (x / 128) r (by simpa using h)]
   simp; omega
  ·rw [zcT hx]
   simp only [List.cons_append, dig, zgW (show x < 256 by omega)]
   rw [if_pos (by omega)]; rfl
theorem znf (y : Int) {b : Int} (hb : 0 < b) : y % (128 * b) = y % 128 + 128 * ((y / 128) % b) := by
 have h1 := Int.emod_add_mul_ediv y 128
 have h2 := Int.emod_add_mul_ediv (y / 128) b
 have h3 := Int.emod_nonneg (y / 128) (show b ≠ 0 by omega)
 have h4 := Int.emod_lt_of_pos (y / 128) hb
 have e : y = (y % 128 + 128 * ((y / 128) % b)) + 128 * b * (y / 128 / b) := by
  rw [Int.mul_assoc]
  generalize b * (y / 128 / b) = z at *
  omega
 conv => lhs; rw [e]
 rw [Int.add_mul_emod_self_left, Int.emod_eq_of_lt (by omega) (by omega)]
theorem zlC : ∀ (n : Nat) (y : Int) (r : List UInt8), (zL y).length ≤ n → dig n (zL y ++ r) = some ((y % 128 ^ (zL y).length).toNat, (zL y).length)
 | 0, y, r, h => absurd h (by have := zdN y; omega)
 | n + 1, y, r, h => by
  by_cases hx : y > 63 ∨ y < -64
  ·rw [zcV hx] at h ⊢
   rw [List.cons_append, dig, zgW (by omega), if_neg (by omega), zlC n (y / 128) r (by simpa using h)]
   have hp : (0 : Int) < 128 ^ (zL (y / 128)).length := Int.pow_pos (by omega)
   have h3 := Int.emod_nonneg (y / 128) (show (128 : Int) ^ (zL (y / 128)).length ≠ 0 by omega)
   simp only [Option.map_some, List.length_cons, Int.pow_succ]
   rw [Int.mul_comm _ (128 : Int), znf y hp]
   congr 2
   omega
  ·rw [zcS hx]
   simp only [List.cons_append, dig, zgW (show (y % 128).toNat < 256 by omega)]
   rw [if_pos (by omega)]; rfl
theorem znh {y : Int} {m : Nat} (h1 : 1 ≤ m) (hm : m ≤ 10) (hy : -(64 * 128 ^ (m - 1)) ≤ y ∧ y < 64 * 128 ^ (m - 1)) (hb : -9223372036854775808 ≤ y ∧ y ≤ 9223372036854775807) : sgn ((y % 128 ^ m).toNat % 18446744073709551616) m = y := by
 have : m = 1 ∨ m = 2 ∨ m = 3 ∨ m = 4 ∨ m = 5 ∨ m = 6 ∨ m = 7 ∨ m = 8 ∨ m = 9 ∨ m = 10 := by omega
 unfold sgn
 rcases this with rfl | rfl | rfl | rfl | rfl | rfl | rfl | rfl | rfl | rfl
 all_goals simp only [Nat.reduceMul, Nat.reduceSub, Nat.reducePow, Int.reducePow, Nat.reduceLT, ↓reduceIte, zhN] at hy ⊢
 all_goals first | omega | (split <;> omega)
theorem zny {x : Nat} (hx : x < 18446744073709551616) (p r : List UInt8) : rdU (p ++ zW x ++ r) p.length = (x, (((p ++ zW x).length : Nat) : Int), 0) := by
 have hd := zkr 10 x r (zdW hx)
 have e : (p ++ zW x ++ r).drop p.length = zW x ++ r := by rw [List.append_assoc, List.drop_left]
 have hX : zbv (zW x ++ r) = x := by rw [zbv, hd]; exact Nat.mod_eq_of_lt hx
 have hN : zbc (zW x ++ r) = (zW x).length := by rw [zbc, hd]
 have := zd0 x
 rw [rdU, if_neg (by simp only [List.length_append]; omega)]
 dsimp only
 rw [Int.toNat_natCast, e, hN, hX, List.take_left, if_neg (by rintro (h | h) <;> first | omega | exact h rfl)]
 simp
theorem zjO {y : Int} (hy : -9223372036854775808 ≤ y ∧ y ≤ 9223372036854775807) (p r : List UInt8) : rdS (p ++ zL y ++ r) p.length = (y, (((p ++ zL y).length : Nat) : Int), 0) := by
 have h10 := zd3 hy.1 hy.2
 have h1 := zdN y
 have hd := zlC 10 y r h10
 have e : (p ++ zL y ++ r).drop p.length = zL y ++ r := by rw [List.append_assoc, List.drop_left]
 have hs : sgn ((y % 128 ^ (zL y).length).toNat % 18446744073709551616) (zL y).length = y := by
  have := zip ((zL y).length - 1) y
  exact znh h1 h10 (this.1 (by omega)) hy
 have hX : sgn (zbv (zL y ++ r)) (zL y).length = y := by rw [zbv, hd]; exact hs
 have hN : zbc (zL y ++ r) = (zL y).length := by rw [zbc, hd]
 rw [rdS, if_neg (by simp only [List.length_append]; omega)]
 dsimp only
 rw [Int.toNat_natCast, e, hN, hX, List.take_left, if_neg (by rintro (h | h) <;> first | omega | exact h rfl)]
 simp
def zb1 : Int → Nat → List UInt8
 | _, 0 => []
 | y, 1 => [UInt8.ofNat (y % 128).toNat]
 | y, n + 2 => UInt8.ofNat ((y % 128).toNat + 128) :: zb1 (y / 128) (n + 1)
theorem zjF : ∀ (n : Nat) (x : Nat), (zW x).length = n → zb1 x n = zW x
 | 0, x, h => absurd h (by have := zd0 x; omega)
 | 1, x, h => by
  by_cases hx : x > 127
  ·rw [zcU hx, List.length_cons] at h; have := zd0 (x / 128); omega
  ·rw [zcT hx, zb1]; congr 2; omega
 | n + 2, x, h => by
  by_cases hx : x > 127
  ·rw [zcU hx, List.length_cons] at h
   rw [zcU hx, zb1]
   have := zjF (n + 1) (x / 128) (by omega)
   rw [← this]
   congr 2
  ·rw [zcT hx] at h; simp at h
theorem zlv : ∀ (n : Nat) (y : Int), (zL y).length = n → zb1 y n = zL y
 | 0, x, h => absurd h (by have := zdN x; omega)
 | 1, x, h => by
  by_cases hx : x > 63 ∨ x < -64
  ·rw [zcV hx, List.length_cons] at h; have := zdN (x / 128); omega
  ·rw [zcS hx, zb1]
 | n + 2, x, h => by
  by_cases hx : x > 63 ∨ x < -64
  ·rw [zcV hx, List.length_cons] at h
   rw [zcV hx, zb1, zlv (n + 1) (x / 128) (by omega)]
  ·rw [zcS hx] at h; simp at h
end Go.Proofs.YtgkllgoelpfdkaaGreat
