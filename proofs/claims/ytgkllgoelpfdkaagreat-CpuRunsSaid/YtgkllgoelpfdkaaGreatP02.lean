import Derived.Test.YtgkllgoelpfdkaaGreatAd
namespace Go.Proofs.YtgkllgoelpfdkaaGreat
open Go.Ab Go.RowKit
set_option linter.unusedVariables false
set_option linter.unusedSimpArgs false
def z2 (x : Nat) : List UInt8 := if x > 127 then UInt8.ofNat (x % 128 + 128) :: z2 (x / 128) else [UInt8.ofNat x]
termination_by x
decreasing_by omega
def zR (x : Int) : List UInt8 := if x > 63 ∨ x < -64 then UInt8.ofNat ((x % 128).toNat + 128) :: zR (x / 128) else [UInt8.ofNat (x % 128).toNat]
termination_by x.natAbs
decreasing_by omega
theorem zdT {x : Nat} (h : x > 127) : z2 x = UInt8.ofNat (x % 128 + 128) :: z2 (x / 128) := by rw [z2, if_pos h]
theorem zdQ {x : Nat} (h : ¬ x > 127) : z2 x = [UInt8.ofNat x] := by rw [z2, if_neg h]
theorem zd6 {x : Int} (h : x > 63 ∨ x < -64) : zR x = UInt8.ofNat ((x % 128).toNat + 128) :: zR (x / 128) := by rw [zR, if_pos h]
theorem zdL {x : Int} (h : ¬ (x > 63 ∨ x < -64)) : zR x = [UInt8.ofNat (x % 128).toNat] := by rw [zR, if_neg h]
theorem zfk (x : Nat) : 0 < (z2 x).length := by
 by_cases h : x > 127
 ·rw [zdT h]; simp
 ·rw [zdQ h]; simp
theorem zfj (x : Int) : 0 < (zR x).length := by
 by_cases h : x > 63 ∨ x < -64
 ·rw [zd6 h]; simp
 ·rw [zdL h]; simp
theorem znx : ∀ (n : Nat) (x : Nat), x < 128 ^ (n + 1) → (z2 x).length ≤ n + 1
 | 0, x, h => by rw [zdQ (by omega)]; simp
 | n + 1, x, h => by
  by_cases hx : x > 127
  ·rw [zdT hx, List.length_cons]
   have := znx n (x / 128) (by rw [Nat.pow_succ] at h; omega)
   omega
  ·rw [zdQ hx]; simp
theorem zlZ : ∀ (n : Nat) (x : Int), -(64 * 128 ^ n) ≤ x → x < 64 * 128 ^ n → (zR x).length ≤ n + 1
 | 0, x, h, h2 => by rw [zdL (by omega)]; simp
 | n + 1, x, h, h2 => by
  by_cases hx : x > 63 ∨ x < -64
  ·rw [zd6 hx, List.length_cons]
   have := zlZ n (x / 128) (by rw [Int.pow_succ] at h; omega) (by rw [Int.pow_succ] at h2; omega)
   omega
  ·rw [zdL hx]; simp
theorem zdX {x : Nat} (h : x < 18446744073709551616) : (z2 x).length ≤ 10 := znx 9 x (by omega)
theorem zdK {x : Int} (h : -9223372036854775808 ≤ x) (h2 : x ≤ 9223372036854775807) : (zR x).length ≤ 10 := zlZ 9 x (by omega) (by omega)
def dig : Nat → List UInt8 → Option (Nat × Nat)
 | 0, _ => none
 | _ + 1, [] => none
 | n + 1, b :: r => if b.toNat < 128 then some (b.toNat, 1) else (dig n r).map fun p => (b.toNat % 128 + 128 * p.1, p.2 + 1)
def zbc (l : List UInt8) : Nat := match dig 10 l with
 | none => 0
 | some p => p.1 % 18446744073709551616
def zE (l : List UInt8) : Nat := match dig 10 l with
 | none => 0
 | some p => p.2
theorem znH (n : Nat) : dig n [] = none := by cases n <;> rfl
theorem zno {n : Nat} {l : List UInt8} {i : Nat} (hi : i < l.length) : dig (n + 1) (l.drop i) = if l[i].toNat < 128 then some (l[i].toNat, 1) else (dig n (l.drop (i + 1))).map fun p => (l[i].toNat % 128 + 128 * p.1, p.2 + 1) := by
 rw [List.drop_eq_getElem_cons hi]; rfl
theorem zl4 {a b k : Nat} (ha : a < 2 ^ k) (hb : 2 ^ k ∣ b) (h64 : a + b < 18446744073709551616) : IntKind.u64.wrap (((BitVec.ofInt IntKind.u64.bits (a : Int)) ||| BitVec.ofInt IntKind.u64.bits (b : Int)).toNat : Int) = ((a + b : Nat) : Int) := by
 show IntKind.u64.wrap ((BitVec.ofInt 64 (a : Int) ||| BitVec.ofInt 64 (b : Int)).toNat : Int) = _
 obtain ⟨q, rfl⟩ := hb
 have h1 : (BitVec.ofInt 64 (a : Int)).toNat = a := by rw [BitVec.toNat_ofInt]; omega
 have h2 : (BitVec.ofInt 64 ((2 ^ k * q : Nat) : Int)).toNat = 2 ^ k * q := by
  rw [BitVec.toNat_ofInt]; omega
 rw [BitVec.toNat_or, h1, h2, Nat.or_comm, ← Nat.two_pow_add_eq_or_of_lt ha, zdx (by omega)]
 omega
theorem zrq {b i : Nat} (hi : i < 10) : shv .shl .u64 (IntKind.u64.wrap ((b : Int) % 128)) (IntKind.i64.wrap (7 * (i : Int))) = some (.int .u64 ((b % 128 * 2 ^ (7 * i) % 18446744073709551616 : Nat) : Int)) := by
 rw [zN (by omega), zdx (by omega)]
 show (if (7 * (i : Int)) < 0 then none else some (Value.int .u64 (IntKind.u64.wrap (((b : Int) % 128) * 2 ^ min (7 * (i : Int)).toNat 64)))) = _
 rw [if_neg (by omega), show min (7 * (i : Int)).toNat 64 = 7 * i from by omega, zeK]
 congr 2
theorem or7 {s b i : Nat} (hi : i < 10) (hs : s < 2 ^ (7 * i)) (h63 : s < 18446744073709551616) : IntKind.u64.wrap (((BitVec.ofInt IntKind.u64.bits (s : Int)) ||| BitVec.ofInt IntKind.u64.bits ((b % 128 * 2 ^ (7 * i) % 18446744073709551616 : Nat) : Int)).toNat : Int) = (((s + b % 128 * 2 ^ (7 * i)) % 18446744073709551616 : Nat) : Int) := by
 have e : (18446744073709551616 : Nat) = 2 ^ (7 * i) * 2 ^ (64 - 7 * i) := by rw [← Nat.pow_add]; rw [show 7 * i + (64 - 7 * i) = 64 from by omega]
 have hd : b % 128 * 2 ^ (7 * i) % 18446744073709551616 = 2 ^ (7 * i) * (b % 128 % 2 ^ (64 - 7 * i)) := by
  rw [e, Nat.mul_comm (b % 128), Nat.mul_mod_mul_left]
 have hlt : s + b % 128 * 2 ^ (7 * i) % 18446744073709551616 < 18446744073709551616 := by
  rw [hd]
  have : b % 128 % 2 ^ (64 - 7 * i) + 1 ≤ 2 ^ (64 - 7 * i) := Nat.mod_lt _ (Nat.two_pow_pos _)
  have := Nat.mul_le_mul_left (2 ^ (7 * i)) this
  rw [← e, Nat.mul_add] at this
  omega
 rw [zl4 hs ⟨_, hd⟩ hlt]
 congr 1
 omega
def rdU (l : List UInt8) (at_ : Int) : Nat × Int × Int :=
 if at_ < 0 ∨ (l.length : Int) < at_ then (0, 0, 1) else
 let r := l.drop at_.toNat
 if zE r = 0 ∨ z2 (zbc r) ≠ r.take (zE r) then (0, 0, 5) else (zbc r, at_ + zE r, 0)
def sgn (x n : Nat) : Int := if n < 10 then (if x < 2 ^ (7 * n - 1) then x else (x : Int) - 2 ^ (7 * n)) else IntKind.i64.wrap x
def rdS (l : List UInt8) (at_ : Int) : Int × Int × Int :=
 if at_ < 0 ∨ (l.length : Int) < at_ then (0, 0, 1) else
 let r := l.drop at_.toNat
 if zE r = 0 ∨ zR (sgn (zbc r) (zE r)) ≠ r.take (zE r) then (0, 0, 5) else (sgn (zbc r) (zE r), at_ + zE r, 0)
theorem zjc : ∀ (n : Nat) (l : List UInt8) (p : Nat × Nat), dig n l = some p → 1 ≤ p.2 ∧ p.2 ≤ n ∧ p.2 ≤ l.length ∧ p.1 < 128 ^ p.2
 | 0, _, p, h => by cases h
 | n + 1, [], p, h => by cases h
 | n + 1, b :: r, p, h => by
  rw [dig] at h
  split at h
  ·rename_i hb
   injection h with h
   subst h
   exact ⟨Nat.le_refl _, by omega, by simp, by simpa using hb⟩
  ·obtain ⟨q, hq, rfl⟩ := Option.map_eq_some_iff.1 h
   have := zjc n r q hq
   refine ⟨by omega, by omega, by simp; omega, ?_⟩
   show b.toNat % 128 + 128 * q.1 < 128 ^ (q.2 + 1)
   rw [Nat.pow_succ]; omega
theorem zeo (l : List UInt8) : zE l ≤ 10 ∧ zE l ≤ l.length := by
 unfold zE
 split
 ·omega
 ·rename_i p hp
  have := zjc _ _ _ hp
  omega
theorem zeX (l : List UInt8) : zbc l < 18446744073709551616 := by
 unfold zbc
 split
 ·omega
 ·exact Nat.mod_lt _ (by omega)
theorem zj0 (l : List UInt8) : zbc l < 2 ^ (7 * zE l) := by
 unfold zbc zE
 split
 ·simp
 ·rename_i p hp
  have h := (zjc _ _ _ hp).2.2.2
  rw [show 128 = 2 ^ 7 from rfl, ← Nat.pow_mul] at h
  exact Nat.lt_of_le_of_lt (Nat.mod_le _ _) h
theorem zmB {x n : Nat} (h1 : 1 ≤ n) (hn : n ≤ 10) (hx : x < 2 ^ (7 * n)) (h64 : x < 18446744073709551616) : IntKind.i64.wrap (IntKind.u64.wrap ((x : Int) * 2 ^ (64 - 7 * n))) / 2 ^ (64 - 7 * n) = sgn x n := by
 rw [zeK, zgb]
 have : n = 1 ∨ n = 2 ∨ n = 3 ∨ n = 4 ∨ n = 5 ∨ n = 6 ∨ n = 7 ∨ n = 8 ∨ n = 9 ∨ n = 10 := by omega
 unfold sgn
 rcases this with rfl | rfl | rfl | rfl | rfl | rfl | rfl | rfl | rfl | rfl
 all_goals simp only [Nat.reduceMul, Nat.reduceSub, Nat.reducePow, Int.reducePow, Nat.reduceLT, ↓reduceIte, zgb] at hx ⊢
 all_goals first | omega | (split <;> omega)
theorem zjR {x n : Nat} (h1 : 1 ≤ n) (hn : n ≤ 10) (hx : x < 2 ^ (7 * n)) (h64 : x < 18446744073709551616) : -9223372036854775808 ≤ sgn x n ∧ sgn x n ≤ 9223372036854775807 := by
 have : n = 1 ∨ n = 2 ∨ n = 3 ∨ n = 4 ∨ n = 5 ∨ n = 6 ∨ n = 7 ∨ n = 8 ∨ n = 9 ∨ n = 10 := by omega
 unfold sgn
 rcases this with rfl | rfl | rfl | rfl | rfl | rfl | rfl | rfl | rfl | rfl
 all_goals simp only [Nat.reduceMul, Nat.reduceSub, Nat.reducePow, Int.reducePow, Nat.reduceLT, ↓reduceIte, zgb] at hx ⊢
 all_goals first | omega | (split <;> omega)
theorem zlD : ∀ (n : Nat) (x : Nat), (z2 x).length ≤ n + 1 ↔ x < 128 ^ (n + 1)
 | 0, x => by
  by_cases hx : x > 127
  ·rw [zdT hx, List.length_cons]; have := zfk (x / 128); constructor <;> intro h <;> omega
  ·rw [zdQ hx]; simp; omega
 | n + 1, x => by
  by_cases hx : x > 127
  ·rw [zdT hx, List.length_cons]
   have := zlD n (x / 128)
   rw [Nat.pow_succ 128 (n + 1)]
   omega
  ·rw [zdQ hx]
   have : 0 < 128 ^ (n + 1) := Nat.pow_pos (by omega)
   rw [Nat.pow_succ]
   simp; omega
theorem zkX : ∀ (n : Nat) (x : Int), (zR x).length ≤ n + 1 ↔ -(64 * 128 ^ n) ≤ x ∧ x < 64 * 128 ^ n
 | 0, x => by
  by_cases hx : x > 63 ∨ x < -64
  ·rw [zd6 hx, List.length_cons]; have := zfj (x / 128); constructor <;> intro h <;> omega
  ·rw [zdL hx]; simp; omega
 | n + 1, x => by
  have hp : (0 : Int) < 128 ^ n := Int.pow_pos (by omega)
  rw [Int.pow_succ]
  by_cases hx : x > 63 ∨ x < -64
  ·rw [zd6 hx, List.length_cons]
   have := zkX n (x / 128)
   generalize (128 : Int) ^ n = p at *
   omega
  ·rw [zdL hx]
   generalize (128 : Int) ^ n = p at *
   simp; omega
theorem zjg (n : Nat) : 2 ^ (7 * n) = 128 ^ n := by rw [Nat.pow_mul]
theorem zne (l : List UInt8) (at_ : Int) : (∃ e, rdU l at_ = (0, 0, e) ∧ (e = 1 ∨ e = 5)) ∨ ∃ i n x : Nat, at_ = i ∧ 1 ≤ n ∧ n ≤ 10 ∧ i + n ≤ l.length ∧ x < 18446744073709551616 ∧ z2 x = (l.drop i).take n ∧ rdU l at_ = (x, ((i + n : Nat) : Int), 0) := by
 rw [rdU]
 split
 ·exact .inl ⟨1, rfl, .inl rfl⟩
 ·rename_i h
  dsimp only
  split
  ·exact .inl ⟨5, rfl, .inr rfl⟩
  ·rename_i h2
   rw [not_or] at h2
   have hn := zeo (l.drop at_.toNat)
   rw [List.length_drop] at hn
   exact .inr ⟨at_.toNat, zE (l.drop at_.toNat), zbc (l.drop at_.toNat), by omega, by omega, hn.1, by omega, zeX _, Classical.not_not.1 h2.2, by congr 2; omega⟩
theorem zjX (l : List UInt8) (at_ : Int) : (∃ e, rdS l at_ = (0, 0, e) ∧ (e = 1 ∨ e = 5)) ∨ ∃ i n : Nat, ∃ x : Int, at_ = i ∧ 1 ≤ n ∧ n ≤ 10 ∧ i + n ≤ l.length ∧ (-9223372036854775808 ≤ x ∧ x ≤ 9223372036854775807) ∧ zR x = (l.drop i).take n ∧ rdS l at_ = (x, ((i + n : Nat) : Int), 0) := by
 rw [rdS]
 split
 ·exact .inl ⟨1, rfl, .inl rfl⟩
 ·rename_i h
  dsimp only
  split
  ·exact .inl ⟨5, rfl, .inr rfl⟩
  ·rename_i h2
   rw [not_or] at h2
   have hn := zeo (l.drop at_.toNat)
   rw [List.length_drop] at hn
   exact .inr ⟨at_.toNat, zE (l.drop at_.toNat), sgn (zbc (l.drop at_.toNat)) (zE (l.drop at_.toNat)), by omega, by omega, hn.1, by omega, zjR (by omega) hn.1 (zj0 _) (zeX _), Classical.not_not.1 h2.2, by congr 2; omega⟩
theorem zjr {n : Nat} (h : n < 256) : (UInt8.ofNat n).toNat = n := UInt8.toNat_ofNat_of_lt' h
theorem zlj : ∀ (n : Nat) (x : Nat) (r : List UInt8), (z2 x).length ≤ n → dig n (z2 x ++ r) = some (x, (z2 x).length)
 | 0, x, r, h => absurd h (by have := zfk x; omega)
 | n + 1, x, r, h => by
  by_cases hx : x > 127
  ·rw [zdT hx] at h ⊢
   rw [List.cons_append, dig, zjr (by omega), if_neg (by omega), zlj n (x / 128) r (by simpa using h)]
   simp; omega
  ·rw [zdQ hx]
   simp only [List.cons_append, dig, zjr (show x < 256 by omega)]
   rw [if_pos (by omega)]; rfl
theorem zq7 (y : Int) {b : Int} (hb : 0 < b) : y % (128 * b) = y % 128 + 128 * ((y / 128) % b) := by
 have h1 := Int.emod_add_mul_ediv y 128
 have h2 := Int.emod_add_mul_ediv (y / 128) b
 have h3 := Int.emod_nonneg (y / 128) (show b ≠ 0 by omega)
 have h4 := Int.emod_lt_of_pos (y / 128) hb
 have e : y = (y % 128 + 128 * ((y / 128) % b)) + 128 * b * (y / 128 / b) := by
  rw [Int.mul_assoc]
  generalize b * (y / 128 / b) = z at *
  omega
 conv => lhs; rw [e]
 rw [Int.add_mul_emod_self_left, Int.emod_eq_of_lt (by omega) (by omega)]
theorem zk5 : ∀ (n : Nat) (y : Int) (r : List UInt8), (zR y).length ≤ n → dig n (zR y ++ r) = some ((y % 128 ^ (zR y).length).toNat, (zR y).length)
 | 0, y, r, h => absurd h (by have := zfj y; omega)
 | n + 1, y, r, h => by
  by_cases hx : y > 63 ∨ y < -64
  ·rw [zd6 hx] at h ⊢
   rw [List.cons_append, dig, zjr (by omega), if_neg (by omega), zk5 n (y / 128) r (by simpa using h)]
   have hp : (0 : Int) < 128 ^ (zR (y / 128)).length := Int.pow_pos (by omega)
   have h3 := Int.emod_nonneg (y / 128) (show (128 : Int) ^ (zR (y / 128)).length ≠ 0 by omega)
   simp only [Option.map_some, List.length_cons, Int.pow_succ]
   rw [Int.mul_comm _ (128 : Int), zq7 y hp]
   congr 2
   omega
  ·rw [zdL hx]
   simp only [List.cons_append, dig, zjr (show (y % 128).toNat < 256 by omega)]
   rw [if_pos (by omega)]; rfl
theorem zr8 {y : Int} {m : Nat} (h1 : 1 ≤ m) (hm : m ≤ 10) (hy : -(64 * 128 ^ (m - 1)) ≤ y ∧ y < 64 * 128 ^ (m - 1)) (hb : -9223372036854775808 ≤ y ∧ y ≤ 9223372036854775807) : sgn ((y % 128 ^ m).toNat % 18446744073709551616) m = y := by
 have : m = 1 ∨ m = 2 ∨ m = 3 ∨ m = 4 ∨ m = 5 ∨ m = 6 ∨ m = 7 ∨ m = 8 ∨ m = 9 ∨ m = 10 := by omega
 unfold sgn
 rcases this with rfl | rfl | rfl | rfl | rfl | rfl | rfl | rfl | rfl | rfl
 all_goals simp only [Nat.reduceMul, Nat.reduceSub, Nat.reducePow, Int.reducePow, Nat.reduceLT, ↓reduceIte, zgb] at hy ⊢
 all_goals first | omega | (split <;> omega)
theorem zmA {x : Nat} (hx : x < 18446744073709551616) (p r : List UInt8) : rdU (p ++ z2 x ++ r) p.length = (x, (((p ++ z2 x).length : Nat) : Int), 0) := by
 have hd := zlj 10 x r (zdX hx)
 have e : (p ++ z2 x ++ r).drop p.length = z2 x ++ r := by rw [List.append_assoc, List.drop_left]
 have hX : zbc (z2 x ++ r) = x := by rw [zbc, hd]; exact Nat.mod_eq_of_lt hx
 have hN : zE (z2 x ++ r) = (z2 x).length := by rw [zE, hd]
 have := zfk x
 rw [rdU, if_neg (by simp only [List.length_append]; omega)]
 dsimp only
 rw [Int.toNat_natCast, e, hN, hX, List.take_left, if_neg (by rintro (h | h) <;> first | omega | exact h rfl)]
 simp
theorem zjb {y : Int} (hy : -9223372036854775808 ≤ y ∧ y ≤ 9223372036854775807) (p r : List UInt8) : rdS (p ++ zR y ++ r) p.length = (y, (((p ++ zR y).length : Nat) : Int), 0) := by
 have h10 := zdK hy.1 hy.2
 have h1 := zfj y
 have hd := zk5 10 y r h10
 have e : (p ++ zR y ++ r).drop p.length = zR y ++ r := by rw [List.append_assoc, List.drop_left]
 have hs : sgn ((y % 128 ^ (zR y).length).toNat % 18446744073709551616) (zR y).length = y := by
  have := zkX ((zR y).length - 1) y
  exact zr8 h1 h10 (this.1 (by omega)) hy
 have hX : sgn (zbc (zR y ++ r)) (zR y).length = y := by rw [zbc, hd]; exact hs
 have hN : zE (zR y ++ r) = (zR y).length := by rw [zE, hd]
 rw [rdS, if_neg (by simp only [List.length_append]; omega)]
 dsimp only
 rw [Int.toNat_natCast, e, hN, hX, List.take_left, if_neg (by rintro (h | h) <;> first | omega | exact h rfl)]
 simp
def zcK : Int → Nat → List UInt8
 | _, 0 => []
 | y, 1 => [UInt8.ofNat (y % 128).toNat]
 | y, n + 2 => UInt8.ofNat ((y % 128).toNat + 128) :: zcK (y / 128) (n + 1)
theorem zmi : ∀ (n : Nat) (x : Nat), (z2 x).length = n → zcK x n = z2 x
 | 0, x, h => absurd h (by have := zfk x; omega)
 | 1, x, h => by
  by_cases hx : x > 127
  ·rw [zdT hx, List.length_cons] at h; have := zfk (x / 128); omega
  ·rw [zdQ hx, zcK]; congr 2; omega
 | n + 2, x, h => by
  by_cases hx : x > 127
  ·rw [zdT hx, List.length_cons] at h
   rw [zdT hx, zcK]
   have := zmi (n + 1) (x / 128) (by omega)
   rw [← this]
   congr 2
  ·rw [zdQ hx] at h; simp at h
theorem zlo : ∀ (n : Nat) (y : Int), (zR y).length = n → zcK y n = zR y
 | 0, x, h => absurd h (by have := zfj x; omega)
 | 1, x, h => by
  by_cases hx : x > 63 ∨ x < -64
  ·rw [zd6 hx, List.length_cons] at h; have := zfj (x / 128); omega
  ·rw [zdL hx, zcK]
 | n + 2, x, h => by
  by_cases hx : x > 63 ∨ x < -64
  ·rw [zd6 hx, List.length_cons] at h
   rw [zd6 hx, zcK, zlo (n + 1) (x / 128) (by omega)]
  ·rw [zdL hx] at h; simp at h
def zc9 : Nat → List UInt8 → Nat
 | 0, _ => 0
 | _ + 1, [] => 0
 | n + 1, b :: r => b.toNat % 128 + 128 * zc9 n r
theorem znt : ∀ (m : Nat) (r : List UInt8) (p : Nat × Nat), dig m r = some p → p.1 = zc9 p.2 r
 | 0, _, p, h => by cases h
 | m + 1, [], p, h => by cases h
 | m + 1, b :: r, p, h => by
  rw [dig] at h
  split at h
  ·injection h with h
   subst h
   show b.toNat = b.toNat % 128 + 128 * zc9 0 r
   rw [zc9]; omega
  ·obtain ⟨q, hq, rfl⟩ := Option.map_eq_some_iff.1 h
   show _ = b.toNat % 128 + 128 * zc9 q.2 r
   rw [znt m r q hq]
theorem zmP (r : List UInt8) : zc9 (zE r) r % 18446744073709551616 = zbc r := by
 unfold zE zbc
 split
 ·rfl
 ·rename_i p hp
  rw [znt _ _ _ hp]
theorem zpS {n : Nat} {l : List UInt8} {i : Nat} (hi : i < l.length) : zc9 (n + 1) (l.drop i) = l[i].toNat % 128 + 128 * zc9 n (l.drop (i + 1)) := by
 rw [List.drop_eq_getElem_cons hi]; rfl
theorem zlL : ∀ (m : Nat) (r : List UInt8) (p : Nat × Nat), dig m r = some p → ∃ b low, r[p.2 - 1]? = some b ∧ b.toNat < 128 ∧ p.1 = low + 128 ^ (p.2 - 1) * b.toNat ∧ low < 128 ^ (p.2 - 1)
 | 0, _, p, h => by cases h
 | m + 1, [], p, h => by cases h
 | m + 1, b :: r, p, h => by
  rw [dig] at h
  split at h
  ·rename_i hb
   injection h with h
   subst h
   exact ⟨b, 0, rfl, hb, by simp, by simp⟩
  ·obtain ⟨q, hq, rfl⟩ := Option.map_eq_some_iff.1 h
   obtain ⟨c, low, h1, h2, h3, h4⟩ := zlL m r q hq
   have hq1 := (zjc m r q hq).1
   obtain ⟨k, hk⟩ : ∃ k, q.2 = k + 1 := ⟨q.2 - 1, by omega⟩
   rw [hk] at h1 h3 h4
   refine ⟨c, b.toNat % 128 + 128 * low, ?_, h2, ?_, ?_⟩
   ·show (b :: r)[q.2 + 1 - 1]? = some c
    rw [hk]; exact h1
   ·show b.toNat % 128 + 128 * q.1 = _ + 128 ^ (q.2 + 1 - 1) * c.toNat
    rw [hk, h3, Nat.add_sub_cancel, Nat.add_sub_cancel, Nat.pow_succ, Nat.mul_add, Nat.mul_comm (128 ^ k) 128, Nat.mul_assoc]; omega
   ·show b.toNat % 128 + 128 * low < 128 ^ (q.2 + 1 - 1)
    rw [hk, Nat.add_sub_cancel, Nat.pow_succ]
    rw [Nat.add_sub_cancel] at h4
    omega
theorem zsD (r : List UInt8) (hn : zE r ≠ 0) : z2 (zbc r) = r.take (z2 (zbc r)).length ↔ z2 (zbc r) = r.take (zE r) := by
 constructor
 ·intro h
  have hd := zlj 10 (zbc r) (r.drop (z2 (zbc r)).length) (zdX (zeX r))
  have e : z2 (zbc r) ++ r.drop (z2 (zbc r)).length = r := by
   conv => lhs; lhs; rw [h]
   exact List.take_append_drop _ _
  rw [e] at hd
  have : zE r = (z2 (zbc r)).length := by rw [zE, hd]
  rw [this]; exact h
 ·intro h
  have := congrArg List.length h
  rw [List.length_take, Nat.min_eq_left (zeo r).2] at this
  rw [this]; exact h
theorem zoq (r : List UInt8) {y : Int} (hy : -9223372036854775808 ≤ y ∧ y ≤ 9223372036854775807) : zR y = r.take (zR y).length ↔ zR y = r.take (zE r) := by
 constructor
 ·intro h
  have hd := zk5 10 y (r.drop (zR y).length) (zdK hy.1 hy.2)
  have e : zR y ++ r.drop (zR y).length = r := by
   conv => lhs; lhs; rw [h]
   exact List.take_append_drop _ _
  rw [e] at hd
  have : zE r = (zR y).length := by rw [zE, hd]
  rw [this]; exact h
 ·intro h
  have := congrArg List.length h
  rw [List.length_take, Nat.min_eq_left (zeo r).2] at this
  rw [this]; exact h
theorem zn3 (r : List UInt8) (h : 1 ≤ zE r) : ∃ b, r[zE r - 1]? = some b ∧ (zE r < 10 → (64 ≤ b.toNat ↔ 2 ^ (7 * zE r - 1) ≤ zbc r)) := by
 unfold zE zbc at *
 split at h
 ·omega
 ·rename_i p hp
  obtain ⟨b, low, h1, h2, h3, h4⟩ := zlL _ _ _ hp
  refine ⟨b, h1, fun h10 => ?_⟩
  have h5 : 2 ^ (7 * p.2 - 1) = 64 * 128 ^ (p.2 - 1) := by rw [← zjg, show 7 * p.2 - 1 = 6 + 7 * (p.2 - 1) from by omega, Nat.pow_add]
  have h6 : 128 ^ (p.2 - 1) ≤ 72057594037927936 := by
   rw [← zjg]; exact Nat.le_trans (Nat.pow_le_pow_right (by omega) (show 7 * (p.2 - 1) ≤ 56 by omega)) (by decide)
  rw [h5, h3]
  generalize 128 ^ (p.2 - 1) = q at *
  have h7 : q * b.toNat ≤ q * 127 := Nat.mul_le_mul_left q (by omega)
  rw [Nat.mod_eq_of_lt (by omega)]
  constructor
  ·intro hb
   have := Nat.mul_le_mul_left q hb
   omega
  ·intro hb
   apply Classical.byContradiction
   intro hc
   have := Nat.mul_le_mul_left q (show b.toNat ≤ 63 by omega)
   omega
theorem wiu (z : Int) : IntKind.i64.wrap (IntKind.u64.wrap z) = IntKind.i64.wrap z := by rw [zeK, zgb, zgb]; omega
end Go.Proofs.YtgkllgoelpfdkaaGreat
