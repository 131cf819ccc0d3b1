import Derived.Test.YtgkllgoelpfdkaaGreatAd
namespace Go.Proofs.YtgkllgoelpfdkaaGreat
open Go.Ab Go.RowKit
set_option linter.unusedVariables false
set_option linter.unusedSimpArgs false
def z0 (x : Nat) : List UInt8 := if x > 127 then UInt8.ofNat (x % 128 + 128) :: z0 (x / 128) else [UInt8.ofNat x]
termination_by x
decreasing_by omega
def zN (x : Int) : List UInt8 := if x > 63 ∨ x < -64 then UInt8.ofNat ((x % 128).toNat + 128) :: zN (x / 128) else [UInt8.ofNat (x % 128).toNat]
termination_by x.natAbs
decreasing_by omega
theorem zcU {x : Nat} (h : x > 127) : z0 x = UInt8.ofNat (x % 128 + 128) :: z0 (x / 128) := by rw [z0, if_pos h]
theorem zc0 {x : Nat} (h : ¬ x > 127) : z0 x = [UInt8.ofNat x] := by rw [z0, if_neg h]
theorem zc2 {x : Int} (h : x > 63 ∨ x < -64) : zN x = UInt8.ofNat ((x % 128).toNat + 128) :: zN (x / 128) := by rw [zN, if_pos h]
theorem zcY {x : Int} (h : ¬ (x > 63 ∨ x < -64)) : zN x = [UInt8.ofNat (x % 128).toNat] := by rw [zN, if_neg h]
theorem zdR (x : Nat) : 0 < (z0 x).length := by
 by_cases h : x > 127
 ·rw [zcU h]; simp
 ·rw [zc0 h]; simp
theorem zd1 (x : Int) : 0 < (zN x).length := by
 by_cases h : x > 63 ∨ x < -64
 ·rw [zc2 h]; simp
 ·rw [zcY h]; simp
theorem zjZ : ∀ (n : Nat) (x : Nat), x < 128 ^ (n + 1) → (z0 x).length ≤ n + 1
 | 0, x, h => by rw [zc0 (by omega)]; simp
 | n + 1, x, h => by
  by_cases hx : x > 127
  ·rw [zcU hx, List.length_cons]
   have := zjZ n (x / 128) (by rw [Nat.pow_succ] at h; omega)
   omega
  ·rw [zc0 hx]; simp
theorem zla : ∀ (n : Nat) (x : Int), -(64 * 128 ^ n) ≤ x → x < 64 * 128 ^ n → (zN x).length ≤ n + 1
 | 0, x, h, h2 => by rw [zcY (by omega)]; simp
 | n + 1, x, h, h2 => by
  by_cases hx : x > 63 ∨ x < -64
  ·rw [zc2 hx, List.length_cons]
   have := zla n (x / 128) (by rw [Int.pow_succ] at h; omega) (by rw [Int.pow_succ] at h2; omega)
   omega
  ·rw [zcY hx]; simp
theorem zec {x : Nat} (h : x < 18446744073709551616) : (z0 x).length ≤ 10 := zjZ 9 x (by omega)
theorem zd5 {x : Int} (h : -9223372036854775808 ≤ x) (h2 : x ≤ 9223372036854775807) : (zN x).length ≤ 10 := zla 9 x (by omega) (by omega)
def dig : Nat → List UInt8 → Option (Nat × Nat)
 | 0, _ => none
 | _ + 1, [] => none
 | n + 1, b :: r => if b.toNat < 128 then some (b.toNat, 1) else (dig n r).map fun p => (b.toNat % 128 + 128 * p.1, p.2 + 1)
def zbw (l : List UInt8) : Nat := match dig 10 l with
 | none => 0
 | some p => p.1 % 18446744073709551616
def zbc (l : List UInt8) : Nat := match dig 10 l with
 | none => 0
 | some p => p.2
theorem zo5 (n : Nat) : dig n [] = none := by cases n <;> rfl
theorem zmm {n : Nat} {l : List UInt8} {i : Nat} (hi : i < l.length) : dig (n + 1) (l.drop i) = if l[i].toNat < 128 then some (l[i].toNat, 1) else (dig n (l.drop (i + 1))).map fun p => (l[i].toNat % 128 + 128 * p.1, p.2 + 1) := by
 rw [List.drop_eq_getElem_cons hi]; rfl
theorem zlY {a b k : Nat} (ha : a < 2 ^ k) (hb : 2 ^ k ∣ b) (h64 : a + b < 18446744073709551616) : IntKind.u64.wrap (((BitVec.ofInt IntKind.u64.bits (a : Int)) ||| BitVec.ofInt IntKind.u64.bits (b : Int)).toNat : Int) = ((a + b : Nat) : Int) := by
 show IntKind.u64.wrap ((BitVec.ofInt 64 (a : Int) ||| BitVec.ofInt 64 (b : Int)).toNat : Int) = _
 obtain ⟨q, rfl⟩ := hb
 have h1 : (BitVec.ofInt 64 (a : Int)).toNat = a := by rw [BitVec.toNat_ofInt]; omega
 have h2 : (BitVec.ofInt 64 ((2 ^ k * q : Nat) : Int)).toNat = 2 ^ k * q := by
  rw [BitVec.toNat_ofInt]; omega
 rw [BitVec.toNat_or, h1, h2, Nat.or_comm, ← Nat.two_pow_add_eq_or_of_lt ha, zdW (by omega)]
 omega
theorem zpv {b i : Nat} (hi : i < 10) : shv .shl .u64 (IntKind.u64.wrap ((b : Int) % 128)) (IntKind.i64.wrap (7 * (i : Int))) = some (.int .u64 ((b % 128 * 2 ^ (7 * i) % 18446744073709551616 : Nat) : Int)) := by
 rw [zV (by omega), zdW (by omega)]
 show (if (7 * (i : Int)) < 0 then none else some (Value.int .u64 (IntKind.u64.wrap (((b : Int) % 128) * 2 ^ min (7 * (i : Int)).toNat 64)))) = _
 rw [if_neg (by omega), show min (7 * (i : Int)).toNat 64 = 7 * i from by omega, zfP]
 congr 2
theorem or7 {s b i : Nat} (hi : i < 10) (hs : s < 2 ^ (7 * i)) (h63 : s < 18446744073709551616) : IntKind.u64.wrap (((BitVec.ofInt IntKind.u64.bits (s : Int)) ||| BitVec.ofInt IntKind.u64.bits ((b % 128 * 2 ^ (7 * i) % 18446744073709551616 : Nat) : Int)).toNat : Int) = (((s + b % 128 * 2 ^ (7 * i)) % 18446744073709551616 : Nat) : Int) := by
 have e : (18446744073709551616 : Nat) = 2 ^ (7 * i) * 2 ^ (64 - 7 * i) := by rw [← Nat.pow_add]; rw [show 7 * i + (64 - 7 * i) = 64 from by omega]
 have hd : b % 128 * 2 ^ (7 * i) % 18446744073709551616 = 2 ^ (7 * i) * (b % 128 % 2 ^ (64 - 7 * i)) := by
  rw [e, Nat.mul_comm (b % 128), Nat.mul_mod_mul_left]
 have hlt : s + b % 128 * 2 ^ (7 * i) % 18446744073709551616 < 18446744073709551616 := by
  rw [hd]
  have : b % 128 % 2 ^ (64 - 7 * i) + 1 ≤ 2 ^ (64 - 7 * i) := Nat.mod_lt _ (Nat.two_pow_pos _)
  have := Nat.mul_le_mul_left (2 ^ (7 * i)) this
  rw [← e, Nat.mul_add] at this
  omega
 rw [zlY hs ⟨_, hd⟩ hlt]
 congr 1
 omega
def rdU (l : List UInt8) (at_ : Int) : Nat × Int × Int :=
 if at_ < 0 ∨ (l.length : Int) < at_ then (0, 0, 1) else
 let r := l.drop at_.toNat
 if zbc r = 0 ∨ z0 (zbw r) ≠ r.take (zbc r) then (0, 0, 5) else (zbw r, at_ + zbc r, 0)
def sgn (x n : Nat) : Int := if n < 10 then (if x < 2 ^ (7 * n - 1) then x else (x : Int) - 2 ^ (7 * n)) else IntKind.i64.wrap x
def rdS (l : List UInt8) (at_ : Int) : Int × Int × Int :=
 if at_ < 0 ∨ (l.length : Int) < at_ then (0, 0, 1) else
 let r := l.drop at_.toNat
 if zbc r = 0 ∨ zN (sgn (zbw r) (zbc r)) ≠ r.take (zbc r) then (0, 0, 5) else (sgn (zbw r) (zbc r), at_ + zbc r, 0)
theorem zjP : ∀ (n : Nat) (l : List UInt8) (p : Nat × Nat), dig n l = some p → 1 ≤ p.2 ∧ p.2 ≤ n ∧ p.2 ≤ l.length ∧ p.1 < 128 ^ p.2
 | 0, _, p, h => by cases h
 | n + 1, [], p, h => by cases h
 | n + 1, b :: r, p, h => by
  rw [dig] at h
  split at h
  ·rename_i hb
   injection h with h
   subst h
   exact ⟨Nat.le_refl _, by omega, by simp, by simpa using hb⟩
  ·obtain ⟨q, hq, rfl⟩ := Option.map_eq_some_iff.1 h
   have := zjP n r q hq
   refine ⟨by omega, by omega, by simp; omega, ?_⟩
   show b.toNat % 128 + 128 * q.1 < 128 ^ (q.2 + 1)
   rw [Nat.pow_succ]; omega
theorem zh0 (l : List UInt8) : zbc l ≤ 10 ∧ zbc l ≤ l.length := by
 unfold zbc
 split
 ·omega
 ·rename_i p hp
  have := zjP _ _ _ hp
  omega
theorem zhw (l : List UInt8) : zbw l < 18446744073709551616 := by
 unfold zbw
 split
 ·omega
 ·exact Nat.mod_lt _ (by omega)
theorem zj2 (l : List UInt8) : zbw l < 2 ^ (7 * zbc l) := by
 unfold zbw zbc
 split
 ·simp
 ·rename_i p hp
  have h := (zjP _ _ _ hp).2.2.2
  rw [show 128 = 2 ^ 7 from rfl, ← Nat.pow_mul] at h
  exact Nat.lt_of_le_of_lt (Nat.mod_le _ _) h
theorem zkY {x n : Nat} (h1 : 1 ≤ n) (hn : n ≤ 10) (hx : x < 2 ^ (7 * n)) (h64 : x < 18446744073709551616) : IntKind.i64.wrap (IntKind.u64.wrap ((x : Int) * 2 ^ (64 - 7 * n))) / 2 ^ (64 - 7 * n) = sgn x n := by
 rw [zfP, zhT]
 have : n = 1 ∨ n = 2 ∨ n = 3 ∨ n = 4 ∨ n = 5 ∨ n = 6 ∨ n = 7 ∨ n = 8 ∨ n = 9 ∨ n = 10 := by omega
 unfold sgn
 rcases this with rfl | rfl | rfl | rfl | rfl | rfl | rfl | rfl | rfl | rfl
 all_goals simp only [Nat.reduceMul, Nat.reduceSub, Nat.reducePow, Int.reducePow, Nat.reduceLT, ↓reduceIte, zhT] at hx ⊢
 all_goals first | omega | (split <;> omega)
theorem zlf {x n : Nat} (h1 : 1 ≤ n) (hn : n ≤ 10) (hx : x < 2 ^ (7 * n)) (h64 : x < 18446744073709551616) : -9223372036854775808 ≤ sgn x n ∧ sgn x n ≤ 9223372036854775807 := by
 have : n = 1 ∨ n = 2 ∨ n = 3 ∨ n = 4 ∨ n = 5 ∨ n = 6 ∨ n = 7 ∨ n = 8 ∨ n = 9 ∨ n = 10 := by omega
 unfold sgn
 rcases this with rfl | rfl | rfl | rfl | rfl | rfl | rfl | rfl | rfl | rfl
 all_goals simp only [Nat.reduceMul, Nat.reduceSub, Nat.reducePow, Int.reducePow, Nat.reduceLT, ↓reduceIte, zhT] at hx ⊢
 all_goals first | omega | (split <;> omega)
theorem zlz : ∀ (n : Nat) (x : Nat), (z0 x).length ≤ n + 1 ↔ x < 128 ^ (n + 1)
 | 0, x => by
  by_cases hx : x > 127
  ·rw [zcU hx, List.length_cons]; have := zdR (x / 128); constructor <;> intro h <;> omega
  ·rw [zc0 hx]; simp; omega
 | n + 1, x => by
  by_cases hx : x > 127
  ·rw [zcU hx, List.length_cons]
   have := zlz n (x / 128)
   rw [Nat.pow_succ 128 (n + 1)]
   omega
  ·rw [zc0 hx]
   have : 0 < 128 ^ (n + 1) := Nat.pow_pos (by omega)
   rw [Nat.pow_succ]
   simp; omega
theorem zji : ∀ (n : Nat) (x : Int), (zN x).length ≤ n + 1 ↔ -(64 * 128 ^ n) ≤ x ∧ x < 64 * 128 ^ n
 | 0, x => by
  by_cases hx : x > 63 ∨ x < -64
  ·rw [zc2 hx, List.length_cons]; have := zd1 (x / 128); constructor <;> intro h <;> omega
  ·rw [zcY hx]; simp; omega
 | n + 1, x => by
  have hp : (0 : Int) < 128 ^ n := Int.pow_pos (by omega)
  rw [Int.pow_succ]
  by_cases hx : x > 63 ∨ x < -64
  ·rw [zc2 hx, List.length_cons]
   have := zji n (x / 128)
   generalize (128 : Int) ^ n = p at *
   omega
  ·rw [zcY hx]
   generalize (128 : Int) ^ n = p at *
   simp; omega
theorem zkV (n : Nat) : 2 ^ (7 * n) = 128 ^ n := by rw [Nat.pow_mul]
theorem zmD (l : List UInt8) (at_ : Int) : (∃ e, rdU l at_ = (0, 0, e) ∧ (e = 1 ∨ e = 5)) ∨ ∃ i n x : Nat, at_ = i ∧ 1 ≤ n ∧ n ≤ 10 ∧ i + n ≤ l.length ∧ x < 18446744073709551616 ∧ z0 x = (l.drop i).take n ∧ rdU l at_ = (x, ((i + n : Nat) : Int), 0) := by
 rw [rdU]
 split
 ·exact .inl ⟨1, rfl, .inl rfl⟩
 ·rename_i h
  dsimp only
  split
  ·exact .inl ⟨5, rfl, .inr rfl⟩
  ·rename_i h2
   rw [not_or] at h2
   have hn := zh0 (l.drop at_.toNat)
   rw [List.length_drop] at hn
   exact .inr ⟨at_.toNat, zbc (l.drop at_.toNat), zbw (l.drop at_.toNat), by omega, by omega, hn.1, by omega, zhw _, Classical.not_not.1 h2.2, by congr 2; omega⟩
theorem znT (l : List UInt8) (at_ : Int) : (∃ e, rdS l at_ = (0, 0, e) ∧ (e = 1 ∨ e = 5)) ∨ ∃ i n : Nat, ∃ x : Int, at_ = i ∧ 1 ≤ n ∧ n ≤ 10 ∧ i + n ≤ l.length ∧ (-9223372036854775808 ≤ x ∧ x ≤ 9223372036854775807) ∧ zN x = (l.drop i).take n ∧ rdS l at_ = (x, ((i + n : Nat) : Int), 0) := by
 rw [rdS]
 split
 ·exact .inl ⟨1, rfl, .inl rfl⟩
 ·rename_i h
  dsimp only
  split
  ·exact .inl ⟨5, rfl, .inr rfl⟩
  ·rename_i h2
   rw [not_or] at h2
   have hn := zh0 (l.drop at_.toNat)
   rw [List.length_drop] at hn
   exact .inr ⟨at_.toNat, zbc (l.drop at_.toNat), sgn (zbw (l.drop at_.toNat)) (zbc (l.drop at_.toNat)), by omega, by omega, hn.1, by omega, zlf (by omega) hn.1 (zj2 _) (zhw _), Classical.not_not.1 h2.2, by congr 2; omega⟩
theorem zhQ {n : Nat} (h : n < 256) : (UInt8.ofNat n).toNat = n := UInt8.toNat_ofNat_of_lt' h
theorem zlk : ∀ (n : Nat) (x : Nat) (r : List UInt8), (z0 x).length ≤ n → dig n (z0 x ++ r) = some (x, (z0 x).length)
 | 0, x, r, h => absurd h (by have := zdR x; omega)
 | n + 1, x, r, h => by
  by_cases hx : x > 127
  ·rw [zcU hx] at h ⊢
   rw [List.cons_append, dig, zhQ (by omega), if_neg (by omega), zlk n (x / 128) r (by simpa using h)]
   simp; omega
  ·rw [zc0 hx]
   simp only [List.cons_append, dig, zhQ (show x < 256 by omega)]
   rw [if_pos (by omega)]; rfl
theorem znf (y : Int) {b : Int} (hb : 0 < b) : y % (128 * b) = y % 128 + 128 * ((y / 128) % b) := by
 have h1 := Int.emod_add_mul_ediv y 128
 have h2 := Int.emod_add_mul_ediv (y / 128) b
 have h3 := Int.emod_nonneg (y / 128) (show b ≠ 0 by omega)
 have h4 := Int.emod_lt_of_pos (y / 128) hb
 have e : y = (y % 128 + 128 * ((y / 128) % b)) + 128 * b * (y / 128 / b) := by
  rw [Int.mul_assoc]
  generalize b * (y / 128 / b) = z at *
  omega
 conv => lhs; rw [e]
 rw [Int.add_mul_emod_self_left, Int.emod_eq_of_lt (by omega) (by omega)]
theorem zkJ : ∀ (n : Nat) (y : Int) (r : List UInt8), (zN y).length ≤ n → dig n (zN y ++ r) = some ((y % 128 ^ (zN y).length).toNat, (zN y).length)
 | 0, y, r, h => absurd h (by have := zd1 y; omega)
 | n + 1, y, r, h => by
  by_cases hx : y > 63 ∨ y < -64
  ·rw [zc2 hx] at h ⊢
   rw [List.cons_append, dig, zhQ (by omega), if_neg (by omega), zkJ n (y / 128) r (by simpa using h)]
   have hp : (0 : Int) < 128 ^ (zN (y / 128)).length := Int.pow_pos (by omega)
   have h3 := Int.emod_nonneg (y / 128) (show (128 : Int) ^ (zN (y / 128)).length ≠ 0 by omega)
   simp only [Option.map_some, List.length_cons, Int.pow_succ]
   rw [Int.mul_comm _ (128 : Int), znf y hp]
   congr 2
   omega
  ·rw [zcY hx]
   simp only [List.cons_append, dig, zhQ (show (y % 128).toNat < 256 by omega)]
   rw [if_pos (by omega)]; rfl
theorem zpJ {y : Int} {m : Nat} (h1 : 1 ≤ m) (hm : m ≤ 10) (hy : -(64 * 128 ^ (m - 1)) ≤ y ∧ y < 64 * 128 ^ (m - 1)) (hb : -9223372036854775808 ≤ y ∧ y ≤ 9223372036854775807) : sgn ((y % 128 ^ m).toNat % 18446744073709551616) m = y := by
 have : m = 1 ∨ m = 2 ∨ m = 3 ∨ m = 4 ∨ m = 5 ∨ m = 6 ∨ m = 7 ∨ m = 8 ∨ m = 9 ∨ m = 10 := by omega
 unfold sgn
 rcases this with rfl | rfl | rfl | rfl | rfl | rfl | rfl | rfl | rfl | rfl
 all_goals simp only [Nat.reduceMul, Nat.reduceSub, Nat.reducePow, Int.reducePow, Nat.reduceLT, ↓reduceIte, zhT] at hy ⊢
 all_goals first | omega | (split <;> omega)
theorem zpB {x : Nat} (hx : x < 18446744073709551616) (p r : List UInt8) : rdU (p ++ z0 x ++ r) p.length = (x, (((p ++ z0 x).length : Nat) : Int), 0) := by
 have hd := zlk 10 x r (zec hx)
 have e : (p ++ z0 x ++ r).drop p.length = z0 x ++ r := by rw [List.append_assoc, List.drop_left]
 have hX : zbw (z0 x ++ r) = x := by rw [zbw, hd]; exact Nat.mod_eq_of_lt hx
 have hN : zbc (z0 x ++ r) = (z0 x).length := by rw [zbc, hd]
 have := zdR x
 rw [rdU, if_neg (by simp only [List.length_append]; omega)]
 dsimp only
 rw [Int.toNat_natCast, e, hN, hX, List.take_left, if_neg (by rintro (h | h) <;> first | omega | exact h rfl)]
 simp
theorem zlZ {y : Int} (hy : -9223372036854775808 ≤ y ∧ y ≤ 9223372036854775807) (p r : List UInt8) : rdS (p ++ zN y ++ r) p.length = (y, (((p ++ zN y).length : Nat) : Int), 0) := by
 have h10 := zd5 hy.1 hy.2
 have h1 := zd1 y
 have hd := zkJ 10 y r h10
 have e : (p ++ zN y ++ r).drop p.length = zN y ++ r := by rw [List.append_assoc, List.drop_left]
 have hs : sgn ((y % 128 ^ (zN y).length).toNat % 18446744073709551616) (zN y).length = y := by
  have := zji ((zN y).length - 1) y
  exact zpJ h1 h10 (this.1 (by omega)) hy
 have hX : sgn (zbw (zN y ++ r)) (zN y).length = y := by rw [zbw, hd]; exact hs
 have hN : zbc (zN y ++ r) = (zN y).length := by rw [zbc, hd]
 rw [rdS, if_neg (by simp only [List.length_append]; omega)]
 dsimp only
 rw [Int.toNat_natCast, e, hN, hX, List.take_left, if_neg (by rintro (h | h) <;> first | omega | exact h rfl)]
 simp
def zca : Int → Nat → List UInt8
 | _, 0 => []
 | y, 1 => [UInt8.ofNat (y % 128).toNat]
 | y, n + 2 => UInt8.ofNat ((y % 128).toNat + 128) :: zca (y / 128) (n + 1)
theorem zlF : ∀ (n : Nat) (x : Nat), (z0 x).length = n → zca x n = z0 x
 | 0, x, h => absurd h (by have := zdR x; omega)
 | 1, x, h => by
  by_cases hx : x > 127
  ·rw [zcU hx, List.length_cons] at h; have := zdR (x / 128); omega
  ·rw [zc0 hx, zca]; congr 2; omega
 | n + 2, x, h => by
  by_cases hx : x > 127
  ·rw [zcU hx, List.length_cons] at h
   rw [zcU hx, zca]
   have := zlF (n + 1) (x / 128) (by omega)
   rw [← this]
   congr 2
  ·rw [zc0 hx] at h; simp at h
theorem zkd : ∀ (n : Nat) (y : Int), (zN y).length = n → zca y n = zN y
 | 0, x, h => absurd h (by have := zd1 x; omega)
 | 1, x, h => by
  by_cases hx : x > 63 ∨ x < -64
  ·rw [zc2 hx, List.length_cons] at h; have := zd1 (x / 128); omega
  ·rw [zcY hx, zca]
 | n + 2, x, h => by
  by_cases hx : x > 63 ∨ x < -64
  ·rw [zc2 hx, List.length_cons] at h
   rw [zc2 hx, zca, zkd (n + 1) (x / 128) (by omega)]
  ·rw [zcY hx] at h; simp at h
end Go.Proofs.YtgkllgoelpfdkaaGreat
