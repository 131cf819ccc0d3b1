import Derived.Test.YtckcngkkofemjaaGreatAd
namespace Go.Proofs.YtckcngkkofemjaaGreat
open Go.Ab Go.RowKit
set_option linter.unusedVariables false
set_option linter.unusedSimpArgs false
def zS (x : Nat) : List UInt8 := if x > 127 then UInt8.ofNat (x % 128 + 128) :: zS (x / 128) else [UInt8.ofNat x]
termination_by x
decreasing_by omega
def zbe (x : Int) : List UInt8 := if x > 63 ∨ x < -64 then UInt8.ofNat ((x % 128).toNat + 128) :: zbe (x / 128) else [UInt8.ofNat (x % 128).toNat]
termination_by x.natAbs
decreasing_by omega
theorem zc0 {x : Nat} (h : x > 127) : zS x = UInt8.ofNat (x % 128 + 128) :: zS (x / 128) := by rw [zS, if_pos h]
theorem zc3 {x : Nat} (h : ¬ x > 127) : zS x = [UInt8.ofNat x] := by rw [zS, if_neg h]
theorem zcQ {x : Int} (h : x > 63 ∨ x < -64) : zbe x = UInt8.ofNat ((x % 128).toNat + 128) :: zbe (x / 128) := by rw [zbe, if_pos h]
theorem zc1 {x : Int} (h : ¬ (x > 63 ∨ x < -64)) : zbe x = [UInt8.ofNat (x % 128).toNat] := by rw [zbe, if_neg h]
theorem zd9 (x : Nat) : 0 < (zS x).length := by
 by_cases h : x > 127
 ·rw [zc0 h]; simp
 ·rw [zc3 h]; simp
theorem zd7 (x : Int) : 0 < (zbe x).length := by
 by_cases h : x > 63 ∨ x < -64
 ·rw [zcQ h]; simp
 ·rw [zc1 h]; simp
theorem zjR : ∀ (n : Nat) (x : Nat), x < 128 ^ (n + 1) → (zS x).length ≤ n + 1
 | 0, x, h => by rw [zc3 (by omega)]; simp
 | n + 1, x, h => by
  by_cases hx : x > 127
  ·rw [zc0 hx, List.length_cons]
   have := zjR n (x / 128) (by rw [Nat.pow_succ] at h; omega)
   omega
  ·rw [zc3 hx]; simp
theorem zmj : ∀ (n : Nat) (x : Int), -(64 * 128 ^ n) ≤ x → x < 64 * 128 ^ n → (zbe x).length ≤ n + 1
 | 0, x, h, h2 => by rw [zc1 (by omega)]; simp
 | n + 1, x, h, h2 => by
  by_cases hx : x > 63 ∨ x < -64
  ·rw [zcQ hx, List.length_cons]
   have := zmj n (x / 128) (by rw [Int.pow_succ] at h; omega) (by rw [Int.pow_succ] at h2; omega)
   omega
  ·rw [zc1 hx]; simp
theorem zdM {x : Nat} (h : x < 18446744073709551616) : (zS x).length ≤ 10 := zjR 9 x (by omega)
theorem zdX {x : Int} (h : -9223372036854775808 ≤ x) (h2 : x ≤ 9223372036854775807) : (zbe x).length ≤ 10 := zmj 9 x (by omega) (by omega)
def dig : Nat → List UInt8 → Option (Nat × Nat)
 | 0, _ => none
 | _ + 1, [] => none
 | n + 1, b :: r => if b.toNat < 128 then some (b.toNat, 1) else (dig n r).map fun p => (b.toNat % 128 + 128 * p.1, p.2 + 1)
def zbn (l : List UInt8) : Nat := match dig 10 l with
 | none => 0
 | some p => p.1 % 18446744073709551616
def zR (l : List UInt8) : Nat := match dig 10 l with
 | none => 0
 | some p => p.2
theorem zkY (n : Nat) : dig n [] = none := by cases n <;> rfl
theorem zmf {n : Nat} {l : List UInt8} {i : Nat} (hi : i < l.length) : dig (n + 1) (l.drop i) = if l[i].toNat < 128 then some (l[i].toNat, 1) else (dig n (l.drop (i + 1))).map fun p => (l[i].toNat % 128 + 128 * p.1, p.2 + 1) := by
 rw [List.drop_eq_getElem_cons hi]; rfl
theorem zlb {a b k : Nat} (ha : a < 2 ^ k) (hb : 2 ^ k ∣ b) (h64 : a + b < 18446744073709551616) : IntKind.u64.wrap (((BitVec.ofInt IntKind.u64.bits (a : Int)) ||| BitVec.ofInt IntKind.u64.bits (b : Int)).toNat : Int) = ((a + b : Nat) : Int) := by
 show IntKind.u64.wrap ((BitVec.ofInt 64 (a : Int) ||| BitVec.ofInt 64 (b : Int)).toNat : Int) = _
 obtain ⟨q, rfl⟩ := hb
 have h1 : (BitVec.ofInt 64 (a : Int)).toNat = a := by rw [BitVec.toNat_ofInt]; omega
 have h2 : (BitVec.ofInt 64 ((2 ^ k * q : Nat) : Int)).toNat = 2 ^ k * q := by
  rw [BitVec.toNat_ofInt]; omega
 rw [BitVec.toNat_or, h1, h2, Nat.or_comm, ← Nat.two_pow_add_eq_or_of_lt ha, zct (by omega)]
 omega
theorem zmI {b i : Nat} (hi : i < 10) : shv .shl .u64 (IntKind.u64.wrap ((b : Int) % 128)) (IntKind.i64.wrap (7 * (i : Int))) = some (.int .u64 ((b % 128 * 2 ^ (7 * i) % 18446744073709551616 : Nat) : Int)) := by
 rw [zbc (by omega), zct (by omega)]
 show (if (7 * (i : Int)) < 0 then none else some (Value.int .u64 (IntKind.u64.wrap (((b : Int) % 128) * 2 ^ min (7 * (i : Int)).toNat 64)))) = _
 rw [if_neg (by omega), show min (7 * (i : Int)).toNat 64 = 7 * i from by omega, zdo]
 congr 2
theorem or7 {s b i : Nat} (hi : i < 10) (hs : s < 2 ^ (7 * i)) (h63 : s < 18446744073709551616) : IntKind.u64.wrap (((BitVec.ofInt IntKind.u64.bits (s : Int)) ||| BitVec.ofInt IntKind.u64.bits ((b % 128 * 2 ^ (7 * i) % 18446744073709551616 : Nat) : Int)).toNat : Int) = (((s + b % 128 * 2 ^ (7 * i)) % 18446744073709551616 : Nat) : Int) := by
 have e : (18446744073709551616 : Nat) = 2 ^ (7 * i) * 2 ^ (64 - 7 * i) := by rw [← Nat.pow_add]; rw [show 7 * i + (64 - 7 * i) = 64 from by omega]
 have hd : b % 128 * 2 ^ (7 * i) % 18446744073709551616 = 2 ^ (7 * i) * (b % 128 % 2 ^ (64 - 7 * i)) := by
  rw [e, Nat.mul_comm (b % 128), Nat.mul_mod_mul_left]
 have hlt : s + b % 128 * 2 ^ (7 * i) % 18446744073709551616 < 18446744073709551616 := by
  rw [hd]
  have : b % 128 % 2 ^ (64 - 7 * i) + 1 ≤ 2 ^ (64 - 7 * i) := Nat.mod_lt _ (Nat.two_pow_pos _)
  have := Nat.mul_le_mul_left (2 ^ (7 * i)) this
  rw [← e, Nat.mul_add] at this
  omega
 rw [zlb hs ⟨_, hd⟩ hlt]
 congr 1
 omega
def rdU (l : List UInt8) (at_ : Int) : Nat × Int × Int :=
 if at_ < 0 ∨ (l.length : Int) < at_ then (0, 0, 1) else
 let r := l.drop at_.toNat
 if zR r = 0 ∨ zS (zbn r) ≠ r.take (zR r) then (0, 0, 5) else (zbn r, at_ + zR r, 0)
def sgn (x n : Nat) : Int := if n < 10 then (if x < 2 ^ (7 * n - 1) then x else (x : Int) - 2 ^ (7 * n)) else IntKind.i64.wrap x
def rdS (l : List UInt8) (at_ : Int) : Int × Int × Int :=
 if at_ < 0 ∨ (l.length : Int) < at_ then (0, 0, 1) else
 let r := l.drop at_.toNat
 if zR r = 0 ∨ zbe (sgn (zbn r) (zR r)) ≠ r.take (zR r) then (0, 0, 5) else (sgn (zbn r) (zR r), at_ + zR r, 0)
theorem zhn : ∀ (n : Nat) (l : List UInt8) (p : Nat × Nat), dig n l = some p → 1 ≤ p.2 ∧ p.2 ≤ n ∧ p.2 ≤ l.length ∧ p.1 < 128 ^ p.2
 | 0, _, p, h => by cases h
 | n + 1, [], p, h => by cases h
 | n + 1, b :: r, p, h => by
  rw [dig] at h
  split at h
  ·rename_i hb
   injection h with h
   subst h
   exact ⟨Nat.le_refl _, by omega, by simp, by simpa using hb⟩
  ·obtain ⟨q, hq, rfl⟩ := Option.map_eq_some_iff.1 h
   have := zhn n r q hq
   refine ⟨by omega, by omega, by simp; omega, ?_⟩
   show b.toNat % 128 + 128 * q.1 < 128 ^ (q.2 + 1)
   rw [Nat.pow_succ]; omega
theorem zdm (l : List UInt8) : zR l ≤ 10 ∧ zR l ≤ l.length := by
 unfold zR
 split
 ·omega
 ·rename_i p hp
  have := zhn _ _ _ hp
  omega
theorem zdL (l : List UInt8) : zbn l < 18446744073709551616 := by
 unfold zbn
 split
 ·omega
 ·exact Nat.mod_lt _ (by omega)
theorem zjj (l : List UInt8) : zbn l < 2 ^ (7 * zR l) := by
 unfold zbn zR
 split
 ·simp
 ·rename_i p hp
  have h := (zhn _ _ _ hp).2.2.2
  rw [show 128 = 2 ^ 7 from rfl, ← Nat.pow_mul] at h
  exact Nat.lt_of_le_of_lt (Nat.mod_le _ _) h
theorem zmh {x n : Nat} (h1 : 1 ≤ n) (hn : n ≤ 10) (hx : x < 2 ^ (7 * n)) (h64 : x < 18446744073709551616) : IntKind.i64.wrap (IntKind.u64.wrap ((x : Int) * 2 ^ (64 - 7 * n))) / 2 ^ (64 - 7 * n) = sgn x n := by
 rw [zdo, zgb]
 have : n = 1 ∨ n = 2 ∨ n = 3 ∨ n = 4 ∨ n = 5 ∨ n = 6 ∨ n = 7 ∨ n = 8 ∨ n = 9 ∨ n = 10 := by omega
 unfold sgn
 rcases this with rfl | rfl | rfl | rfl | rfl | rfl | rfl | rfl | rfl | rfl
 all_goals simp only [Nat.reduceMul, Nat.reduceSub, Nat.reducePow, Int.reducePow, Nat.reduceLT, ↓reduceIte, zgb] at hx ⊢
 all_goals first | omega | (split <;> omega)
theorem zie {x n : Nat} (h1 : 1 ≤ n) (hn : n ≤ 10) (hx : x < 2 ^ (7 * n)) (h64 : x < 18446744073709551616) : -9223372036854775808 ≤ sgn x n ∧ sgn x n ≤ 9223372036854775807 := by
 have : n = 1 ∨ n = 2 ∨ n = 3 ∨ n = 4 ∨ n = 5 ∨ n = 6 ∨ n = 7 ∨ n = 8 ∨ n = 9 ∨ n = 10 := by omega
 unfold sgn
 rcases this with rfl | rfl | rfl | rfl | rfl | rfl | rfl | rfl | rfl | rfl
 all_goals simp only [Nat.reduceMul, Nat.reduceSub, Nat.reducePow, Int.reducePow, Nat.reduceLT, ↓reduceIte, zgb] at hx ⊢
 all_goals first | omega | (split <;> omega)
theorem zkD : ∀ (n : Nat) (x : Nat), (zS x).length ≤ n + 1 ↔ x < 128 ^ (n + 1)
 | 0, x => by
  by_cases hx : x > 127
  ·rw [zc0 hx, List.length_cons]; have := zd9 (x / 128); constructor <;> intro h <;> omega
  ·rw [zc3 hx]; simp; omega
 | n + 1, x => by
  by_cases hx : x > 127
  ·rw [zc0 hx, List.length_cons]
   have := zkD n (x / 128)
   rw [Nat.pow_succ 128 (n + 1)]
   omega
  ·rw [zc3 hx]
   have : 0 < 128 ^ (n + 1) := Nat.pow_pos (by omega)
   rw [Nat.pow_succ]
   simp; omega
theorem zlv : ∀ (n : Nat) (x : Int), (zbe x).length ≤ n + 1 ↔ -(64 * 128 ^ n) ≤ x ∧ x < 64 * 128 ^ n
 | 0, x => by
  by_cases hx : x > 63 ∨ x < -64
  ·rw [zcQ hx, List.length_cons]; have := zd7 (x / 128); constructor <;> intro h <;> omega
  ·rw [zc1 hx]; simp; omega
 | n + 1, x => by
  have hp : (0 : Int) < 128 ^ n := Int.pow_pos (by omega)
  rw [Int.pow_succ]
  by_cases hx : x > 63 ∨ x < -64
  ·rw [zcQ hx, List.length_cons]
   have := zlv n (x / 128)
   generalize (128 : Int) ^ n = p at *
   omega
  ·rw [zc1 hx]
   generalize (128 : Int) ^ n = p at *
   simp; omega
theorem zhs (n : Nat) : 2 ^ (7 * n) = 128 ^ n := by rw [Nat.pow_mul]
theorem zmF (l : List UInt8) (at_ : Int) : (∃ e, rdU l at_ = (0, 0, e) ∧ (e = 1 ∨ e = 5)) ∨ ∃ i n x : Nat, at_ = i ∧ 1 ≤ n ∧ n ≤ 10 ∧ i + n ≤ l.length ∧ x < 18446744073709551616 ∧ zS x = (l.drop i).take n ∧ rdU l at_ = (x, ((i + n : Nat) : Int), 0) := by
 rw [rdU]
 split
 ·exact .inl ⟨1, rfl, .inl rfl⟩
 ·rename_i h
  dsimp only
  split
  ·exact .inl ⟨5, rfl, .inr rfl⟩
  ·rename_i h2
   rw [not_or] at h2
   have hn := zdm (l.drop at_.toNat)
   rw [List.length_drop] at hn
   exact .inr ⟨at_.toNat, zR (l.drop at_.toNat), zbn (l.drop at_.toNat), by omega, by omega, hn.1, by omega, zdL _, Classical.not_not.1 h2.2, by congr 2; omega⟩
theorem zor (l : List UInt8) (at_ : Int) : (∃ e, rdS l at_ = (0, 0, e) ∧ (e = 1 ∨ e = 5)) ∨ ∃ i n : Nat, ∃ x : Int, at_ = i ∧ 1 ≤ n ∧ n ≤ 10 ∧ i + n ≤ l.length ∧ (-9223372036854775808 ≤ x ∧ x ≤ 9223372036854775807) ∧ zbe x = (l.drop i).take n ∧ rdS l at_ = (x, ((i + n : Nat) : Int), 0) := by
 rw [rdS]
 split
 ·exact .inl ⟨1, rfl, .inl rfl⟩
 ·rename_i h
  dsimp only
  split
  ·exact .inl ⟨5, rfl, .inr rfl⟩
  ·rename_i h2
   rw [not_or] at h2
   have hn := zdm (l.drop at_.toNat)
   rw [List.length_drop] at hn
   exact .inr ⟨at_.toNat, zR (l.drop at_.toNat), sgn (zbn (l.drop at_.toNat)) (zR (l.drop at_.toNat)), by omega, by omega, hn.1, by omega, zie (by omega) hn.1 (zjj _) (zdL _), Classical.not_not.1 h2.2, by congr 2; omega⟩
theorem zhl {n : Nat} (h : n < 256) : (UInt8.ofNat n).toNat = n := UInt8.toNat_ofNat_of_lt' h
theorem zk7 : ∀ (n : Nat) (x : Nat) (r : List UInt8), (zS x).length ≤ n → dig n (zS x ++ r) = some (x, (zS x).length)
 | 0, x, r, h => absurd h (by have := zd9 x; omega)
 | n + 1, x, r, h => by
  by_cases hx : x > 127
  ·rw [zc0 hx] at h ⊢
   rw [List.cons_append, dig, zhl (by omega), if_neg (by omega), zk7 n (x / 128) r (by simpa using h)]
   simp; omega
  ·rw [zc3 hx]
   simp only [List.cons_append, dig, zhl (show x < 256 by omega)]
   rw [if_pos (by omega)]; rfl
theorem zoC (y : Int) {b : Int} (hb : 0 < b) : y % (128 * b) = y % 128 + 128 * ((y / 128) % b) := by
 have h1 := Int.emod_add_mul_ediv y 128
 have h2 := Int.emod_add_mul_ediv (y / 128) b
 have h3 := Int.emod_nonneg (y / 128) (show b ≠ 0 by omega)
 have h4 := Int.emod_lt_of_pos (y / 128) hb
 have e : y = (y % 128 + 128 * ((y / 128) % b)) + 128 * b * (y / 128 / b) := by
  rw [Int.mul_assoc]
  generalize b * (y / 128 / b) = z at *
  omega
 conv => lhs; rw [e]
 rw [Int.add_mul_emod_self_left, Int.emod_eq_of_lt (by omega) (by omega)]
theorem zkQ : ∀ (n : Nat) (y : Int) (r : List UInt8), (zbe y).length ≤ n → dig n (zbe y ++ r) = some ((y % 128 ^ (zbe y).length).toNat, (zbe y).length)
 | 0, y, r, h => absurd h (by have := zd7 y; omega)
 | n + 1, y, r, h => by
  by_cases hx : y > 63 ∨ y < -64
  ·rw [zcQ hx] at h ⊢
   rw [List.cons_append, dig, zhl (by omega), if_neg (by omega), zkQ n (y / 128) r (by simpa using h)]
   have hp : (0 : Int) < 128 ^ (zbe (y / 128)).length := Int.pow_pos (by omega)
   have h3 := Int.emod_nonneg (y / 128) (show (128 : Int) ^ (zbe (y / 128)).length ≠ 0 by omega)
   simp only [Option.map_some, List.length_cons, Int.pow_succ]
   rw [Int.mul_comm _ (128 : Int), zoC y hp]
   congr 2
   omega
  ·rw [zc1 hx]
   simp only [List.cons_append, dig, zhl (show (y % 128).toNat < 256 by omega)]
   rw [if_pos (by omega)]; rfl
def zcb : Int → Nat → List UInt8
 | _, 0 => []
 | y, 1 => [UInt8.ofNat (y % 128).toNat]
 | y, n + 2 => UInt8.ofNat ((y % 128).toNat + 128) :: zcb (y / 128) (n + 1)
theorem zlL : ∀ (n : Nat) (x : Nat), (zS x).length = n → zcb x n = zS x
 | 0, x, h => absurd h (by have := zd9 x; omega)
 | 1, x, h => by
  by_cases hx : x > 127
  ·rw [zc0 hx, List.length_cons] at h; have := zd9 (x / 128); omega
  ·rw [zc3 hx, zcb]; congr 2; omega
 | n + 2, x, h => by
  by_cases hx : x > 127
  ·rw [zc0 hx, List.length_cons] at h
   rw [zc0 hx, zcb]
   have := zlL (n + 1) (x / 128) (by omega)
   rw [← this]
   congr 2
  ·rw [zc3 hx] at h; simp at h
theorem zlz : ∀ (n : Nat) (y : Int), (zbe y).length = n → zcb y n = zbe y
 | 0, x, h => absurd h (by have := zd7 x; omega)
 | 1, x, h => by
  by_cases hx : x > 63 ∨ x < -64
  ·rw [zcQ hx, List.length_cons] at h; have := zd7 (x / 128); omega
  ·rw [zc1 hx, zcb]
 | n + 2, x, h => by
  by_cases hx : x > 63 ∨ x < -64
  ·rw [zcQ hx, List.length_cons] at h
   rw [zcQ hx, zcb, zlz (n + 1) (x / 128) (by omega)]
  ·rw [zc1 hx] at h; simp at h
def zcs : Nat → List UInt8 → Nat
 | 0, _ => 0
 | _ + 1, [] => 0
 | n + 1, b :: r => b.toNat % 128 + 128 * zcs n r
theorem zlI : ∀ (m : Nat) (r : List UInt8) (p : Nat × Nat), dig m r = some p → p.1 = zcs p.2 r
 | 0, _, p, h => by cases h
 | m + 1, [], p, h => by cases h
 | m + 1, b :: r, p, h => by
  rw [dig] at h
  split at h
  ·injection h with h
   subst h
   show b.toNat = b.toNat % 128 + 128 * zcs 0 r
   rw [zcs]; omega
  ·obtain ⟨q, hq, rfl⟩ := Option.map_eq_some_iff.1 h
   show _ = b.toNat % 128 + 128 * zcs q.2 r
   rw [zlI m r q hq]
theorem zl2 (r : List UInt8) : zcs (zR r) r % 18446744073709551616 = zbn r := by
 unfold zR zbn
 split
 ·rfl
 ·rename_i p hp
  rw [zlI _ _ _ hp]
theorem zoh {n : Nat} {l : List UInt8} {i : Nat} (hi : i < l.length) : zcs (n + 1) (l.drop i) = l[i].toNat % 128 + 128 * zcs n (l.drop (i + 1)) := by
 rw [List.drop_eq_getElem_cons hi]; rfl
theorem zky : ∀ (m : Nat) (r : List UInt8) (p : Nat × Nat), dig m r = some p → ∃ b low, r[p.2 - 1]? = some b ∧ b.toNat < 128 ∧ p.1 = low + 128 ^ (p.2 - 1) * b.toNat ∧ low < 128 ^ (p.2 - 1)
 | 0, _, p, h => by cases h
 | m + 1, [], p, h => by cases h
 | m + 1, b :: r, p, h => by
  rw [dig] at h
  split at h
  ·rename_i hb
   injection h with h
   subst h
   exact ⟨b, 0, rfl, hb, by simp, by simp⟩
  ·obtain ⟨q, hq, rfl⟩ := Option.map_eq_some_iff.1 h
   obtain ⟨c, low, h1, h2, h3, h4⟩ := zky m r q hq
   have hq1 := (zhn m r q hq).1
   obtain ⟨k, hk⟩ : ∃ k, q.2 = k + 1 := ⟨q.2 - 1, by omega⟩
   rw [hk] at h1 h3 h4
   refine ⟨c, b.toNat % 128 + 128 * low, ?_, h2, ?_, ?_⟩
   ·show (b :: r)[q.2 + 1 - 1]? = some c
    rw [hk]; exact h1
   ·show b.toNat % 128 + 128 * q.1 = _ + 128 ^ (q.2 + 1 - 1) * c.toNat
    rw [hk, h3, Nat.add_sub_cancel, Nat.add_sub_cancel, Nat.pow_succ, Nat.mul_add, Nat.mul_comm (128 ^ k) 128, Nat.mul_assoc]; omega
   ·show b.toNat % 128 + 128 * low < 128 ^ (q.2 + 1 - 1)
    rw [hk, Nat.add_sub_cancel, Nat.pow_succ]
    rw [Nat.add_sub_cancel] at h4
    omega
theorem zoa (r : List UInt8) (hn : zR r ≠ 0) : zS (zbn r) = r.take (zS (zbn r)).length ↔ zS (zbn r) = r.take (zR r) := by
 constructor
 ·intro h
  have hd := zk7 10 (zbn r) (r.drop (zS (zbn r)).length) (zdM (zdL r))
  have e : zS (zbn r) ++ r.drop (zS (zbn r)).length = r := by
   conv => lhs; lhs; rw [h]
   exact List.take_append_drop _ _
  rw [e] at hd
  have : zR r = (zS (zbn r)).length := by rw [zR, hd]
  rw [this]; exact h
 ·intro h
  have := congrArg List.length h
  rw [List.length_take, Nat.min_eq_left (zdm r).2] at this
  rw [this]; exact h
theorem znH (r : List UInt8) {y : Int} (hy : -9223372036854775808 ≤ y ∧ y ≤ 9223372036854775807) : zbe y = r.take (zbe y).length ↔ zbe y = r.take (zR r) := by
 constructor
 ·intro h
  have hd := zkQ 10 y (r.drop (zbe y).length) (zdX hy.1 hy.2)
  have e : zbe y ++ r.drop (zbe y).length = r := by
   conv => lhs; lhs; rw [h]
   exact List.take_append_drop _ _
  rw [e] at hd
  have : zR r = (zbe y).length := by rw [zR, hd]
  rw [this]; exact h
 ·intro h
  have := congrArg List.length h
  rw [List.length_take, Nat.min_eq_left (zdm r).2] at this
  rw [this]; exact h
theorem zo6 (r : List UInt8) (h : 1 ≤ zR r) : ∃ b, r[zR r - 1]? = some b ∧ (zR r < 10 → (64 ≤ b.toNat ↔ 2 ^ (7 * zR r - 1) ≤ zbn r)) := by
 unfold zR zbn at *
 split at h
 ·omega
 ·rename_i p hp
  obtain ⟨b, low, h1, h2, h3, h4⟩ := zky _ _ _ hp
  refine ⟨b, h1, fun h10 => ?_⟩
  have h5 : 2 ^ (7 * p.2 - 1) = 64 * 128 ^ (p.2 - 1) := by rw [← zhs, show 7 * p.2 - 1 = 6 + 7 * (p.2 - 1) from by omega, Nat.pow_add]
  have h6 : 128 ^ (p.2 - 1) ≤ 72057594037927936 := by
   rw [← zhs]; exact Nat.le_trans (Nat.pow_le_pow_right (by omega) (show 7 * (p.2 - 1) ≤ 56 by omega)) (by decide)
  rw [h5, h3]
  generalize 128 ^ (p.2 - 1) = q at *
  have h7 : q * b.toNat ≤ q * 127 := Nat.mul_le_mul_left q (by omega)
  rw [Nat.mod_eq_of_lt (by omega)]
  constructor
  ·intro hb
   have := Nat.mul_le_mul_left q hb
   omega
  ·intro hb
   apply Classical.byContradiction
   intro hc
   have := Nat.mul_le_mul_left q (show b.toNat ≤ 63 by omega)
   omega
theorem wiu (z : Int) : IntKind.i64.wrap (IntKind.u64.wrap z) = IntKind.i64.wrap z := by rw [zdo, zgb, zgb]; omega
end Go.Proofs.YtckcngkkofemjaaGreat
