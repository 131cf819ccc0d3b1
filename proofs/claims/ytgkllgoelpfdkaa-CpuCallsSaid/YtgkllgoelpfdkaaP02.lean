import Derived.Test.YtgkllgoelpfdkaaAd
namespace Go.Proofs.Ytgkllgoelpfdkaa
open Go.Ab Go.RowKit
set_option linter.unusedVariables false
set_option linter.unusedSimpArgs false
def zS (x : Nat) : List UInt8 := if x > 127 then UInt8.ofNat (x % 128 + 128) :: zS (x / 128) else [UInt8.ofNat x]
termination_by x
decreasing_by omega
def zK (x : Int) : List UInt8 := if x > 63 ∨ x < -64 then UInt8.ofNat ((x % 128).toNat + 128) :: zK (x / 128) else [UInt8.ofNat (x % 128).toNat]
termination_by x.natAbs
decreasing_by omega
theorem zfP {x : Nat} (h : x > 127) : zS x = UInt8.ofNat (x % 128 + 128) :: zS (x / 128) := by rw [zS, if_pos h]
theorem zfm {x : Nat} (h : ¬ x > 127) : zS x = [UInt8.ofNat x] := by rw [zS, if_neg h]
theorem zdW {x : Int} (h : x > 63 ∨ x < -64) : zK x = UInt8.ofNat ((x % 128).toNat + 128) :: zK (x / 128) := by rw [zK, if_pos h]
theorem zdp {x : Int} (h : ¬ (x > 63 ∨ x < -64)) : zK x = [UInt8.ofNat (x % 128).toNat] := by rw [zK, if_neg h]
theorem zhL (x : Nat) : 0 < (zS x).length := by
 by_cases h : x > 127
 ·rw [zfP h]; simp
 ·rw [zfm h]; simp
theorem zf4 (x : Int) : 0 < (zK x).length := by
 by_cases h : x > 63 ∨ x < -64
 ·rw [zdW h]; simp
 ·rw [zdp h]; simp
theorem zij : ∀ (n : Nat) (x : Nat), x < 128 ^ (n + 1) → (zS x).length ≤ n + 1
 | 0, x, h => by rw [zfm (by omega)]; simp
 | n + 1, x, h => by
  by_cases hx : x > 127
  ·rw [zfP hx, List.length_cons]
   have := zij n (x / 128) (by rw [Nat.pow_succ] at h; omega)
   omega
  ·rw [zfm hx]; simp
theorem zjV : ∀ (n : Nat) (x : Int), -(64 * 128 ^ n) ≤ x → x < 64 * 128 ^ n → (zK x).length ≤ n + 1
 | 0, x, h, h2 => by rw [zdp (by omega)]; simp
 | n + 1, x, h, h2 => by
  by_cases hx : x > 63 ∨ x < -64
  ·rw [zdW hx, List.length_cons]
   have := zjV n (x / 128) (by rw [Int.pow_succ] at h; omega) (by rw [Int.pow_succ] at h2; omega)
   omega
  ·rw [zdp hx]; simp
theorem zfX {x : Nat} (h : x < 18446744073709551616) : (zS x).length ≤ 10 := zij 9 x (by omega)
theorem zf8 {x : Int} (h : -9223372036854775808 ≤ x) (h2 : x ≤ 9223372036854775807) : (zK x).length ≤ 10 := zjV 9 x (by omega) (by omega)
def dig : Nat → List UInt8 → Option (Nat × Nat)
 | 0, _ => none
 | _ + 1, [] => none
 | n + 1, b :: r => if b.toNat < 128 then some (b.toNat, 1) else (dig n r).map fun p => (b.toNat % 128 + 128 * p.1, p.2 + 1)
def zbf (l : List UInt8) : Nat := match dig 10 l with
 | none => 0
 | some p => p.1 % 18446744073709551616
def zY (l : List UInt8) : Nat := match dig 10 l with
 | none => 0
 | some p => p.2
theorem zk3 (n : Nat) : dig n [] = none := by cases n <;> rfl
theorem zmX {n : Nat} {l : List UInt8} {i : Nat} (hi : i < l.length) : dig (n + 1) (l.drop i) = if l[i].toNat < 128 then some (l[i].toNat, 1) else (dig n (l.drop (i + 1))).map fun p => (l[i].toNat % 128 + 128 * p.1, p.2 + 1) := by
 rw [List.drop_eq_getElem_cons hi]; rfl
theorem zlg {a b k : Nat} (ha : a < 2 ^ k) (hb : 2 ^ k ∣ b) (h64 : a + b < 18446744073709551616) : IntKind.u64.wrap (((BitVec.ofInt IntKind.u64.bits (a : Int)) ||| BitVec.ofInt IntKind.u64.bits (b : Int)).toNat : Int) = ((a + b : Nat) : Int) := by
 show IntKind.u64.wrap ((BitVec.ofInt 64 (a : Int) ||| BitVec.ofInt 64 (b : Int)).toNat : Int) = _
 obtain ⟨q, rfl⟩ := hb
 have h1 : (BitVec.ofInt 64 (a : Int)).toNat = a := by rw [BitVec.toNat_ofInt]; omega
 have h2 : (BitVec.ofInt 64 ((2 ^ k * q : Nat) : Int)).toNat = 2 ^ k * q := by
  rw [BitVec.toNat_ofInt]; omega
 rw [BitVec.toNat_or, h1, h2, Nat.or_comm, ← Nat.two_pow_add_eq_or_of_lt ha, ziQ (by omega)]
 omega
theorem zmh {b i : Nat} (hi : i < 10) : shv .shl .u64 (IntKind.u64.wrap ((b : Int) % 128)) (IntKind.i64.wrap (7 * (i : Int))) = some (.int .u64 ((b % 128 * 2 ^ (7 * i) % 18446744073709551616 : Nat) : Int)) := by
 rw [zL (by omega), ziQ (by omega)]
 show (if (7 * (i : Int)) < 0 then none else some (Value.int .u64 (IntKind.u64.wrap (((b : Int) % 128) * 2 ^ min (7 * (i : Int)).toNat 64)))) = _
 rw [if_neg (by omega), show min (7 * (i : Int)).toNat 64 = 7 * i from by omega, zhQ]
 congr 2
theorem or7 {s b i : Nat} (hi : i < 10) (hs : s < 2 ^ (7 * i)) (h63 : s < 18446744073709551616) : IntKind.u64.wrap (((BitVec.ofInt IntKind.u64.bits (s : Int)) ||| BitVec.ofInt IntKind.u64.bits ((b % 128 * 2 ^ (7 * i) % 18446744073709551616 : Nat) : Int)).toNat : Int) = (((s + b % 128 * 2 ^ (7 * i)) % 18446744073709551616 : Nat) : Int) := by
 have e : (18446744073709551616 : Nat) = 2 ^ (7 * i) * 2 ^ (64 - 7 * i) := by rw [← Nat.pow_add]; rw [show 7 * i + (64 - 7 * i) = 64 from by omega]
 have hd : b % 128 * 2 ^ (7 * i) % 18446744073709551616 = 2 ^ (7 * i) * (b % 128 % 2 ^ (64 - 7 * i)) := by
  rw [e, Nat.mul_comm (b % 128), Nat.mul_mod_mul_left]
 have hlt : s + b % 128 * 2 ^ (7 * i) % 18446744073709551616 < 18446744073709551616 := by
  rw [hd]
  have : b % 128 % 2 ^ (64 - 7 * i) + 1 ≤ 2 ^ (64 - 7 * i) := Nat.mod_lt _ (Nat.two_pow_pos _)
  have := Nat.mul_le_mul_left (2 ^ (7 * i)) this
  rw [← e, Nat.mul_add] at this
  omega
 rw [zlg hs ⟨_, hd⟩ hlt]
 congr 1
 omega
def rdU (l : List UInt8) (at_ : Int) : Nat × Int × Int :=
 if at_ < 0 ∨ (l.length : Int) < at_ then (0, 0, 1) else
 let r := l.drop at_.toNat
 if zY r = 0 ∨ zS (zbf r) ≠ r.take (zY r) then (0, 0, 5) else (zbf r, at_ + zY r, 0)
def sgn (x n : Nat) : Int := if n < 10 then (if x < 2 ^ (7 * n - 1) then x else (x : Int) - 2 ^ (7 * n)) else IntKind.i64.wrap x
def rdS (l : List UInt8) (at_ : Int) : Int × Int × Int :=
 if at_ < 0 ∨ (l.length : Int) < at_ then (0, 0, 1) else
 let r := l.drop at_.toNat
 if zY r = 0 ∨ zK (sgn (zbf r) (zY r)) ≠ r.take (zY r) then (0, 0, 5) else (sgn (zbf r) (zY r), at_ + zY r, 0)
theorem zhH : ∀ (n : Nat) (l : List UInt8) (p : Nat × Nat), dig n l = some p → 1 ≤ p.2 ∧ p.2 ≤ n ∧ p.2 ≤ l.length ∧ p.1 < 128 ^ p.2
 | 0, _, p, h => by cases h
 | n + 1, [], p, h => by cases h
 | n + 1, b :: r, p, h => by
  rw [dig] at h
  split at h
  ·rename_i hb
   injection h with h
   subst h
   exact ⟨Nat.le_refl _, by omega, by simp, by simpa using hb⟩
  ·obtain ⟨q, hq, rfl⟩ := Option.map_eq_some_iff.1 h
   have := zhH n r q hq
   refine ⟨by omega, by omega, by simp; omega, ?_⟩
   show b.toNat % 128 + 128 * q.1 < 128 ^ (q.2 + 1)
   rw [Nat.pow_succ]; omega
theorem zf6 (l : List UInt8) : zY l ≤ 10 ∧ zY l ≤ l.length := by
 unfold zY
 split
 ·omega
 ·rename_i p hp
  have := zhH _ _ _ hp
  omega
theorem zfL (l : List UInt8) : zbf l < 18446744073709551616 := by
 unfold zbf
 split
 ·omega
 ·exact Nat.mod_lt _ (by omega)
theorem zjQ (l : List UInt8) : zbf l < 2 ^ (7 * zY l) := by
 unfold zbf zY
 split
 ·simp
 ·rename_i p hp
  have h := (zhH _ _ _ hp).2.2.2
  rw [show 128 = 2 ^ 7 from rfl, ← Nat.pow_mul] at h
  exact Nat.lt_of_le_of_lt (Nat.mod_le _ _) h
theorem zjC {x n : Nat} (h1 : 1 ≤ n) (hn : n ≤ 10) (hx : x < 2 ^ (7 * n)) (h64 : x < 18446744073709551616) : IntKind.i64.wrap (IntKind.u64.wrap ((x : Int) * 2 ^ (64 - 7 * n))) / 2 ^ (64 - 7 * n) = sgn x n := by
 rw [zhQ, zfF]
 have : n = 1 ∨ n = 2 ∨ n = 3 ∨ n = 4 ∨ n = 5 ∨ n = 6 ∨ n = 7 ∨ n = 8 ∨ n = 9 ∨ n = 10 := by omega
 unfold sgn
 rcases this with rfl | rfl | rfl | rfl | rfl | rfl | rfl | rfl | rfl | rfl
 all_goals simp only [Nat.reduceMul, Nat.reduceSub, Nat.reducePow, Int.reducePow, Nat.reduceLT, ↓reduceIte, zfF] at hx ⊢
 all_goals first | omega | (split <;> omega)
theorem zjs {x n : Nat} (h1 : 1 ≤ n) (hn : n ≤ 10) (hx : x < 2 ^ (7 * n)) (h64 : x < 18446744073709551616) : -9223372036854775808 ≤ sgn x n ∧ sgn x n ≤ 9223372036854775807 := by
 have : n = 1 ∨ n = 2 ∨ n = 3 ∨ n = 4 ∨ n = 5 ∨ n = 6 ∨ n = 7 ∨ n = 8 ∨ n = 9 ∨ n = 10 := by omega
 unfold sgn
 rcases this with rfl | rfl | rfl | rfl | rfl | rfl | rfl | rfl | rfl | rfl
 all_goals simp only [Nat.reduceMul, Nat.reduceSub, Nat.reducePow, Int.reducePow, Nat.reduceLT, ↓reduceIte, zfF] at hx ⊢
 all_goals first | omega | (split <;> omega)
theorem ziR : ∀ (n : Nat) (x : Int), (zK x).length ≤ n + 1 ↔ -(64 * 128 ^ n) ≤ x ∧ x < 64 * 128 ^ n
 | 0, x => by
  by_cases hx : x > 63 ∨ x < -64
  ·rw [zdW hx, List.length_cons]; have := zf4 (x / 128); constructor <;> intro h <;> omega
  ·rw [zdp hx]; simp; omega
 | n + 1, x => by
  have hp : (0 : Int) < 128 ^ n := Int.pow_pos (by omega)
  rw [Int.pow_succ]
  by_cases hx : x > 63 ∨ x < -64
  ·rw [zdW hx, List.length_cons]
   have := ziR n (x / 128)
   generalize (128 : Int) ^ n = p at *
   omega
  ·rw [zdp hx]
   generalize (128 : Int) ^ n = p at *
   simp; omega
theorem zkS (l : List UInt8) (at_ : Int) : (∃ e, rdU l at_ = (0, 0, e) ∧ (e = 1 ∨ e = 5)) ∨ ∃ i n x : Nat, at_ = i ∧ 1 ≤ n ∧ n ≤ 10 ∧ i + n ≤ l.length ∧ x < 18446744073709551616 ∧ zS x = (l.drop i).take n ∧ rdU l at_ = (x, ((i + n : Nat) : Int), 0) := by
 rw [rdU]
 split
 ·exact .inl ⟨1, rfl, .inl rfl⟩
 ·rename_i h
  dsimp only
  split
  ·exact .inl ⟨5, rfl, .inr rfl⟩
  ·rename_i h2
   rw [not_or] at h2
   have hn := zf6 (l.drop at_.toNat)
   rw [List.length_drop] at hn
   exact .inr ⟨at_.toNat, zY (l.drop at_.toNat), zbf (l.drop at_.toNat), by omega, by omega, hn.1, by omega, zfL _, Classical.not_not.1 h2.2, by congr 2; omega⟩
theorem znj (l : List UInt8) (at_ : Int) : (∃ e, rdS l at_ = (0, 0, e) ∧ (e = 1 ∨ e = 5)) ∨ ∃ i n : Nat, ∃ x : Int, at_ = i ∧ 1 ≤ n ∧ n ≤ 10 ∧ i + n ≤ l.length ∧ (-9223372036854775808 ≤ x ∧ x ≤ 9223372036854775807) ∧ zK x = (l.drop i).take n ∧ rdS l at_ = (x, ((i + n : Nat) : Int), 0) := by
 rw [rdS]
 split
 ·exact .inl ⟨1, rfl, .inl rfl⟩
 ·rename_i h
  dsimp only
  split
  ·exact .inl ⟨5, rfl, .inr rfl⟩
  ·rename_i h2
   rw [not_or] at h2
   have hn := zf6 (l.drop at_.toNat)
   rw [List.length_drop] at hn
   exact .inr ⟨at_.toNat, zY (l.drop at_.toNat), sgn (zbf (l.drop at_.toNat)) (zY (l.drop at_.toNat)), by omega, by omega, hn.1, by omega, zjs (by omega) hn.1 (zjQ _) (zfL _), Classical.not_not.1 h2.2, by congr 2; omega⟩
theorem zgL {n : Nat} (h : n < 256) : (UInt8.ofNat n).toNat = n := UInt8.toNat_ofNat_of_lt' h
theorem zjU : ∀ (n : Nat) (x : Nat) (r : List UInt8), (zS x).length ≤ n → dig n (zS x ++ r) = some (x, (zS x).length)
 | 0, x, r, h => absurd h (by have := zhL x; omega)
 | n + 1, x, r, h => by
  by_cases hx : x > 127
  ·rw [zfP hx] at h ⊢
   rw [List.cons_append, dig, zgL (by omega), if_neg (by omega), zjU n (x / 128) r (by simpa using h)]
   simp; omega
  ·rw [zfm hx]
   simp only [List.cons_append, dig, zgL (show x < 256 by omega)]
   rw [if_pos (by omega)]; rfl
theorem zm6 (y : Int) {b : Int} (hb : 0 < b) : y % (128 * b) = y % 128 + 128 * ((y / 128) % b) := by
 have h1 := Int.emod_add_mul_ediv y 128
 have h2 := Int.emod_add_mul_ediv (y / 128) b
 have h3 := Int.emod_nonneg (y / 128) (show b ≠ 0 by omega)
 have h4 := Int.emod_lt_of_pos (y / 128) hb
 have e : y = (y % 128 + 128 * ((y / 128) % b)) + 128 * b * (y / 128 / b) := by
  rw [Int.mul_assoc]
  generalize b * (y / 128 / b) = z at *
  omega
 conv => lhs; rw [e]
 rw [Int.add_mul_emod_self_left, Int.emod_eq_of_lt (by omega) (by omega)]
theorem zip : ∀ (n : Nat) (y : Int) (r : List UInt8), (zK y).length ≤ n → dig n (zK y ++ r) = some ((y % 128 ^ (zK y).length).toNat, (zK y).length)
 | 0, y, r, h => absurd h (by have := zf4 y; omega)
 | n + 1, y, r, h => by
  by_cases hx : y > 63 ∨ y < -64
  ·rw [zdW hx] at h ⊢
   rw [List.cons_append, dig, zgL (by omega), if_neg (by omega), zip n (y / 128) r (by simpa using h)]
   have hp : (0 : Int) < 128 ^ (zK (y / 128)).length := Int.pow_pos (by omega)
   have h3 := Int.emod_nonneg (y / 128) (show (128 : Int) ^ (zK (y / 128)).length ≠ 0 by omega)
   simp only [Option.map_some, List.length_cons, Int.pow_succ]
   rw [Int.mul_comm _ (128 : Int), zm6 y hp]
   congr 2
   omega
  ·rw [zdp hx]
   simp only [List.cons_append, dig, zgL (show (y % 128).toNat < 256 by omega)]
   rw [if_pos (by omega)]; rfl
theorem zl1 {y : Int} {m : Nat} (h1 : 1 ≤ m) (hm : m ≤ 10) (hy : -(64 * 128 ^ (m - 1)) ≤ y ∧ y < 64 * 128 ^ (m - 1)) (hb : -9223372036854775808 ≤ y ∧ y ≤ 9223372036854775807) : sgn ((y % 128 ^ m).toNat % 18446744073709551616) m = y := by
 have : m = 1 ∨ m = 2 ∨ m = 3 ∨ m = 4 ∨ m = 5 ∨ m = 6 ∨ m = 7 ∨ m = 8 ∨ m = 9 ∨ m = 10 := by omega
 unfold sgn
 rcases this with rfl | rfl | rfl | rfl | rfl | rfl | rfl | rfl | rfl | rfl
 all_goals simp only [Nat.reduceMul, Nat.reduceSub, Nat.reducePow, Int.reducePow, Nat.reduceLT, ↓reduceIte, zfF] at hy ⊢
 all_goals first | omega | (split <;> omega)
theorem zky {x : Nat} (hx : x < 18446744073709551616) (p r : List UInt8) : rdU (p ++ zS x ++ r) p.length = (x, (((p ++ zS x).length : Nat) : Int), 0) := by
 have hd := zjU 10 x r (zfX hx)
 have e : (p ++ zS x ++ r).drop p.length = zS x ++ r := by rw [List.append_assoc, List.drop_left]
 have hX : zbf (zS x ++ r) = x := by rw [zbf, hd]; exact Nat.mod_eq_of_lt hx
 have hN : zY (zS x ++ r) = (zS x).length := by rw [zY, hd]
 have := zhL x
 rw [rdU, if_neg (by simp only [List.length_append]; omega)]
 dsimp only
 rw [Int.toNat_natCast, e, hN, hX, List.take_left, if_neg (by rintro (h | h) <;> first | omega | exact h rfl)]
 simp
theorem zjE {y : Int} (hy : -9223372036854775808 ≤ y ∧ y ≤ 9223372036854775807) (p r : List UInt8) : rdS (p ++ zK y ++ r) p.length = (y, (((p ++ zK y).length : Nat) : Int), 0) := by
 have h10 := zf8 hy.1 hy.2
 have h1 := zf4 y
 have hd := zip 10 y r h10
 have e : (p ++ zK y ++ r).drop p.length = zK y ++ r := by rw [List.append_assoc, List.drop_left]
 have hs : sgn ((y % 128 ^ (zK y).length).toNat % 18446744073709551616) (zK y).length = y := by
  have := ziR ((zK y).length - 1) y
  exact zl1 h1 h10 (this.1 (by omega)) hy
 have hX : sgn (zbf (zK y ++ r)) (zK y).length = y := by rw [zbf, hd]; exact hs
 have hN : zY (zK y ++ r) = (zK y).length := by rw [zY, hd]
 rw [rdS, if_neg (by simp only [List.length_append]; omega)]
 dsimp only
 rw [Int.toNat_natCast, e, hN, hX, List.take_left, if_neg (by rintro (h | h) <;> first | omega | exact h rfl)]
 simp
end Go.Proofs.Ytgkllgoelpfdkaa
