import Derived.Test.YtmcfgapknoiohaaAb
namespace Go.Proofs.Ytmcfgapknoiohaa
open Go.Ab Go.RowKit
set_option linter.unusedVariables false
set_option linter.unusedSimpArgs false
/-! ### Numbers in as few bytes as may be: the plain side -/
def encU (x : Nat) : List UInt8 := if x > 127 then UInt8.ofNat (x % 128 + 128) :: encU (x / 128) else [UInt8.ofNat x]
termination_by x
decreasing_by omega
def encS (x : Int) : List UInt8 := if x > 63 ∨ x < -64 then UInt8.ofNat ((x % 128).toNat + 128) :: encS (x / 128) else [UInt8.ofNat (x % 128).toNat]
termination_by x.natAbs
decreasing_by omega
theorem encU_big {x : Nat} (h : x > 127) : encU x = UInt8.ofNat (x % 128 + 128) :: encU (x / 128) := by rw [encU, if_pos h]
theorem encU_small {x : Nat} (h : ¬ x > 127) : encU x = [UInt8.ofNat x] := by rw [encU, if_neg h]
theorem encS_big {x : Int} (h : x > 63 ∨ x < -64) : encS x = UInt8.ofNat ((x % 128).toNat + 128) :: encS (x / 128) := by rw [encS, if_pos h]
theorem encS_small {x : Int} (h : ¬ (x > 63 ∨ x < -64)) : encS x = [UInt8.ofNat (x % 128).toNat] := by rw [encS, if_neg h]
theorem encU_pos (x : Nat) : 0 < (encU x).length := by
  by_cases h : x > 127
  · rw [encU_big h]; simp
  · rw [encU_small h]; simp
theorem encS_pos (x : Int) : 0 < (encS x).length := by
  by_cases h : x > 63 ∨ x < -64
  · rw [encS_big h]; simp
  · rw [encS_small h]; simp
theorem encU_len : ∀ (n : Nat) (x : Nat), x < 128 ^ (n + 1) → (encU x).length ≤ n + 1
  | 0, x, h => by rw [encU_small (by omega)]; simp
  | n + 1, x, h => by
    by_cases hx : x > 127
    · rw [encU_big hx, List.length_cons]
      have := encU_len n (x / 128) (by rw [Nat.pow_succ] at h; omega)
      omega
    · rw [encU_small hx]; simp
theorem encS_len : ∀ (n : Nat) (x : Int), -(64 * 128 ^ n) ≤ x → x < 64 * 128 ^ n → (encS x).length ≤ n + 1
  | 0, x, h, h2 => by rw [encS_small (by omega)]; simp
  | n + 1, x, h, h2 => by
    by_cases hx : x > 63 ∨ x < -64
    · rw [encS_big hx, List.length_cons]
      have := encS_len n (x / 128) (by rw [Int.pow_succ] at h; omega) (by rw [Int.pow_succ] at h2; omega)
      omega
    · rw [encS_small hx]; simp
theorem encU_le10 {x : Nat} (h : x < 18446744073709551616) : (encU x).length ≤ 10 := encU_len 9 x (by omega)
theorem encS_le10 {x : Int} (h : -9223372036854775808 ≤ x) (h2 : x ≤ 9223372036854775807) : (encS x).length ≤ 10 := encS_len 9 x (by omega) (by omega)

/-! digits from the lowest one on, up to the first byte below 128 -/
def dig : Nat → List UInt8 → Option (Nat × Nat)
  | 0, _ => none
  | _ + 1, [] => none
  | n + 1, b :: r => if b.toNat < 128 then some (b.toNat, 1) else (dig n r).map fun p => (b.toNat % 128 + 128 * p.1, p.2 + 1)
def digX (l : List UInt8) : Nat := match dig 10 l with
  | none => 0
  | some p => p.1 % 18446744073709551616
def digN (l : List UInt8) : Nat := match dig 10 l with
  | none => 0
  | some p => p.2
theorem dig_nil (n : Nat) : dig n [] = none := by cases n <;> rfl
theorem dig_at {n : Nat} {l : List UInt8} {i : Nat} (hi : i < l.length) : dig (n + 1) (l.drop i) = if l[i].toNat < 128 then some (l[i].toNat, 1) else (dig n (l.drop (i + 1))).map fun p => (l[i].toNat % 128 + 128 * p.1, p.2 + 1) := by
  rw [List.drop_eq_getElem_cons hi]; rfl
theorem or_add {a b k : Nat} (ha : a < 2 ^ k) (hb : 2 ^ k ∣ b) (h64 : a + b < 18446744073709551616) : IntKind.u64.wrap (((BitVec.ofInt IntKind.u64.bits (a : Int)) ||| BitVec.ofInt IntKind.u64.bits (b : Int)).toNat : Int) = ((a + b : Nat) : Int) := by
  show IntKind.u64.wrap ((BitVec.ofInt 64 (a : Int) ||| BitVec.ofInt 64 (b : Int)).toNat : Int) = _
  obtain ⟨q, rfl⟩ := hb
  have h1 : (BitVec.ofInt 64 (a : Int)).toNat = a := by rw [BitVec.toNat_ofInt]; omega
  have h2 : (BitVec.ofInt 64 ((2 ^ k * q : Nat) : Int)).toNat = 2 ^ k * q := by
    rw [BitVec.toNat_ofInt]; omega
  rw [BitVec.toNat_or, h1, h2, Nat.or_comm, ← Nat.two_pow_add_eq_or_of_lt ha, wu64 (by omega)]
  omega
theorem shl7 {b i : Nat} (hi : i < 10) : shv .shl .u64 (IntKind.u64.wrap ((b : Int) % 128)) (IntKind.i64.wrap (7 * (i : Int))) = some (.int .u64 ((b % 128 * 2 ^ (7 * i) % 18446744073709551616 : Nat) : Int)) := by
  rw [wi64 (by omega), wu64 (by omega)]
  show (if (7 * (i : Int)) < 0 then none else some (Value.int .u64 (IntKind.u64.wrap (((b : Int) % 128) * 2 ^ min (7 * (i : Int)).toNat 64)))) = _
  rw [if_neg (by omega), show min (7 * (i : Int)).toNat 64 = 7 * i from by omega, wu64_mod]
  congr 2
theorem or7 {s b i : Nat} (hi : i < 10) (hs : s < 2 ^ (7 * i)) (h63 : s < 18446744073709551616) : IntKind.u64.wrap (((BitVec.ofInt IntKind.u64.bits (s : Int)) ||| BitVec.ofInt IntKind.u64.bits ((b % 128 * 2 ^ (7 * i) % 18446744073709551616 : Nat) : Int)).toNat : Int) = (((s + b % 128 * 2 ^ (7 * i)) % 18446744073709551616 : Nat) : Int) := by
  have e : (18446744073709551616 : Nat) = 2 ^ (7 * i) * 2 ^ (64 - 7 * i) := by rw [← Nat.pow_add]; rw [show 7 * i + (64 - 7 * i) = 64 from by omega]
  have hd : b % 128 * 2 ^ (7 * i) % 18446744073709551616 = 2 ^ (7 * i) * (b % 128 % 2 ^ (64 - 7 * i)) := by
    rw [e, Nat.mul_comm (b % 128), Nat.mul_mod_mul_left]
  have hlt : s + b % 128 * 2 ^ (7 * i) % 18446744073709551616 < 18446744073709551616 := by
    rw [hd]
    have : b % 128 % 2 ^ (64 - 7 * i) + 1 ≤ 2 ^ (64 - 7 * i) := Nat.mod_lt _ (Nat.two_pow_pos _)
    have := Nat.mul_le_mul_left (2 ^ (7 * i)) this
    rw [← e, Nat.mul_add] at this
    omega
  rw [or_add hs ⟨_, hd⟩ hlt]
  congr 1
  omega

/-! what is read -/
def rdU (l : List UInt8) (at_ : Int) : Nat × Int × Int :=
  if at_ < 0 ∨ (l.length : Int) < at_ then (0, 0, 1) else
  let r := l.drop at_.toNat
  if digN r = 0 ∨ encU (digX r) ≠ r.take (digN r) then (0, 0, 5) else (digX r, at_ + digN r, 0)
/-- what so many digits are, with their sign -/
def sgn (x n : Nat) : Int := if n < 10 then (if x < 2 ^ (7 * n - 1) then x else (x : Int) - 2 ^ (7 * n)) else IntKind.i64.wrap x
def rdS (l : List UInt8) (at_ : Int) : Int × Int × Int :=
  if at_ < 0 ∨ (l.length : Int) < at_ then (0, 0, 1) else
  let r := l.drop at_.toNat
  if digN r = 0 ∨ encS (sgn (digX r) (digN r)) ≠ r.take (digN r) then (0, 0, 5) else (sgn (digX r) (digN r), at_ + digN r, 0)
theorem dig_le : ∀ (n : Nat) (l : List UInt8) (p : Nat × Nat), dig n l = some p → 1 ≤ p.2 ∧ p.2 ≤ n ∧ p.2 ≤ l.length ∧ p.1 < 128 ^ p.2
  | 0, _, p, h => by cases h
  | n + 1, [], p, h => by cases h
  | n + 1, b :: r, p, h => by
    rw [dig] at h
    split at h
    · rename_i hb
      injection h with h
      subst h
      exact ⟨Nat.le_refl _, by omega, by simp, by simpa using hb⟩
    · obtain ⟨q, hq, rfl⟩ := Option.map_eq_some_iff.1 h
      have := dig_le n r q hq
      refine ⟨by omega, by omega, by simp; omega, ?_⟩
      show b.toNat % 128 + 128 * q.1 < 128 ^ (q.2 + 1)
      rw [Nat.pow_succ]; omega
theorem digN_le (l : List UInt8) : digN l ≤ 10 ∧ digN l ≤ l.length := by
  unfold digN
  split
  · omega
  · rename_i p hp
    have := dig_le _ _ _ hp
    omega
theorem digX_lt (l : List UInt8) : digX l < 18446744073709551616 := by
  unfold digX
  split
  · omega
  · exact Nat.mod_lt _ (by omega)
theorem digX_zero {l : List UInt8} (h : digN l = 0) : digX l = 0 := by
  unfold digN at h
  unfold digX
  split
  · rfl
  · rename_i p hp
    have := dig_le _ _ _ hp
    rw [hp] at h
    exact absurd h (by show ¬ p.2 = 0; omega)
theorem digX_pow (l : List UInt8) : digX l < 2 ^ (7 * digN l) := by
  unfold digX digN
  split
  · simp
  · rename_i p hp
    have h := (dig_le _ _ _ hp).2.2.2
    rw [show 128 = 2 ^ 7 from rfl, ← Nat.pow_mul] at h
    exact Nat.lt_of_le_of_lt (Nat.mod_le _ _) h

theorem sgn_eq {x n : Nat} (h1 : 1 ≤ n) (hn : n ≤ 10) (hx : x < 2 ^ (7 * n)) (h64 : x < 18446744073709551616) : IntKind.i64.wrap (IntKind.u64.wrap ((x : Int) * 2 ^ (64 - 7 * n))) / 2 ^ (64 - 7 * n) = sgn x n := by
  rw [wu64_mod, wi64_mod]
  have : n = 1 ∨ n = 2 ∨ n = 3 ∨ n = 4 ∨ n = 5 ∨ n = 6 ∨ n = 7 ∨ n = 8 ∨ n = 9 ∨ n = 10 := by omega
  unfold sgn
  rcases this with rfl | rfl | rfl | rfl | rfl | rfl | rfl | rfl | rfl | rfl
  all_goals simp only [Nat.reduceMul, Nat.reduceSub, Nat.reducePow, Int.reducePow, Nat.reduceLT, ↓reduceIte, wi64_mod] at hx ⊢
  all_goals first | omega | (split <;> omega)
theorem sgn_bnd {x n : Nat} (h1 : 1 ≤ n) (hn : n ≤ 10) (hx : x < 2 ^ (7 * n)) (h64 : x < 18446744073709551616) : -9223372036854775808 ≤ sgn x n ∧ sgn x n ≤ 9223372036854775807 := by
  have : n = 1 ∨ n = 2 ∨ n = 3 ∨ n = 4 ∨ n = 5 ∨ n = 6 ∨ n = 7 ∨ n = 8 ∨ n = 9 ∨ n = 10 := by omega
  unfold sgn
  rcases this with rfl | rfl | rfl | rfl | rfl | rfl | rfl | rfl | rfl | rfl
  all_goals simp only [Nat.reduceMul, Nat.reduceSub, Nat.reducePow, Int.reducePow, Nat.reduceLT, ↓reduceIte, wi64_mod] at hx ⊢
  all_goals first | omega | (split <;> omega)

theorem lenU_iff : ∀ (n : Nat) (x : Nat), (encU x).length ≤ n + 1 ↔ x < 128 ^ (n + 1)
  | 0, x => by
    by_cases hx : x > 127
    · rw [encU_big hx, List.length_cons]; have := encU_pos (x / 128); constructor <;> intro h <;> omega
    · rw [encU_small hx]; simp; omega
  | n + 1, x => by
    by_cases hx : x > 127
    · rw [encU_big hx, List.length_cons]
      have := lenU_iff n (x / 128)
      rw [Nat.pow_succ 128 (n + 1)]
      omega
    · rw [encU_small hx]
      have : 0 < 128 ^ (n + 1) := Nat.pow_pos (by omega)
      rw [Nat.pow_succ]
      simp; omega
theorem lenS_iff : ∀ (n : Nat) (x : Int), (encS x).length ≤ n + 1 ↔ -(64 * 128 ^ n) ≤ x ∧ x < 64 * 128 ^ n
  | 0, x => by
    by_cases hx : x > 63 ∨ x < -64
    · rw [encS_big hx, List.length_cons]; have := encS_pos (x / 128); constructor <;> intro h <;> omega
    · rw [encS_small hx]; simp; omega
  | n + 1, x => by
    have hp : (0 : Int) < 128 ^ n := Int.pow_pos (by omega)
    rw [Int.pow_succ]
    by_cases hx : x > 63 ∨ x < -64
    · rw [encS_big hx, List.length_cons]
      have := lenS_iff n (x / 128)
      generalize (128 : Int) ^ n = p at *
      omega
    · rw [encS_small hx]
      generalize (128 : Int) ^ n = p at *
      simp; omega
theorem lenU_mono {x y : Nat} (h : x ≤ y) : (encU x).length ≤ (encU y).length := by
  obtain ⟨n, hn⟩ : ∃ n, (encU y).length = n + 1 := ⟨(encU y).length - 1, by have := encU_pos y; omega⟩
  rw [hn, lenU_iff]
  have := (lenU_iff n y).1 (by omega)
  omega
theorem lenU_lt (x : Nat) : x < 128 ^ (encU x).length := by
  obtain ⟨n, hn⟩ : ∃ n, (encU x).length = n + 1 := ⟨(encU x).length - 1, by have := encU_pos x; omega⟩
  rw [hn]; exact (lenU_iff n x).1 (by omega)
theorem lenU_ge {x : Nat} (h : 1 < (encU x).length) : 128 ^ ((encU x).length - 1) ≤ x := by
  obtain ⟨n, hn⟩ : ∃ n, (encU x).length = n + 2 := ⟨(encU x).length - 2, by omega⟩
  have := (lenU_iff n x).2
  rw [hn, show n + 2 - 1 = n + 1 from by omega]
  omega
theorem lenS_neg (z : Int) : (encS z).length = (encS (-z - 1)).length := by
  have h : ∀ n, (encS z).length ≤ n + 1 ↔ (encS (-z - 1)).length ≤ n + 1 := fun n => by
    rw [lenS_iff, lenS_iff]; omega
  have h1 := h ((encS z).length - 1)
  have h2 := h ((encS (-z - 1)).length - 1)
  have := encS_pos z
  have := encS_pos (-z - 1)
  omega
theorem lenS_U (z : Nat) : (encU z).length ≤ (encS z).length ∧ (encS z).length ≤ (encU z).length + 1 := by
  constructor
  · obtain ⟨n, hn⟩ : ∃ n, (encS z).length = n + 1 := ⟨(encS z).length - 1, by have := encS_pos z; omega⟩
    rw [hn, lenU_iff, Nat.pow_succ]
    have h := ((lenS_iff n z).1 (by omega)).2
    have e : ((128 ^ n : Nat) : Int) = 128 ^ n := by simp
    rw [← e] at h
    generalize 128 ^ n = p at *
    omega
  · have h := lenU_lt z
    rw [lenS_iff]
    have e : ((128 ^ (encU z).length : Nat) : Int) = 128 ^ (encU z).length := by simp
    rw [← e]
    generalize 128 ^ (encU z).length = p at *
    omega
theorem pow7 (n : Nat) : 2 ^ (7 * n) = 128 ^ n := by rw [Nat.pow_mul]

theorem shr1u (y : Nat) : shv .shr .u64 (y : Int) 1 = some (.int .u64 ((y / 2 : Nat) : Int)) := by
  show (if (1 : Int) < 0 then none else some (Value.int .u64 (Int.fdiv (y : Int) (2 ^ min (1 : Int).toNat IntKind.u64.bits)))) = _
  rw [if_neg (by omega), show (2 : Int) ^ min (1 : Int).toNat IntKind.u64.bits = 2 from by decide, Int.fdiv_eq_ediv_of_nonneg _ (by omega)]
  rfl
theorem shr7n {x n : Nat} (h : n ≤ 9) : shv .shr .u64 (x : Int) ((7 * n : Nat) : Int) = some (.int .u64 ((x / 128 ^ n : Nat) : Int)) := by
  rw [shr_nat (k := .u64) (x : Int) (7 * n) (show _ ≤ 64 by omega), ← pow7]
  norm_cast

theorem rdU_cases (l : List UInt8) (at_ : Int) : (∃ e, rdU l at_ = (0, 0, e) ∧ (e = 1 ∨ e = 5)) ∨ ∃ i n x : Nat, at_ = i ∧ 1 ≤ n ∧ n ≤ 10 ∧ i + n ≤ l.length ∧ x < 18446744073709551616 ∧ encU x = (l.drop i).take n ∧ rdU l at_ = (x, ((i + n : Nat) : Int), 0) := by
  rw [rdU]
  split
  · exact .inl ⟨1, rfl, .inl rfl⟩
  · rename_i h
    dsimp only
    split
    · exact .inl ⟨5, rfl, .inr rfl⟩
    · rename_i h2
      rw [not_or] at h2
      have hn := digN_le (l.drop at_.toNat)
      rw [List.length_drop] at hn
      exact .inr ⟨at_.toNat, digN (l.drop at_.toNat), digX (l.drop at_.toNat), by omega, by omega, hn.1, by omega, digX_lt _, Classical.not_not.1 h2.2, by congr 2; omega⟩
theorem rdS_cases (l : List UInt8) (at_ : Int) : (∃ e, rdS l at_ = (0, 0, e) ∧ (e = 1 ∨ e = 5)) ∨ ∃ i n : Nat, ∃ x : Int, at_ = i ∧ 1 ≤ n ∧ n ≤ 10 ∧ i + n ≤ l.length ∧ (-9223372036854775808 ≤ x ∧ x ≤ 9223372036854775807) ∧ encS x = (l.drop i).take n ∧ rdS l at_ = (x, ((i + n : Nat) : Int), 0) := by
  rw [rdS]
  split
  · exact .inl ⟨1, rfl, .inl rfl⟩
  · rename_i h
    dsimp only
    split
    · exact .inl ⟨5, rfl, .inr rfl⟩
    · rename_i h2
      rw [not_or] at h2
      have hn := digN_le (l.drop at_.toNat)
      rw [List.length_drop] at hn
      exact .inr ⟨at_.toNat, digN (l.drop at_.toNat), sgn (digX (l.drop at_.toNat)) (digN (l.drop at_.toNat)), by omega, by omega, hn.1, by omega, sgn_bnd (by omega) hn.1 (digX_pow _) (digX_lt _), Classical.not_not.1 h2.2, by congr 2; omega⟩

end Go.Proofs.Ytmcfgapknoiohaa
