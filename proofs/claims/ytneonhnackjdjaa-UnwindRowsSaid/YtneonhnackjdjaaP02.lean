import Derived.Test.YtneonhnackjdjaaAd
namespace Go.Proofs.Ytneonhnackjdjaa
open Go.Ab Go.RowKit
set_option linter.unusedVariables false
set_option linter.unusedSimpArgs false
def encU (x : Nat) : List UInt8 := if x > 127 then UInt8.ofNat (x % 128 + 128) :: encU (x / 128) else [UInt8.ofNat x]
termination_by x
decreasing_by omega
theorem encU_big {x : Nat} (h : x > 127) : encU x = UInt8.ofNat (x % 128 + 128) :: encU (x / 128) := by rw [encU, if_pos h]
theorem encU_small {x : Nat} (h : ¬ x > 127) : encU x = [UInt8.ofNat x] := by rw [encU, if_neg h]
theorem encU_pos (x : Nat) : 0 < (encU x).length := by
  by_cases h : x > 127
  · rw [encU_big h]; simp
  · rw [encU_small h]; simp
theorem encU_len : ∀ (n : Nat) (x : Nat), x < 128 ^ (n + 1) → (encU x).length ≤ n + 1
  | 0, x, h => by rw [encU_small (by omega)]; simp
  | n + 1, x, h => by
    by_cases hx : x > 127
    · rw [encU_big hx, List.length_cons]
      have := encU_len n (x / 128) (by rw [Nat.pow_succ] at h; omega)
      omega
    · rw [encU_small hx]; simp
theorem encU_le10 {x : Nat} (h : x < 18446744073709551616) : (encU x).length ≤ 10 := encU_len 9 x (by omega)
def dig : Nat → List UInt8 → Option (Nat × Nat)
  | 0, _ => none
  | _ + 1, [] => none
  | n + 1, b :: r => if b.toNat < 128 then some (b.toNat, 1) else (dig n r).map fun p => (b.toNat % 128 + 128 * p.1, p.2 + 1)
def digX (l : List UInt8) : Nat := match dig 10 l with
  | none => 0
  | some p => p.1 % 18446744073709551616
def digN (l : List UInt8) : Nat := match dig 10 l with
  | none => 0
  | some p => p.2
theorem dig_nil (n : Nat) : dig n [] = none := by cases n <;> rfl
theorem dig_at {n : Nat} {l : List UInt8} {i : Nat} (hi : i < l.length) : dig (n + 1) (l.drop i) = if l[i].toNat < 128 then some (l[i].toNat, 1) else (dig n (l.drop (i + 1))).map fun p => (l[i].toNat % 128 + 128 * p.1, p.2 + 1) := by
  rw [List.drop_eq_getElem_cons hi]; rfl
theorem or_add {a b k : Nat} (ha : a < 2 ^ k) (hb : 2 ^ k ∣ b) (h64 : a + b < 18446744073709551616) : IntKind.u64.wrap (((BitVec.ofInt IntKind.u64.bits (a : Int)) ||| BitVec.ofInt IntKind.u64.bits (b : Int)).toNat : Int) = ((a + b : Nat) : Int) := by
  show IntKind.u64.wrap ((BitVec.ofInt 64 (a : Int) ||| BitVec.ofInt 64 (b : Int)).toNat : Int) = _
  obtain ⟨q, rfl⟩ := hb
  have h1 : (BitVec.ofInt 64 (a : Int)).toNat = a := by rw [BitVec.toNat_ofInt]; omega
  have h2 : (BitVec.ofInt 64 ((2 ^ k * q : Nat) : Int)).toNat = 2 ^ k * q := by
    rw [BitVec.toNat_ofInt]; omega
  rw [BitVec.toNat_or, h1, h2, Nat.or_comm, ← Nat.two_pow_add_eq_or_of_lt ha, wu64 (by omega)]
  omega
theorem shl7 {b i : Nat} (hi : i < 10) : shv .shl .u64 (IntKind.u64.wrap ((b : Int) % 128)) (IntKind.i64.wrap (7 * (i : Int))) = some (.int .u64 ((b % 128 * 2 ^ (7 * i) % 18446744073709551616 : Nat) : Int)) := by
  rw [wi64 (by omega), wu64 (by omega)]
  show (if (7 * (i : Int)) < 0 then none else some (Value.int .u64 (IntKind.u64.wrap (((b : Int) % 128) * 2 ^ min (7 * (i : Int)).toNat 64)))) = _
  rw [if_neg (by omega), show min (7 * (i : Int)).toNat 64 = 7 * i from by omega, wu64_mod]
  congr 2
theorem or7 {s b i : Nat} (hi : i < 10) (hs : s < 2 ^ (7 * i)) (h63 : s < 18446744073709551616) : IntKind.u64.wrap (((BitVec.ofInt IntKind.u64.bits (s : Int)) ||| BitVec.ofInt IntKind.u64.bits ((b % 128 * 2 ^ (7 * i) % 18446744073709551616 : Nat) : Int)).toNat : Int) = (((s + b % 128 * 2 ^ (7 * i)) % 18446744073709551616 : Nat) : Int) := by
  have e : (18446744073709551616 : Nat) = 2 ^ (7 * i) * 2 ^ (64 - 7 * i) := by rw [← Nat.pow_add]; rw [show 7 * i + (64 - 7 * i) = 64 from by omega]
  have hd : b % 128 * 2 ^ (7 * i) % 18446744073709551616 = 2 ^ (7 * i) * (b % 128 % 2 ^ (64 - 7 * i)) := by
    rw [e, Nat.mul_comm (b % 128), Nat.mul_mod_mul_left]
  have hlt : s + b % 128 * 2 ^ (7 * i) % 18446744073709551616 < 18446744073709551616 := by
    rw [hd]
    have : b % 128 % 2 ^ (64 - 7 * i) + 1 ≤ 2 ^ (64 - 7 * i) := Nat.mod_lt _ (Nat.two_pow_pos _)
    have := Nat.mul_le_mul_left (2 ^ (7 * i)) this
    rw [← e, Nat.mul_add] at this
    omega
  rw [or_add hs ⟨_, hd⟩ hlt]
  congr 1
  omega
def rdU (l : List UInt8) (at_ : Int) : Nat × Int × Int :=
  if at_ < 0 ∨ (l.length : Int) < at_ then (0, 0, 1) else
  let r := l.drop at_.toNat
  if digN r = 0 ∨ encU (digX r) ≠ r.take (digN r) then (0, 0, 5) else (digX r, at_ + digN r, 0)
theorem dig_le : ∀ (n : Nat) (l : List UInt8) (p : Nat × Nat), dig n l = some p → 1 ≤ p.2 ∧ p.2 ≤ n ∧ p.2 ≤ l.length ∧ p.1 < 128 ^ p.2
  | 0, _, p, h => by cases h
  | n + 1, [], p, h => by cases h
  | n + 1, b :: r, p, h => by
    rw [dig] at h
    split at h
    · rename_i hb
      injection h with h
      subst h
      exact ⟨Nat.le_refl _, by omega, by simp, by simpa using hb⟩
    · obtain ⟨q, hq, rfl⟩ := Option.map_eq_some_iff.1 h
      have := dig_le n r q hq
      refine ⟨by omega, by omega, by simp; omega, ?_⟩
      show b.toNat % 128 + 128 * q.1 < 128 ^ (q.2 + 1)
      rw [Nat.pow_succ]; omega
theorem digN_le (l : List UInt8) : digN l ≤ 10 ∧ digN l ≤ l.length := by
  unfold digN
  split
  · omega
  · rename_i p hp
    have := dig_le _ _ _ hp
    omega
theorem digX_lt (l : List UInt8) : digX l < 18446744073709551616 := by
  unfold digX
  split
  · omega
  · exact Nat.mod_lt _ (by omega)
theorem ofNat8 {n : Nat} (h : n < 256) : (UInt8.ofNat n).toNat = n := UInt8.toNat_ofNat_of_lt' h
theorem dig_encU : ∀ (n : Nat) (x : Nat) (r : List UInt8), (encU x).length ≤ n → dig n (encU x ++ r) = some (x, (encU x).length)
  | 0, x, r, h => absurd h (by have := encU_pos x; omega)
  | n + 1, x, r, h => by
    by_cases hx : x > 127
    · rw [encU_big hx] at h ⊢
      rw [List.cons_append, dig, ofNat8 (by omega), if_neg (by omega), dig_encU n (x / 128) r (by simpa using h)]
      simp; omega
    · rw [encU_small hx]
      simp only [List.cons_append, dig, ofNat8 (show x < 256 by omega)]
      rw [if_pos (by omega)]; rfl
theorem rdU_put {x : Nat} (hx : x < 18446744073709551616) (p r : List UInt8) : rdU (p ++ encU x ++ r) p.length = (x, (((p ++ encU x).length : Nat) : Int), 0) := by
  have hd := dig_encU 10 x r (encU_le10 hx)
  have e : (p ++ encU x ++ r).drop p.length = encU x ++ r := by rw [List.append_assoc, List.drop_left]
  have hX : digX (encU x ++ r) = x := by rw [digX, hd]; exact Nat.mod_eq_of_lt hx
  have hN : digN (encU x ++ r) = (encU x).length := by rw [digN, hd]
  have := encU_pos x
  rw [rdU, if_neg (by simp only [List.length_append]; omega)]
  dsimp only
  rw [Int.toNat_natCast, e, hN, hX, List.take_left, if_neg (by rintro (h | h) <;> first | omega | exact h rfl)]
  simp
end Go.Proofs.Ytneonhnackjdjaa
