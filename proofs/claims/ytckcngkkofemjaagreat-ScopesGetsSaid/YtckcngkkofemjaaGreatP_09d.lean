import Derived.Test.YtckcngkkofemjaaGreatP_09c
namespace Go.Proofs.YtckcngkkofemjaaGreat
open Go.Ab Go.RowKit
set_option linter.unusedVariables false
set_option linter.unusedSimpArgs false
theorem zij {α : Type} {b : List UInt8} {P : Rd → Option (α × Rd)} {E : α → List UInt8} {V : α → Prop} (hP : RdS b P E V) {L : Nat → List UInt8 → Int → Bool → List α → Int → Option (List α × Rd)}
  (hL : ∀ n b a f acc c, L (n + 1) b a f acc c = if (decide (c > 0) && (!f)) = true then (P ⟨b, a, f⟩).bind fun q => (room (acc.length + 1)).bind fun _ => L n q.2.b q.2.at_ q.2.failed (acc ++ [q.1]) (IntKind.i64.wrap (c - 1)) else some (acc, ⟨b, a, f⟩)) :
  ∀ (n k : Nat) (a : Int) (f : Bool) (acc : List α), k < n → acc.length + k ≤ 1000000 → 0 ≤ a → a ≤ b.length → ∃ l q, L n b a f acc (k : Int) = some (acc ++ l, q) ∧ q.b = b ∧ 0 ≤ q.at_ ∧ q.at_ ≤ b.length ∧ l.length ≤ k ∧ (q.failed = true ∨ (f = false ∧ q.failed = false ∧ l.length = k ∧ (∀ x ∈ l, V x) ∧ ∃ i : Nat, a = i ∧ zbA b i (l.flatMap E) ∧ q.at_ = ((i + (l.flatMap E).length : Nat) : Int)))
 | 0, k, _, _, _, h, _, _, _ => by omega
 | n + 1, k, a, f, acc, hn, hk, h0, h1 => by
  rw [hL]
  cases f with
  | true =>
   rw [Bool.not_true, Bool.and_false, if_neg (by simp)]
   exact ⟨[], _, by rw [List.append_nil], rfl, h0, h1, by simp, .inl rfl⟩
  | false =>
   cases k with
   | zero =>
    rw [zx (by simp), Bool.false_and, if_neg (by simp)]
    obtain ⟨i, rfl⟩ : ∃ i : Nat, a = i := ⟨a.toNat, by omega⟩
    exact ⟨[], _, by rw [List.append_nil], rfl, h0, h1, by simp, .inr ⟨rfl, rfl, rfl, by simp, i, rfl, by simpa using zbA.nil (by omega), by simp⟩⟩
   | succ k =>
    obtain ⟨x, q, e, qb, q0, q1, hq⟩ := hP a false h0 h1
    rw [zv (by omega), Bool.not_false, Bool.and_self, if_pos rfl, e, Option.bind_some, zbF (by omega), Option.bind_some, qb, zbc (by omega), show ((k + 1 : Nat) : Int) - 1 = (k : Int) by omega]
    obtain ⟨l, q2, e2, qb2, q02, q12, hle, hq2⟩ := zij hP hL n k q.at_ q.failed (acc ++ [x]) (by omega) (by simp; omega) q0 q1
    refine ⟨x :: l, q2, by rw [e2, List.append_assoc]; rfl, qb2, q02, q12, by simp; omega, ?_⟩
    rcases hq2 with hq2 | ⟨g1, g2, g3, g4, i2, g5, g6, g7⟩
    ·exact .inl hq2
    ·rcases hq with hq | ⟨_, _, v1, i, v2, v3, v4⟩
     ·rw [hq] at g1; cases g1
     ·right
      have hi : i2 = i + (E x).length := by omega
      subst hi
      refine ⟨rfl, g2, by simp; omega, ?_, i, v2, ?_, ?_⟩
      ·intro y hy
       rcases List.mem_cons.1 hy with rfl | hy
       ·exact v1
       ·exact g4 y hy
      ·rw [List.flatMap_cons]; exact v3.app g6
      ·rw [List.flatMap_cons, List.length_append, g7]; omega
def lsE {α : Type} (E : α → List UInt8) (l : List α) : List UInt8 := zS l.length ++ l.flatMap E
theorem zjy {α : Type} {b : List UInt8} {P : Rd → Option (α × Rd)} {E : α → List UInt8} {V : α → Prop} (hb : b.length ≤ 100000000000) {m : Int} (hm : 0 ≤ m ∧ m ≤ 100000) (hP : RdS b P E V) {L : Nat → List UInt8 → Int → Bool → List α → Int → Option (List α × Rd)}
  (hL : ∀ n b a f acc c, L (n + 1) b a f acc c = if (decide (c > 0) && (!f)) = true then (P ⟨b, a, f⟩).bind fun q => (room (acc.length + 1)).bind fun _ => L n q.2.b q.2.at_ q.2.failed (acc ++ [q.1]) (IntKind.i64.wrap (c - 1)) else some (acc, ⟨b, a, f⟩)) :
  RdS b (fun q => (zbB q m).bind fun c => L big c.2.b c.2.at_ c.2.failed [] c.1) (lsE E) (fun l => (l.length : Int) ≤ m ∧ ∀ x ∈ l, V x) := by
 intro a f h0 h1
 obtain ⟨x, q, e, qb, q0, q1, hq⟩ := zc5 hb (m := m) (by omega) a f h0 h1
 simp only at e ⊢
 rw [e, Option.bind_some, qb]
 have hx : 0 ≤ x ∧ x ≤ m := by
  rcases hq with hq | ⟨_, _, v, _⟩
  ·unfold zbB at e
   obtain ⟨c3, hc3, e⟩ := Option.bind_eq_some_iff.1 e
   split at e
   ·injection e with e
    injection e with e1 e2
    omega
   ·injection e with e
    injection e with e1 e2
    subst e2
    rename_i hcc
    simp only at hq
    rw [hq] at hcc
    simp at hcc
  ·exact v
 obtain ⟨k, rfl⟩ : ∃ k : Nat, x = k := ⟨x.toNat, by omega⟩
 obtain ⟨l, q2, e2, qb2, q02, q12, hle, hq2⟩ := zij hP hL big k q.at_ q.failed [] (zbj (by omega)) (by simp; omega) q0 q1
 rw [List.nil_append] at e2
 refine ⟨l, q2, e2, qb2, q02, q12, ?_⟩
 rcases hq2 with hq2 | ⟨g1, g2, g3, g4, i2, g5, g6, g7⟩
 ·exact .inl hq2
 ·rcases hq with hq | ⟨f1, f2, v1, i, v2, v3, v4⟩
  ·rw [hq] at g1; cases g1
  ·right
   have hE : zbM (k : Int) = zS l.length := by unfold zbM; rw [Int.toNat_natCast, g3]
   rw [hE] at v3 v4
   have hi : i2 = i + (zS l.length).length := by omega
   subst hi
   refine ⟨f1, g2, ⟨by omega, g4⟩, i, v2, v3.app g6, ?_⟩
   rw [g7, lsE, List.length_append]
   omega
theorem zox {b : List UInt8} (hb : b.length ≤ 100000000000) : RdS b (fun q => zfu q 8) (lsE txE) (fun l => (l.length : Int) ≤ 8 ∧ ∀ x ∈ l, x.size ≤ 255) :=
 zjy hb (by omega) (zes hb) (L := zdb) fun _ _ _ _ _ _ => rfl
theorem zp2 {b : List UInt8} (hb : b.length ≤ 100000000000) : RdS b (fun q => zeV q 64) (lsE zbM) (fun l => (l.length : Int) ≤ 64 ∧ ∀ x ∈ l, 0 ≤ x ∧ x ≤ 64) :=
 zjy hb (by omega) (P := zdC) (fun a f h0 h1 => by
  obtain ⟨x, q, e, h⟩ := zc5 hb (m := 64) (by omega) a f h0 h1
  refine ⟨x, q, ?_, h⟩
  unfold zdC
  rw [show zbB _ 64 = _ from e]
  rfl) (L := zdA) fun _ _ _ _ _ _ => rfl
end Go.Proofs.YtckcngkkofemjaaGreat
