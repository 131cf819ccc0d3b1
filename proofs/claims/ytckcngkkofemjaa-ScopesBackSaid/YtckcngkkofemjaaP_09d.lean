import Derived.Test.YtckcngkkofemjaaAd
import Derived.Test.YtckcngkkofemjaaF
import Derived.Test.YtckcngkkofemjaaPL
import Derived.Test.YtckcngkkofemjaaP_02
import Derived.Test.YtckcngkkofemjaaP_01
import Derived.Test.YtckcngkkofemjaaP_06
import Derived.Test.YtckcngkkofemjaaP_06b
import Derived.Test.YtckcngkkofemjaaP_06c
import Derived.Test.YtckcngkkofemjaaP_07
import Derived.Test.YtckcngkkofemjaaP_07b
import Derived.Test.YtckcngkkofemjaaP_09
import Derived.Test.YtckcngkkofemjaaP_09c
namespace Go.Proofs.Ytckcngkkofemjaa
open Go.Ab Go.RowKit
set_option linter.unusedVariables false
set_option linter.unusedSimpArgs false
theorem LiesL.le {b x : List UInt8} {i : Nat} (h : LiesL b i x) : i + x.length ≤ b.length := h.1
theorem list_S {α : Type} {b : List UInt8} {P : Rd → Option (α × Rd)} {E : α → List UInt8} {V : α → Prop} (hP : RdS b P E V) {L : Nat → List UInt8 → Int → Bool → List α → Int → Option (List α × Rd)}
    (hL : ∀ n b a f acc c, L (n + 1) b a f acc c = if (decide (c > 0) && (!f)) = true then (P ⟨b, a, f⟩).bind fun q => (room (acc.length + 1)).bind fun _ => L n q.2.b q.2.at_ q.2.failed (acc ++ [q.1]) (IntKind.i64.wrap (c - 1)) else some (acc, ⟨b, a, f⟩)) :
    ∀ (n k : Nat) (a : Int) (f : Bool) (acc : List α), k < n → acc.length + k ≤ 1000000 → 0 ≤ a → a ≤ b.length → ∃ l q, L n b a f acc (k : Int) = some (acc ++ l, q) ∧ q.b = b ∧ 0 ≤ q.at_ ∧ q.at_ ≤ b.length ∧ l.length ≤ k ∧ (q.failed = true ∨ (f = false ∧ q.failed = false ∧ l.length = k ∧ (∀ x ∈ l, V x) ∧ ∃ i : Nat, a = i ∧ LiesL b i (l.flatMap E) ∧ q.at_ = ((i + (l.flatMap E).length : Nat) : Int)))
  | 0, k, _, _, _, h, _, _, _ => by omega
  | n + 1, k, a, f, acc, hn, hk, h0, h1 => by
    rw [hL]
    cases f with
    | true =>
      rw [Bool.not_true, Bool.and_false, if_neg (by simp)]
      exact ⟨[], _, by rw [List.append_nil], rfl, h0, h1, by simp, .inl rfl⟩
    | false =>
      cases k with
      | zero =>
        rw [decF (by simp), Bool.false_and, if_neg (by simp)]
        obtain ⟨i, rfl⟩ : ∃ i : Nat, a = i := ⟨a.toNat, by omega⟩
        exact ⟨[], _, by rw [List.append_nil], rfl, h0, h1, by simp, .inr ⟨rfl, rfl, rfl, by simp, i, rfl, by simpa using LiesL.nil (by omega), by simp⟩⟩
      | succ k =>
        obtain ⟨x, q, e, qb, q0, q1, hq⟩ := hP a false h0 h1
        rw [decT (by omega), Bool.not_false, Bool.and_self, if_pos rfl, e, Option.bind_some, room_ok (by omega), Option.bind_some, qb, wi64 (by omega), show ((k + 1 : Nat) : Int) - 1 = (k : Int) by omega]
        obtain ⟨l, q2, e2, qb2, q02, q12, hle, hq2⟩ := list_S hP hL n k q.at_ q.failed (acc ++ [x]) (by omega) (by simp; omega) q0 q1
        refine ⟨x :: l, q2, by rw [e2, List.append_assoc]; rfl, qb2, q02, q12, by simp; omega, ?_⟩
        rcases hq2 with hq2 | ⟨g1, g2, g3, g4, i2, g5, g6, g7⟩
        · exact .inl hq2
        · rcases hq with hq | ⟨_, _, v1, i, v2, v3, v4⟩
          · rw [hq] at g1; cases g1
          · right
            have hi : i2 = i + (E x).length := by omega
            subst hi
            refine ⟨rfl, g2, by simp; omega, ?_, i, v2, ?_, ?_⟩
            · intro y hy
              rcases List.mem_cons.1 hy with rfl | hy
              · exact v1
              · exact g4 y hy
            · rw [List.flatMap_cons]; exact v3.app g6
            · rw [List.flatMap_cons, List.length_append, g7]; omega
theorem list_P {α : Type} {P : Rd → Option (α × Rd)} {E : α → List UInt8} {V : α → Prop} (hP : RdP P E V) {L : Nat → List UInt8 → Int → Bool → List α → Int → Option (List α × Rd)}
    (hL : ∀ n b a f acc c, L (n + 1) b a f acc c = if (decide (c > 0) && (!f)) = true then (P ⟨b, a, f⟩).bind fun q => (room (acc.length + 1)).bind fun _ => L n q.2.b q.2.at_ q.2.failed (acc ++ [q.1]) (IntKind.i64.wrap (c - 1)) else some (acc, ⟨b, a, f⟩)) (r : List UInt8) :
    ∀ (n : Nat) (l : List α) (p : List UInt8) (acc : List α), l.length < n → acc.length + l.length ≤ 1000000 → (∀ x ∈ l, V x) → (p ++ l.flatMap E ++ r).length ≤ 100000000000 → L n (p ++ l.flatMap E ++ r) (p.length : Int) false acc (l.length : Int) = some (acc ++ l, ⟨p ++ l.flatMap E ++ r, ((p ++ l.flatMap E).length : Nat), false⟩)
  | 0, l, _, _, h, _, _, _ => by omega
  | n + 1, [], p, acc, hn, hk, hv, hlen => by
    rw [hL, decF (by simp), Bool.false_and, if_neg (by simp), List.append_nil, List.flatMap_nil, List.append_nil]
  | n + 1, x :: l, p, acc, hn, hk, hv, hlen => by
    simp only [List.length_cons] at hn hk
    have e1 : p ++ (x :: l).flatMap E ++ r = p ++ E x ++ (l.flatMap E ++ r) := by simp
    have e2 : p ++ (x :: l).flatMap E ++ r = (p ++ E x) ++ l.flatMap E ++ r := by simp
    have h1 := hP p (l.flatMap E ++ r) x (hv x (by simp)) (by rw [← e1]; exact hlen)
    rw [← e1] at h1
    have ih := list_P hP hL r n l (p ++ E x) (acc ++ [x]) (by omega) (by simp; omega) (fun y hy => hv y (List.mem_cons_of_mem _ hy)) (by rw [← e2]; exact hlen)
    rw [← e2] at ih
    rw [hL, decT (by rw [List.length_cons]; omega), Bool.not_false, Bool.and_self, if_pos rfl, h1, Option.bind_some, room_ok (by omega), Option.bind_some, List.length_cons, wi64 (by omega), show ((l.length + 1 : Nat) : Int) - 1 = (l.length : Int) by omega]
    refine Eq.trans ih ?_
    simp
def lsE {α : Type} (E : α → List UInt8) (l : List α) : List UInt8 := encU l.length ++ l.flatMap E
theorem lst_S {α : Type} {b : List UInt8} {P : Rd → Option (α × Rd)} {E : α → List UInt8} {V : α → Prop} (hb : b.length ≤ 100000000000) {m : Int} (hm : 0 ≤ m ∧ m ≤ 100000) (hP : RdS b P E V) {L : Nat → List UInt8 → Int → Bool → List α → Int → Option (List α × Rd)}
    (hL : ∀ n b a f acc c, L (n + 1) b a f acc c = if (decide (c > 0) && (!f)) = true then (P ⟨b, a, f⟩).bind fun q => (room (acc.length + 1)).bind fun _ => L n q.2.b q.2.at_ q.2.failed (acc ++ [q.1]) (IntKind.i64.wrap (c - 1)) else some (acc, ⟨b, a, f⟩)) :
    RdS b (fun q => (zr q m).bind fun c => L big c.2.b c.2.at_ c.2.failed [] c.1) (lsE E) (fun l => (l.length : Int) ≤ m ∧ ∀ x ∈ l, V x) := by
  intro a f h0 h1
  obtain ⟨x, q, e, qb, q0, q1, hq⟩ := num_S hb (m := m) (by omega) a f h0 h1
  simp only at e ⊢
  rw [e, Option.bind_some, qb]
  have hx : 0 ≤ x ∧ x ≤ m := by
    rcases hq with hq | ⟨_, _, v, _⟩
    · unfold zr at e
      obtain ⟨c3, hc3, e⟩ := Option.bind_eq_some_iff.1 e
      split at e
      · injection e with e
        injection e with e1 e2
        omega
      · injection e with e
        injection e with e1 e2
        subst e2
        rename_i hcc
        simp only at hq
        rw [hq] at hcc
        simp at hcc
    · exact v
  obtain ⟨k, rfl⟩ : ∃ k : Nat, x = k := ⟨x.toNat, by omega⟩
  obtain ⟨l, q2, e2, qb2, q02, q12, hle, hq2⟩ := list_S hP hL big k q.at_ q.failed [] (big_gt (by omega)) (by simp; omega) q0 q1
  rw [List.nil_append] at e2
  refine ⟨l, q2, e2, qb2, q02, q12, ?_⟩
  rcases hq2 with hq2 | ⟨g1, g2, g3, g4, i2, g5, g6, g7⟩
  · exact .inl hq2
  · rcases hq with hq | ⟨f1, f2, v1, i, v2, v3, v4⟩
    · rw [hq] at g1; cases g1
    · right
      have hE : numE (k : Int) = encU l.length := by unfold numE; rw [Int.toNat_natCast, g3]
      rw [hE] at v3 v4
      have hi : i2 = i + (encU l.length).length := by omega
      subst hi
      refine ⟨f1, g2, ⟨by omega, g4⟩, i, v2, v3.app g6, ?_⟩
      rw [g7, lsE, List.length_append]
      omega
theorem lst_P {α : Type} {P : Rd → Option (α × Rd)} {E : α → List UInt8} {V : α → Prop} {m : Int} (hm : 0 ≤ m ∧ m ≤ 100000) (hP : RdP P E V) {L : Nat → List UInt8 → Int → Bool → List α → Int → Option (List α × Rd)}
    (hL : ∀ n b a f acc c, L (n + 1) b a f acc c = if (decide (c > 0) && (!f)) = true then (P ⟨b, a, f⟩).bind fun q => (room (acc.length + 1)).bind fun _ => L n q.2.b q.2.at_ q.2.failed (acc ++ [q.1]) (IntKind.i64.wrap (c - 1)) else some (acc, ⟨b, a, f⟩)) :
    RdP (fun q => (zr q m).bind fun c => L big c.2.b c.2.at_ c.2.failed [] c.1) (lsE E) (fun l => (l.length : Int) ≤ m ∧ ∀ x ∈ l, V x) := by
  intro p r l hl hlen
  have e1 : p ++ lsE E l ++ r = p ++ numE (l.length : Int) ++ (l.flatMap E ++ r) := by simp [lsE, numE]
  have e2 : p ++ lsE E l ++ r = (p ++ encU l.length) ++ l.flatMap E ++ r := by simp [lsE]
  have h1 := num_P (m := m) (by omega) p (l.flatMap E ++ r) (l.length : Int) ⟨by omega, hl.1⟩ (by rw [← e1]; exact hlen)
  rw [← e1] at h1
  simp only at h1 ⊢
  rw [h1, Option.bind_some]
  have h2 := list_P hP hL r big l (p ++ encU l.length) [] (big_gt (by omega)) (by simp; omega) hl.2 (by rw [← e2]; exact hlen)
  rw [← e2] at h2
  have e3 : p ++ numE (l.length : Int) = p ++ encU l.length := by unfold numE; rw [Int.toNat_natCast]
  simp only
  rw [e3, h2]
  simp [lsE]
theorem strs_S {b : List UInt8} (hb : b.length ≤ 100000000000) : RdS b (fun q => zb7 q 8) (lsE txE) (fun l => (l.length : Int) ≤ 8 ∧ ∀ x ∈ l, x.size ≤ 255) :=
  lst_S hb (by omega) (txt_S hb) (L := zbl) fun _ _ _ _ _ _ => rfl
theorem strs_P : RdP (fun q => zb7 q 8) (lsE txE) (fun l => (l.length : Int) ≤ 8 ∧ ∀ x ∈ l, x.size ≤ 255) :=
  lst_P (by omega) txt_P (L := zbl) fun _ _ _ _ _ _ => rfl
theorem ints_S {b : List UInt8} (hb : b.length ≤ 100000000000) : RdS b (fun q => zcu q 64) (lsE numE) (fun l => (l.length : Int) ≤ 64 ∧ ∀ x ∈ l, 0 ≤ x ∧ x ≤ 64) :=
  lst_S hb (by omega) (P := zU) (fun a f h0 h1 => by
    obtain ⟨x, q, e, h⟩ := num_S hb (m := 64) (by omega) a f h0 h1
    refine ⟨x, q, ?_, h⟩
    unfold zU
    rw [show zr _ 64 = _ from e]
    rfl) (L := zbe) fun _ _ _ _ _ _ => rfl
theorem ints_P : RdP (fun q => zcu q 64) (lsE numE) (fun l => (l.length : Int) ≤ 64 ∧ ∀ x ∈ l, 0 ≤ x ∧ x ≤ 64) :=
  lst_P (by omega) (P := zU) (fun p r x hx hl => by
    have h := num_P (m := 64) (by omega) p r x hx hl
    unfold zU
    rw [show zr _ 64 = _ from h]
    rfl) (L := zbe) fun _ _ _ _ _ _ => rfl
end Go.Proofs.Ytckcngkkofemjaa
