import Derived.Test.YtckcngkkofemjaaGreatP_06
import Derived.KernelRfl
namespace Go.Proofs.YtckcngkkofemjaaGreat
open Go.Ab Go.RowKit
set_option linter.unusedVariables false
set_option linter.unusedSimpArgs false
def zbA (b : List UInt8) (i : Nat) (x : List UInt8) : Prop := i + x.length ≤ b.length ∧ (b.drop i).take x.length = x
theorem zbA.app {b x y : List UInt8} {i : Nat} (h1 : zbA b i x) (h2 : zbA b (i + x.length) y) : zbA b i (x ++ y) := by
 refine ⟨by rw [List.length_append]; have := h2.1; omega, ?_⟩
 rw [List.length_append, List.take_add, h1.2, List.drop_drop, h2.2]
theorem zbA.nil {b : List UInt8} {i : Nat} (h : i ≤ b.length) : zbA b i [] := ⟨by simp; omega, by simp⟩
theorem zbA.one {b : List UInt8} {i : Nat} (h : i < b.length) : zbA b i [b[i]] := ⟨by simp; omega, by rw [List.drop_eq_getElem_cons h]; rfl⟩
theorem zcf {b : List UInt8} {a : Int} (h : (rdU b a).2.2 = 0) : ∃ i x : Nat, a = i ∧ rdU b a = (x, ((i + (zS x).length : Nat) : Int), 0) ∧ zbA b i (zS x) ∧ x < 18446744073709551616 := by
 rcases zmF b a with ⟨e, h3, h4⟩ | ⟨j, n, y, h3, h4, h5, h6, h7, h8, h9⟩
 ·rw [h3] at h; simp only at h; omega
 ·have hl : (zS y).length = n := by rw [h8, List.length_take, List.length_drop]; omega
  exact ⟨j, y, h3, by rw [h9, hl], ⟨by omega, by rw [hl]; exact h8.symm⟩, h7⟩
theorem zjc {b : List UInt8} {a : Int} (h : (rdS b a).2.2 = 0) : ∃ (i : Nat) (x : Int), a = i ∧ rdS b a = (x, ((i + (zbe x).length : Nat) : Int), 0) ∧ zbA b i (zbe x) ∧ -9223372036854775808 ≤ x ∧ x ≤ 9223372036854775807 := by
 rcases zor b a with ⟨e, h3, h4⟩ | ⟨j, n, y, h3, h4, h5, h6, h7, h8, h9⟩
 ·rw [h3] at h; simp only at h; omega
 ·have hl : (zbe y).length = n := by rw [h8, List.length_take, List.length_drop]; omega
  exact ⟨j, y, h3, by rw [h9, hl], ⟨by omega, by rw [hl]; exact h8.symm⟩, h7⟩
def zdx (k : UInt8) : Bool := decide (1 ≤ (k.toNat : Int)) && decide ((k.toNat : Int) ≤ 3)
def inr (l : List Lc) : Prop := ∀ x ∈ l, -9223372036854775808 ≤ x.N ∧ x.N ≤ 9223372036854775807
def ziM (x : Lc) : List UInt8 := x.Kind :: (if zdx x.Kind = true then zbe x.N else [])
def zcL (l : List Lc) : List UInt8 := l.flatMap ziM
def zcV (l : List Lc) : List UInt8 := zS l.length ++ zcL l
theorem zph (k : UInt8) : ze5 (k.toNat : Int) = some (zdx k) := rfl
def gt (b : List UInt8) : Nat → Nat → Option (List Lc × Nat)
 | 0, i => some ([], i)
 | k + 1, i => if h : i < b.length then
   if zdx b[i] = true then (if (rdS b ((i + 1 : Nat) : Int)).2.2 = 0 then (gt b k (rdS b ((i + 1 : Nat) : Int)).2.1.toNat).map fun p => (⟨b[i], (rdS b ((i + 1 : Nat) : Int)).1⟩ :: p.1, p.2) else none)
   else (gt b k (i + 1)).map fun p => (⟨b[i], 0⟩ :: p.1, p.2)
  else none
def gtE (r : Option (List Lc × Nat)) (acc : List Lc) : List Lc × Int × Int := match r with
 | none => ([], 0, 5)
 | some p => if Rt (acc ++ p.1) = true then (acc ++ p.1, (p.2 : Int), 0) else ([], 0, 5)
theorem zg0 (r : Option (List Lc × Nat)) (acc : List Lc) (x : Lc) : gtE (r.map fun p => (x :: p.1, p.2)) acc = gtE r (acc ++ [x]) := by
 cases r <;> simp [gtE]
theorem zmb {b : List UInt8} (hb : b.length ≤ 100000000000) (m : Nat) (hm : m ≤ 16) (q w : Int) : ∀ (n i : Nat) (acc : List Lc) (k : Nat), i ≤ b.length → acc.length + k = m → k < n →
  zgo b ((m : Int), q, w) n acc (i : Int) (acc.length : Int) = some (gtE (gt b k i) acc)
 | 0, i, acc, k, _, _, h => by omega
 | n + 1, i, acc, 0, hi, hk, hn => by
  show zdP _ b _ acc (i : Int) (acc.length : Int) = _
  unfold zdP
  simp only
  rw [zx (by omega), if_neg (by simp), zjS (by omega), Option.bind_some, gt, gtE]
  simp only [List.append_nil]
  cases Rt acc <;> rfl
 | n + 1, i, acc, k + 1, hi, hk, hn => by
  have ih := fun j x h => zmb hb m hm q w n j (acc ++ [x]) k h (by simp; omega) (by omega)
  simp only [List.length_append, List.length_singleton] at ih
  show zdP _ b _ acc (i : Int) (acc.length : Int) = _
  unfold zdP
  have hw : IntKind.u64.wrap ((acc.length : Int) + 1) = ((acc.length + 1 : Nat) : Int) := by rw [zdo]; omega
  simp only
  rw [zv (by omega), if_pos rfl, gt, hw]
  by_cases hib : i < b.length
  ·rw [zx (by omega), if_neg (by simp), zbd hib, Option.bind_some, zph, Option.bind_some, dif_pos hib]
   cases ht : zdx b[i]
   ·rw [if_neg (by simp), if_neg (by simp), zbF (by omega), Option.bind_some, zbh (by omega), ih (i + 1) _ (by omega), zg0]
   ·rw [if_pos rfl, if_pos rfl, zbh (by omega), F_S (by omega) (by omega), Option.bind_some]
    simp only
    by_cases he : (rdS b ((i + 1 : Nat) : Int)).2.2 = 0
    ·obtain ⟨j, x, hj, hx, hL, _⟩ := zjc he
     have hle := hL.1
     rw [hx, zbI rfl, if_neg (by simp), if_pos rfl, zbF (by omega), Option.bind_some, ih _ _ (by omega), zg0, Int.toNat_natCast]
    ·rw [zbP he, if_pos rfl, if_neg he]
     rfl
  ·rw [zv (by omega), if_pos rfl, dif_neg hib]
   rfl
def zbZ (b : List UInt8) (a : Int) : List Lc × Int × Int := if a < 0 ∨ a > b.length then ([], 0, 1) else if (rdU b a).2.2 ≠ 0 ∨ (rdU b a).1 > 16 then ([], 0, 5) else gtE (gt b (rdU b a).1 (rdU b a).2.1.toNat) []
theorem zpB {b : List UInt8} {a : Int} (hb : b.length ≤ 100000000000) : zfv b a = some (zbZ b a) := by
 unfold zfv zbZ
 by_cases hc : a < 0 ∨ a > b.length
 ·rw [if_pos (by simpa using hc), if_pos hc]
 ·rw [if_neg (by simpa using hc), if_neg hc, F_U (by omega) (by omega), Option.bind_some]
  simp only
  by_cases h1 : (rdU b a).2.2 = 0
  ·obtain ⟨i, x, hi, hx, hL, _⟩ := zcf h1
   have hle := hL.1
   rw [hx, zbI rfl, Bool.false_or]
   by_cases h2 : x > 16
   ·rw [zv (by omega), if_pos rfl, if_pos (Or.inr h2)]
   ·rw [zx (by omega), if_neg (by simp), if_neg (by simp; omega)]
    exact zmb hb x (by omega) _ _ big (i + (zS x).length) [] x (by omega) (by simp) (zbj (by omega))
  ·rw [zbP h1, Bool.true_or, if_pos rfl, if_pos (Or.inl h1)]
theorem zj5 {b : List UInt8} (hb : b.length ≤ 100000000000) (m : Nat) (hm : m ≤ 16) (q w : Int) : ∀ (n i : Nat) (acc : List Lc) (k : Nat), i ≤ b.length → acc.length + k = m → k < n →
  zgU b ((m : Int), q, w) n (i : Int) acc (acc.length : Int) = some (gtE (gt b k i) acc)
 | 0, i, acc, k, _, _, h => by omega
 | n + 1, i, acc, 0, hi, hk, hn => by
  show zd1 _ b _ (i : Int) acc (acc.length : Int) = _
  unfold zd1
  simp only
  rw [zdN (by omega), zx (by omega), if_neg (by simp), zkx (by omega), Option.bind_some, gt, gtE]
  simp only [List.append_nil]
  cases Rt acc <;> rfl
 | n + 1, i, acc, k + 1, hi, hk, hn => by
  have ih := fun j x h => zj5 hb m hm q w n j (acc ++ [x]) k h (by simp; omega) (by omega)
  simp only [List.length_append, List.length_singleton] at ih
  show zd1 _ b _ (i : Int) acc (acc.length : Int) = _
  unfold zd1
  simp only
  rw [zdN (n := m) (by omega), zv (by omega), if_pos rfl, gt, zbh (a := acc.length) (by omega)]
  by_cases hib : i < b.length
  ·have ht : ((((b[i].toNat : Int) == 1) || ((b[i].toNat : Int) == 2)) || ((b[i].toNat : Int) == 3)) = zdx b[i] := by
    unfold zdx
    rw [Bool.eq_iff_iff]
    simp only [Bool.or_eq_true, beq_iff_eq, Bool.and_eq_true, decide_eq_true_eq]
    omega
   rw [zx (by omega), if_neg (by simp), zbd hib, Option.bind_some, ht, dif_pos hib]
   cases ht : zdx b[i]
   ·rw [if_neg (by simp), if_neg (by simp), zbF (by omega), Option.bind_some, zbh (by omega), ih (i + 1) _ (by omega), zg0]
   ·rw [if_pos rfl, if_pos rfl, zbh (by omega), show zei b ((i + 1 : Nat) : Int) = _ from zn3 (by omega) (by omega), Option.bind_some]
    simp only
    by_cases he : (rdS b ((i + 1 : Nat) : Int)).2.2 = 0
    ·obtain ⟨j, x, hj, hx, hL, _⟩ := zjc he
     have hle := hL.1
     rw [hx, zbI rfl, if_neg (by simp), if_pos rfl, zbF (by omega), Option.bind_some, ih _ _ (by omega), zg0, Int.toNat_natCast]
    ·rw [zbP he, if_pos rfl, if_neg he]
     rfl
  ·rw [zv (by omega), if_pos rfl, dif_neg hib]
   rfl
theorem zpA {b : List UInt8} {a : Int} (hb : b.length ≤ 100000000000) : zgM b a = some (zbZ b a) := by
 unfold zgM zbZ
 by_cases hc : a < 0 ∨ a > b.length
 ·rw [if_pos (by simpa using hc), if_pos hc]
 ·rw [if_neg (by simpa using hc), if_neg hc, show zc8 b a = _ from zjx (by omega) (by omega), Option.bind_some]
  simp only
  by_cases h1 : (rdU b a).2.2 = 0
  ·obtain ⟨i, x, hi, hx, hL, _⟩ := zcf h1
   have hle := hL.1
   rw [hx, zbI rfl, Bool.false_or]
   by_cases h2 : x > 16
   ·rw [zv (by omega), if_pos rfl, if_pos (Or.inr h2)]
   ·rw [zx (by omega), if_neg (by simp), if_neg (by simp; omega)]
    exact zj5 hb x (by omega) _ _ big (i + (zS x).length) [] x (by omega) (by simp) (zbj (by omega))
  ·rw [zbP h1, Bool.true_or, if_pos rfl, if_pos (Or.inl h1)]
theorem zkW : ∀ {l : List Lc} {d e : Nat}, rtL d l = some e → ∀ x ∈ l, okd x = true
 | [], _, _, _, _, h => (nomatch h)
 | y :: l, d, e, h, x, hx => by
  rw [rtL] at h
  split at h
  ·rename_i hc
   rcases List.mem_cons.1 hx with rfl | hx
   ·exact hc.1
   ·exact zkW h x hx
  ·cases h
theorem zjh {l : List Lc} (h : Rt l = true) : (∀ x ∈ l, okd x = true) ∧ l.length ≤ 16 ∧ rtL 0 l = some (if l.length = 0 then 0 else 1) := by
 unfold Rt at h
 cases hr : rtL 0 l with
 | none => rw [hr] at h; cases h
 | some d =>
  rw [hr] at h
  simp only [fin, decide_eq_true_eq] at h
  refine ⟨zkW hr, h.1, ?_⟩
  cases l with
  | nil => rw [rtL] at hr; injection hr with hr; subst hr; rfl
  | cons x l => 
   rw [if_neg (by simp)]
   rcases h.2 with h | h
   ·simp at h
   ·rw [h]
theorem ziT {b : List UInt8} : ∀ (k i : Nat) (l : List Lc) (q : Nat), i ≤ b.length → gt b k i = some (l, q) → zbA b i (zcL l) ∧ q = i + (zcL l).length ∧ l.length = k ∧ inr l
 | 0, i, l, q, hi, h => by
  rw [gt] at h
  injection h with h
  injection h with h1 h2
  subst h1; subst h2
  exact ⟨zbA.nil hi, by simp [zcL], rfl, fun _ h => (nomatch h)⟩
 | k + 1, i, l, q, hi, h => by
  rw [gt] at h
  split at h
  ·rename_i hib
   cases ht : zdx b[i]
   ·rw [ht, if_neg (by simp)] at h
    obtain ⟨⟨m, q2⟩, h1, h2⟩ := Option.map_eq_some_iff.1 h
    injection h2 with h2 h3
    subst h2; subst h3
    obtain ⟨g1, g2, g3, g4⟩ := ziT k (i + 1) m q2 (by omega) h1
    have hx : zcL (⟨b[i], 0⟩ :: m) = [b[i]] ++ zcL m := by unfold zcL; rw [List.flatMap_cons]; simp [ziM, ht]
    rw [hx]
    refine ⟨(zbA.one hib).app g1, by simp only [List.length_append, List.length_singleton]; omega, by simp; omega, ?_⟩
    intro y hy
    rcases List.mem_cons.1 hy with rfl | hy
    ·simp
    ·exact g4 y hy
   ·rw [ht, if_pos rfl] at h
    split at h
    ·rename_i he
     obtain ⟨j, x, hj, hx, hL, hb⟩ := zjc he
     have hle := hL.1
     obtain rfl : j = i + 1 := by omega
     rw [hx, Int.toNat_natCast] at h
     obtain ⟨⟨m, q2⟩, h1, h2⟩ := Option.map_eq_some_iff.1 h
     injection h2 with h2 h3
     subst h2; subst h3
     obtain ⟨g1, g2, g3, g4⟩ := ziT k _ m q2 (by omega) h1
     have hx : zcL (⟨b[i], x⟩ :: m) = [b[i]] ++ (zbe x ++ zcL m) := by unfold zcL; rw [List.flatMap_cons]; simp [ziM, ht]
     rw [hx]
     refine ⟨(zbA.one hib).app (hL.app g1), by simp only [List.length_append, List.length_singleton]; omega, by simp; omega, ?_⟩
     intro y hy
     rcases List.mem_cons.1 hy with rfl | hy
     ·exact hb
     ·exact g4 y hy
    ·cases h
  ·cases h
theorem zpr (b : List UInt8) (a : Int) : (zbZ b a = ([], 0, 1) ∨ zbZ b a = ([], 0, 5)) ∨ ∃ (l : List Lc) (i : Nat), a = i ∧ zbZ b a = (l, ((i + (zcV l).length : Nat) : Int), 0) ∧ zbA b i (zcV l) ∧ Rt l = true ∧ inr l := by
 unfold zbZ
 split
 ·exact Or.inl (Or.inl rfl)
 ·split
  ·exact Or.inl (Or.inr rfl)
  ·rename_i h1 h2
   obtain ⟨i, x, hi, hx, hL, _⟩ := zcf (b := b) (a := a) (by omega)
   have hle := hL.1
   rw [hx]
   simp only [Int.toNat_natCast]
   cases hg : gt b x (i + (zS x).length) with
   | none => exact Or.inl (Or.inr rfl)
   | some p =>
    obtain ⟨l, q⟩ := p
    obtain ⟨g1, g2, g3, g4⟩ := ziT _ _ _ _ (by omega) hg
    simp only [gtE, List.nil_append]
    cases hR : Rt l
    ·exact Or.inl (Or.inr rfl)
    ·refine Or.inr ⟨l, i, hi, ?_, ?_, hR, g4⟩
     ·rw [if_pos rfl, g2, zcV, g3, List.length_append, Nat.add_assoc]
     ·rw [zcV, g3]; exact hL.app g1
end Go.Proofs.YtckcngkkofemjaaGreat
