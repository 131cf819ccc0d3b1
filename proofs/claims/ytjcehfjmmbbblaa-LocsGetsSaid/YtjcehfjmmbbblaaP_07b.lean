import Derived.Test.YtjcehfjmmbbblaaAd
import Derived.Test.YtjcehfjmmbbblaaF
import Derived.Test.YtjcehfjmmbbblaaPL
import Derived.Test.YtjcehfjmmbbblaaP_02
import Derived.Test.YtjcehfjmmbbblaaP_06
import Derived.Test.YtjcehfjmmbbblaaP_06b
import Derived.Test.YtjcehfjmmbbblaaP_06c
import Derived.Test.YtjcehfjmmbbblaaP_07
namespace Go.Proofs.Ytjcehfjmmbbblaa
open Go.Ab Go.RowKit
set_option linter.unusedVariables false
set_option linter.unusedSimpArgs false
def encS1 (last : Int) (x : Sp) : List UInt8 := encU (x.From - last).toNat ++ (encU (x.To - x.From).toNat ++ encL x.At)
def encSs : Int → List Sp → List UInt8
  | _, [] => []
  | last, x :: l => encS1 last x ++ encSs x.To l
def encSp (l : List Sp) : List UInt8 := encU l.length ++ encSs 0 l
def spn (b : List UInt8) (i : Nat) (last : Int) : Option (Sp × Nat) :=
  if (rdU b i).2.2 = 0 ∧ (rdU b i).1 ≤ 16777216 then
    (if (rdU b (rdU b i).2.1).2.2 = 0 ∧ (rdU b (rdU b i).2.1).1 ≤ 16777216 then
      (if (getL b (rdU b (rdU b i).2.1).2.1).2.2 = 0 ∧ last + (rdU b i).1 + (rdU b (rdU b i).2.1).1 ≤ 16777216 then
        some (⟨last + (rdU b i).1, last + (rdU b i).1 + (rdU b (rdU b i).2.1).1, (getL b (rdU b (rdU b i).2.1).2.1).1⟩, (getL b (rdU b (rdU b i).2.1).2.1).2.1.toNat) else none) else none) else none
theorem getL_err (b : List UInt8) (a : Int) (h : (getL b a).2.2 = 0) : ∃ (l : List Lc) (i : Nat), a = i ∧ getL b a = (l, ((i + (encL l).length : Nat) : Int), 0) ∧ LiesL b i (encL l) ∧ Rt l = true ∧ inr l := by
  rcases getL_cases b a with (h1 | h1) | h1
  · rw [h1] at h; cases h
  · rw [h1] at h; cases h
  · exact h1
theorem spn_some {b : List UInt8} {i : Nat} {last : Int} {x : Sp} {q : Nat} (h : spn b i last = some (x, q)) : LiesL b i (encS1 last x) ∧ q = i + (encS1 last x).length ∧ last ≤ x.From ∧ x.From ≤ x.To ∧ x.To ≤ 16777216 ∧ Rt x.At = true ∧ inr x.At := by
  unfold spn at h
  split at h
  · rename_i h1
    split at h
    · rename_i h2
      split at h
      · rename_i h3
        obtain ⟨i1, u, e1, hu, L1, -⟩ := rdU_lies h1.1
        obtain rfl : i = i1 := by omega
        rw [hu] at h h2 h3 h1
        simp only at h h2 h3 h1
        obtain ⟨i2, v, e2, hv, L2, -⟩ := rdU_lies h2.1
        obtain rfl : i + (encU u).length = i2 := by omega
        rw [hv] at h h2 h3
        simp only at h h2 h3
        obtain ⟨A, i3, e3, hA, L3, hR, hr⟩ := getL_err _ _ h3.1
        obtain rfl : i + (encU u).length + (encU v).length = i3 := by omega
        rw [hA] at h
        simp only at h
        injection h with h
        injection h with h4 h5
        subst h4
        have hx : encS1 last ⟨last + (u : Int), last + (u : Int) + (v : Int), A⟩ = encU u ++ (encU v ++ encL A) := by
          unfold encS1
          simp only
          rw [show (last + (u : Int) - last).toNat = u by omega, show (last + (u : Int) + (v : Int) - (last + (u : Int))).toNat = v by omega]
        rw [hx]
        refine ⟨L1.app (L2.app L3), ?_, by simp only; omega, by simp only; omega, h3.2, hR, hr⟩
        simp only [List.length_append]
        omega
      · cases h
    · cases h
  · cases h
def gs (b : List UInt8) : Nat → Nat → Int → Option (List Sp × Nat)
  | 0, i, _ => some ([], i)
  | k + 1, i, last => (spn b i last).bind fun p => (gs b k p.2 p.1.To).map fun r => (p.1 :: r.1, r.2)
def gsE (r : Option (List Sp × Nat)) (acc : List Sp) : List Sp × Int × Int := match r with
  | none => ([], 0, 5)
  | some p => if St (acc ++ p.1) = true then (acc ++ p.1, (p.2 : Int), 0) else ([], 0, 5)
theorem gsE_map (r : Option (List Sp × Nat)) (acc : List Sp) (x : Sp) : gsE (r.map fun p => (x :: p.1, p.2)) acc = gsE r (acc ++ [x]) := by
  cases r <;> simp [gsE]
def getS (b : List UInt8) (a : Int) : List Sp × Int × Int := if a < 0 ∨ a > b.length then ([], 0, 1) else if (rdU b a).2.2 ≠ 0 ∨ (rdU b a).1 > 4000 then ([], 0, 5) else gsE (gs b (rdU b a).1 (rdU b a).2.1.toNat 0) []
theorem zc1 {b : List UInt8} {i : Nat} {last : Int} (hb : b.length ≤ 1000000) (hi : i ≤ b.length) (hl : 0 ≤ last ∧ last ≤ 16777216) : ∃ r, zO b (i : Int) last = some r ∧ ((r.2.2 = false ∧ spn b i last = none) ∨ (r.2.2 = true ∧ ∃ q : Nat, r.2.1 = q ∧ spn b i last = some (r.1, q))) := by
  unfold zO spn
  rw [F_U (by omega) (by omega), Option.bind_some]
  simp only
  by_cases h1 : (rdU b i).2.2 = 0 ∧ (rdU b i).1 ≤ 16777216
  · obtain ⟨i1, u, e1, hu, L1, -⟩ := rdU_lies h1.1
    have g1 := L1.1
    rw [if_neg (by simp only [Bool.or_eq_true, bne_iff_ne, decide_eq_true_eq, ne_eq]; omega), if_pos h1, hu]
    rw [hu] at h1
    simp only at h1 ⊢
    rw [F_U (by omega) (by omega), Option.bind_some]
    simp only
    by_cases h2 : (rdU b ((i1 + (encU u).length : Nat) : Int)).2.2 = 0 ∧ (rdU b ((i1 + (encU u).length : Nat) : Int)).1 ≤ 16777216
    · obtain ⟨i2, v, e2, hv, L2, -⟩ := rdU_lies h2.1
      have g2 := L2.1
      rw [if_neg (by simp only [Bool.or_eq_true, bne_iff_ne, decide_eq_true_eq, ne_eq]; omega), if_pos h2, hv]
      rw [hv] at h2
      simp only at h2 ⊢
      rw [zcV hb, Option.bind_some]
      have w1 : IntKind.i64.wrap (last + IntKind.i64.wrap (u : Int)) = last + u := by rw [wi64 (x := (u : Int)) (by omega), wi64 (by omega)]
      have w2 : IntKind.i64.wrap (last + (u : Int) + IntKind.i64.wrap (v : Int)) = last + u + v := by rw [wi64 (x := (v : Int)) (by omega), wi64 (by omega)]
      rw [w1, w2]
      refine ⟨_, rfl, ?_⟩
      by_cases h3 : (getL b ((i2 + (encU v).length : Nat) : Int)).2.2 = 0 ∧ last + (u : Int) + (v : Int) ≤ 16777216
      · right
        rw [if_pos h3, beqT h3.1, decT h3.2]
        obtain ⟨A, i3, e3, hA, L3, -⟩ := getL_err _ _ h3.1
        exact ⟨rfl, i3 + (encL A).length, by rw [hA], by rw [hA, Int.toNat_natCast]⟩
      · left
        rw [if_neg h3]
        refine ⟨?_, rfl⟩
        by_cases h4 : (getL b ((i2 + (encU v).length : Nat) : Int)).2.2 = 0
        · rw [decF (fun h => h3 ⟨h4, h⟩), Bool.and_false]
        · rw [beqF h4, Bool.false_and]
    · rw [if_pos (by simp only [Bool.or_eq_true, bne_iff_ne, decide_eq_true_eq, ne_eq]; omega), if_neg h2]
      exact ⟨_, rfl, .inl ⟨rfl, rfl⟩⟩
  · rw [if_pos (by simp only [Bool.or_eq_true, bne_iff_ne, decide_eq_true_eq, ne_eq]; omega), if_neg h1]
    exact ⟨_, rfl, .inl ⟨rfl, rfl⟩⟩
theorem SGet_loop {b : List UInt8} (hb : b.length ≤ 1000000) (m : Nat) (hm : m ≤ 4000) (q w : Int) : ∀ (n i : Nat) (acc : List Sp) (last : Int) (k : Nat), i ≤ b.length → acc.length + k = m → k < n → 0 ≤ last ∧ last ≤ 16777216 → (∀ x ∈ acc, x.At.length ≤ 16) →
    zT b ((m : Int), q, w) n acc (i : Int) last (acc.length : Int) = some (gsE (gs b k i last) acc)
  | 0, i, acc, _, k, _, _, h, _, _ => by omega
  | n + 1, i, acc, last, 0, hi, hk, hn, hl, hacc => by
    show zr _ b _ acc (i : Int) last (acc.length : Int) = _
    unfold zr
    simp only
    rw [decF (by omega), if_neg (by simp), zcS ⟨by omega, fun x hx => by have := hacc x hx; omega⟩, Option.bind_some, gs, gsE]
    simp only [List.append_nil]
    cases St acc <;> rfl
  | n + 1, i, acc, last, k + 1, hi, hk, hn, hl, hacc => by
    have ih := fun j x l h h2 h3 => SGet_loop hb m hm q w n j (acc ++ [x]) l k h (by simp; omega) (by omega) h2 h3
    simp only [List.length_append, List.length_singleton] at ih
    show zr _ b _ acc (i : Int) last (acc.length : Int) = _
    unfold zr
    have hw : IntKind.u64.wrap ((acc.length : Int) + 1) = ((acc.length + 1 : Nat) : Int) := by rw [wu64_mod]; omega
    obtain ⟨r, hr, hr2⟩ := zc1 hb hi hl
    simp only
    rw [decT (by omega), if_pos rfl, gs, hw, hr, Option.bind_some]
    rcases hr2 with ⟨h1, h2⟩ | ⟨h1, z, h2, h3⟩
    · rw [h1, Bool.not_false, if_pos rfl, h2]
      rfl
    · obtain ⟨g1, g2, g3, g4, g5, g6, g7⟩ := spn_some h3
      have g8 := g1.1
      have h16 := (Rt_ok g6).2.1
      rw [h1, Bool.not_true, if_neg (by simp), room_ok (by simp; omega), Option.bind_some, h3, Option.bind_some, gsE_map, h2]
      refine ih z r.1 r.1.To (by omega) ⟨by omega, g5⟩ ?_
      intro x hx
      rcases List.mem_append.1 hx with hx | hx
      · exact hacc x hx
      · rw [List.mem_singleton.1 hx]; exact h16
theorem zdw {b : List UInt8} {a : Int} (hb : b.length ≤ 1000000) : zw b a = some (getS b a) := by
  unfold zw getS
  by_cases hc : a < 0 ∨ a > b.length
  · rw [if_pos (by simpa using hc), if_pos hc]
  · rw [if_neg (by simpa using hc), if_neg hc, F_U (by omega) (by omega), Option.bind_some]
    simp only
    by_cases h1 : (rdU b a).2.2 = 0
    · obtain ⟨i, x, hi, hx, hL, _⟩ := rdU_lies h1
      have hle := hL.1
      rw [hx, bneF rfl, Bool.false_or]
      by_cases h2 : x > 4000
      · rw [decT (by omega), if_pos rfl, if_pos (Or.inr h2)]
      · rw [decF (by omega), if_neg (by simp), if_neg (by simp; omega)]
        exact SGet_loop hb x (by omega) _ _ big (i + (encU x).length) [] 0 x (by omega) (by simp) (big_gt (by omega)) (by omega) (by simp)
    · rw [bneT h1, Bool.true_or, if_pos rfl, if_pos (Or.inl h1)]
theorem zbZ {b : List UInt8} {a : Int} (hb : b.length ≤ 1000000) (ha : 0 ≤ a ∧ a ≤ b.length) : zg b a = some (if (rdU b a).2.2 = 0 ∧ (rdU b a).1 ≤ 16777216 then (((rdU b a).1 : Int), (rdU b a).2.1, true) else (0, 0, false)) := by
  unfold zg
  rw [F_rU (by omega) (by omega), Option.bind_some]
  simp only
  by_cases h : (rdU b a).2.2 = 0 ∧ (rdU b a).1 ≤ 16777216
  · rw [if_neg (by simp only [Bool.or_eq_true, bne_iff_ne, decide_eq_true_eq, ne_eq]; omega), if_pos h, wi64 (by omega)]
  · rw [if_pos (by simp only [Bool.or_eq_true, bne_iff_ne, decide_eq_true_eq, ne_eq]; omega), if_neg h]
theorem rSGet_loop {b : List UInt8} (hb : b.length ≤ 1000000) (m : Nat) (hm : m ≤ 4000) (q : Int) (w : Bool) : ∀ (n i : Nat) (acc : List Sp) (last : Int) (k : Nat), i ≤ b.length → acc.length + k = m → k < n → 0 ≤ last ∧ last ≤ 16777216 → (∀ x ∈ acc, x.At.length ≤ 16) →
    z7 b ((m : Int), q, w) n (i : Int) acc last (acc.length : Int) = some (gsE (gs b k i last) acc)
  | 0, i, acc, _, k, _, _, h, _, _ => by omega
  | n + 1, i, acc, last, 0, hi, hk, hn, hl, hacc => by
    show zp _ b _ (i : Int) acc last (acc.length : Int) = _
    unfold zp
    simp only
    rw [decF (by omega), if_neg (by simp), zdm ⟨by omega, fun x hx => by have := hacc x hx; omega⟩, Option.bind_some, gs, gsE]
    simp only [List.append_nil]
    cases St acc <;> rfl
  | n + 1, i, acc, last, k + 1, hi, hk, hn, hl, hacc => by
    have ih := fun j x l h h2 h3 => rSGet_loop hb m hm q w n j (acc ++ [x]) l k h (by simp; omega) (by omega) h2 h3
    simp only [List.length_append, List.length_singleton] at ih
    show zp _ b _ (i : Int) acc last (acc.length : Int) = _
    unfold zp
    simp only
    rw [decT (by omega), if_pos rfl, gs, zbZ hb (by omega), Option.bind_some]
    by_cases h1 : (rdU b i).2.2 = 0 ∧ (rdU b i).1 ≤ 16777216
    · obtain ⟨i1, u, e1, hu, L1, -⟩ := rdU_lies h1.1
      have g1 := L1.1
      rw [if_pos h1, spn, if_pos h1, hu]
      rw [hu] at h1
      simp only at h1 ⊢
      rw [Bool.not_true, if_neg (by simp), zbZ hb (by omega), Option.bind_some]
      by_cases h2 : (rdU b ((i1 + (encU u).length : Nat) : Int)).2.2 = 0 ∧ (rdU b ((i1 + (encU u).length : Nat) : Int)).1 ≤ 16777216
      · obtain ⟨i2, v, e2, hv, L2, -⟩ := rdU_lies h2.1
        have g2 := L2.1
        rw [if_pos h2, if_pos h2, hv]
        rw [hv] at h2
        simp only at h2 ⊢
        rw [Bool.not_true, if_neg (by simp), zdq hb, Option.bind_some]
        by_cases h3 : (getL b ((i2 + (encU v).length : Nat) : Int)).2.2 = 0
        · obtain ⟨A, i3, e3, hA, L3, hR, -⟩ := getL_err _ _ h3
          have g3 := L3.1
          have h16 := (Rt_ok hR).2.1
          rw [hA]
          simp only
          rw [bneF rfl, if_neg (by simp), room_ok (by omega), Option.bind_some, wi64 (x := last + (u : Int)) (by omega), wi64 (x := last + (u : Int) + (v : Int)) (by omega)]
          by_cases h4 : last + (u : Int) + (v : Int) ≤ 16777216
          · rw [decF (by omega), if_neg (by simp), if_pos ⟨trivial, h4⟩, Option.bind_some, gsE_map, Int.toNat_natCast, i64_succ (by omega)]
            refine ih _ _ _ (by omega) ⟨by omega, h4⟩ ?_
            intro x hx
            rcases List.mem_append.1 hx with hx | hx
            · exact hacc x hx
            · rw [List.mem_singleton.1 hx]; exact h16
          · rw [decT (by omega), if_pos rfl, if_neg (fun h => h4 h.2)]
            rfl
        · rw [bneT h3, if_pos rfl, if_neg (fun h => h3 h.1)]
          rfl
      · rw [if_neg h2, if_neg h2]
        rfl
    · rw [if_neg h1, spn, if_neg h1]
      rfl
theorem num7A {b : List UInt8} {a z : Int} {x : Nat} (hb : b.length ≤ 1000000) (ha : 0 ≤ a ∧ a ≤ b.length) (h : rdU b a = (x, z, 0)) (hx : x ≤ 16777216) : zg b a = some ((x : Int), z, true) := by
  rw [zbZ hb ha, h, if_pos ⟨rfl, hx⟩]
theorem num7B {b : List UInt8} {a : Int} (hb : b.length ≤ 1000000) (ha : 0 ≤ a ∧ a ≤ b.length) (h : ¬ ((rdU b a).2.2 = 0 ∧ (rdU b a).1 ≤ 16777216)) : zg b a = some (0, 0, false) := by
  rw [zbZ hb ha, if_neg h]
theorem zcX {b : List UInt8} {a : Int} (hb : b.length ≤ 1000000) : zM b a = some (getS b a) := by
  unfold zM getS
  by_cases hc : a < 0 ∨ a > b.length
  · rw [if_pos (by simpa using hc), if_pos hc]
  · rw [if_neg (by simpa using hc), if_neg hc]
    by_cases h1 : (rdU b a).2.2 = 0
    · obtain ⟨i, x, hi, hx, hL, _⟩ := rdU_lies h1
      have hle := hL.1
      by_cases h2 : x > 4000
      · rw [if_pos (Or.inr (by rw [hx]; exact h2))]
        by_cases h3 : x ≤ 16777216
        · rw [num7A hb (by omega) hx h3, Option.bind_some]
          simp only
          rw [decT (by omega), Bool.or_true, if_pos rfl]
        · rw [num7B hb (by omega) (by rw [hx]; exact fun h => h3 h.2), Option.bind_some]
          rfl
      · rw [num7A hb (by omega) hx (by omega), Option.bind_some]
        simp only
        rw [decF (show ¬ (x : Int) > 4000 by omega), Bool.not_true, Bool.or_self, if_neg (by simp), if_neg (by rw [hx]; simp; omega), hx]
        exact rSGet_loop hb x (by omega) _ _ big (i + (encU x).length) [] 0 x (by omega) (by simp) (big_gt (by omega)) (by omega) (by simp)
    · rw [if_pos (Or.inl h1), num7B hb (by omega) (fun h => h1 h.1), Option.bind_some]
      rfl
theorem gs_lies {b : List UInt8} : ∀ (k i : Nat) (last : Int) (l : List Sp) (q : Nat), i ≤ b.length → gs b k i last = some (l, q) → LiesL b i (encSs last l) ∧ q = i + (encSs last l).length ∧ l.length = k ∧ (∀ x ∈ l, inr x.At ∧ Rt x.At = true)
  | 0, i, last, l, q, hi, h => by
    rw [gs] at h
    injection h with h
    injection h with h1 h2
    subst h1; subst h2
    exact ⟨LiesL.nil hi, by simp [encSs], rfl, fun _ h => (nomatch h)⟩
  | k + 1, i, last, l, q, hi, h => by
    rw [gs] at h
    obtain ⟨⟨x, j⟩, h1, h2⟩ := Option.bind_eq_some_iff.1 h
    obtain ⟨⟨m, q2⟩, h3, h4⟩ := Option.map_eq_some_iff.1 h2
    injection h4 with h4 h5
    subst h4; subst h5
    obtain ⟨g1, g2, g3, g4, g5, g6, g7⟩ := spn_some h1
    have g8 := g1.1
    simp only at h3
    obtain ⟨f1, f2, f3, f4⟩ := gs_lies k j x.To m q2 (by omega) h3
    rw [g2] at f1
    show LiesL b i (encSs last (x :: m)) ∧ q2 = i + (encSs last (x :: m)).length ∧ (x :: m).length = k + 1 ∧ ∀ y ∈ x :: m, inr y.At ∧ Rt y.At = true
    rw [encSs]
    refine ⟨g1.app f1, by rw [List.length_append, f2, g2]; omega, by simp; omega, ?_⟩
    intro y hy
    rcases List.mem_cons.1 hy with rfl | hy
    · exact ⟨g7, g6⟩
    · exact f4 y hy
theorem getS_cases (b : List UInt8) (a : Int) : (getS b a = ([], 0, 1) ∨ getS b a = ([], 0, 5)) ∨ ∃ (l : List Sp) (i : Nat), a = i ∧ getS b a = (l, ((i + (encSp l).length : Nat) : Int), 0) ∧ LiesL b i (encSp l) ∧ St l = true ∧ ∀ x ∈ l, inr x.At ∧ Rt x.At = true := by
  unfold getS
  split
  · exact Or.inl (Or.inl rfl)
  · split
    · exact Or.inl (Or.inr rfl)
    · rename_i h1 h2
      obtain ⟨i, x, hi, hx, hL, _⟩ := rdU_lies (b := b) (a := a) (by omega)
      have hle := hL.1
      rw [hx]
      simp only [Int.toNat_natCast]
      cases hg : gs b x (i + (encU x).length) 0 with
      | none => exact Or.inl (Or.inr rfl)
      | some p =>
        obtain ⟨l, q⟩ := p
        obtain ⟨g1, g2, g3, g4⟩ := gs_lies _ _ _ _ _ (by omega) hg
        simp only [gsE, List.nil_append]
        cases hR : St l
        · exact Or.inl (Or.inr rfl)
        · refine Or.inr ⟨l, i, hi, ?_, ?_, hR, g4⟩
          · rw [if_pos rfl, g2, encSp, g3, List.length_append, Nat.add_assoc]
          · rw [encSp, g3]; exact hL.app g1
end Go.Proofs.Ytjcehfjmmbbblaa
