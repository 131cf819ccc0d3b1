import Derived.Test.YtckcngkkofemjaaGreatP_07
namespace Go.Proofs.YtckcngkkofemjaaGreat
open Go.Ab Go.RowKit
set_option linter.unusedVariables false
set_option linter.unusedSimpArgs false
def zfM (last : Int) (x : Sp) : List UInt8 := zS (x.From - last).toNat ++ (zS (x.To - x.From).toNat ++ zcV x.At)
def zc9 : Int → List Sp → List UInt8
 | _, [] => []
 | last, x :: l => zfM last x ++ zc9 x.To l
def zdp (l : List Sp) : List UInt8 := zS l.length ++ zc9 0 l
theorem zmy {last : Int} {x : Sp} {l : List Sp} (h : rtS last (x :: l) = true) : okS last x ∧ Rt x.At = true ∧ rtS x.To l = true := by
 simp only [rtS, Bool.and_eq_true, decide_eq_true_eq] at h
 exact ⟨h.1.1, h.1.2, h.2⟩
def spn (b : List UInt8) (i : Nat) (last : Int) : Option (Sp × Nat) :=
 if (rdU b i).2.2 = 0 ∧ (rdU b i).1 ≤ 16777216 then
  (if (rdU b (rdU b i).2.1).2.2 = 0 ∧ (rdU b (rdU b i).2.1).1 ≤ 16777216 then
   (if (zbZ b (rdU b (rdU b i).2.1).2.1).2.2 = 0 ∧ last + (rdU b i).1 + (rdU b (rdU b i).2.1).1 ≤ 16777216 then
    some (⟨last + (rdU b i).1, last + (rdU b i).1 + (rdU b (rdU b i).2.1).1, (zbZ b (rdU b (rdU b i).2.1).2.1).1⟩, (zbZ b (rdU b (rdU b i).2.1).2.1).2.1.toNat) else none) else none) else none
theorem ziL (b : List UInt8) (a : Int) (h : (zbZ b a).2.2 = 0) : ∃ (l : List Lc) (i : Nat), a = i ∧ zbZ b a = (l, ((i + (zcV l).length : Nat) : Int), 0) ∧ zbA b i (zcV l) ∧ Rt l = true ∧ inr l := by
 rcases zpr b a with (h1 | h1) | h1
 ·rw [h1] at h; cases h
 ·rw [h1] at h; cases h
 ·exact h1
theorem zks {b : List UInt8} {i : Nat} {last : Int} {x : Sp} {q : Nat} (h : spn b i last = some (x, q)) : zbA b i (zfM last x) ∧ q = i + (zfM last x).length ∧ last ≤ x.From ∧ x.From ≤ x.To ∧ x.To ≤ 16777216 ∧ Rt x.At = true ∧ inr x.At := by
 unfold spn at h
 split at h
 ·rename_i h1
  split at h
  ·rename_i h2
   split at h
   ·rename_i h3
    obtain ⟨i1, u, e1, hu, L1, -⟩ := zcf h1.1
    obtain rfl : i = i1 := by omega
    rw [hu] at h h2 h3 h1
    simp only at h h2 h3 h1
    obtain ⟨i2, v, e2, hv, L2, -⟩ := zcf h2.1
    obtain rfl : i + (zS u).length = i2 := by omega
    rw [hv] at h h2 h3
    simp only at h h2 h3
    obtain ⟨A, i3, e3, hA, L3, hR, hr⟩ := ziL _ _ h3.1
    obtain rfl : i + (zS u).length + (zS v).length = i3 := by omega
    rw [hA] at h
    simp only at h
    injection h with h
    injection h with h4 h5
    subst h4
    have hx : zfM last ⟨last + (u : Int), last + (u : Int) + (v : Int), A⟩ = zS u ++ (zS v ++ zcV A) := by
     unfold zfM
     simp only
     rw [show (last + (u : Int) - last).toNat = u by omega, show (last + (u : Int) + (v : Int) - (last + (u : Int))).toNat = v by omega]
    rw [hx]
    refine ⟨L1.app (L2.app L3), ?_, by simp only; omega, by simp only; omega, h3.2, hR, hr⟩
    simp only [List.length_append]
    omega
   ·cases h
  ·cases h
 ·cases h
def gs (b : List UInt8) : Nat → Nat → Int → Option (List Sp × Nat)
 | 0, i, _ => some ([], i)
 | k + 1, i, last => (spn b i last).bind fun p => (gs b k p.2 p.1.To).map fun r => (p.1 :: r.1, r.2)
def gsE (r : Option (List Sp × Nat)) (acc : List Sp) : List Sp × Int × Int := match r with
 | none => ([], 0, 5)
 | some p => if St (acc ++ p.1) = true then (acc ++ p.1, (p.2 : Int), 0) else ([], 0, 5)
theorem zkz (r : Option (List Sp × Nat)) (acc : List Sp) (x : Sp) : gsE (r.map fun p => (x :: p.1, p.2)) acc = gsE r (acc ++ [x]) := by
 cases r <;> simp [gsE]
def zb6 (b : List UInt8) (a : Int) : List Sp × Int × Int := if a < 0 ∨ a > b.length then ([], 0, 1) else if (rdU b a).2.2 ≠ 0 ∨ (rdU b a).1 > 4000 then ([], 0, 5) else gsE (gs b (rdU b a).1 (rdU b a).2.1.toNat 0) []
theorem zqg {b : List UInt8} {i : Nat} {last : Int} (hb : b.length ≤ 100000000000) (hi : i ≤ b.length) (hl : 0 ≤ last ∧ last ≤ 16777216) : ∃ r, zfV b (i : Int) last = some r ∧ ((r.2.2 = false ∧ spn b i last = none) ∨ (r.2.2 = true ∧ ∃ q : Nat, r.2.1 = q ∧ spn b i last = some (r.1, q))) := by
 unfold zfV spn
 rw [F_U (by omega) (by omega), Option.bind_some]
 simp only
 by_cases h1 : (rdU b i).2.2 = 0 ∧ (rdU b i).1 ≤ 16777216
 ·obtain ⟨i1, u, e1, hu, L1, -⟩ := zcf h1.1
  have g1 := L1.1
  rw [if_neg (by simp only [Bool.or_eq_true, bne_iff_ne, decide_eq_true_eq, ne_eq]; omega), if_pos h1, hu]
  rw [hu] at h1
  simp only at h1 ⊢
  rw [F_U (by omega) (by omega), Option.bind_some]
  simp only
  by_cases h2 : (rdU b ((i1 + (zS u).length : Nat) : Int)).2.2 = 0 ∧ (rdU b ((i1 + (zS u).length : Nat) : Int)).1 ≤ 16777216
  ·obtain ⟨i2, v, e2, hv, L2, -⟩ := zcf h2.1
   have g2 := L2.1
   rw [if_neg (by simp only [Bool.or_eq_true, bne_iff_ne, decide_eq_true_eq, ne_eq]; omega), if_pos h2, hv]
   rw [hv] at h2
   simp only at h2 ⊢
   rw [zpB hb, Option.bind_some]
   have w1 : IntKind.i64.wrap (last + IntKind.i64.wrap (u : Int)) = last + u := by rw [zbc (x := (u : Int)) (by omega), zbc (by omega)]
   have w2 : IntKind.i64.wrap (last + (u : Int) + IntKind.i64.wrap (v : Int)) = last + u + v := by rw [zbc (x := (v : Int)) (by omega), zbc (by omega)]
   rw [w1, w2]
   refine ⟨_, rfl, ?_⟩
   by_cases h3 : (zbZ b ((i2 + (zS v).length : Nat) : Int)).2.2 = 0 ∧ last + (u : Int) + (v : Int) ≤ 16777216
   ·right
    rw [if_pos h3, zbO h3.1, zv h3.2]
    obtain ⟨A, i3, e3, hA, L3, -⟩ := ziL _ _ h3.1
    exact ⟨rfl, i3 + (zcV A).length, by rw [hA], by rw [hA, Int.toNat_natCast]⟩
   ·left
    rw [if_neg h3]
    refine ⟨?_, rfl⟩
    by_cases h4 : (zbZ b ((i2 + (zS v).length : Nat) : Int)).2.2 = 0
    ·rw [zx (fun h => h3 ⟨h4, h⟩), Bool.and_false]
    ·rw [zbJ h4, Bool.false_and]
  ·rw [if_pos (by simp only [Bool.or_eq_true, bne_iff_ne, decide_eq_true_eq, ne_eq]; omega), if_neg h2]
   exact ⟨_, rfl, .inl ⟨rfl, rfl⟩⟩
 ·rw [if_pos (by simp only [Bool.or_eq_true, bne_iff_ne, decide_eq_true_eq, ne_eq]; omega), if_neg h1]
  exact ⟨_, rfl, .inl ⟨rfl, rfl⟩⟩
theorem zj0 {b : List UInt8} (hb : b.length ≤ 100000000000) (m : Nat) (hm : m ≤ 4000) (q w : Int) : ∀ (n i : Nat) (acc : List Sp) (last : Int) (k : Nat), i ≤ b.length → acc.length + k = m → k < n → 0 ≤ last ∧ last ≤ 16777216 → (∀ x ∈ acc, x.At.length ≤ 16) →
  zeT b ((m : Int), q, w) n acc (i : Int) last (acc.length : Int) = some (gsE (gs b k i last) acc)
 | 0, i, acc, _, k, _, _, h, _, _ => by omega
 | n + 1, i, acc, last, 0, hi, hk, hn, hl, hacc => by
  show zdH _ b _ acc (i : Int) last (acc.length : Int) = _
  unfold zdH
  simp only
  rw [zx (by omega), if_neg (by simp), zlZ ⟨by omega, fun x hx => by have := hacc x hx; omega⟩, Option.bind_some, gs, gsE]
  simp only [List.append_nil]
  cases St acc <;> rfl
 | n + 1, i, acc, last, k + 1, hi, hk, hn, hl, hacc => by
  have ih := fun j x l h h2 h3 => zj0 hb m hm q w n j (acc ++ [x]) l k h (by simp; omega) (by omega) h2 h3
  simp only [List.length_append, List.length_singleton] at ih
  show zdH _ b _ acc (i : Int) last (acc.length : Int) = _
  unfold zdH
  have hw : IntKind.u64.wrap ((acc.length : Int) + 1) = ((acc.length + 1 : Nat) : Int) := by rw [zdo]; omega
  obtain ⟨r, hr, hr2⟩ := zqg hb hi hl
  simp only
  rw [zv (by omega), if_pos rfl, gs, hw, hr, Option.bind_some]
  rcases hr2 with ⟨h1, h2⟩ | ⟨h1, z, h2, h3⟩
  ·rw [h1, Bool.not_false, if_pos rfl, h2]
   rfl
  ·obtain ⟨g1, g2, g3, g4, g5, g6, g7⟩ := zks h3
   have g8 := g1.1
   have h16 := (zjh g6).2.1
   rw [h1, Bool.not_true, if_neg (by simp), zbF (by simp; omega), Option.bind_some, h3, Option.bind_some, zkz, h2]
   refine ih z r.1 r.1.To (by omega) ⟨by omega, g5⟩ ?_
   intro x hx
   rcases List.mem_append.1 hx with hx | hx
   ·exact hacc x hx
   ·rw [List.mem_singleton.1 hx]; exact h16
theorem zjN {b : List UInt8} {a : Int} (hb : b.length ≤ 100000000000) : zfk b a = some (zb6 b a) := by
 unfold zfk zb6
 by_cases hc : a < 0 ∨ a > b.length
 ·rw [if_pos (by simpa using hc), if_pos hc]
 ·rw [if_neg (by simpa using hc), if_neg hc, F_U (by omega) (by omega), Option.bind_some]
  simp only
  by_cases h1 : (rdU b a).2.2 = 0
  ·obtain ⟨i, x, hi, hx, hL, _⟩ := zcf h1
   have hle := hL.1
   rw [hx, zbI rfl, Bool.false_or]
   by_cases h2 : x > 4000
   ·rw [zv (by omega), if_pos rfl, if_pos (Or.inr h2)]
   ·rw [zx (by omega), if_neg (by simp), if_neg (by simp; omega)]
    exact zj0 hb x (by omega) _ _ big (i + (zS x).length) [] 0 x (by omega) (by simp) (zbj (by omega)) (by omega) (by simp)
  ·rw [zbP h1, Bool.true_or, if_pos rfl, if_pos (Or.inl h1)]
theorem zhq {b : List UInt8} {a : Int} (hb : b.length ≤ 100000000000) (ha : 0 ≤ a ∧ a ≤ b.length) : zc4 b a = some (if (rdU b a).2.2 = 0 ∧ (rdU b a).1 ≤ 16777216 then (((rdU b a).1 : Int), (rdU b a).2.1, true) else (0, 0, false)) := by
 unfold zc4
 rw [zjx (by omega) (by omega), Option.bind_some]
 simp only
 by_cases h : (rdU b a).2.2 = 0 ∧ (rdU b a).1 ≤ 16777216
 ·rw [if_neg (by simp only [Bool.or_eq_true, bne_iff_ne, decide_eq_true_eq, ne_eq]; omega), if_pos h, zbc (by omega)]
 ·rw [if_pos (by simp only [Bool.or_eq_true, bne_iff_ne, decide_eq_true_eq, ne_eq]; omega), if_neg h]
theorem zlA {b : List UInt8} (hb : b.length ≤ 100000000000) (m : Nat) (hm : m ≤ 4000) (q : Int) (w : Bool) : ∀ (n i : Nat) (acc : List Sp) (last : Int) (k : Nat), i ≤ b.length → acc.length + k = m → k < n → 0 ≤ last ∧ last ≤ 16777216 → (∀ x ∈ acc, x.At.length ≤ 16) →
  ze9 b ((m : Int), q, w) n (i : Int) acc last (acc.length : Int) = some (gsE (gs b k i last) acc)
 | 0, i, acc, _, k, _, _, h, _, _ => by omega
 | n + 1, i, acc, last, 0, hi, hk, hn, hl, hacc => by
  show zdB _ b _ (i : Int) acc last (acc.length : Int) = _
  unfold zdB
  simp only
  rw [zx (by omega), if_neg (by simp), zlJ ⟨by omega, fun x hx => by have := hacc x hx; omega⟩, Option.bind_some, gs, gsE]
  simp only [List.append_nil]
  cases St acc <;> rfl
 | n + 1, i, acc, last, k + 1, hi, hk, hn, hl, hacc => by
  have ih := fun j x l h h2 h3 => zlA hb m hm q w n j (acc ++ [x]) l k h (by simp; omega) (by omega) h2 h3
  simp only [List.length_append, List.length_singleton] at ih
  show zdB _ b _ (i : Int) acc last (acc.length : Int) = _
  unfold zdB
  simp only
  rw [zv (by omega), if_pos rfl, gs, zhq hb (by omega), Option.bind_some]
  by_cases h1 : (rdU b i).2.2 = 0 ∧ (rdU b i).1 ≤ 16777216
  ·obtain ⟨i1, u, e1, hu, L1, -⟩ := zcf h1.1
   have g1 := L1.1
   rw [if_pos h1, spn, if_pos h1, hu]
   rw [hu] at h1
   simp only at h1 ⊢
   rw [Bool.not_true, if_neg (by simp), zhq hb (by omega), Option.bind_some]
   by_cases h2 : (rdU b ((i1 + (zS u).length : Nat) : Int)).2.2 = 0 ∧ (rdU b ((i1 + (zS u).length : Nat) : Int)).1 ≤ 16777216
   ·obtain ⟨i2, v, e2, hv, L2, -⟩ := zcf h2.1
    have g2 := L2.1
    rw [if_pos h2, if_pos h2, hv]
    rw [hv] at h2
    simp only at h2 ⊢
    rw [Bool.not_true, if_neg (by simp), zpA hb, Option.bind_some]
    by_cases h3 : (zbZ b ((i2 + (zS v).length : Nat) : Int)).2.2 = 0
    ·obtain ⟨A, i3, e3, hA, L3, hR, -⟩ := ziL _ _ h3
     have g3 := L3.1
     have h16 := (zjh hR).2.1
     rw [hA]
     simp only
     rw [zbI rfl, if_neg (by simp), zbF (by omega), Option.bind_some, zbc (x := last + (u : Int)) (by omega), zbc (x := last + (u : Int) + (v : Int)) (by omega)]
     by_cases h4 : last + (u : Int) + (v : Int) ≤ 16777216
     ·rw [zx (by omega), if_neg (by simp), if_pos ⟨trivial, h4⟩, Option.bind_some, zkz, Int.toNat_natCast, zbh (by omega)]
      refine ih _ _ _ (by omega) ⟨by omega, h4⟩ ?_
      intro x hx
      rcases List.mem_append.1 hx with hx | hx
      ·exact hacc x hx
      ·rw [List.mem_singleton.1 hx]; exact h16
     ·rw [zv (by omega), if_pos rfl, if_neg (fun h => h4 h.2)]
      rfl
    ·rw [zbP h3, if_pos rfl, if_neg (fun h => h3 h.1)]
     rfl
   ·rw [if_neg h2, if_neg h2]
    rfl
  ·rw [if_neg h1, spn, if_neg h1]
   rfl
theorem zjQ {b : List UInt8} {a z : Int} {x : Nat} (hb : b.length ≤ 100000000000) (ha : 0 ≤ a ∧ a ≤ b.length) (h : rdU b a = (x, z, 0)) (hx : x ≤ 16777216) : zc4 b a = some ((x : Int), z, true) := by
 rw [zhq hb ha, h, if_pos ⟨rfl, hx⟩]
theorem zkF {b : List UInt8} {a : Int} (hb : b.length ≤ 100000000000) (ha : 0 ≤ a ∧ a ≤ b.length) (h : ¬ ((rdU b a).2.2 = 0 ∧ (rdU b a).1 ≤ 16777216)) : zc4 b a = some (0, 0, false) := by
 rw [zhq hb ha, if_neg h]
theorem znS {b : List UInt8} {a : Int} (hb : b.length ≤ 100000000000) : zgK b a = some (zb6 b a) := by
 unfold zgK zb6
 by_cases hc : a < 0 ∨ a > b.length
 ·rw [if_pos (by simpa using hc), if_pos hc]
 ·rw [if_neg (by simpa using hc), if_neg hc]
  by_cases h1 : (rdU b a).2.2 = 0
  ·obtain ⟨i, x, hi, hx, hL, _⟩ := zcf h1
   have hle := hL.1
   by_cases h2 : x > 4000
   ·rw [if_pos (Or.inr (by rw [hx]; exact h2))]
    by_cases h3 : x ≤ 16777216
    ·rw [zjQ hb (by omega) hx h3, Option.bind_some]
     simp only
     rw [zv (by omega), Bool.or_true, if_pos rfl]
    ·rw [zkF hb (by omega) (by rw [hx]; exact fun h => h3 h.2), Option.bind_some]
     rfl
   ·rw [zjQ hb (by omega) hx (by omega), Option.bind_some]
    simp only
    rw [zx (show ¬ (x : Int) > 4000 by omega), Bool.not_true, Bool.or_self, if_neg (by simp), if_neg (by rw [hx]; simp; omega), hx]
    exact zlA hb x (by omega) _ _ big (i + (zS x).length) [] 0 x (by omega) (by simp) (zbj (by omega)) (by omega) (by simp)
  ·rw [if_pos (Or.inl h1), zkF hb (by omega) (fun h => h1 h.1), Option.bind_some]
   rfl
theorem zlU {b : List UInt8} : ∀ (k i : Nat) (last : Int) (l : List Sp) (q : Nat), i ≤ b.length → gs b k i last = some (l, q) → zbA b i (zc9 last l) ∧ q = i + (zc9 last l).length ∧ l.length = k ∧ (∀ x ∈ l, inr x.At ∧ Rt x.At = true)
 | 0, i, last, l, q, hi, h => by
  rw [gs] at h
  injection h with h
  injection h with h1 h2
  subst h1; subst h2
  exact ⟨zbA.nil hi, by simp [zc9], rfl, fun _ h => (nomatch h)⟩
 | k + 1, i, last, l, q, hi, h => by
  rw [gs] at h
  obtain ⟨⟨x, j⟩, h1, h2⟩ := Option.bind_eq_some_iff.1 h
  obtain ⟨⟨m, q2⟩, h3, h4⟩ := Option.map_eq_some_iff.1 h2
  injection h4 with h4 h5
  subst h4; subst h5
  obtain ⟨g1, g2, g3, g4, g5, g6, g7⟩ := zks h1
  have g8 := g1.1
  simp only at h3
  obtain ⟨f1, f2, f3, f4⟩ := zlU k j x.To m q2 (by omega) h3
  rw [g2] at f1
  show zbA b i (zc9 last (x :: m)) ∧ q2 = i + (zc9 last (x :: m)).length ∧ (x :: m).length = k + 1 ∧ ∀ y ∈ x :: m, inr y.At ∧ Rt y.At = true
  rw [zc9]
  refine ⟨g1.app f1, by rw [List.length_append, f2, g2]; omega, by simp; omega, ?_⟩
  intro y hy
  rcases List.mem_cons.1 hy with rfl | hy
  ·exact ⟨g7, g6⟩
  ·exact f4 y hy
theorem zp4 (b : List UInt8) (a : Int) : (zb6 b a = ([], 0, 1) ∨ zb6 b a = ([], 0, 5)) ∨ ∃ (l : List Sp) (i : Nat), a = i ∧ zb6 b a = (l, ((i + (zdp l).length : Nat) : Int), 0) ∧ zbA b i (zdp l) ∧ St l = true ∧ ∀ x ∈ l, inr x.At ∧ Rt x.At = true := by
 unfold zb6
 split
 ·exact Or.inl (Or.inl rfl)
 ·split
  ·exact Or.inl (Or.inr rfl)
  ·rename_i h1 h2
   obtain ⟨i, x, hi, hx, hL, _⟩ := zcf (b := b) (a := a) (by omega)
   have hle := hL.1
   rw [hx]
   simp only [Int.toNat_natCast]
   cases hg : gs b x (i + (zS x).length) 0 with
   | none => exact Or.inl (Or.inr rfl)
   | some p =>
    obtain ⟨l, q⟩ := p
    obtain ⟨g1, g2, g3, g4⟩ := zlU _ _ _ _ _ (by omega) hg
    simp only [gsE, List.nil_append]
    cases hR : St l
    ·exact Or.inl (Or.inr rfl)
    ·refine Or.inr ⟨l, i, hi, ?_, ?_, hR, g4⟩
     ·rw [if_pos rfl, g2, zdp, g3, List.length_append, Nat.add_assoc]
     ·rw [zdp, g3]; exact hL.app g1
end Go.Proofs.YtckcngkkofemjaaGreat
