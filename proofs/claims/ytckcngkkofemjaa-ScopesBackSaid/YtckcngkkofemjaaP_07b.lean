import Derived.Test.YtckcngkkofemjaaAd
import Derived.Test.YtckcngkkofemjaaF
import Derived.Test.YtckcngkkofemjaaPL
import Derived.Test.YtckcngkkofemjaaP_02
import Derived.Test.YtckcngkkofemjaaP_06
import Derived.Test.YtckcngkkofemjaaP_06b
import Derived.Test.YtckcngkkofemjaaP_06c
import Derived.Test.YtckcngkkofemjaaP_07
namespace Go.Proofs.Ytckcngkkofemjaa
open Go.Ab Go.RowKit
set_option linter.unusedVariables false
set_option linter.unusedSimpArgs false
def encS1 (last : Int) (x : Sp) : List UInt8 := encU (x.From - last).toNat ++ (encU (x.To - x.From).toNat ++ encL x.At)
def encSs : Int → List Sp → List UInt8
  | _, [] => []
  | last, x :: l => encS1 last x ++ encSs x.To l
def encSp (l : List Sp) : List UInt8 := encU l.length ++ encSs 0 l
theorem encS1_len {last : Int} {x : Sp} (h0 : 0 ≤ last) (h : okS last x) (hR : Rt x.At = true) (hr : inr x.At) : 1 ≤ (encS1 last x).length ∧ (encS1 last x).length ≤ 220 := by
  unfold okS at h
  have h1 := encU_le10 (x := (x.From - last).toNat) (by omega)
  have h2 := encU_le10 (x := (x.To - x.From).toNat) (by omega)
  have h3 := encU_pos (x.From - last).toNat
  have h4 := encL_len hr (Rt_ok hR).2.1
  unfold encS1
  rw [List.length_append, List.length_append]
  omega
theorem rtS_cons {last : Int} {x : Sp} {l : List Sp} (h : rtS last (x :: l) = true) : okS last x ∧ Rt x.At = true ∧ rtS x.To l = true := by
  simp only [rtS, Bool.and_eq_true, decide_eq_true_eq] at h
  exact ⟨h.1.1, h.1.2, h.2⟩
theorem encSs_len : ∀ {l : List Sp} {last : Int}, rtS last l = true → 0 ≤ last → (∀ x ∈ l, inr x.At) → (encSs last l).length ≤ 220 * l.length
  | [], _, _, _, _ => by simp [encSs]
  | x :: l, last, h, h0, hr => by
    obtain ⟨h1, h2, h3⟩ := rtS_cons h
    have h4 := encS1_len h0 h1 h2 (hr x (by simp))
    unfold okS at h1
    have h5 := encSs_len h3 (by omega) fun y hy => hr y (List.mem_cons_of_mem _ hy)
    rw [encSs, List.length_append, List.length_cons]
    omega
theorem SPut_loop (l : List Sp) (hl : l.length ≤ 4000) : ∀ (n i : Nat) (b : List UInt8) (last : Int), i ≤ l.length → l.length - i < n → b.length ≤ 80000000010 + 220 * i → rtS last (l.drop i) = true → 0 ≤ last → (∀ x ∈ l, inr x.At) →
    zcZ l n b last (i : Int) = some (b ++ encSs last (l.drop i), 0)
  | 0, i, _, _, _, h, _, _, _, _ => by omega
  | n + 1, i, b, last, hi, h, hb, hR, h0, hr => by
    show zbU _ l b last (i : Int) = _
    unfold zbU
    by_cases hlt : i < l.length
    · rw [List.drop_eq_getElem_cons hlt] at hR ⊢
      obtain ⟨h1, h2, h3⟩ := rtS_cons hR
      have hin := hr l[i] (List.getElem_mem hlt)
      have h4 := encS1_len h0 h1 h2 hin
      have hok := h1
      unfold okS at h1
      have h16 := (Rt_ok h2).2.1
      have w1 : IntKind.u64.wrap (IntKind.i64.wrap (l[i].From - last)) = (((l[i].From - last).toNat : Nat) : Int) := by rw [wi64 (by omega), wu64 (by omega)]; omega
      have w2 : IntKind.u64.wrap (IntKind.i64.wrap (l[i].To - l[i].From)) = (((l[i].To - l[i].From).toNat : Nat) : Int) := by rw [wi64 (by omega), wu64 (by omega)]; omega
      have e1 := encU_le10 (x := (l[i].From - last).toNat) (by omega)
      have e2 := encU_le10 (x := (l[i].To - l[i].From).toNat) (by omega)
      rw [decT (by omega), if_pos rfl, getI_lt hlt, Option.bind_some, w1, zX (by omega) (by omega), Option.bind_some, w2, zX (by simp; omega) (by omega), Option.bind_some, zfd (by omega) hin (by simp; omega), if_pos h2, Option.bind_some, i64_succ (by omega)]
      have ih := SPut_loop l hl n (i + 1) (b ++ encU (l[i].From - last).toNat ++ encU (l[i].To - l[i].From).toNat ++ encL l[i].At) l[i].To (by omega) (by omega) (by unfold encS1 at h4; simp only [List.length_append] at h4 ⊢; omega) h3 (by omega) hr
      refine Eq.trans ih ?_
      rw [encSs, encS1]
      simp
    · rw [decF (by omega), if_neg (by simp), List.drop_of_length_le (by omega), encSs, List.append_nil]
theorem zei {b : List UInt8} {l : List Sp} (hs : smS l) (hr : ∀ x ∈ l, inr x.At) (hb : b.length ≤ 80000000000) : zbR b l = some (if St l = true then (b ++ encSp l, 0) else ([], 1)) := by
  unfold zbR
  rw [zdL hs, Option.bind_some]
  cases hR : St l
  · rw [Bool.not_false, if_pos rfl, if_neg (by simp)]
  · have hR' := hR
    unfold St at hR'
    simp only [Bool.and_eq_true, decide_eq_true_eq] at hR'
    have h10 := encU_le10 (x := l.length) (by omega)
    rw [Bool.not_true, if_neg (by simp), if_pos rfl, wu64 (by omega), zX (by omega) (by omega), Option.bind_some]
    have h := SPut_loop l (by omega) big 0 (b ++ encU l.length) 0 (by omega) (big_gt (by omega)) (by simp; omega) hR'.1 (by omega) hr
    rw [show ((0 : Nat) : Int) = 0 from rfl, List.drop_zero] at h
    rw [h, encSp, List.append_assoc]
def spn (b : List UInt8) (i : Nat) (last : Int) : Option (Sp × Nat) :=
  if (rdU b i).2.2 = 0 ∧ (rdU b i).1 ≤ 16777216 then
    (if (rdU b (rdU b i).2.1).2.2 = 0 ∧ (rdU b (rdU b i).2.1).1 ≤ 16777216 then
      (if (getL b (rdU b (rdU b i).2.1).2.1).2.2 = 0 ∧ last + (rdU b i).1 + (rdU b (rdU b i).2.1).1 ≤ 16777216 then
        some (⟨last + (rdU b i).1, last + (rdU b i).1 + (rdU b (rdU b i).2.1).1, (getL b (rdU b (rdU b i).2.1).2.1).1⟩, (getL b (rdU b (rdU b i).2.1).2.1).2.1.toNat) else none) else none) else none
theorem getL_err (b : List UInt8) (a : Int) (h : (getL b a).2.2 = 0) : ∃ (l : List Lc) (i : Nat), a = i ∧ getL b a = (l, ((i + (encL l).length : Nat) : Int), 0) ∧ LiesL b i (encL l) ∧ Rt l = true ∧ inr l := by
  rcases getL_cases b a with (h1 | h1) | h1
  · rw [h1] at h; cases h
  · rw [h1] at h; cases h
  · exact h1
theorem spn_some {b : List UInt8} {i : Nat} {last : Int} {x : Sp} {q : Nat} (h : spn b i last = some (x, q)) : LiesL b i (encS1 last x) ∧ q = i + (encS1 last x).length ∧ last ≤ x.From ∧ x.From ≤ x.To ∧ x.To ≤ 16777216 ∧ Rt x.At = true ∧ inr x.At := by
  unfold spn at h
  split at h
  · rename_i h1
    split at h
    · rename_i h2
      split at h
      · rename_i h3
        obtain ⟨i1, u, e1, hu, L1, -⟩ := rdU_lies h1.1
        obtain rfl : i = i1 := by omega
        rw [hu] at h h2 h3 h1
        simp only at h h2 h3 h1
        obtain ⟨i2, v, e2, hv, L2, -⟩ := rdU_lies h2.1
        obtain rfl : i + (encU u).length = i2 := by omega
        rw [hv] at h h2 h3
        simp only at h h2 h3
        obtain ⟨A, i3, e3, hA, L3, hR, hr⟩ := getL_err _ _ h3.1
        obtain rfl : i + (encU u).length + (encU v).length = i3 := by omega
        rw [hA] at h
        simp only at h
        injection h with h
        injection h with h4 h5
        subst h4
        have hx : encS1 last ⟨last + (u : Int), last + (u : Int) + (v : Int), A⟩ = encU u ++ (encU v ++ encL A) := by
          unfold encS1
          simp only
          rw [show (last + (u : Int) - last).toNat = u by omega, show (last + (u : Int) + (v : Int) - (last + (u : Int))).toNat = v by omega]
        rw [hx]
        refine ⟨L1.app (L2.app L3), ?_, by simp only; omega, by simp only; omega, h3.2, hR, hr⟩
        simp only [List.length_append]
        omega
      · cases h
    · cases h
  · cases h
theorem spn_put {p r : List UInt8} {last : Int} {x : Sp} (h0 : 0 ≤ last) (h : okS last x) (hR : Rt x.At = true) (hr : inr x.At) : spn (p ++ encS1 last x ++ r) p.length last = some (x, (p ++ encS1 last x).length) := by
  unfold okS at h
  have e1 : p ++ encS1 last x ++ r = p ++ encU (x.From - last).toNat ++ (encU (x.To - x.From).toNat ++ encL x.At ++ r) := by simp [encS1]
  have e2 : p ++ encS1 last x ++ r = (p ++ encU (x.From - last).toNat) ++ encU (x.To - x.From).toNat ++ (encL x.At ++ r) := by simp [encS1]
  have e3 : p ++ encS1 last x ++ r = (p ++ encU (x.From - last).toNat ++ encU (x.To - x.From).toNat) ++ encL x.At ++ r := by simp [encS1]
  have h1 := rdU_put (x := (x.From - last).toNat) (by omega) p (encU (x.To - x.From).toNat ++ encL x.At ++ r)
  have h2 := rdU_put (x := (x.To - x.From).toNat) (by omega) (p ++ encU (x.From - last).toNat) (encL x.At ++ r)
  have h3 := getL_put (p := p ++ encU (x.From - last).toNat ++ encU (x.To - x.From).toNat) (r := r) hr hR
  rw [← e1] at h1
  rw [← e2] at h2
  rw [← e3] at h3
  unfold spn
  rw [h1]
  simp only
  rw [if_pos ⟨trivial, by omega⟩, h2]
  simp only
  rw [if_pos ⟨trivial, by omega⟩, h3]
  simp only
  rw [if_pos ⟨trivial, by omega⟩]
  congr 1
  have hx : (⟨last + (((x.From - last).toNat : Nat) : Int), last + (((x.From - last).toNat : Nat) : Int) + (((x.To - x.From).toNat : Nat) : Int), x.At⟩ : Sp) = x := by
    cases x
    simp only at h ⊢
    congr 1 <;> omega
  rw [hx, Int.toNat_natCast]
  simp [encS1]
def gs (b : List UInt8) : Nat → Nat → Int → Option (List Sp × Nat)
  | 0, i, _ => some ([], i)
  | k + 1, i, last => (spn b i last).bind fun p => (gs b k p.2 p.1.To).map fun r => (p.1 :: r.1, r.2)
def gsE (r : Option (List Sp × Nat)) (acc : List Sp) : List Sp × Int × Int := match r with
  | none => ([], 0, 5)
  | some p => if St (acc ++ p.1) = true then (acc ++ p.1, (p.2 : Int), 0) else ([], 0, 5)
theorem gsE_map (r : Option (List Sp × Nat)) (acc : List Sp) (x : Sp) : gsE (r.map fun p => (x :: p.1, p.2)) acc = gsE r (acc ++ [x]) := by
  cases r <;> simp [gsE]
def getS (b : List UInt8) (a : Int) : List Sp × Int × Int := if a < 0 ∨ a > b.length then ([], 0, 1) else if (rdU b a).2.2 ≠ 0 ∨ (rdU b a).1 > 4000 then ([], 0, 5) else gsE (gs b (rdU b a).1 (rdU b a).2.1.toNat 0) []
theorem zff {b : List UInt8} {i : Nat} {last : Int} (hb : b.length ≤ 100000000000) (hi : i ≤ b.length) (hl : 0 ≤ last ∧ last ≤ 16777216) : ∃ r, zcV b (i : Int) last = some r ∧ ((r.2.2 = false ∧ spn b i last = none) ∨ (r.2.2 = true ∧ ∃ q : Nat, r.2.1 = q ∧ spn b i last = some (r.1, q))) := by
  unfold zcV spn
  rw [F_U (by omega) (by omega), Option.bind_some]
  simp only
  by_cases h1 : (rdU b i).2.2 = 0 ∧ (rdU b i).1 ≤ 16777216
  · obtain ⟨i1, u, e1, hu, L1, -⟩ := rdU_lies h1.1
    have g1 := L1.1
    rw [if_neg (by simp only [Bool.or_eq_true, bne_iff_ne, decide_eq_true_eq, ne_eq]; omega), if_pos h1, hu]
    rw [hu] at h1
    simp only at h1 ⊢
    rw [F_U (by omega) (by omega), Option.bind_some]
    simp only
    by_cases h2 : (rdU b ((i1 + (encU u).length : Nat) : Int)).2.2 = 0 ∧ (rdU b ((i1 + (encU u).length : Nat) : Int)).1 ≤ 16777216
    · obtain ⟨i2, v, e2, hv, L2, -⟩ := rdU_lies h2.1
      have g2 := L2.1
      rw [if_neg (by simp only [Bool.or_eq_true, bne_iff_ne, decide_eq_true_eq, ne_eq]; omega), if_pos h2, hv]
      rw [hv] at h2
      simp only at h2 ⊢
      rw [zeO hb, Option.bind_some]
      have w1 : IntKind.i64.wrap (last + IntKind.i64.wrap (u : Int)) = last + u := by rw [wi64 (x := (u : Int)) (by omega), wi64 (by omega)]
      have w2 : IntKind.i64.wrap (last + (u : Int) + IntKind.i64.wrap (v : Int)) = last + u + v := by rw [wi64 (x := (v : Int)) (by omega), wi64 (by omega)]
      rw [w1, w2]
      refine ⟨_, rfl, ?_⟩
      by_cases h3 : (getL b ((i2 + (encU v).length : Nat) : Int)).2.2 = 0 ∧ last + (u : Int) + (v : Int) ≤ 16777216
      · right
        rw [if_pos h3, beqT h3.1, decT h3.2]
        obtain ⟨A, i3, e3, hA, L3, -⟩ := getL_err _ _ h3.1
        exact ⟨rfl, i3 + (encL A).length, by rw [hA], by rw [hA, Int.toNat_natCast]⟩
      · left
        rw [if_neg h3]
        refine ⟨?_, rfl⟩
        by_cases h4 : (getL b ((i2 + (encU v).length : Nat) : Int)).2.2 = 0
        · rw [decF (fun h => h3 ⟨h4, h⟩), Bool.and_false]
        · rw [beqF h4, Bool.false_and]
    · rw [if_pos (by simp only [Bool.or_eq_true, bne_iff_ne, decide_eq_true_eq, ne_eq]; omega), if_neg h2]
      exact ⟨_, rfl, .inl ⟨rfl, rfl⟩⟩
  · rw [if_pos (by simp only [Bool.or_eq_true, bne_iff_ne, decide_eq_true_eq, ne_eq]; omega), if_neg h1]
    exact ⟨_, rfl, .inl ⟨rfl, rfl⟩⟩
theorem SGet_loop {b : List UInt8} (hb : b.length ≤ 100000000000) (m : Nat) (hm : m ≤ 4000) (q w : Int) : ∀ (n i : Nat) (acc : List Sp) (last : Int) (k : Nat), i ≤ b.length → acc.length + k = m → k < n → 0 ≤ last ∧ last ≤ 16777216 → (∀ x ∈ acc, x.At.length ≤ 16) →
    zbK b ((m : Int), q, w) n acc (i : Int) last (acc.length : Int) = some (gsE (gs b k i last) acc)
  | 0, i, acc, _, k, _, _, h, _, _ => by omega
  | n + 1, i, acc, last, 0, hi, hk, hn, hl, hacc => by
    show z1 _ b _ acc (i : Int) last (acc.length : Int) = _
    unfold z1
    simp only
    rw [decF (by omega), if_neg (by simp), zdL ⟨by omega, fun x hx => by have := hacc x hx; omega⟩, Option.bind_some, gs, gsE]
    simp only [List.append_nil]
    cases St acc <;> rfl
  | n + 1, i, acc, last, k + 1, hi, hk, hn, hl, hacc => by
    have ih := fun j x l h h2 h3 => SGet_loop hb m hm q w n j (acc ++ [x]) l k h (by simp; omega) (by omega) h2 h3
    simp only [List.length_append, List.length_singleton] at ih
    show z1 _ b _ acc (i : Int) last (acc.length : Int) = _
    unfold z1
    have hw : IntKind.u64.wrap ((acc.length : Int) + 1) = ((acc.length + 1 : Nat) : Int) := by rw [wu64_mod]; omega
    obtain ⟨r, hr, hr2⟩ := zff hb hi hl
    simp only
    rw [decT (by omega), if_pos rfl, gs, hw, hr, Option.bind_some]
    rcases hr2 with ⟨h1, h2⟩ | ⟨h1, z, h2, h3⟩
    · rw [h1, Bool.not_false, if_pos rfl, h2]
      rfl
    · obtain ⟨g1, g2, g3, g4, g5, g6, g7⟩ := spn_some h3
      have g8 := g1.1
      have h16 := (Rt_ok g6).2.1
      rw [h1, Bool.not_true, if_neg (by simp), room_ok (by simp; omega), Option.bind_some, h3, Option.bind_some, gsE_map, h2]
      refine ih z r.1 r.1.To (by omega) ⟨by omega, g5⟩ ?_
      intro x hx
      rcases List.mem_append.1 hx with hx | hx
      · exact hacc x hx
      · rw [List.mem_singleton.1 hx]; exact h16
theorem zee {b : List UInt8} {a : Int} (hb : b.length ≤ 100000000000) : zc9 b a = some (getS b a) := by
  unfold zc9 getS
  by_cases hc : a < 0 ∨ a > b.length
  · rw [if_pos (by simpa using hc), if_pos hc]
  · rw [if_neg (by simpa using hc), if_neg hc, F_U (by omega) (by omega), Option.bind_some]
    simp only
    by_cases h1 : (rdU b a).2.2 = 0
    · obtain ⟨i, x, hi, hx, hL, _⟩ := rdU_lies h1
      have hle := hL.1
      rw [hx, bneF rfl, Bool.false_or]
      by_cases h2 : x > 4000
      · rw [decT (by omega), if_pos rfl, if_pos (Or.inr h2)]
      · rw [decF (by omega), if_neg (by simp), if_neg (by simp; omega)]
        exact SGet_loop hb x (by omega) _ _ big (i + (encU x).length) [] 0 x (by omega) (by simp) (big_gt (by omega)) (by omega) (by simp)
    · rw [bneT h1, Bool.true_or, if_pos rfl, if_pos (Or.inl h1)]
theorem gs_lies {b : List UInt8} : ∀ (k i : Nat) (last : Int) (l : List Sp) (q : Nat), i ≤ b.length → gs b k i last = some (l, q) → LiesL b i (encSs last l) ∧ q = i + (encSs last l).length ∧ l.length = k ∧ (∀ x ∈ l, inr x.At ∧ Rt x.At = true)
  | 0, i, last, l, q, hi, h => by
    rw [gs] at h
    injection h with h
    injection h with h1 h2
    subst h1; subst h2
    exact ⟨LiesL.nil hi, by simp [encSs], rfl, fun _ h => (nomatch h)⟩
  | k + 1, i, last, l, q, hi, h => by
    rw [gs] at h
    obtain ⟨⟨x, j⟩, h1, h2⟩ := Option.bind_eq_some_iff.1 h
    obtain ⟨⟨m, q2⟩, h3, h4⟩ := Option.map_eq_some_iff.1 h2
    injection h4 with h4 h5
    subst h4; subst h5
    obtain ⟨g1, g2, g3, g4, g5, g6, g7⟩ := spn_some h1
    have g8 := g1.1
    simp only at h3
    obtain ⟨f1, f2, f3, f4⟩ := gs_lies k j x.To m q2 (by omega) h3
    rw [g2] at f1
    show LiesL b i (encSs last (x :: m)) ∧ q2 = i + (encSs last (x :: m)).length ∧ (x :: m).length = k + 1 ∧ ∀ y ∈ x :: m, inr y.At ∧ Rt y.At = true
    rw [encSs]
    refine ⟨g1.app f1, by rw [List.length_append, f2, g2]; omega, by simp; omega, ?_⟩
    intro y hy
    rcases List.mem_cons.1 hy with rfl | hy
    · exact ⟨g7, g6⟩
    · exact f4 y hy
theorem gs_put : ∀ (l : List Sp) (p r : List UInt8) (last : Int), 0 ≤ last → rtS last l = true → (∀ x ∈ l, inr x.At) → gs (p ++ encSs last l ++ r) l.length p.length last = some (l, (p ++ encSs last l).length)
  | [], p, r, last, _, _, _ => by simp [gs, encSs]
  | x :: l, p, r, last, h0, h, hr => by
    obtain ⟨h1, h2, h3⟩ := rtS_cons h
    have e : p ++ encSs last (x :: l) ++ r = p ++ encS1 last x ++ (encSs x.To l ++ r) := by simp [encSs]
    have e2 : p ++ encSs last (x :: l) ++ r = (p ++ encS1 last x) ++ encSs x.To l ++ r := by simp [encSs]
    have hs := spn_put (p := p) (r := encSs x.To l ++ r) h0 h1 h2 (hr x (by simp))
    rw [← e] at hs
    unfold okS at h1
    have ih := gs_put l (p ++ encS1 last x) r x.To (by omega) h3 fun y hy => hr y (List.mem_cons_of_mem _ hy)
    rw [← e2] at ih
    rw [List.length_cons, gs, hs, Option.bind_some]
    simp only
    rw [ih]
    simp [encSs]
theorem getS_put {p r : List UInt8} {l : List Sp} (hl : St l = true) (hr : ∀ x ∈ l, inr x.At) : getS (p ++ encSp l ++ r) (p.length : Int) = (l, (((p ++ encSp l).length : Nat) : Int), 0) := by
  have hl' := hl
  unfold St at hl'
  simp only [Bool.and_eq_true, decide_eq_true_eq] at hl'
  unfold getS
  have hp : p.length ≤ (p ++ encSp l ++ r).length := by simp
  have e1 : p ++ encSp l ++ r = p ++ encU l.length ++ (encSs 0 l ++ r) := by simp [encSp]
  have e2 : p ++ encSp l ++ r = (p ++ encU l.length) ++ encSs 0 l ++ r := by simp [encSp]
  have hU := rdU_put (x := l.length) (by omega) p (encSs 0 l ++ r)
  rw [← e1] at hU
  rw [if_neg (by omega), hU]
  simp only
  have := gs_put l (p ++ encU l.length) r 0 (by omega) hl'.1 hr
  rw [← e2] at this
  rw [if_neg (by omega), Int.toNat_natCast, this, gsE]
  simp only [List.nil_append]
  rw [if_pos hl]
  simp [encSp]
theorem getS_cases (b : List UInt8) (a : Int) : (getS b a = ([], 0, 1) ∨ getS b a = ([], 0, 5)) ∨ ∃ (l : List Sp) (i : Nat), a = i ∧ getS b a = (l, ((i + (encSp l).length : Nat) : Int), 0) ∧ LiesL b i (encSp l) ∧ St l = true ∧ ∀ x ∈ l, inr x.At ∧ Rt x.At = true := by
  unfold getS
  split
  · exact Or.inl (Or.inl rfl)
  · split
    · exact Or.inl (Or.inr rfl)
    · rename_i h1 h2
      obtain ⟨i, x, hi, hx, hL, _⟩ := rdU_lies (b := b) (a := a) (by omega)
      have hle := hL.1
      rw [hx]
      simp only [Int.toNat_natCast]
      cases hg : gs b x (i + (encU x).length) 0 with
      | none => exact Or.inl (Or.inr rfl)
      | some p =>
        obtain ⟨l, q⟩ := p
        obtain ⟨g1, g2, g3, g4⟩ := gs_lies _ _ _ _ _ (by omega) hg
        simp only [gsE, List.nil_append]
        cases hR : St l
        · exact Or.inl (Or.inr rfl)
        · refine Or.inr ⟨l, i, hi, ?_, ?_, hR, g4⟩
          · rw [if_pos rfl, g2, encSp, g3, List.length_append, Nat.add_assoc]
          · rw [encSp, g3]; exact hL.app g1
end Go.Proofs.Ytckcngkkofemjaa
