import Derived.Test.YtgkllgoelpfdkaaP_04c
namespace Go.Proofs.Ytgkllgoelpfdkaa
open Go.Ab Go.RowKit
set_option linter.unusedVariables false
set_option linter.unusedSimpArgs false
def clI (N : Int) : Ins := ⟨12, 0, 0, 0, 0, N, 0⟩
def rtI : Ins := ⟨13, 0, 0, 0, 0, 0, 0⟩
def haI : Ins := ⟨17, 0, 15, 0, 0, 0, 0⟩
theorem zgh {N : Int} (h : 0 ≤ N ∧ N < 16777216) : Rti (clI N) = true := by
 simp [Rti, clI, prts, zcC, zbr, rtP, seP, bse, h]
theorem zcD (N : Int) : (zD (clI N)).length = 4 := by
 simp [zD, bdy, clI, prts, zQ, enP, pb]
theorem zfW {N : Int} (h : 0 ≤ N ∧ N < 16777216) : rgI (clI N) := ⟨by show _ ≤ N; omega, by show N ≤ _; omega⟩
theorem zgQ : Rti rtI = true := rfl
theorem zhl : zD rtI = [13] := rfl
theorem zi7 : Rti haI = true := rfl
theorem zmR : zD haI = [17, 15] := rfl
theorem zgE : rgI rtI := ⟨by decide, by decide⟩
theorem zi8 : rgI haI := ⟨by decide, by decide⟩
def fnC : Nat → Nat → List UInt8
 | _, 0 => []
 | j, t + 1 => zD (clI ((5 * j + 6 : Nat) : Int)) ++ zD rtI ++ fnC (j + 1) t
def hdC : List UInt8 := zD (clI 6) ++ zD haI
def cdC (k : Nat) : List UInt8 := hdC ++ fnC 1 (k - 1) ++ zD rtI
theorem zdz : hdC.length = 6 := by
 unfold hdC
 rw [List.length_append, zcD, zmR]
 rfl
theorem zfd : ∀ (t j : Nat), (fnC j t).length = 5 * t
 | 0, _ => rfl
 | t + 1, j => by
  unfold fnC
  rw [List.length_append, List.length_append, zcD, zhl, zfd t]
  simp only [List.length_singleton]
  omega
theorem zke : ∀ (t j : Nat), fnC j (t + 1) = fnC j t ++ (zD (clI ((5 * (j + t) + 6 : Nat) : Int)) ++ zD rtI)
 | 0, j => by simp [fnC]
 | t + 1, j => by
  show zD (clI ((5 * j + 6 : Nat) : Int)) ++ zD rtI ++ fnC (j + 1) (t + 1) = zD (clI ((5 * j + 6 : Nat) : Int)) ++ zD rtI ++ fnC (j + 1) t ++ _
  rw [zke t (j + 1), List.append_assoc _ (fnC (j + 1) t), show j + 1 + t = j + (t + 1) from by omega]
theorem zg4 : ∀ (t j s : Nat), j ≤ s → s < j + t → ∃ q r, fnC j t = q ++ (zD (clI ((5 * s + 6 : Nat) : Int)) ++ zD rtI) ++ r ∧ q.length = 5 * (s - j)
 | 0, j, s, h1, h2 => by omega
 | t + 1, j, s, h1, h2 => by
  by_cases e : s = j
  ·subst e
   exact ⟨[], fnC (s + 1) t, rfl, by simp⟩
  ·obtain ⟨q, r, h3, h4⟩ := zg4 t (j + 1) s (by omega) (by omega)
   refine ⟨zD (clI ((5 * j + 6 : Nat) : Int)) ++ zD rtI ++ q, r, ?_, ?_⟩
   ·show _ ++ fnC (j + 1) t = _
    rw [h3]
    simp only [List.append_assoc]
   ·rw [List.length_append, List.length_append, zcD, zhl, h4]
    simp only [List.length_singleton]
    omega
theorem zdT {k : Nat} (h : 1 ≤ k) : (cdC k).length = 5 * k + 2 := by
 unfold cdC
 rw [List.length_append, List.length_append, zdz, zfd, zhl]
 simp only [List.length_singleton]
 omega
theorem zmo {b q x r : List UInt8} {i : Nat} (h : b = q ++ x ++ r) (hi : q.length = i) : ze6 b i x := by
 subst h
 subst hi
 exact ⟨by simp, by simp⟩
theorem zfo {k : Nat} (hk : 1 ≤ k ∧ k ≤ 100) {q x r : List UInt8} {i : Ins} (h : cdC k = q ++ zD i ++ r) (hi : rgI i) (hr : Rti i = true) : z6 (cdC k) (q.length : Int) = some (i, ((q.length + (zD i).length : Nat) : Int), 0) :=
 zl6 hi hr (by rw [zdT hk.1]; omega) (zmo h rfl)
theorem zm9 {k : Nat} (hk : 1 ≤ k ∧ k ≤ 100) : z6 (cdC k) 0 = some (clI 6, 4, 0) := by
 have := zfo (x := []) hk (q := []) (i := clI 6) (r := zD haI ++ fnC 1 (k - 1) ++ zD rtI) (by simp [cdC, hdC]) (zfW (by decide)) (zgh (by decide))
 rw [zcD] at this
 exact this
theorem zmd {k : Nat} (hk : 1 ≤ k ∧ k ≤ 100) : z6 (cdC k) 4 = some (haI, 6, 0) := by
 have := zfo (x := []) hk (q := zD (clI 6)) (i := haI) (r := fnC 1 (k - 1) ++ zD rtI) (by simp [cdC, hdC]) zi8 zi7
 rw [zcD] at this
 exact this
theorem ziW {k s : Nat} (hk : 1 ≤ k ∧ k ≤ 100) (h1 : 1 ≤ s) (h2 : s < k) : z6 (cdC k) ((5 * s + 1 : Nat) : Int) = some (clI ((5 * s + 6 : Nat) : Int), ((5 * s + 5 : Nat) : Int), 0) := by
 obtain ⟨q, r, h3, h4⟩ := zg4 (k - 1) 1 s h1 (by omega)
 have := zfo (x := []) hk (q := hdC ++ q) (i := clI ((5 * s + 6 : Nat) : Int)) (r := zD rtI ++ r ++ zD rtI) (by unfold cdC; rw [h3]; simp only [List.append_assoc]) (zfW (by omega)) (zgh (by omega))
 rw [zcD, List.length_append, zdz, h4, show 6 + 5 * (s - 1) = 5 * s + 1 from by omega] at this
 exact this
theorem znr {k s : Nat} (hk : 1 ≤ k ∧ k ≤ 100) (h1 : 1 ≤ s) (h2 : s < k) : ∃ nx, z6 (cdC k) ((5 * s + 5 : Nat) : Int) = some (rtI, nx, 0) := by
 obtain ⟨q, r, h3, h4⟩ := zg4 (k - 1) 1 s h1 (by omega)
 have := zfo (x := []) hk (q := hdC ++ q ++ zD (clI ((5 * s + 6 : Nat) : Int))) (i := rtI) (r := r ++ zD rtI) (by unfold cdC; rw [h3]; simp only [List.append_assoc]) zgE zgQ
 rw [List.length_append, List.length_append, zcD, zdz, h4, show 6 + 5 * (s - 1) + 4 = 5 * s + 5 from by omega] at this
 exact ⟨_, this⟩
theorem zmM {k : Nat} (hk : 1 ≤ k ∧ k ≤ 100) : ∃ nx, z6 (cdC k) ((5 * k + 1 : Nat) : Int) = some (rtI, nx, 0) := by
 have := zfo (x := []) hk (q := hdC ++ fnC 1 (k - 1)) (i := rtI) (r := []) (by unfold cdC; rw [List.append_nil]) zgE zgQ
 rw [List.length_append, zdz, zfd, show 6 + 5 * (k - 1) = 5 * k + 1 from by omega] at this
 exact ⟨_, this⟩
theorem zjJ {R : List Int} (v : Int) (h : R.length = 16) : rd4 (R.set 15 v) 15 = v := by
 unfold rd4
 rw [List.getD_eq_getElem?_getD]
 show ((R.set 15 v)[15]?).getD 0 = v
 rw [List.getElem?_set, if_pos rfl, if_pos (by omega)]
 rfl
theorem r15 (f : Nat → Int) : rd4 (rg4 f) 15 = f 15 := rfl
theorem zgk {code : List UInt8} {s : St4} {i : Ins} {nx : Int} (hg : z6 code s.pc = some (i, nx, 0)) : stS code s = match doS i nx s with
  | .ok s' => .ok s'
  | .error k => .error (k, if (i.Kind.toNat : Int) = 17 then some (rd4 s.R i.R) else none) := by
 unfold stS
 rw [hg]
 rfl
theorem znB {m : M4} {N nx d : Int} (hw : m.how = 0) (hc : m.code.length ≤ 1000000000) (ho : m.out.length ≤ 1000000000) (hg : z6 m.code m.pc = some (clI N, nx, 0)) (hd : m.regs 15 = d) (h1 : 1 ≤ d ∧ d ≤ m.words.length) (h2 : d ≤ 100000) :
  ∃ r, zbK m = some r ∧ r.2.how = 0 ∧ r.2.code = m.code ∧ r.2.out = m.out ∧ r.2.pc = N ∧ r.2.regs 15 = d - 1 ∧ r.2.words = m.words.set (d - 1).toNat nx := by
 obtain ⟨r, hr, hR⟩ := zgJ hw hc ho
 have hw1 : w64 (d - 1) = d - 1 := zL (by omega)
 have e : doS (clI N) nx (abC m) = .ok ⟨N, (rg4 m.regs).set 15 (d - 1), m.words.set (d - 1).toNat nx, m.input, m.out⟩ := by
  have hk : ((clI N).Kind.toNat : Int) = 12 := rfl
  unfold doS thS
  simp only [hk, Int.reduceEq, if_false, if_true, or_self, abC, r15, hd, hw1]
  rw [if_neg (by omega), if_pos ⟨by omega, by omega⟩]
  rfl
 rw [zgk (s := abC m) hg, e] at hR
 obtain ⟨_, r2, r3, _, r5⟩ := hR
 have q1 := congrArg St4.pc r5
 have q2 := congrArg St4.R r5
 have q3 := congrArg St4.W r5
 have q4 := congrArg St4.O r5
 refine ⟨r, hr, r2, r3, q4, q1, ?_, q3⟩
 rw [← r15 r.2.regs]
 have q2 : rg4 r.2.regs = (rg4 m.regs).set 15 (d - 1) := q2
 rw [q2, zjJ _ (zh5 _)]
theorem zlU {m : M4} {N nx : Int} (hw : m.how = 0) (hc : m.code.length ≤ 1000000000) (ho : m.out.length ≤ 1000000000) (hg : z6 m.code m.pc = some (clI N, nx, 0)) (hd : m.regs 15 = 0) :
  zbK m = some (7, { m with how := 7 }) := by
 obtain ⟨r, hr, hR⟩ := zgJ hw hc ho
 have e : doS (clI N) nx (abC m) = .error 7 := by
  have hk : ((clI N).Kind.toNat : Int) = 12 := rfl
  have hw1 : w64 (0 - 1) = -1 := rfl
  unfold doS
  simp only [hk, Int.reduceEq, if_false, if_true, or_self, abC, r15, hd, hw1]
  rw [if_pos (by omega)]
 rw [zgk (s := abC m) hg, e] at hR
 obtain ⟨r1, r2⟩ := hR
 rw [hr]
 obtain ⟨a, b⟩ := r
 dsimp only at r1 r2
 subst r1
 subst r2
 rfl
theorem zlw {m : M4} {nx d a : Int} (hw : m.how = 0) (hc : m.code.length ≤ 1000000000) (ho : m.out.length ≤ 1000000000) (hg : z6 m.code m.pc = some (rtI, nx, 0)) (hd : m.regs 15 = d) (h1 : 0 ≤ d ∧ d < m.words.length) (h2 : d ≤ 100000) (ha : m.words.getD d.toNat 0 = a) (h3 : 0 ≤ a ∧ a < 16777216) :
  ∃ r, zbK m = some r ∧ r.2.how = 0 ∧ r.2.code = m.code ∧ r.2.out = m.out ∧ r.2.pc = a ∧ r.2.regs 15 = d + 1 ∧ r.2.words = m.words := by
 obtain ⟨r, hr, hR⟩ := zgJ hw hc ho
 have hw1 : w64 (d + 1) = d + 1 := zL (by omega)
 have e : doS rtI nx (abC m) = .ok ⟨a, (rg4 m.regs).set 15 (d + 1), m.words, m.input, m.out⟩ := by
  have hk : (rtI.Kind.toNat : Int) = 13 := rfl
  unfold doS thS
  simp only [hk, Int.reduceEq, if_false, if_true, or_self, abC, r15, hd]
  rw [if_pos ⟨by omega, by omega⟩]
  dsimp only
  rw [ha, hw1, if_neg (by omega)]
 rw [zgk (s := abC m) hg, e] at hR
 obtain ⟨_, r2, r3, _, r5⟩ := hR
 have q1 := congrArg St4.pc r5
 have q2 : rg4 r.2.regs = (rg4 m.regs).set 15 (d + 1) := congrArg St4.R r5
 have q3 := congrArg St4.W r5
 have q4 := congrArg St4.O r5
 refine ⟨r, hr, r2, r3, q4, q1, ?_, q3⟩
 rw [← r15 r.2.regs, q2, zjJ _ (zh5 _)]
theorem zmV {m : M4} {nx : Int} (hw : m.how = 0) (hc : m.code.length ≤ 1000000000) (ho : m.out.length ≤ 1000000000) (hg : z6 m.code m.pc = some (haI, nx, 0)) :
  zbK m = some (1, { m with how := 1, halting := m.regs 15 }) := by
 obtain ⟨r, hr, hR⟩ := zgJ hw hc ho
 have e : doS haI nx (abC m) = .error 1 := rfl
 rw [zgk (s := abC m) hg, e] at hR
 obtain ⟨r1, r2⟩ := hR
 rw [hr]
 obtain ⟨a, b⟩ := r
 dsimp only at r1 r2
 subst r1
 subst r2
 rfl
theorem zgY {m : M4} {r : Int × M4} (hw : m.how = 0) (hs : zbK m = some r) (f : Nat) : zbF (f + 1) m = zbF f r.2 := by
 show (if m.how = 0 then (zbK m).bind fun c => zbF f c.2 else _) = _
 rw [if_pos hw, hs]
 rfl
theorem ziK {m : M4} (hw : m.how ≠ 0) : ∀ f, zbF f m = some (m, f)
 | 0 => rfl
 | f + 1 => if_neg hw
def raC (i : Nat) : Nat := if i = 0 then 4 else 5 * i + 5
structure DnC (k n j : Nat) (m : M4) : Prop where
 how : m.how = 0
 code : m.code = cdC k
 out : m.out = []
 pc : m.pc = if j = 0 then 0 else ((5 * j + 1 : Nat) : Int)
 reg : m.regs 15 = ((n - j : Nat) : Int)
 len : m.words.length = n
 wd : ∀ i, i < j → m.words.getD (n - 1 - i) 0 = ((raC i : Nat) : Int)
theorem znd {k n j : Nat} {m : M4} (hk : 1 ≤ k ∧ k ≤ 100) (hn : n ≤ 100) (h : DnC k n j m) (hj : j < k) (hj2 : j < n) : ∃ r, zbK m = some r ∧ DnC k n (j + 1) r.2 := by
 obtain ⟨a1, a2, a3, a4, a5, a6, a7⟩ := h
 have hcl : (cdC k).length ≤ 1000000000 := by rw [zdT hk.1]; omega
 have hg : ∃ N nx, z6 m.code m.pc = some (clI N, nx, 0) ∧ N = ((5 * (j + 1) + 1 : Nat) : Int) ∧ nx = ((raC j : Nat) : Int) := by
  by_cases e : j = 0
  ·subst e
   exact ⟨6, 4, by rw [a2, a4]; exact zm9 hk, rfl, rfl⟩
  ·refine ⟨_, _, by rw [a2, a4, if_neg e]; exact ziW hk (by omega) hj, by congr 1, ?_⟩
   unfold raC
   rw [if_neg e]
 obtain ⟨N, nx, hg, hN, hx⟩ := hg
 obtain ⟨r, hr, b1, b2, b3, b4, b5, b6⟩ := znB (d := ((n - j : Nat) : Int)) a1 (by rw [a2]; exact hcl) (by rw [a3]; exact Nat.zero_le _) hg a5 ⟨by omega, by omega⟩ (by omega)
 refine ⟨r, hr, b1, by rw [b2, a2], by rw [b3, a3], by rw [b4, hN, if_neg (by omega)], by rw [b5]; omega, by rw [b6, List.length_set, a6], fun i hi => ?_⟩
 rw [b6, show (((n - j : Nat) : Int) - 1).toNat = n - 1 - j from by omega, List.getD_eq_getElem?_getD, List.getElem?_set]
 by_cases e : i = j
 ·subst e
  rw [if_pos rfl, if_pos (by omega), hx]
  rfl
 ·rw [if_neg (by omega), ← List.getD_eq_getElem?_getD]
  exact a7 i (by omega)
theorem zhc {k n : Nat} (hk : 1 ≤ k ∧ k ≤ 100) (hn : n ≤ 100) : ∀ (t j f : Nat) (m : M4), DnC k n j m → j + t ≤ k → j + t ≤ n → ∃ m', zbF (f + t) m = zbF f m' ∧ DnC k n (j + t) m'
 | 0, j, f, m, h, _, _ => ⟨m, rfl, h⟩
 | t + 1, j, f, m, h, h1, h2 => by
  obtain ⟨r, hr, hd⟩ := znd hk hn h (by omega) (by omega)
  obtain ⟨m', g1, g2⟩ := zhc hk hn t (j + 1) f r.2 hd (by omega) (by omega)
  refine ⟨m', ?_, by rw [show j + (t + 1) = j + 1 + t from by omega]; exact g2⟩
  rw [show f + (t + 1) = (f + t) + 1 from by omega, zgY h.how hr]
  exact g1
structure UpC (k n d : Nat) (m : M4) : Prop where
 how : m.how = 0
 code : m.code = cdC k
 out : m.out = []
 pc : m.pc = if d = k then ((5 * k + 1 : Nat) : Int) else ((raC d : Nat) : Int)
 reg : m.regs 15 = ((n - d : Nat) : Int)
 len : m.words.length = n
 wd : ∀ i, i < d → m.words.getD (n - 1 - i) 0 = ((raC i : Nat) : Int)
theorem zj9 {k n : Nat} (hk : 1 ≤ k ∧ k ≤ 100) (hn : n ≤ 100) (hkn : k ≤ n) : ∀ (d f : Nat) (m : M4), UpC k n d m → d ≤ k → ∃ m', zbF (f + d) m = zbF f m' ∧ UpC k n 0 m'
 | 0, f, m, h, _ => ⟨m, rfl, h⟩
 | d + 1, f, m, h, hd => by
  obtain ⟨a1, a2, a3, a4, a5, a6, a7⟩ := h
  have hcl : (cdC k).length ≤ 1000000000 := by rw [zdT hk.1]; omega
  have hg : ∃ nx, z6 m.code m.pc = some (rtI, nx, 0) := by
   rw [a2, a4]
   by_cases e : d + 1 = k
   ·rw [if_pos e]
    exact zmM hk
   ·rw [if_neg e]
    unfold raC
    rw [if_neg (by omega)]
    exact znr hk (by omega) (by omega)
  obtain ⟨nx, hg⟩ := hg
  have hra : raC d < 1000 := by unfold raC; split <;> omega
  have hwd := a7 d (by omega)
  obtain ⟨r, hr, b1, b2, b3, b4, b5, b6⟩ := zlw (d := ((n - (d + 1) : Nat) : Int)) (a := ((raC d : Nat) : Int)) a1 (by rw [a2]; exact hcl) (by rw [a3]; exact Nat.zero_le _) hg a5 ⟨by omega, by omega⟩ (by omega) (by rw [← hwd]; congr 1; omega) ⟨by omega, by omega⟩
  obtain ⟨m', g1, g2⟩ := zj9 hk hn hkn d f r.2 ⟨b1, by rw [b2, a2], by rw [b3, a3], by rw [b4, if_neg (by omega)], by rw [b5]; omega, by rw [b6, a6], fun i hi => by rw [b6]; exact a7 i (by omega)⟩ (by omega)
  refine ⟨m', ?_, g2⟩
  rw [show f + (d + 1) = (f + d) + 1 from by omega, zgY a1 hr]
  exact g1
theorem zlV {k n : Nat} {m : M4} (hk : 1 ≤ k ∧ k ≤ 100) (hn : n ≤ 100) (hn1 : 1 ≤ n) (hkn : k > n) (h : DnC k n 0 m) : ∃ c, zbF 1000 m = some c ∧ c.1.how = 7 ∧ c.1.regs 15 = 0 := by
 obtain ⟨m', g1, g2⟩ := zhc hk hn n 0 (1000 - n) m h (by omega) (by omega)
 rw [show 1000 - n + n = 1000 from by omega] at g1
 obtain ⟨a1, a2, a3, a4, a5, a6, a7⟩ := g2
 rw [Nat.zero_add] at a4 a5
 have hcl : (cdC k).length ≤ 1000000000 := by rw [zdT hk.1]; omega
 have hg := ziW hk hn1 hkn
 have hs := zlU (N := ((5 * n + 6 : Nat) : Int)) (nx := ((5 * n + 5 : Nat) : Int)) a1 (by rw [a2]; exact hcl) (by rw [a3]; exact Nat.zero_le _) (by rw [a2, a4, if_neg (by omega)]; exact hg) (by rw [a5]; omega)
 refine ⟨({ m' with how := 7 }, 1000 - n - 1), ?_, rfl, ?_⟩
 ·rw [g1, show 1000 - n = (1000 - n - 1) + 1 from by omega, zgY a1 hs]
  exact ziK (show (7 : UInt8) ≠ 0 from by decide) _
 ·show m'.regs 15 = 0
  rw [a5]
  omega
theorem zlJ {k n : Nat} {m : M4} (hk : 1 ≤ k ∧ k ≤ 100) (hn : n ≤ 100) (hkn : k ≤ n) (h : DnC k n 0 m) : ∃ c, zbF 1000 m = some c ∧ c.1.how = 1 ∧ c.1.halting = (n : Int) := by
 obtain ⟨m', g1, g2⟩ := zhc hk hn k 0 (1000 - k) m h (by omega) (by omega)
 rw [show 1000 - k + k = 1000 from by omega] at g1
 obtain ⟨a1, a2, a3, a4, a5, a6, a7⟩ := g2
 rw [Nat.zero_add] at a4 a5 a7
 obtain ⟨m2, f1, f2⟩ := zj9 hk hn hkn k (1000 - k - k) m' ⟨a1, a2, a3, by rw [a4, if_neg (by omega), if_pos rfl], a5, a6, a7⟩ (Nat.le_refl _)
 rw [show 1000 - k - k + k = 1000 - k from by omega] at f1
 obtain ⟨b1, b2, b3, b4, b5, b6, b7⟩ := f2
 have hcl : (cdC k).length ≤ 1000000000 := by rw [zdT hk.1]; omega
 have hs := zmV (nx := 6) b1 (by rw [b2]; exact hcl) (by rw [b3]; exact Nat.zero_le _) (by rw [b2, b4, if_neg (by omega)]; exact zmd hk)
 refine ⟨({ m2 with how := 1, halting := m2.regs 15 }, 1000 - k - k - 1), ?_, rfl, ?_⟩
 ·rw [g1, f1, show 1000 - k - k = (1000 - k - k - 1) + 1 from by omega, zgY b1 hs]
  exact ziK (show (1 : UInt8) ≠ 0 from by decide) _
 ·show m2.regs 15 = (n : Int)
  rw [b5]
  omega
theorem zkE (p0 p1 : Int) (k : Nat) (hk : 1 ≤ k ∧ k ≤ 60) (hp : IntKind.i64.wrap (1 + (Int.tmod (IntKind.i64.wrap p1) 60)) = (k : Int)) (R : Option Bool) (hR : ∀ rec, zde rec p0 p1 (hdC ++ fnC 1 (k - 1)) (k : Int) = R) : ∀ (g i : Nat), k - i < g → 1 ≤ i → i ≤ k → zcI p0 p1 g (hdC ++ fnC 1 (i - 1)) (i : Int) = R := by
 intro g
 induction g with
 | zero => intro i h; omega
 | succ g ih =>
  intro i h h1 h2
  by_cases e : i = k
  ·subst e
   exact hR _
  ·show zde (zcI p0 p1 g) p0 p1 (hdC ++ fnC 1 (i - 1)) (i : Int) = R
   unfold zde
   have hl : (hdC ++ fnC 1 (i - 1)).length = 5 * i + 1 := by rw [List.length_append, zdz, zfd]; omega
   have hN : IntKind.i64.wrap (((hdC ++ fnC 1 (i - 1)).length : Int) + 5) = ((5 * i + 6 : Nat) : Int) := by rw [hl, zL (by omega)]; omega
   have hP := zdg (i := clI ((5 * i + 6 : Nat) : Int)) (b := hdC ++ fnC 1 (i - 1)) (zfW (by omega)) (by omega)
   rw [if_pos (zgh (by omega))] at hP
   have hP2 := zdg (i := rtI) (b := hdC ++ fnC 1 (i - 1) ++ zD (clI ((5 * i + 6 : Nat) : Int))) zgE (by rw [List.length_append, hl, zcD]; omega)
   rw [if_pos zgQ] at hP2
   rw [hp, if_pos (z1 (by omega)), hN]
   show ((zbq (hdC ++ fnC 1 (i - 1)) (clI ((5 * i + 6 : Nat) : Int))).bind fun c => (zbq c rtI).bind fun c => zcI p0 p1 g c (IntKind.i64.wrap ((i : Int) + 1))) = R
   rw [hP, Option.bind_some, hP2, Option.bind_some, zb8 (by omega)]
   have := ih (i + 1) (by omega) (by omega) (by omega)
   rw [show i + 1 - 1 = (i - 1) + 1 from by omega, zke, show 1 + (i - 1) = i from by omega, ← List.append_assoc, ← List.append_assoc] at this
   exact this
theorem zk2 (p0 p1 : Int) (h0 : 0 ≤ p0 ∧ p0 ≤ 255) (h1 : 0 ≤ p1 ∧ p1 ≤ 255) : zgg p0 p1 = some true := by
 obtain ⟨k, hk⟩ : ∃ k : Nat, 1 + Int.tmod p1 60 = (k : Int) := ⟨(1 + Int.tmod p1 60).toNat, by have := Int.tmod_nonneg 60 h1.1; omega⟩
 obtain ⟨n, hn⟩ : ∃ n : Nat, 1 + Int.tmod p0 40 = (n : Int) := ⟨(1 + Int.tmod p0 40).toNat, by have := Int.tmod_nonneg 40 h0.1; omega⟩
 have q1 := Int.tmod_nonneg 60 h1.1
 have q2 := Int.tmod_lt_of_pos p1 (show (0 : Int) < 60 by decide)
 have q3 := Int.tmod_nonneg 40 h0.1
 have q4 := Int.tmod_lt_of_pos p0 (show (0 : Int) < 40 by decide)
 have hkw : IntKind.i64.wrap (1 + (Int.tmod (IntKind.i64.wrap p1) 60)) = (k : Int) := by rw [zL (x := p1) (by omega), hk, zL (by omega)]
 have hnw : IntKind.i64.wrap (1 + (Int.tmod (IntKind.i64.wrap p0) 40)) = (n : Int) := by rw [zL (x := p0) (by omega), hn, zL (by omega)]
 have hk1 : 1 ≤ k ∧ k ≤ 60 := by omega
 have hn1 : 1 ≤ n ∧ n ≤ 40 := by omega
 unfold zgg
 have e1 := zdg (i := clI 6) (b := []) (zfW (by decide)) (by decide)
 rw [if_pos (zgh (by decide))] at e1
 have e2 := zdg (i := haI) (b := [] ++ zD (clI 6)) zi8 (by rw [List.nil_append, zcD]; decide)
 rw [if_pos zi7] at e2
 show ((zbq [] (clI 6)).bind fun c => (zbq c haI).bind fun c => zcI p0 p1 big c 1) = _
 rw [e1, Option.bind_some, e2, Option.bind_some]
 have hx : ([] : List UInt8) ++ zD (clI 6) ++ zD haI = hdC ++ fnC 1 (1 - 1) := by unfold hdC; simp [fnC]
 rw [hx]
 refine zkE p0 p1 k hk1 hkw (some true) (fun rec => ?_) big 1 (zcx (by omega)) (by omega) hk1.1
 unfold zde
 rw [hkw, hnw, if_neg (by simp)]
 have hl : (hdC ++ fnC 1 (k - 1)).length = 5 * k + 1 := by rw [List.length_append, zdz, zfd]; omega
 have e3 := zdg (i := rtI) (b := hdC ++ fnC 1 (k - 1)) zgE (by omega)
 rw [if_pos zgQ] at e3
 have e3 : zbq (hdC ++ fnC 1 (k - 1)) (⟨(13 : UInt8), (0 : UInt8), 0, 0, 0, 0, 0⟩ : zb) = some (cdC k) := e3
 have hcl := zdT hk1.1
 have hmay : zgX (cdC k) 0 (n : Int) = true := by
  unfold zgX
  rw [hcl]
  simp only [Bool.not_eq_true', Bool.or_eq_false_iff, decide_eq_false_iff_not]
  omega
 rw [e3, Option.bind_some, zkN (by omega) (by simp), if_pos hmay, Option.bind_some]
 dsimp only [zgS]
 rw [if_neg (by simp)]
 have hD : DnC k n 0 (zcc (cdC k) 0 (n : Int) []) := ⟨rfl, rfl, rfl, rfl, rfl, by show (List.replicate (n : Int).toNat (0 : Int)).length = n; simp, fun i hi => by omega⟩
 have hrun : zcO (⟨(zcc (cdC k) 0 (n : Int) []).code, (zcc (cdC k) 0 (n : Int) []).pc, (zcc (cdC k) 0 (n : Int) []).regs, (zcc (cdC k) 0 (n : Int) []).words, (zcc (cdC k) 0 (n : Int) []).input, (zcc (cdC k) 0 (n : Int) []).out, (zcc (cdC k) 0 (n : Int) []).how, (zcc (cdC k) 0 (n : Int) []).halting⟩ : M4) 1000 = (zbF 1000 (zcc (cdC k) 0 (n : Int) [])).map fun c => ((c.1.how.toNat : Int), (c.2 : Int), c.1) := zlz (by decide)
 by_cases hkn : k > n
 ·obtain ⟨c, hc, c1, c2⟩ := zlV (by omega) (by omega) hn1.1 hkn hD
  rw [hrun, hc]
  dsimp only [Option.map_some, Option.bind_some, zdV, zcL]
  rw [c1, if_pos (by decide)]
  dsimp only [Option.bind_some]
  rw [if_pos (z1 (by omega)), if_pos (by decide), zmp, Option.bind_some]
  have hg : zF (rg4 c.1.regs) 15 = some 0 := by
   show zF (rg4 c.1.regs) ((15 : Nat) : Int) = _
   rw [zcl (by rw [zh5]; decide)]
   show some (c.1.regs 15) = some 0
   rw [c2]
  rw [hg]
  dsimp only [Option.bind_some]
  rw [if_pos (by decide), zif]
  rfl
 ·obtain ⟨c, hc, c1, c2⟩ := zlJ (by omega) (by omega) (by omega) hD
  rw [hrun, hc]
  dsimp only [Option.map_some, Option.bind_some, zdV, zcL]
  rw [c1, if_neg (by decide)]
  dsimp only [Option.bind_some]
  rw [if_neg (by simp; omega), c2, if_pos (by simp), zif]
  rfl
end Go.Proofs.Ytgkllgoelpfdkaa
