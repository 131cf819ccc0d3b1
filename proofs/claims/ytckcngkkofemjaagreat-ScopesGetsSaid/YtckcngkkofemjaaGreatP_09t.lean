import Derived.Test.YtckcngkkofemjaaGreatP_09s
namespace Go.Proofs.YtckcngkkofemjaaGreat
open Go.Ab Go.RowKit
set_option linter.unusedVariables false
set_option linter.unusedSimpArgs false
theorem zkh {b : List UInt8} (hb : b.length ≤ 100000000000) (rec82 : List UInt8 → Int → Bool → List Pl → Int → Int → Option Ans) (last i0 : Int) (c1 : ByteArray × Rd2) (c2 c3 c4 : Int × Rd2) (la : List Pl) :
  ∀ (n k i : Nat) (a a2 : Int) (f : Bool) (st : Pl) (acc vs : List Vr) (ss : List (List Sp)), k < n → acc.length + k ≤ 1000000 → st.Spans.length + k ≤ 1000000 → i + k ≤ 1000000 → (0 ≤ a ∧ a ≤ b.length) → (0 ≤ a2 ∧ a2 ≤ b.length) → (f = true ∨ (a = a2 ∧ acc = vs ∧ st.Spans = ss ∧ c4.1 = ((i + k : Nat) : Int))) →
   ∃ l q a' st' vs' ss' a2', LV n b a f st acc (k : Int) = some (l, ⟨b, a', q⟩, st') ∧ zdD rec82 last i0 c1 c2 c3 c4 n b a2 f la vs ss (i : Int) = ((room (la.length + 1)).bind fun _ => rec82 b a2' q (la ++ [⟨c1.1, IntKind.i64.wrap (last + c2.1), IntKind.i64.wrap (IntKind.i64.wrap (last + c2.1) + c3.1), vs', ss'⟩]) (IntKind.i64.wrap (IntKind.i64.wrap (last + c2.1) + c3.1)) (IntKind.i64.wrap (i0 + 1))) ∧ (0 ≤ a' ∧ a' ≤ b.length) ∧ (0 ≤ a2' ∧ a2' ≤ b.length) ∧ (q = true ∨ (f = false ∧ l = vs' ∧ a' = a2' ∧ st' = ⟨st.Name, st.From, st.To, st.Vars, ss'⟩))
 | 0, k, _, _, _, _, _, _, _, _, h, _, _, _, _, _, _ => by omega
 | n + 1, k, i, a, a2, f, st, acc, vs, ss, hn, hk, hsk, hik, h1, h2, hf => by
  have hL2 : zdD rec82 last i0 c1 c2 c3 c4 (n + 1) b a2 f la vs ss (i : Int) = zeN (zdD rec82 last i0 c1 c2 c3 c4 n) rec82 last i0 c1 c2 c3 c4 b a2 f la vs ss (i : Int) := rfl
  rw [zll, hL2]
  unfold zeN
  cases f with
  | true =>
   rw [Bool.not_true, Bool.and_false, Bool.and_false, if_neg (by simp), if_neg (by simp)]
   exact ⟨_, _, _, _, _, _, _, rfl, rfl, h1, h2, .inl rfl⟩
  | false =>
   obtain ⟨rfl, rfl, rfl, hc⟩ : a = a2 ∧ acc = vs ∧ st.Spans = ss ∧ c4.1 = ((i + k : Nat) : Int) := by rcases hf with hf | hf; cases hf; exact hf
   cases k with
   | zero =>
    rw [zx (by simp), zx (by omega), Bool.false_and, if_neg (by simp), if_neg (by simp)]
    exact ⟨_, _, _, _, _, _, _, rfl, rfl, h1, h2, .inr ⟨rfl, rfl, rfl, rfl⟩⟩
   | succ k =>
    rw [zv (by omega), zv (by omega), Bool.not_false, Bool.and_self, if_pos rfl, if_pos rfl]
    obtain ⟨u, q1, u1, u', u2, e1, e2, g1, g2, g3⟩ := znk hb a a false h1 h2 (.inr rfl)
    obtain ⟨v, q2, v1, v', v2, d1, d2, k1, k2, k3⟩ := zp6 hb u1 u2 q1 g1 g2 (by rcases g3 with g3 | g3; exact .inl g3; exact .inr g3.2.2)
    rw [e2, Option.bind_some]
    simp only
    simp only [List.length_cons, List.length_nil, Nat.zero_add, zbF (show acc.length + 1 ≤ 1099511627776 by omega), Option.bind_some]
    rw [d2, Option.bind_some]
    simp only [zbF (show st.Spans.length + 1 ≤ 1099511627776 by omega), Option.bind_some]
    unfold zdS
    simp only
    rw [e1, Option.bind_some]
    simp only
    rw [d1, Option.bind_some]
    simp only [List.length_cons, List.length_nil, Nat.zero_add, zbF (show st.Spans.length + 1 ≤ 1099511627776 by omega), Option.bind_some]
    rw [zbh (by omega), zbc (x := ((k + 1 : Nat) : Int) - 1) (by omega), show ((k + 1 : Nat) : Int) - 1 = (k : Int) by omega]
    obtain ⟨l, q, a', st', vs', ss', a2', y1, y2, y3, y4, y5⟩ := zkh hb rec82 last i0 c1 c2 c3 c4 la n k (i + 1) v1 v2 q2 ⟨st.Name, st.From, st.To, st.Vars, st.Spans ++ [v]⟩ (acc ++ [u]) (acc ++ [u']) (st.Spans ++ [v']) (by omega) (by simp; omega) (by simp; omega) (by omega) k1 k2 (by
     rcases k3 with k3 | ⟨k3, rfl, rfl⟩
     ·exact .inl k3
     rcases g3 with g3 | ⟨g3, rfl, rfl⟩
     ·rw [g3] at k3; cases k3
     exact .inr ⟨rfl, rfl, rfl, by omega⟩)
    exact ⟨l, q, a', st', vs', ss', a2', y1, y2, y3, y4, by
     rcases y5 with y5 | y5
     ·exact .inl y5
     ·exact .inr ⟨by simp, y5.2⟩⟩
def zld (b : List UInt8) (a : Int) (f : Bool) (la : List Pl) : Option Ans :=
 (zbV ⟨b, a, f⟩ 1000).bind fun c => zcj c big c.2.B c.2.At c.2.Failed la [] 0
theorem zlR {b : List UInt8} (hb : b.length ≤ 100000000000) (c0 : Int × Rd2) :
  ∀ (n k i : Nat) (a a2 : Int) (f : Bool) (last last2 : Int) (acc acc2 : List Pl), k < n → acc.length + k ≤ 1000000 → i + k ≤ 1000000 → (0 ≤ a ∧ a ≤ b.length) → (0 ≤ a2 ∧ a2 ≤ b.length) → (f = true ∨ (a = a2 ∧ acc = acc2 ∧ last = last2 ∧ c0.1 = ((i + k : Nat) : Int))) →
   ∃ l q a' st' l2 a2', LP n b a f last acc (k : Int) = some (l, ⟨b, a', q⟩, st') ∧ zb5 c0 n b a2 f acc2 last2 (i : Int) = zld b a2' q l2 ∧ (0 ≤ a' ∧ a' ≤ b.length) ∧ (0 ≤ a2' ∧ a2' ≤ b.length) ∧ (q = true ∨ (f = false ∧ l = l2 ∧ a' = a2'))
 | 0, k, _, _, _, _, _, _, _, _, h, _, _, _, _, _ => by omega
 | n + 1, k, i, a, a2, f, last, last2, acc, acc2, hn, hk, hik, h1, h2, hf => by
  have hL2 : zb5 c0 (n + 1) b a2 f acc2 last2 (i : Int) = zgz (zb5 c0 n) c0 b a2 f acc2 last2 (i : Int) := rfl
  rw [zkE, hL2]
  unfold zgz
  cases f with
  | true =>
   rw [Bool.not_true, Bool.and_false, Bool.and_false, if_neg (by simp), if_neg (by simp)]
   exact ⟨_, _, _, _, _, _, rfl, rfl, h1, h2, .inl rfl⟩
  | false =>
   obtain ⟨rfl, rfl, rfl, hc⟩ : a = a2 ∧ acc = acc2 ∧ last = last2 ∧ c0.1 = ((i + k : Nat) : Int) := by rcases hf with hf | hf; cases hf; exact hf
   cases k with
   | zero =>
    rw [zx (by simp), zx (by omega), Bool.false_and, if_neg (by simp), if_neg (by simp)]
    exact ⟨_, _, _, _, _, _, rfl, rfl, h1, h2, .inr ⟨rfl, rfl, rfl⟩⟩
   | succ k =>
    rw [zv (by omega), zv (by omega), Bool.not_false, Bool.and_self, if_pos rfl, if_pos rfl]
    obtain ⟨nm, q0, t1, nm', t2, s1, s2, o1, o2, o3⟩ := zhP hb a a false h1 h2 (.inr rfl)
    obtain ⟨u, q1, u1, u', u2, e1, e2, g1, g2, g3⟩ := zcA hb (m := 16777216) (by omega) t1 t2 q0 o1 o2 (by rcases o3 with o3 | o3; exact .inl o3; exact .inr o3.2.2)
    obtain ⟨v, q2, v1, v', v2, d1, d2, k1, k2, k3⟩ := zcA hb (m := 16777216) (by omega) u1 u2 q1 g1 g2 (by rcases g3 with g3 | g3; exact .inl g3; exact .inr g3.2.2)
    simp only at e1 e2 d1 d2
    rw [s2, Option.bind_some]
    simp only
    rw [e2, Option.bind_some]
    simp only
    rw [d2, Option.bind_some]
    simp only
    unfold zdU zfP
    simp only
    rw [s1, Option.bind_some]
    simp only
    rw [e1, Option.bind_some]
    simp only
    rw [d1, Option.bind_some]
    simp only
    obtain ⟨T, hT⟩ : ∃ T, T = IntKind.i64.wrap (IntKind.i64.wrap (last + u) + v) := ⟨_, rfl⟩
    obtain ⟨T2, hT2⟩ : ∃ T2, T2 = IntKind.i64.wrap (IntKind.i64.wrap (last + u') + v') := ⟨_, rfl⟩
    have hall : q2 = true ∨ (nm = nm' ∧ u = u' ∧ v = v' ∧ v1 = v2) := by
     rcases k3 with k3 | ⟨k3, rfl, rfl⟩
     ·exact .inl k3
     rcases g3 with g3 | ⟨g3, rfl, rfl⟩
     ·rw [g3] at k3; cases k3
     rcases o3 with o3 | ⟨o3, rfl, rfl⟩
     ·rw [o3] at g3; cases g3
     exact .inr ⟨rfl, rfl, rfl, rfl⟩
    have hq : (if (decide (T2 > 16777216)) = true then zdn (zb5 c0 n) last (i : Int) (nm', ⟨b, t2, q0⟩) (u', ⟨b, u2, q1⟩) (v', ⟨b, v2, q2⟩) true acc else zdn (zb5 c0 n) last (i : Int) (nm', ⟨b, t2, q0⟩) (u', ⟨b, u2, q1⟩) (v', ⟨b, v2, q2⟩) q2 acc) = zdn (zb5 c0 n) last (i : Int) (nm', ⟨b, t2, q0⟩) (u', ⟨b, u2, q1⟩) (v', ⟨b, v2, q2⟩) (q2 || decide (T > 16777216)) acc := by
     rcases hall with hall | ⟨rfl, rfl, rfl, rfl⟩
     ·subst hall
      rw [Bool.true_or]
      split <;> rfl
     ·obtain rfl : T = T2 := by rw [hT, hT2]
      cases decide (T > 16777216)
      ·rw [if_neg (by simp), Bool.or_false]
      ·rw [if_pos rfl, Bool.or_true]
    rw [← hT, ← hT2, hq]
    obtain ⟨f', hf'⟩ : ∃ f', f' = (q2 || decide (T > 16777216)) := ⟨_, rfl⟩
    rw [← hf']
    have hst : f' = true ∨ (nm = nm' ∧ u = u' ∧ v = v' ∧ v1 = v2) := by
     rcases hall with hall | hall
     ·left; rw [hf', hall, Bool.true_or]
     ·exact .inr hall
    obtain ⟨w, q3, w1, w', w2, m1, m2, m3, m4, m5⟩ := zcA hb (m := 64) (by omega) v1 v2 f' k1 k2 (by rcases hst with hst | hst; exact .inl hst; exact .inr hst.2.2.2)
    simp only at m1 m2
    have hw := zdt (by omega) hb k1 m1
    obtain ⟨j, rfl⟩ : ∃ j : Nat, w = j := ⟨w.toNat, by omega⟩
    unfold zdn
    simp only
    rw [m2, Option.bind_some]
    simp only
    obtain ⟨l, q, a', st', vs', ss', a2', y1, y2, y3, y4, y5⟩ := zkh hb (zb5 c0 n) last (i : Int) (nm', ⟨b, t2, q0⟩) (u', ⟨b, u2, q1⟩) (v', ⟨b, v2, q2⟩) (w', ⟨b, w2, q3⟩) acc big j 0 w1 w2 q3 ⟨nm, IntKind.i64.wrap (last + u), T, [], []⟩ [] [] [] (zbj (by omega)) (by simp; omega) (by simp; omega) (by omega) m3 m4 (by
     rcases m5 with m5 | ⟨_, m5, m6⟩
     ·exact .inl m5
     ·exact .inr ⟨m6, rfl, rfl, by omega⟩)
    rw [show ((0 : Nat) : Int) = 0 from rfl] at y2
    simp only at y2 y5
    rw [← hT2, zbh (by omega)] at y2
    rw [y2, zbF (by omega), Option.bind_some]
    rw [show zfI ⟨b, v1, f'⟩ 64 ⟨nm, IntKind.i64.wrap (last + u), T, [], []⟩ = (zbB ⟨b, v1, f'⟩ 64).bind fun c => LV big c.2.b c.2.at_ c.2.failed ⟨nm, IntKind.i64.wrap (last + u), T, [], []⟩ [] c.1 from rfl, m1, Option.bind_some]
    simp only
    rw [y1, Option.bind_some, Option.bind_some]
    simp only
    rw [Option.bind_some, zbc (x := ((k + 1 : Nat) : Int) - 1) (by omega), show ((k + 1 : Nat) : Int) - 1 = (k : Int) by omega]
    obtain ⟨L, r, b1, st2, L', b2, x1, x2, x3, x4, x5⟩ := zlR hb c0 n k (i + 1) a' a2' q T T2 (acc ++ [⟨st'.Name, st'.From, st'.To, l, st'.Spans⟩]) (acc ++ [⟨nm', IntKind.i64.wrap (last + u'), T2, vs', ss'⟩]) (by omega) (by simp; omega) (by omega) y3 y4 (by
     rcases y5 with y5 | ⟨y5, rfl, rfl, rfl⟩
     ·exact .inl y5
     rcases m5 with m5 | ⟨m5, m6, rfl⟩
     ·rw [m5] at y5; cases y5
     rcases hst with hst | ⟨rfl, rfl, rfl, rfl⟩
     ·rw [hst] at m5; cases m5
     obtain rfl : T = T2 := by rw [hT, hT2]
     exact .inr ⟨rfl, rfl, rfl, by omega⟩)
    exact ⟨L, r, b1, st2, L', b2, x1, x2, x3, x4, by
     rcases x5 with x5 | x5
     ·exact .inl x5
     ·exact .inr ⟨by simp, x5.2⟩⟩
theorem zoN {b : List UInt8} (hb : b.length ≤ 100000000000) (a : Int) : zfd b a = zds b a := by
 unfold zfd zds
 by_cases ha : a < 0 ∨ a > b.length
 ·rw [if_pos (by simpa using ha), if_pos (by simpa using ha)]
 ·rw [if_neg (by simpa using ha), if_neg (by simpa using ha)]
  have h1 : 0 ≤ a ∧ a ≤ b.length := by omega
  obtain ⟨u, q1, u1, u', u2, e1, e2, g1, g2, g3⟩ := zcA hb (m := 64) (by omega) a a false h1 h1 (.inr rfl)
  simp only at e1 e2
  have hu := zdt (by omega) hb h1 e1
  obtain ⟨k, rfl⟩ : ∃ k : Nat, u = k := ⟨u.toNat, by omega⟩
  obtain ⟨l, q, a', st', l2, a2', x1, x2, x3, x4, x5⟩ := zlR hb (u', ⟨b, u2, q1⟩) big k 0 u1 u2 q1 0 0 [] [] (zbj (by omega)) (by simp; omega) (by omega) g1 g2 (by
   rcases g3 with g3 | ⟨_, g3, g4⟩
   ·exact .inl g3
   ·exact .inr ⟨g4, rfl, rfl, by omega⟩)
  rw [show ((0 : Nat) : Int) = 0 from rfl] at x2
  have hpl : zel ⟨b, a, false⟩ 64 0 = some (l, ⟨b, a', q⟩, st') := by
   rw [plsget, e1, Option.bind_some]
   exact x1
  rw [e2, Option.bind_some, hpl, Option.bind_some]
  simp only
  rw [x2]
  unfold zld
  obtain ⟨v, q2, v1, v', v2, d1, d2, k1, k2, k3⟩ := zcA hb (m := 1000) (by omega) a' a2' q x3 x4 (by rcases x5 with x5 | x5; exact .inl x5; exact .inr x5.2.2)
  simp only at d1 d2
  have hv := zdt (by omega) hb x3 d1
  obtain ⟨j, rfl⟩ : ∃ j : Nat, v = j := ⟨v.toNat, by omega⟩
  obtain ⟨L, r, b1, L', b2, y1, y2, y3⟩ := zlx hb l2 (v', ⟨b, v2, q2⟩) big j 0 v1 v2 q2 [] [] (zbj (by omega)) (by simp; omega) (by omega) k1 k2 (by
   rcases k3 with k3 | ⟨_, k3, k4⟩
   ·exact .inl k3
   ·exact .inr ⟨k4, rfl, by omega⟩)
  rw [show ((0 : Nat) : Int) = 0 from rfl] at y2
  have hpt : zeb ⟨b, a', q⟩ 1000 = some (L, ⟨b, b1, r⟩) := by
   rw [show zeb ⟨b, a', q⟩ 1000 = (zbB ⟨b, a', q⟩ 1000).bind fun c => LQ big c.2.b c.2.at_ c.2.failed [] c.1 from rfl, d1, Option.bind_some]
   exact y1
  rw [d2, Option.bind_some, hpt, Option.bind_some]
  simp only
  rw [y2]
  unfold zl8
  cases r with
  | true => rfl
  | false =>
   have y4 : q2 = false ∧ L = L' ∧ b1 = b2 := by rcases y3 with y3 | y3; cases y3; exact y3
   obtain ⟨rfl, rfl, rfl⟩ := y4
   have k4 : q = false := by rcases k3 with k3 | k3; cases k3; exact k3.1
   subst k4
   have x6 : l = l2 := by rcases x5 with x5 | x5; cases x5; exact x5.2.1
   subst x6
   obtain ⟨l0, ⟨qb, qa, qf⟩, z1, z2, _, _, z3⟩ := zkt hb a false h1.1 h1.2
   simp only at z1 z2 z3
   rw [hpl] at z1
   injection z1 with z1
   injection z1 with z1 z4
   injection z4 with z4 z5 z6
   subst z1; subst z6
   obtain ⟨l0, ⟨ub, ua, uf⟩, w1, w2, _, _, w3⟩ := zlB hb a' false x3.1 x3.2
   simp only at w1 w2 w3
   rw [hpt] at w1
   injection w1 with w1
   injection w1 with w1 w4
   injection w4 with w4 w5 w6
   subst w1; subst w6
   have hV : tbV l L := by
    rcases z3 with z3 | ⟨_, _, z3, _⟩
    ·cases z3
    rcases w3 with w3 | ⟨_, _, w3, _⟩
    ·cases w3
    exact ⟨z3, w3⟩
   obtain ⟨t1, t2, t3, t4⟩ := zjE hV
   rw [znr t1 t2 t3, zkl t1 t2 t3]
theorem zp5 (p0 : List UInt8) (p1 : Int) : zhg p0 p1 = some true := by
 unfold zhg
 by_cases hb : (p0.length : Int) > 8192
 ·rw [zv hb, if_pos rfl, zjY]; rfl
 have hR : zhL p0 = some (p0, p0 ++ [8, 7, 6, 5, 4, 3, 2, 1]) := if_pos (by omega)
 rw [zx hb, if_neg (by simp), hR, Option.bind_some, zoN (by omega)]
 simp only
 obtain ⟨r, e, h⟩ := zmq (b := p0) (by omega) p1
 have hs : smT r.1 ∧ smQ r.2.1 := by
  rcases h with (h | h) | ⟨l, q, i, hi, h, hL, hB, hv⟩
  ·rw [h]; exact ⟨⟨by simp, fun _ h => (nomatch h)⟩, ⟨by simp, fun _ h => (nomatch h)⟩⟩
  ·rw [h]; exact ⟨⟨by simp, fun _ h => (nomatch h)⟩, ⟨by simp, fun _ h => (nomatch h)⟩⟩
  ·rw [h]; obtain ⟨s1, s2, s3, s4⟩ := zjE hv; exact ⟨s1, s3⟩
 rw [e, Option.bind_some, Option.bind_some, znt hs.1, Option.bind_some, if_pos rfl, zms hs.2]
 simp only [Option.bind_some, beq_self_eq_true, Bool.and_self, if_true, znG (show p0.length ≤ 1099511000000 by omega), zjY]
end Go.Proofs.YtckcngkkofemjaaGreat
