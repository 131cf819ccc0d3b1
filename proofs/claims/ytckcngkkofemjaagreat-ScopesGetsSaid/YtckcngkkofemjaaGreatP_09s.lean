import Derived.Test.YtckcngkkofemjaaGreatP_09r
namespace Go.Proofs.YtckcngkkofemjaaGreat
open Go.Ab Go.RowKit
set_option linter.unusedVariables false
set_option linter.unusedSimpArgs false
abbrev Ans := List Pl × List Pt × Int × Int
def zl8 (la : List Pl) (a : Int) (f : Bool) (acc : List Pt) : Option Ans :=
 ((if f = true then some true else (zeq la acc).bind fun c => some (!c))).bind fun c => (if c = true then some ([], [], 0, 5) else some (la, acc, a, 0))
abbrev LQ := zev
theorem zlx {b : List UInt8} (hb : b.length ≤ 100000000000) (la : List Pl) (c0 : Int × Rd2) :
  ∀ (n k i : Nat) (a a2 : Int) (f : Bool) (acc acc2 : List Pt), k < n → acc.length + k ≤ 1000000 → i + k ≤ 1000000 → (0 ≤ a ∧ a ≤ b.length) → (0 ≤ a2 ∧ a2 ≤ b.length) → (f = true ∨ (a = a2 ∧ acc = acc2 ∧ c0.1 = ((i + k : Nat) : Int))) →
   ∃ l q a' l2 a2', LQ n b a f acc (k : Int) = some (l, ⟨b, a', q⟩) ∧ zcj c0 n b a2 f la acc2 (i : Int) = zl8 la a2' q l2 ∧ (q = true ∨ (f = false ∧ l = l2 ∧ a' = a2'))
 | 0, k, _, _, _, _, _, _, h, _, _, _, _, _ => by omega
 | n + 1, k, i, a, a2, f, acc, acc2, hn, hk, hik, h1, h2, hf => by
  have hL : LQ (n + 1) b a f acc (k : Int) = if (decide ((k : Int) > 0) && (!f)) = true then (zd2 ⟨b, a, f⟩).bind fun q => (room (acc.length + 1)).bind fun _ => LQ n q.2.b q.2.at_ q.2.failed (acc ++ [q.1]) (IntKind.i64.wrap ((k : Int) - 1)) else some (acc, ⟨b, a, f⟩) := rfl
  have hL2 : zcj c0 (n + 1) b a2 f la acc2 (i : Int) = zeP (zcj c0 n) c0 b a2 f la acc2 (i : Int) := rfl
  rw [hL, hL2]
  unfold zeP
  cases f with
  | true =>
   rw [Bool.not_true, Bool.and_false, Bool.and_false, if_neg (by simp), if_neg (by simp)]
   exact ⟨_, _, _, _, _, rfl, rfl, .inl rfl⟩
  | false =>
   obtain ⟨rfl, rfl, hc⟩ : a = a2 ∧ acc = acc2 ∧ c0.1 = ((i + k : Nat) : Int) := by rcases hf with hf | hf; cases hf; exact hf
   cases k with
   | zero =>
    rw [zx (by simp), zx (by omega), Bool.false_and, if_neg (by simp), if_neg (by simp)]
    exact ⟨_, _, _, _, _, rfl, rfl, .inr ⟨rfl, rfl, rfl⟩⟩
   | succ k =>
    rw [zv (by omega), zv (by omega), Bool.not_false, Bool.and_self, if_pos rfl, if_pos rfl]
    obtain ⟨u, q1, u1, u', u2, e1, e2, g1, g2, g3⟩ := zcA hb (m := 64) (by omega) a a false h1 h2 (.inr rfl)
    obtain ⟨v, q2, v1, v', v2, d1, d2, k1, k2, k3⟩ := zcA hb (m := 1048576) (by omega) u1 u2 q1 g1 g2 (by rcases g3 with g3 | g3; exact .inl g3; exact .inr g3.2.2)
    obtain ⟨w, q3, w1, w', w2, m1, m2, m3, m4, m5⟩ := zcA hb (m := 64) (by omega) v1 v2 q2 k1 k2 (by rcases k3 with k3 | k3; exact .inl k3; exact .inr k3.2.2)
    simp only at e1 e2 d1 d2 m1 m2
    have hw := zdt (by omega) hb k1 m1
    obtain ⟨j, rfl⟩ : ∃ j : Nat, w = j := ⟨w.toNat, by omega⟩
    rw [e2, Option.bind_some]
    simp only
    rw [d2, Option.bind_some]
    simp only
    rw [m2, Option.bind_some]
    simp only
    unfold zd2 zf4
    simp only
    rw [e1, Option.bind_some]
    simp only
    rw [d1, Option.bind_some]
    simp only
    rw [show zeV ⟨b, v1, q2⟩ 64 = (zbB ⟨b, v1, q2⟩ 64).bind fun c => zdA big c.2.b c.2.at_ c.2.failed [] c.1 from rfl, m1, Option.bind_some]
    simp only
    have hP : Sms b zdC (fun q => zbV q 64) := by
     intro a a2 f h1 h2 hf
     obtain ⟨x, q, a', x2, a2', e1, e2, h⟩ := zcA hb (m := 64) (by omega) a a2 f h1 h2 hf
     refine ⟨x, q, a', x2, a2', ?_, e2, h⟩
     unfold zdC
     rw [show zbB _ 64 = _ from e1]
     rfl
    obtain ⟨l, p, y, l2, y2, z1, z2, z3, z4, z5⟩ := ziI (β := Ans) hP (L := zdA) (fun _ _ _ _ _ _ => rfl) (L2 := fun m B A g l t => zfi (zcj c0 n) (i : Int) (u', ⟨b, u2, q1⟩) (v', ⟨b, v2, q2⟩) (w', ⟨b, w2, q3⟩) m B A g la acc l t) (cnt := w') (fin := fun B A g l => (room (acc.length + 1)).bind fun _ => zcj c0 n B A g la (acc ++ [(⟨u', v', l⟩ : zB)]) (IntKind.i64.wrap ((i : Int) + 1))) (fun _ _ _ _ _ _ => rfl) big j 0 w1 w2 q3 [] [] (zbj (by omega)) (by simp; omega) (by omega) m3 m4 (by
     rcases m5 with m5 | ⟨_, m5, m6⟩
     ·exact .inl m5
     ·exact .inr ⟨m6, rfl, by omega⟩)
    rw [show ((0 : Nat) : Int) = 0 from rfl] at z2
    rw [z1, z2, zbF (by omega), Option.bind_some, Option.bind_some, Option.bind_some, Option.bind_some, zbh (by omega)]
    simp only
    rw [zbc (x := ((k + 1 : Nat) : Int) - 1) (by omega), show ((k + 1 : Nat) : Int) - 1 = (k : Int) by omega]
    obtain ⟨L, r, b1, L', b2, y1, y2', y3⟩ := zlx hb la c0 n k (i + 1) y y2 p (acc ++ [⟨u, v, l⟩]) (acc ++ [⟨u', v', l2⟩]) (by omega) (by simp; omega) (by omega) z3 z4 (by
     rcases z5 with z5 | ⟨z5, rfl, rfl⟩
     ·exact .inl z5
     rcases m5 with m5 | ⟨m5, rfl, rfl⟩
     ·rw [m5] at z5; cases z5
     rcases k3 with k3 | ⟨k3, rfl, rfl⟩
     ·rw [k3] at m5; cases m5
     rcases g3 with g3 | ⟨g3, rfl, rfl⟩
     ·rw [g3] at k3; cases k3
     exact .inr ⟨rfl, rfl, by omega⟩)
    exact ⟨L, r, b1, L', b2, y1, y2', by
     rcases y3 with y3 | y3
     ·exact .inl y3
     ·exact .inr ⟨by simp, y3.2⟩⟩
end Go.Proofs.YtckcngkkofemjaaGreat
