import Derived.Test.YtckcngkkofemjaaGreatP_09l
namespace Go.Proofs.YtckcngkkofemjaaGreat
open Go.Ab Go.RowKit
set_option linter.unusedVariables false
set_option linter.unusedSimpArgs false
def zov (b : List UInt8) (a : Int) (r : List Pl × List Pt × Int × Int) : Prop :=
 ∃ (l : List Pl) (q : List Pt) (i : Nat), a = i ∧ r = (l, q, ((i + (ziC l q).length : Nat) : Int), 0) ∧ zbA b i (ziC l q) ∧ RB l q = true ∧ tbV l q
theorem zmq {b : List UInt8} (hb : b.length ≤ 100000000000) (a : Int) : ∃ r, zds b a = some r ∧ ((r = ([], [], 0, 1) ∨ r = ([], [], 0, 5)) ∨ zov b a r) := by
 unfold zds
 by_cases ha : a < 0 ∨ a > b.length
 ·rw [if_pos (by simpa using ha)]
  exact ⟨_, rfl, .inl (.inl rfl)⟩
 ·rw [if_neg (by simpa using ha)]
  obtain ⟨l, ⟨qb, qa, qf⟩, e1, hqb, a0, a1, g1⟩ := zkt hb a false (by omega) (by omega)
  simp only at e1 hqb a0 a1 g1
  subst hqb
  obtain ⟨⟨l', q', st⟩, e1', e1''⟩ := Option.map_eq_some_iff.1 e1
  injection e1'' with e2 e3
  simp only at e2 e3
  subst e2; subst e3
  rw [e1', Option.bind_some]
  simp only
  obtain ⟨q, ⟨ub, ua, uf⟩, e4, hub, b0, b1, g2⟩ := zlB hb qa qf a0 a1
  simp only at e4 hub b0 b1 g2
  subst hub
  rw [e4, Option.bind_some]
  simp only
  rcases g2 with g2 | ⟨f2, w2, v2, i2, p2, L2, q2⟩
  ·subst g2
   rw [if_pos rfl, Option.bind_some, if_pos rfl]
   exact ⟨_, rfl, .inl (.inr rfl)⟩
  ·rcases g1 with g1 | ⟨f1, w1, v1, i1, p1, L1, q1⟩
   ·rw [g1] at f2; cases f2
   subst w2
   have hv : tbV l' q := ⟨v1, v2⟩
   obtain ⟨s1, s2, s3, s4⟩ := zjE hv
   rw [if_neg (by simp), zkl s1 s2 s3, Option.bind_some, Option.bind_some]
   cases hB : RB l' q
   ·rw [Bool.not_false, if_pos rfl]
    exact ⟨_, rfl, .inl (.inr rfl)⟩
   ·rw [Bool.not_true, if_neg (by simp)]
    obtain rfl : i2 = i1 + (zin l').length := by omega
    refine ⟨_, rfl, .inr ⟨l', q, i1, p1, ?_, L1.app L2, hB, hv⟩⟩
    rw [q2, ziC, List.length_append, Nat.add_assoc]
end Go.Proofs.YtckcngkkofemjaaGreat
