import Derived.Test.YtckcngkkofemjaaGreatP_09g
namespace Go.Proofs.YtckcngkkofemjaaGreat
open Go.Ab Go.RowKit
set_option linter.unusedVariables false
set_option linter.unusedSimpArgs false
def zfQ : List Vr → List (List Sp) → List UInt8
 | [], _ => []
 | _, [] => []
 | v :: l, s :: ss => vaE v ++ zdp s ++ zfQ l ss
theorem zk2 : ∀ (l : List Vr) (st st' : Pl) (e : List UInt8), Ch R11 st l st' e → ∃ ss, ss.length = l.length ∧ (∀ v ∈ l, vaV v) ∧ (∀ s ∈ ss, spV s) ∧ st' = ⟨st.Name, st.From, st.To, st.Vars, st.Spans ++ ss⟩ ∧ e = zfQ l ss
 | [], st, st', e, h => by
  obtain ⟨rfl, rfl⟩ := h
  exact ⟨[], rfl, by simp, by simp, by simp, rfl⟩
 | x :: l, st, st', e, h => by
  obtain ⟨s1, e1, e2, ⟨hv, sp, hs, rfl, rfl⟩, h2, rfl⟩ := h
  obtain ⟨ss, g1, g2, g3, g4, g5⟩ := zk2 l _ _ _ h2
  refine ⟨sp :: ss, by simp [g1], ?_, ?_, by rw [g4]; simp, by rw [g5, zfQ]⟩
  ·intro v hm
   rcases List.mem_cons.1 hm with rfl | hm
   ·exact hv
   ·exact g2 v hm
  ·intro v hm
   rcases List.mem_cons.1 hm with rfl | hm
   ·exact hs
   ·exact g3 v hm
def plE (last : Int) (x : Pl) : List UInt8 := txE x.Name ++ (zbM (x.From - last) ++ (zbM (x.To - x.From) ++ (zS x.Vars.length ++ zfQ x.Vars x.Spans)))
def plV (last : Int) (x : Pl) : Prop := x.Name.size ≤ 255 ∧ (0 ≤ x.From - last ∧ x.From - last ≤ 16777216) ∧ (0 ≤ x.To - x.From ∧ x.To - x.From ≤ 16777216) ∧ x.To ≤ 16777216 ∧ (x.Vars.length : Int) ≤ 64 ∧ x.Spans.length = x.Vars.length ∧ (∀ v ∈ x.Vars, vaV v) ∧ ∀ s ∈ x.Spans, spV s
def R1 (last : Int) (x : Pl) (last' : Int) (e : List UInt8) : Prop := plV last x ∧ last' = x.To ∧ e = plE last x
def szL (last : Int) : Nat := if last < 0 then 2000000 else (last.toNat + 33554431) / 33554432
theorem zk9 {last : Int} (h : szL last ≤ 1000000) : 0 ≤ last ∧ last ≤ 33554432000000 := by
 unfold szL at h
 split at h <;> omega
theorem zoA {last u v : Int} (h : szL last ≤ 1000000) (hu : 0 ≤ u ∧ u ≤ 16777216) (hv : 0 ≤ v ∧ v ≤ 16777216) : szL (last + u + v) ≤ szL last + 1 := by
 have h0 := zk9 h
 unfold szL
 rw [if_neg (by omega), if_neg (by omega)]
 omega
theorem zoQ {b : List UInt8} (hb : b.length ≤ 100000000000) : StS b zdU R1 szL := by
 intro a f last h0 h1 hsz
 obtain ⟨hl0, hl1⟩ := zk9 hsz
 obtain ⟨nm, ⟨qb, qa, qf⟩, e1, hqb, a0, a1, g1⟩ := zes hb a f h0 h1
 simp only at hqb a0 a1 g1
 subst hqb
 obtain ⟨u, ⟨ub, ua, uf⟩, e2, hub, b0, b1, g2⟩ := zc5 hb (m := 16777216) (by omega) qa qf a0 a1
 simp only at e2 hub b0 b1 g2
 subst hub
 have hu := zdt (by omega) hb ⟨a0, a1⟩ e2
 obtain ⟨v, ⟨wb, wa, wf⟩, e3, hwb, c0, c1, g3⟩ := zc5 hb (m := 16777216) (by omega) ua uf b0 b1
 simp only at e3 hwb c0 c1 g3
 subst hwb
 have hv := zdt (by omega) hb ⟨b0, b1⟩ e3
 unfold zdU zfP
 simp only
 rw [e1, Option.bind_some]
 simp only
 rw [e2, Option.bind_some]
 simp only
 rw [e3, Option.bind_some, zbc (x := last + u) (by omega), zbc (x := last + u + v) (by omega)]
 simp only
 obtain ⟨l, ⟨zb, za, zf⟩, st', e4, hzb, d0, d1, g4⟩ := zpn hb wa (wf || decide (last + u + v > 16777216)) ⟨nm, last + u, last + u + v, [], []⟩ c0 c1 (by simp)
 simp only at e4 hzb d0 d1 g4
 subst hzb
 rw [e4, Option.bind_some]
 refine ⟨_, _, _, rfl, rfl, d0, d1, zoA hsz hu hv, ?_⟩
 rcases g4 with g4 | ⟨f4, w4, v4, ee, i4, r4, p4, L4, q4⟩
 ·exact .inl g4
 simp only [Bool.or_eq_false_iff, decide_eq_false_iff_not] at f4
 obtain ⟨f4, t4⟩ := f4
 rcases g3 with g3 | ⟨f3, w3, v3, i3, p3, L3, q3⟩
 ·rw [g3] at f4; cases f4
 rcases g2 with g2 | ⟨f2, w2, v2, i2, p2, L2, q2⟩
 ·rw [g2] at f3; cases f3
 rcases g1 with g1 | ⟨f1, w1, v1, i1, p1, L1, q1⟩
 ·rw [g1] at f2; cases f2
 right
 obtain ⟨ss, s1, s2, s3, rfl, rfl⟩ := zk2 l _ _ _ r4
 obtain rfl : i2 = i1 + (txE nm).length := by omega
 obtain rfl : i3 = i1 + (txE nm).length + (zbM u).length := by omega
 obtain rfl : i4 = i1 + (txE nm).length + (zbM u).length + (zbM v).length := by omega
 have k1 : last + u - last = u := by omega
 have k2 : last + u + v - (last + u) = v := by omega
 refine ⟨f1, w4, txE nm ++ (zbM u ++ (zbM v ++ (zS l.length ++ zfQ l ss))), i1, ⟨⟨v1, ?_, ?_, ?_, v4, ?_, s2, ?_⟩, rfl, ?_⟩, p1, L1.app (L2.app (L3.app L4)), ?_⟩
 ·simp only; omega
 ·simp only; omega
 ·simp only; omega
 ·simpa using s1
 ·simpa using s3
 ·simp only [plE, k1, k2, List.nil_append]
 ·simp only [List.length_append] at q4 ⊢
  omega
end Go.Proofs.YtckcngkkofemjaaGreat
