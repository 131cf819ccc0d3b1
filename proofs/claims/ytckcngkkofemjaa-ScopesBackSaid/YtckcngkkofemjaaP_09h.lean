import Derived.Test.YtckcngkkofemjaaAd
import Derived.Test.YtckcngkkofemjaaF
import Derived.Test.YtckcngkkofemjaaPL
import Derived.Test.YtckcngkkofemjaaP_02
import Derived.Test.YtckcngkkofemjaaP_01
import Derived.Test.YtckcngkkofemjaaP_06
import Derived.Test.YtckcngkkofemjaaP_06b
import Derived.Test.YtckcngkkofemjaaP_06c
import Derived.Test.YtckcngkkofemjaaP_07
import Derived.Test.YtckcngkkofemjaaP_07b
import Derived.Test.YtckcngkkofemjaaP_09
import Derived.Test.YtckcngkkofemjaaP_09c
import Derived.Test.YtckcngkkofemjaaP_09d
import Derived.Test.YtckcngkkofemjaaP_09e
import Derived.Test.YtckcngkkofemjaaP_09f
import Derived.Test.YtckcngkkofemjaaP_09g
namespace Go.Proofs.Ytckcngkkofemjaa
open Go.Ab Go.RowKit
set_option linter.unusedVariables false
set_option linter.unusedSimpArgs false
def encVS : List Vr → List (List Sp) → List UInt8
  | [], _ => []
  | _, [] => []
  | v :: l, s :: ss => vaE v ++ encSp s ++ encVS l ss
theorem R11_out : ∀ (l : List Vr) (st st' : Pl) (e : List UInt8), Ch R11 st l st' e → ∃ ss, ss.length = l.length ∧ (∀ v ∈ l, vaV v) ∧ (∀ s ∈ ss, spV s) ∧ st' = ⟨st.Name, st.From, st.To, st.Vars, st.Spans ++ ss⟩ ∧ e = encVS l ss
  | [], st, st', e, h => by
    obtain ⟨rfl, rfl⟩ := h
    exact ⟨[], rfl, by simp, by simp, by simp, rfl⟩
  | x :: l, st, st', e, h => by
    obtain ⟨s1, e1, e2, ⟨hv, sp, hs, rfl, rfl⟩, h2, rfl⟩ := h
    obtain ⟨ss, g1, g2, g3, g4, g5⟩ := R11_out l _ _ _ h2
    refine ⟨sp :: ss, by simp [g1], ?_, ?_, by rw [g4]; simp, by rw [g5, encVS]⟩
    · intro v hm
      rcases List.mem_cons.1 hm with rfl | hm
      · exact hv
      · exact g2 v hm
    · intro v hm
      rcases List.mem_cons.1 hm with rfl | hm
      · exact hs
      · exact g3 v hm
theorem R11_in : ∀ (l : List Vr) (ss : List (List Sp)) (st : Pl), ss.length = l.length → (∀ v ∈ l, vaV v) → (∀ s ∈ ss, spV s) → Ch R11 st l ⟨st.Name, st.From, st.To, st.Vars, st.Spans ++ ss⟩ (encVS l ss)
  | [], ss, st, h, _, _ => by
    obtain rfl := List.length_eq_zero_iff.1 h
    exact ⟨by simp, rfl⟩
  | x :: l, [], st, h, _, _ => by simp at h
  | x :: l, s :: ss, st, h, hv, hs => by
    have ih := R11_in l ss ⟨st.Name, st.From, st.To, st.Vars, st.Spans ++ [s]⟩ (by simpa using h) (fun v hm => hv v (List.mem_cons_of_mem _ hm)) (fun v hm => hs v (List.mem_cons_of_mem _ hm))
    refine ⟨_, vaE x ++ encSp s, encVS l ss, ⟨hv x (by simp), s, hs s (by simp), rfl, rfl⟩, ?_, by rw [encVS]⟩
    simpa using ih
def plE (last : Int) (x : Pl) : List UInt8 := txE x.Name ++ (numE (x.From - last) ++ (numE (x.To - x.From) ++ (encU x.Vars.length ++ encVS x.Vars x.Spans)))
def plV (last : Int) (x : Pl) : Prop := x.Name.size ≤ 255 ∧ (0 ≤ x.From - last ∧ x.From - last ≤ 16777216) ∧ (0 ≤ x.To - x.From ∧ x.To - x.From ≤ 16777216) ∧ x.To ≤ 16777216 ∧ (x.Vars.length : Int) ≤ 64 ∧ x.Spans.length = x.Vars.length ∧ (∀ v ∈ x.Vars, vaV v) ∧ ∀ s ∈ x.Spans, spV s
def R1 (last : Int) (x : Pl) (last' : Int) (e : List UInt8) : Prop := plV last x ∧ last' = x.To ∧ e = plE last x
def szL (last : Int) : Nat := if last < 0 then 2000000 else (last.toNat + 33554431) / 33554432
theorem szL_ok {last : Int} (h : szL last ≤ 1000000) : 0 ≤ last ∧ last ≤ 33554432000000 := by
  unfold szL at h
  split at h <;> omega
theorem szL_add {last u v : Int} (h : szL last ≤ 1000000) (hu : 0 ≤ u ∧ u ≤ 16777216) (hv : 0 ≤ v ∧ v ≤ 16777216) : szL (last + u + v) ≤ szL last + 1 := by
  have h0 := szL_ok h
  unfold szL
  rw [if_neg (by omega), if_neg (by omega)]
  omega
theorem g1_S {b : List UInt8} (hb : b.length ≤ 100000000000) : StS b zO R1 szL := by
  intro a f last h0 h1 hsz
  obtain ⟨hl0, hl1⟩ := szL_ok hsz
  obtain ⟨nm, ⟨qb, qa, qf⟩, e1, hqb, a0, a1, g1⟩ := txt_S hb a f h0 h1
  simp only at hqb a0 a1 g1
  subst hqb
  obtain ⟨u, ⟨ub, ua, uf⟩, e2, hub, b0, b1, g2⟩ := num_S hb (m := 16777216) (by omega) qa qf a0 a1
  simp only at e2 hub b0 b1 g2
  subst hub
  have hu := num_rng (by omega) hb ⟨a0, a1⟩ e2
  obtain ⟨v, ⟨wb, wa, wf⟩, e3, hwb, c0, c1, g3⟩ := num_S hb (m := 16777216) (by omega) ua uf b0 b1
  simp only at e3 hwb c0 c1 g3
  subst hwb
  have hv := num_rng (by omega) hb ⟨b0, b1⟩ e3
  unfold zO zbD
  simp only
  rw [e1, Option.bind_some]
  simp only
  rw [e2, Option.bind_some]
  simp only
  rw [e3, Option.bind_some, wi64 (x := last + u) (by omega), wi64 (x := last + u + v) (by omega)]
  simp only
  obtain ⟨l, ⟨zb, za, zf⟩, st', e4, hzb, d0, d1, g4⟩ := vars_S hb wa (wf || decide (last + u + v > 16777216)) ⟨nm, last + u, last + u + v, [], []⟩ c0 c1 (by simp)
  simp only at e4 hzb d0 d1 g4
  subst hzb
  rw [e4, Option.bind_some]
  refine ⟨_, _, _, rfl, rfl, d0, d1, szL_add hsz hu hv, ?_⟩
  rcases g4 with g4 | ⟨f4, w4, v4, ee, i4, r4, p4, L4, q4⟩
  · exact .inl g4
  simp only [Bool.or_eq_false_iff, decide_eq_false_iff_not] at f4
  obtain ⟨f4, t4⟩ := f4
  rcases g3 with g3 | ⟨f3, w3, v3, i3, p3, L3, q3⟩
  · rw [g3] at f4; cases f4
  rcases g2 with g2 | ⟨f2, w2, v2, i2, p2, L2, q2⟩
  · rw [g2] at f3; cases f3
  rcases g1 with g1 | ⟨f1, w1, v1, i1, p1, L1, q1⟩
  · rw [g1] at f2; cases f2
  right
  obtain ⟨ss, s1, s2, s3, rfl, rfl⟩ := R11_out l _ _ _ r4
  obtain rfl : i2 = i1 + (txE nm).length := by omega
  obtain rfl : i3 = i1 + (txE nm).length + (numE u).length := by omega
  obtain rfl : i4 = i1 + (txE nm).length + (numE u).length + (numE v).length := by omega
  have k1 : last + u - last = u := by omega
  have k2 : last + u + v - (last + u) = v := by omega
  refine ⟨f1, w4, txE nm ++ (numE u ++ (numE v ++ (encU l.length ++ encVS l ss))), i1, ⟨⟨v1, ?_, ?_, ?_, v4, ?_, s2, ?_⟩, rfl, ?_⟩, p1, L1.app (L2.app (L3.app L4)), ?_⟩
  · simp only; omega
  · simp only; omega
  · simp only; omega
  · simpa using s1
  · simpa using s3
  · simp only [plE, k1, k2, List.nil_append]
  · simp only [List.length_append] at q4 ⊢
    omega
theorem g1_P : StP zO R1 szL := by
  intro p r last x last' e hR hsz hlen
  obtain ⟨hl0, hl1⟩ := szL_ok hsz
  obtain ⟨nm, fr, to_, vs, ss⟩ := x
  obtain ⟨⟨v1, v2, v3, v4, v5, v6, v7, v8⟩, rfl, rfl⟩ := hR
  simp only [plE] at v1 v2 v3 v4 v5 v6 v7 v8 hlen ⊢
  have k1 : last + (fr - last) = fr := by omega
  have k2 : fr + (last' - fr) = last' := by omega
  have q1 : p ++ (txE nm ++ (numE (fr - last) ++ (numE (last' - fr) ++ (encU vs.length ++ encVS vs ss)))) ++ r = p ++ txE nm ++ (numE (fr - last) ++ (numE (last' - fr) ++ (encU vs.length ++ encVS vs ss)) ++ r) := by simp
  have q2 : p ++ (txE nm ++ (numE (fr - last) ++ (numE (last' - fr) ++ (encU vs.length ++ encVS vs ss)))) ++ r = (p ++ txE nm) ++ numE (fr - last) ++ (numE (last' - fr) ++ (encU vs.length ++ encVS vs ss) ++ r) := by simp
  have q3 : p ++ (txE nm ++ (numE (fr - last) ++ (numE (last' - fr) ++ (encU vs.length ++ encVS vs ss)))) ++ r = (p ++ txE nm ++ numE (fr - last)) ++ numE (last' - fr) ++ (encU vs.length ++ encVS vs ss ++ r) := by simp
  have q4 : p ++ (txE nm ++ (numE (fr - last) ++ (numE (last' - fr) ++ (encU vs.length ++ encVS vs ss)))) ++ r = (p ++ txE nm ++ numE (fr - last) ++ numE (last' - fr)) ++ (encU vs.length ++ encVS vs ss) ++ r := by simp
  have h1 := txt_P p _ nm v1 (by rw [← q1]; exact hlen)
  rw [← q1] at h1
  have h2 := num_P (m := 16777216) (by omega) (p ++ txE nm) _ (fr - last) v2 (by rw [← q2]; exact hlen)
  rw [← q2] at h2
  have h3 := num_P (m := 16777216) (by omega) (p ++ txE nm ++ numE (fr - last)) _ (last' - fr) v3 (by rw [← q3]; exact hlen)
  rw [← q3] at h3
  have h4 := vars_P (p ++ txE nm ++ numE (fr - last) ++ numE (last' - fr)) r ⟨nm, fr, last', [], []⟩ _ vs _ (R11_in vs ss ⟨nm, fr, last', [], []⟩ v6 v7 v8) v5 (by simp) (by rw [← q4]; exact hlen)
  rw [← q4] at h4
  simp only at h2 h3
  have hs := szL_add hsz v2 v3
  rw [k1, k2] at hs
  refine ⟨?_, hs⟩
  unfold zO zbD
  simp only
  rw [h1, Option.bind_some]
  simp only
  rw [h2, Option.bind_some]
  simp only
  rw [h3, Option.bind_some, wi64 (x := last + (fr - last)) (by omega), k1, wi64 (x := fr + (last' - fr)) (by omega), k2]
  simp only
  rw [decF (show ¬ last' > 16777216 by omega), Bool.or_false, h4, Option.bind_some]
  simp
end Go.Proofs.Ytckcngkkofemjaa
