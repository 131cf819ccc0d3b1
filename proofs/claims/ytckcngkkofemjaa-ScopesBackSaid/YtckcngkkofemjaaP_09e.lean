import Derived.Test.YtckcngkkofemjaaAd
import Derived.Test.YtckcngkkofemjaaF
import Derived.Test.YtckcngkkofemjaaPL
import Derived.Test.YtckcngkkofemjaaP_02
import Derived.Test.YtckcngkkofemjaaP_01
import Derived.Test.YtckcngkkofemjaaP_06
import Derived.Test.YtckcngkkofemjaaP_06b
import Derived.Test.YtckcngkkofemjaaP_06c
import Derived.Test.YtckcngkkofemjaaP_07
import Derived.Test.YtckcngkkofemjaaP_07b
import Derived.Test.YtckcngkkofemjaaP_09
import Derived.Test.YtckcngkkofemjaaP_09c
import Derived.Test.YtckcngkkofemjaaP_09d
namespace Go.Proofs.Ytckcngkkofemjaa
open Go.Ab Go.RowKit
set_option linter.unusedVariables false
set_option linter.unusedSimpArgs false
def vaE (v : Vr) : List UInt8 := txE v.Name ++ (v.Type_.Kind :: (if v.Type_.Kind.toNat = 3 then numE v.Type_.N else if v.Type_.Kind.toNat = 4 then txE v.Type_.Name ++ lsE txE v.Fields else []))
def vaV (v : Vr) : Prop := v.Name.size ≤ 255 ∧ (if v.Type_.Kind.toNat = 3 then (0 ≤ v.Type_.N ∧ v.Type_.N ≤ 16 ∧ v.Words = v.Type_.N ∧ v.Type_.Name = ⟨#[]⟩ ∧ v.Fields = []) else if v.Type_.Kind.toNat = 4 then (v.Type_.N = 0 ∧ v.Type_.Name.size ≤ 255 ∧ ((v.Fields.length : Int) ≤ 8 ∧ ∀ x ∈ v.Fields, x.size ≤ 255) ∧ v.Words = v.Fields.length) else (v.Type_.N = 0 ∧ v.Type_.Name = ⟨#[]⟩ ∧ v.Fields = [] ∧ v.Words = 1))
theorem byte_rng {b : List UInt8} (hb : b.length ≤ 100000000000) {a : Int} {f : Bool} {x : Int} {q : Rd} (h0 : 0 ≤ a) (h1 : a ≤ b.length) (h : zJ ⟨b, a, f⟩ = some (x, q)) : 0 ≤ x ∧ x < 256 := by
  obtain ⟨k, rfl⟩ : ∃ k : Nat, a = k := ⟨a.toNat, by omega⟩
  unfold zJ at h
  simp only at h
  by_cases hk : k < b.length
  · have h256 := b[k].toNat_lt
    rw [OneC (by omega) hk, Option.bind_some] at h
    simp only at h
    split at h
    · injection h with h; injection h with h; omega
    · injection h with h; injection h with h; omega
  · rw [OneB (by omega), Option.bind_some] at h
    simp only at h
    split at h
    · injection h with h; injection h with h; omega
    · injection h with h; injection h with h; omega
theorem var_S {b : List UInt8} (hb : b.length ≤ 100000000000) : RdS b z0 vaE vaV := by
  intro a f h0 h1
  obtain ⟨s, ⟨qb, qa, qf⟩, e1, rfl, a0, a1, g1⟩ := txt_S hb a f h0 h1
  simp only at a0 a1 g1
  obtain ⟨x, ⟨ub, ua, uf⟩, e2, hub, b0, b1, g2⟩ := byte_S hb qa qf a0 a1
  simp only at hub b0 b1 g2
  subst hub
  obtain ⟨hx0, hx1⟩ := byte_rng hb a0 a1 e2
  obtain ⟨n, rfl⟩ : ∃ n : Nat, x = n := ⟨x.toNat, by omega⟩
  have hz : u8o (n : Int) = some (UInt8.ofNat n) := u8o_nat (by omega)
  have hn : (UInt8.ofNat n).toNat = n := by rw [UInt8.toNat_ofNat']; omega
  have hby : byE (n : Int) = [UInt8.ofNat n] := by unfold byE; rw [Int.toNat_natCast]
  unfold z0
  rw [show zB _ = _ from e1, Option.bind_some]
  simp only
  rw [e2, Option.bind_some]
  simp only
  by_cases k3 : n = 3
  · obtain ⟨y, ⟨wb, wa, wf⟩, e3, hwb, c0, c1, g3⟩ := num_S hb (m := 16) (by omega) ua uf b0 b1
    simp only at e3 hwb c0 c1 g3
    subst hwb
    rw [beqT (by omega), if_pos rfl, e3, Option.bind_some, hz, Option.bind_some]
    refine ⟨_, _, rfl, rfl, c0, c1, ?_⟩
    rcases g3 with g3 | ⟨f3, w3, v3, i3, p3, L3, q3⟩
    · exact .inl g3
    rcases g2 with g2 | ⟨f2, w2, v2, i2, p2, L2, q2⟩
    · rw [g2] at f3; cases f3
    rcases g1 with g1 | ⟨f1, w1, v1, i1, p1, L1, q1⟩
    · rw [g1] at f2; cases f2
    right
    rw [hby] at L2 q2
    obtain rfl : i2 = i1 + (txE s).length := by omega
    obtain rfl : i3 = i1 + (txE s).length + [UInt8.ofNat n].length := by omega
    refine ⟨f1, w3, ⟨v1, ?_⟩, i1, p1, ?_⟩
    · simp only
      rw [hn, if_pos k3]
      exact ⟨v3.1, v3.2, by trivial, by trivial, by trivial⟩
    · unfold vaE
      simp only
      rw [hn, if_pos k3]
      exact ⟨L1.app (L2.app L3), by rw [q3]; simp; omega⟩
  · by_cases k4 : n = 4
    · obtain ⟨tn, ⟨wb, wa, wf⟩, e3, hwb, c0, c1, g3⟩ := txt_S hb ua uf b0 b1
      simp only at hwb c0 c1 g3
      subst hwb
      obtain ⟨fl, ⟨zb, za, zf⟩, e4, hzb, d0, d1, g4⟩ := strs_S hb wa wf c0 c1
      simp only at e4 hzb d0 d1 g4
      subst hzb
      rw [beqF (by omega), if_neg (by simp), beqT (by omega), if_pos rfl, e3, Option.bind_some]
      simp only
      rw [e4, Option.bind_some, hz, Option.bind_some]
      refine ⟨_, _, rfl, rfl, d0, d1, ?_⟩
      rcases g4 with g4 | ⟨f4, w4, v4, i4, p4, L4, q4⟩
      · exact .inl g4
      rcases g3 with g3 | ⟨f3, w3, v3, i3, p3, L3, q3⟩
      · rw [g3] at f4; cases f4
      rcases g2 with g2 | ⟨f2, w2, v2, i2, p2, L2, q2⟩
      · rw [g2] at f3; cases f3
      rcases g1 with g1 | ⟨f1, w1, v1, i1, p1, L1, q1⟩
      · rw [g1] at f2; cases f2
      right
      rw [hby] at L2 q2
      obtain rfl : i2 = i1 + (txE s).length := by omega
      obtain rfl : i3 = i1 + (txE s).length + [UInt8.ofNat n].length := by omega
      obtain rfl : i4 = i1 + (txE s).length + [UInt8.ofNat n].length + (txE tn).length := by omega
      refine ⟨f1, w4, ⟨v1, ?_⟩, i1, p1, ?_⟩
      · simp only
        rw [hn, if_neg k3, if_pos k4]
        exact ⟨by trivial, v3, v4, by trivial⟩
      · unfold vaE
        simp only
        rw [hn, if_neg k3, if_pos k4]
        exact ⟨L1.app (L2.app (L3.app L4)), by rw [q4]; simp; omega⟩
    · rw [beqF (by omega), if_neg (by simp), beqF (by omega), if_neg (by simp), hz, Option.bind_some]
      refine ⟨_, _, rfl, rfl, b0, b1, ?_⟩
      rcases g2 with g2 | ⟨f2, w2, v2, i2, p2, L2, q2⟩
      · exact .inl g2
      rcases g1 with g1 | ⟨f1, w1, v1, i1, p1, L1, q1⟩
      · rw [g1] at f2; cases f2
      right
      rw [hby] at L2 q2
      obtain rfl : i2 = i1 + (txE s).length := by omega
      refine ⟨f1, w2, ⟨v1, ?_⟩, i1, p1, ?_⟩
      · simp only
        rw [hn, if_neg k3, if_neg k4]
        exact ⟨by trivial, by trivial, by trivial, by trivial⟩
      · unfold vaE
        simp only
        rw [hn, if_neg k3, if_neg k4]
        exact ⟨L1.app L2, by rw [q2]; simp; omega⟩
theorem var_P : RdP z0 vaE vaV := by
  intro p r v hv hl
  obtain ⟨nm, ⟨kd, N, tn⟩, w, fl⟩ := v
  obtain ⟨h1, h2⟩ := hv
  simp only at h1 h2
  obtain ⟨tl, htl⟩ : ∃ tl, tl = (if kd.toNat = 3 then numE N else if kd.toNat = 4 then txE tn ++ lsE txE fl else []) := ⟨_, rfl⟩
  have hE : vaE ⟨nm, ⟨kd, N, tn⟩, w, fl⟩ = txE nm ++ (kd :: tl) := by rw [htl]; rfl
  rw [hE] at hl ⊢
  have hkd := kd.toNat_lt
  have hby : byE (kd.toNat : Int) = [kd] := by unfold byE; simp
  have e1 : p ++ (txE nm ++ kd :: tl) ++ r = p ++ txE nm ++ (kd :: tl ++ r) := by simp
  have e2 : p ++ (txE nm ++ kd :: tl) ++ r = (p ++ txE nm) ++ [kd] ++ (tl ++ r) := by simp
  have g1 := txt_P p (kd :: tl ++ r) nm h1 (by rw [← e1]; exact hl)
  rw [← e1] at g1
  have g2 := byte_P (p ++ txE nm) (tl ++ r) (kd.toNat : Int) (by omega) (by rw [hby, ← e2]; exact hl)
  rw [hby, ← e2] at g2
  have hz : u8o (kd.toNat : Int) = some kd := by rw [u8o_nat (by omega)]; simp
  unfold z0
  simp only
  rw [g1, Option.bind_some]
  simp only
  rw [g2, Option.bind_some]
  simp only
  by_cases k3 : kd.toNat = 3
  · rw [if_pos k3] at h2 htl
    obtain ⟨a1, a2, a3, a4, a5⟩ := h2
    subst a3; subst a4; subst a5
    have e3 : p ++ (txE nm ++ kd :: tl) ++ r = (p ++ txE nm ++ [kd]) ++ numE w ++ r := by rw [htl]; simp
    have g3 := num_P (m := 16) (by omega) (p ++ txE nm ++ [kd]) r w ⟨a1, a2⟩ (by rw [← e3]; exact hl)
    rw [← e3] at g3
    rw [beqT (by omega), if_pos rfl, show zr _ 16 = _ from g3, Option.bind_some, hz, Option.bind_some, htl]
    simp
  · rw [if_neg k3] at h2 htl
    by_cases k4 : kd.toNat = 4
    · rw [if_pos k4] at h2 htl
      obtain ⟨a1, a2, a3, a4⟩ := h2
      subst a1; subst a4
      have e3 : p ++ (txE nm ++ kd :: tl) ++ r = (p ++ txE nm ++ [kd]) ++ txE tn ++ (lsE txE fl ++ r) := by rw [htl]; simp
      have e4 : p ++ (txE nm ++ kd :: tl) ++ r = (p ++ txE nm ++ [kd] ++ txE tn) ++ lsE txE fl ++ r := by rw [htl]; simp
      have g3 := txt_P (p ++ txE nm ++ [kd]) (lsE txE fl ++ r) tn a2 (by rw [← e3]; exact hl)
      rw [← e3] at g3
      have g4 := strs_P (p ++ txE nm ++ [kd] ++ txE tn) r fl a3 (by rw [← e4]; exact hl)
      rw [← e4] at g4
      simp only at g4
      rw [beqF (by omega), if_neg (by simp), beqT (by omega), if_pos rfl, g3, Option.bind_some]
      simp only
      rw [g4, Option.bind_some, hz, Option.bind_some, htl]
      simp
    · rw [if_neg k4] at h2 htl
      obtain ⟨a1, a2, a3, a4⟩ := h2
      subst a1; subst a2; subst a3; subst a4
      rw [beqF (by omega), if_neg (by simp), beqF (by omega), if_neg (by simp), hz, Option.bind_some, htl]
      simp
end Go.Proofs.Ytckcngkkofemjaa
