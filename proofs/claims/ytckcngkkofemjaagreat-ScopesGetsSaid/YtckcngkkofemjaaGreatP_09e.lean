import Derived.Test.YtckcngkkofemjaaGreatP_09d
namespace Go.Proofs.YtckcngkkofemjaaGreat
open Go.Ab Go.RowKit
set_option linter.unusedVariables false
set_option linter.unusedSimpArgs false
def vaE (v : Vr) : List UInt8 := txE v.Name ++ (v.Type_.Kind :: (if v.Type_.Kind.toNat = 3 then zbM v.Type_.N else if v.Type_.Kind.toNat = 4 then txE v.Type_.Name ++ lsE txE v.Fields else []))
def vaV (v : Vr) : Prop := v.Name.size ≤ 255 ∧ (if v.Type_.Kind.toNat = 3 then (0 ≤ v.Type_.N ∧ v.Type_.N ≤ 16 ∧ v.Words = v.Type_.N ∧ v.Type_.Name = ⟨#[]⟩ ∧ v.Fields = []) else if v.Type_.Kind.toNat = 4 then (v.Type_.N = 0 ∧ v.Type_.Name.size ≤ 255 ∧ ((v.Fields.length : Int) ≤ 8 ∧ ∀ x ∈ v.Fields, x.size ≤ 255) ∧ v.Words = v.Fields.length) else (v.Type_.N = 0 ∧ v.Type_.Name = ⟨#[]⟩ ∧ v.Fields = [] ∧ v.Words = 1))
theorem zlC {b : List UInt8} (hb : b.length ≤ 100000000000) {a : Int} {f : Bool} {x : Int} {q : Rd} (h0 : 0 ≤ a) (h1 : a ≤ b.length) (h : zck ⟨b, a, f⟩ = some (x, q)) : 0 ≤ x ∧ x < 256 := by
 obtain ⟨k, rfl⟩ : ∃ k : Nat, a = k := ⟨a.toNat, by omega⟩
 unfold zck at h
 simp only at h
 by_cases hk : k < b.length
 ·have h256 := b[k].toNat_lt
  rw [zea (by omega) hk, Option.bind_some] at h
  simp only at h
  split at h
  ·injection h with h; injection h with h; omega
  ·injection h with h; injection h with h; omega
 ·rw [zgH (by omega), Option.bind_some] at h
  simp only at h
  split at h
  ·injection h with h; injection h with h; omega
  ·injection h with h; injection h with h; omega
theorem zmE {b : List UInt8} (hb : b.length ≤ 100000000000) : RdS b zd0 vaE vaV := by
 intro a f h0 h1
 obtain ⟨s, ⟨qb, qa, qf⟩, e1, rfl, a0, a1, g1⟩ := zes hb a f h0 h1
 simp only at a0 a1 g1
 obtain ⟨x, ⟨ub, ua, uf⟩, e2, hub, b0, b1, g2⟩ := zmn hb qa qf a0 a1
 simp only at hub b0 b1 g2
 subst hub
 obtain ⟨hx0, hx1⟩ := zlC hb a0 a1 e2
 obtain ⟨n, rfl⟩ : ∃ n : Nat, x = n := ⟨x.toNat, by omega⟩
 have hz : u8o (n : Int) = some (UInt8.ofNat n) := zjG (by omega)
 have hn : (UInt8.ofNat n).toNat = n := by rw [UInt8.toNat_ofNat']; omega
 have hby : byE (n : Int) = [UInt8.ofNat n] := by unfold byE; rw [Int.toNat_natCast]
 unfold zd0
 rw [show zcx _ = _ from e1, Option.bind_some]
 simp only
 rw [e2, Option.bind_some]
 simp only
 by_cases k3 : n = 3
 ·obtain ⟨y, ⟨wb, wa, wf⟩, e3, hwb, c0, c1, g3⟩ := zc5 hb (m := 16) (by omega) ua uf b0 b1
  simp only at e3 hwb c0 c1 g3
  subst hwb
  rw [zbO (by omega), if_pos rfl, e3, Option.bind_some, hz, Option.bind_some]
  refine ⟨_, _, rfl, rfl, c0, c1, ?_⟩
  rcases g3 with g3 | ⟨f3, w3, v3, i3, p3, L3, q3⟩
  ·exact .inl g3
  rcases g2 with g2 | ⟨f2, w2, v2, i2, p2, L2, q2⟩
  ·rw [g2] at f3; cases f3
  rcases g1 with g1 | ⟨f1, w1, v1, i1, p1, L1, q1⟩
  ·rw [g1] at f2; cases f2
  right
  rw [hby] at L2 q2
  obtain rfl : i2 = i1 + (txE s).length := by omega
  obtain rfl : i3 = i1 + (txE s).length + [UInt8.ofNat n].length := by omega
  refine ⟨f1, w3, ⟨v1, ?_⟩, i1, p1, ?_⟩
  ·simp only
   rw [hn, if_pos k3]
   exact ⟨v3.1, v3.2, by trivial, by trivial, by trivial⟩
  ·unfold vaE
   simp only
   rw [hn, if_pos k3]
   exact ⟨L1.app (L2.app L3), by rw [q3]; simp; omega⟩
 ·by_cases k4 : n = 4
  ·obtain ⟨tn, ⟨wb, wa, wf⟩, e3, hwb, c0, c1, g3⟩ := zes hb ua uf b0 b1
   simp only at hwb c0 c1 g3
   subst hwb
   obtain ⟨fl, ⟨zb, za, zf⟩, e4, hzb, d0, d1, g4⟩ := zox hb wa wf c0 c1
   simp only at e4 hzb d0 d1 g4
   subst hzb
   rw [zbJ (by omega), if_neg (by simp), zbO (by omega), if_pos rfl, e3, Option.bind_some]
   simp only
   rw [e4, Option.bind_some, hz, Option.bind_some]
   refine ⟨_, _, rfl, rfl, d0, d1, ?_⟩
   rcases g4 with g4 | ⟨f4, w4, v4, i4, p4, L4, q4⟩
   ·exact .inl g4
   rcases g3 with g3 | ⟨f3, w3, v3, i3, p3, L3, q3⟩
   ·rw [g3] at f4; cases f4
   rcases g2 with g2 | ⟨f2, w2, v2, i2, p2, L2, q2⟩
   ·rw [g2] at f3; cases f3
   rcases g1 with g1 | ⟨f1, w1, v1, i1, p1, L1, q1⟩
   ·rw [g1] at f2; cases f2
   right
   rw [hby] at L2 q2
   obtain rfl : i2 = i1 + (txE s).length := by omega
   obtain rfl : i3 = i1 + (txE s).length + [UInt8.ofNat n].length := by omega
   obtain rfl : i4 = i1 + (txE s).length + [UInt8.ofNat n].length + (txE tn).length := by omega
   refine ⟨f1, w4, ⟨v1, ?_⟩, i1, p1, ?_⟩
   ·simp only
    rw [hn, if_neg k3, if_pos k4]
    exact ⟨by trivial, v3, v4, by trivial⟩
   ·unfold vaE
    simp only
    rw [hn, if_neg k3, if_pos k4]
    exact ⟨L1.app (L2.app (L3.app L4)), by rw [q4]; simp; omega⟩
  ·rw [zbJ (by omega), if_neg (by simp), zbJ (by omega), if_neg (by simp), hz, Option.bind_some]
   refine ⟨_, _, rfl, rfl, b0, b1, ?_⟩
   rcases g2 with g2 | ⟨f2, w2, v2, i2, p2, L2, q2⟩
   ·exact .inl g2
   rcases g1 with g1 | ⟨f1, w1, v1, i1, p1, L1, q1⟩
   ·rw [g1] at f2; cases f2
   right
   rw [hby] at L2 q2
   obtain rfl : i2 = i1 + (txE s).length := by omega
   refine ⟨f1, w2, ⟨v1, ?_⟩, i1, p1, ?_⟩
   ·simp only
    rw [hn, if_neg k3, if_neg k4]
    exact ⟨by trivial, by trivial, by trivial, by trivial⟩
   ·unfold vaE
    simp only
    rw [hn, if_neg k3, if_neg k4]
    exact ⟨L1.app L2, by rw [q2]; simp; omega⟩
end Go.Proofs.YtckcngkkofemjaaGreat
