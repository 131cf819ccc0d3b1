import Derived.Test.YtckcngkkofemjaaGreatP_09h
namespace Go.Proofs.YtckcngkkofemjaaGreat
open Go.Ab Go.RowKit
set_option linter.unusedVariables false
set_option linter.unusedSimpArgs false
abbrev LP (n : Nat) (b : List UInt8) (a : Int) (f : Bool) (st : Int) (acc : List Pl) (c : Int) := zf2 n b a f st acc c
theorem zkE (n : Nat) (b : List UInt8) (a : Int) (f : Bool) (st : Int) (acc : List Pl) (c : Int) : LP (n + 1) b a f st acc c = if (decide (c > 0) && (!f)) = true then (zdU ⟨b, a, f⟩ st).bind fun q => (room (acc.length + 1)).bind fun _ => LP n q.2.1.b q.2.1.at_ q.2.1.failed q.2.2 (acc ++ [q.1]) (IntKind.i64.wrap (c - 1)) else some (acc, ⟨b, a, f⟩, st) := rfl
def ziq : Int → List Pl → List UInt8
 | _, [] => []
 | last, x :: l => plE last x ++ ziq x.To l
def zgh : Int → List Pl → Prop
 | _, [] => True
 | last, x :: l => plV last x ∧ zgh x.To l
theorem zkm : ∀ (l : List Pl) (st st' : Int) (e : List UInt8), Ch R1 st l st' e → zgh st l ∧ e = ziq st l
 | [], st, st', e, h => by
  obtain ⟨_, rfl⟩ := h
  exact ⟨trivial, rfl⟩
 | x :: l, st, st', e, h => by
  obtain ⟨s1, e1, e2, ⟨hv, rfl, rfl⟩, h2, rfl⟩ := h
  obtain ⟨g1, rfl⟩ := zkm l _ _ _ h2
  exact ⟨⟨hv, g1⟩, rfl⟩
def zin (l : List Pl) : List UInt8 := zS l.length ++ ziq 0 l
theorem plsget (b : List UInt8) (a : Int) (f : Bool) : zel ⟨b, a, f⟩ 64 0 = (zbB ⟨b, a, f⟩ 64).bind fun c => LP big c.2.b c.2.at_ c.2.failed 0 [] c.1 := rfl
theorem zkt {b : List UInt8} (hb : b.length ≤ 100000000000) : RdS b (fun q => (zel q 64 0).map fun c => (c.1, c.2.1)) zin (fun l => (l.length : Int) ≤ 64 ∧ zgh 0 l) := by
 intro a f h0 h1
 obtain ⟨l, q, st', e, h2, h3, h4, h5⟩ := zko (sz := szL) hb (m := 64) (by omega) (zoQ hb) (L := LP) zkE a f 0 h0 h1 (by decide)
 refine ⟨l, q, ?_, h2, h3, h4, ?_⟩
 ·simp only
  rw [plsget, e]
  rfl
 ·rcases h5 with h5 | ⟨f1, f2, f3, ee, i, r, p1, L1, q1⟩
  ·exact .inl h5
  ·obtain ⟨g1, rfl⟩ := zkm l _ _ _ r
   exact .inr ⟨f1, f2, ⟨f3, g1⟩, i, p1, L1, q1⟩
def ptE (x : Pt) : List UInt8 := zbM x.Func ++ (zbM x.Line ++ lsE zbM x.Scope)
def ptV (x : Pt) : Prop := (0 ≤ x.Func ∧ x.Func ≤ 64) ∧ (0 ≤ x.Line ∧ x.Line ≤ 1048576) ∧ (x.Scope.length : Int) ≤ 64 ∧ ∀ y ∈ x.Scope, 0 ≤ y ∧ y ≤ 64
theorem zoH {b : List UInt8} (hb : b.length ≤ 100000000000) : RdS b zd2 ptE ptV := by
 intro a f h0 h1
 obtain ⟨u, ⟨ub, ua, uf⟩, e2, hub, b0, b1, g2⟩ := zc5 hb (m := 64) (by omega) a f h0 h1
 simp only at e2 hub b0 b1 g2
 subst hub
 obtain ⟨v, ⟨wb, wa, wf⟩, e3, hwb, c0, c1, g3⟩ := zc5 hb (m := 1048576) (by omega) ua uf b0 b1
 simp only at e3 hwb c0 c1 g3
 subst hwb
 obtain ⟨l, ⟨zb, za, zf⟩, e4, hzb, d0, d1, g4⟩ := zp2 hb wa wf c0 c1
 simp only at e4 hzb d0 d1 g4
 subst hzb
 unfold zd2 zf4
 simp only
 rw [e2, Option.bind_some]
 simp only
 rw [e3, Option.bind_some]
 simp only
 rw [e4, Option.bind_some]
 refine ⟨_, _, rfl, rfl, d0, d1, ?_⟩
 rcases g4 with g4 | ⟨f4, w4, v4, i4, p4, L4, q4⟩
 ·exact .inl g4
 rcases g3 with g3 | ⟨f3, w3, v3, i3, p3, L3, q3⟩
 ·rw [g3] at f4; cases f4
 rcases g2 with g2 | ⟨f2, w2, v2, i2, p2, L2, q2⟩
 ·rw [g2] at f3; cases f3
 right
 obtain rfl : i3 = i2 + (zbM u).length := by omega
 obtain rfl : i4 = i2 + (zbM u).length + (zbM v).length := by omega
 refine ⟨f2, w4, ⟨v2, v3, v4⟩, i2, p2, L2.app (L3.app L4), ?_⟩
 simp only [ptE, List.length_append] at q4 ⊢
 omega
theorem zlB {b : List UInt8} (hb : b.length ≤ 100000000000) : RdS b (fun q => zeb q 1000) (lsE ptE) (fun l => (l.length : Int) ≤ 1000 ∧ ∀ x ∈ l, ptV x) :=
 zjy hb (by omega) (zoH hb) (L := zev) fun _ _ _ _ _ _ => rfl
end Go.Proofs.YtckcngkkofemjaaGreat
