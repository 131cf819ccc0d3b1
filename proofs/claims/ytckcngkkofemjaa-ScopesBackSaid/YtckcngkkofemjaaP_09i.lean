import Derived.Test.YtckcngkkofemjaaAd
import Derived.Test.YtckcngkkofemjaaF
import Derived.Test.YtckcngkkofemjaaPL
import Derived.Test.YtckcngkkofemjaaP_02
import Derived.Test.YtckcngkkofemjaaP_01
import Derived.Test.YtckcngkkofemjaaP_06
import Derived.Test.YtckcngkkofemjaaP_06b
import Derived.Test.YtckcngkkofemjaaP_06c
import Derived.Test.YtckcngkkofemjaaP_07
import Derived.Test.YtckcngkkofemjaaP_07b
import Derived.Test.YtckcngkkofemjaaP_09
import Derived.Test.YtckcngkkofemjaaP_09c
import Derived.Test.YtckcngkkofemjaaP_09d
import Derived.Test.YtckcngkkofemjaaP_09e
import Derived.Test.YtckcngkkofemjaaP_09f
import Derived.Test.YtckcngkkofemjaaP_09g
import Derived.Test.YtckcngkkofemjaaP_09h
namespace Go.Proofs.Ytckcngkkofemjaa
open Go.Ab Go.RowKit
set_option linter.unusedVariables false
set_option linter.unusedSimpArgs false
abbrev LP (n : Nat) (b : List UInt8) (a : Int) (f : Bool) (st : Int) (acc : List Pl) (c : Int) := zbB n b a f st acc c
theorem LP_eq (n : Nat) (b : List UInt8) (a : Int) (f : Bool) (st : Int) (acc : List Pl) (c : Int) : LP (n + 1) b a f st acc c = if (decide (c > 0) && (!f)) = true then (zO ⟨b, a, f⟩ st).bind fun q => (room (acc.length + 1)).bind fun _ => LP n q.2.1.b q.2.1.at_ q.2.1.failed q.2.2 (acc ++ [q.1]) (IntKind.i64.wrap (c - 1)) else some (acc, ⟨b, a, f⟩, st) := rfl
def encPls : Int → List Pl → List UInt8
  | _, [] => []
  | last, x :: l => plE last x ++ encPls x.To l
def plsV : Int → List Pl → Prop
  | _, [] => True
  | last, x :: l => plV last x ∧ plsV x.To l
def lastT : Int → List Pl → Int
  | last, [] => last
  | _, x :: l => lastT x.To l
theorem R1_out : ∀ (l : List Pl) (st st' : Int) (e : List UInt8), Ch R1 st l st' e → plsV st l ∧ e = encPls st l
  | [], st, st', e, h => by
    obtain ⟨_, rfl⟩ := h
    exact ⟨trivial, rfl⟩
  | x :: l, st, st', e, h => by
    obtain ⟨s1, e1, e2, ⟨hv, rfl, rfl⟩, h2, rfl⟩ := h
    obtain ⟨g1, rfl⟩ := R1_out l _ _ _ h2
    exact ⟨⟨hv, g1⟩, rfl⟩
theorem R1_in : ∀ (l : List Pl) (st : Int), plsV st l → Ch R1 st l (lastT st l) (encPls st l)
  | [], st, _ => ⟨rfl, rfl⟩
  | x :: l, st, h => ⟨x.To, plE st x, encPls x.To l, ⟨h.1, rfl, rfl⟩, R1_in l x.To h.2, rfl⟩
def plsE (l : List Pl) : List UInt8 := encU l.length ++ encPls 0 l
theorem plsget (b : List UInt8) (a : Int) (f : Bool) : zbn ⟨b, a, f⟩ 64 0 = (zr ⟨b, a, f⟩ 64).bind fun c => LP big c.2.b c.2.at_ c.2.failed 0 [] c.1 := rfl
theorem pls_S {b : List UInt8} (hb : b.length ≤ 100000000000) : RdS b (fun q => (zbn q 64 0).map fun c => (c.1, c.2.1)) plsE (fun l => (l.length : Int) ≤ 64 ∧ plsV 0 l) := by
  intro a f h0 h1
  obtain ⟨l, q, st', e, h2, h3, h4, h5⟩ := lstR_S (sz := szL) hb (m := 64) (by omega) (g1_S hb) (L := LP) LP_eq a f 0 h0 h1 (by decide)
  refine ⟨l, q, ?_, h2, h3, h4, ?_⟩
  · simp only
    rw [plsget, e]
    rfl
  · rcases h5 with h5 | ⟨f1, f2, f3, ee, i, r, p1, L1, q1⟩
    · exact .inl h5
    · obtain ⟨g1, rfl⟩ := R1_out l _ _ _ r
      exact .inr ⟨f1, f2, ⟨f3, g1⟩, i, p1, L1, q1⟩
theorem pls_P : RdP (fun q => (zbn q 64 0).map fun c => (c.1, c.2.1)) plsE (fun l => (l.length : Int) ≤ 64 ∧ plsV 0 l) := by
  intro p r l hl hlen
  have h := lstR_P (sz := szL) (m := 64) (by omega) g1_P (L := LP) LP_eq p r 0 (lastT 0 l) l (encPls 0 l) (R1_in l 0 hl.2) hl.1 (by decide) hlen
  simp only
  rw [plsget, plsE, h]
  rfl
def ptE (x : Pt) : List UInt8 := numE x.Func ++ (numE x.Line ++ lsE numE x.Scope)
def ptV (x : Pt) : Prop := (0 ≤ x.Func ∧ x.Func ≤ 64) ∧ (0 ≤ x.Line ∧ x.Line ≤ 1048576) ∧ (x.Scope.length : Int) ≤ 64 ∧ ∀ y ∈ x.Scope, 0 ≤ y ∧ y ≤ 64
theorem pt_S {b : List UInt8} (hb : b.length ≤ 100000000000) : RdS b zZ ptE ptV := by
  intro a f h0 h1
  obtain ⟨u, ⟨ub, ua, uf⟩, e2, hub, b0, b1, g2⟩ := num_S hb (m := 64) (by omega) a f h0 h1
  simp only at e2 hub b0 b1 g2
  subst hub
  obtain ⟨v, ⟨wb, wa, wf⟩, e3, hwb, c0, c1, g3⟩ := num_S hb (m := 1048576) (by omega) ua uf b0 b1
  simp only at e3 hwb c0 c1 g3
  subst hwb
  obtain ⟨l, ⟨zb, za, zf⟩, e4, hzb, d0, d1, g4⟩ := ints_S hb wa wf c0 c1
  simp only at e4 hzb d0 d1 g4
  subst hzb
  unfold zZ zb9
  simp only
  rw [e2, Option.bind_some]
  simp only
  rw [e3, Option.bind_some]
  simp only
  rw [e4, Option.bind_some]
  refine ⟨_, _, rfl, rfl, d0, d1, ?_⟩
  rcases g4 with g4 | ⟨f4, w4, v4, i4, p4, L4, q4⟩
  · exact .inl g4
  rcases g3 with g3 | ⟨f3, w3, v3, i3, p3, L3, q3⟩
  · rw [g3] at f4; cases f4
  rcases g2 with g2 | ⟨f2, w2, v2, i2, p2, L2, q2⟩
  · rw [g2] at f3; cases f3
  right
  obtain rfl : i3 = i2 + (numE u).length := by omega
  obtain rfl : i4 = i2 + (numE u).length + (numE v).length := by omega
  refine ⟨f2, w4, ⟨v2, v3, v4⟩, i2, p2, L2.app (L3.app L4), ?_⟩
  simp only [ptE, List.length_append] at q4 ⊢
  omega
theorem pt_P : RdP zZ ptE ptV := by
  intro p r x hx hlen
  obtain ⟨u, v, l⟩ := x
  obtain ⟨v1, v2, v3⟩ := hx
  simp only [ptE] at v1 v2 v3 hlen ⊢
  have q1 : p ++ (numE u ++ (numE v ++ lsE numE l)) ++ r = p ++ numE u ++ (numE v ++ lsE numE l ++ r) := by simp
  have q2 : p ++ (numE u ++ (numE v ++ lsE numE l)) ++ r = (p ++ numE u) ++ numE v ++ (lsE numE l ++ r) := by simp
  have q3 : p ++ (numE u ++ (numE v ++ lsE numE l)) ++ r = (p ++ numE u ++ numE v) ++ lsE numE l ++ r := by simp
  have h1 := num_P (m := 64) (by omega) p _ u v1 (by rw [← q1]; exact hlen)
  rw [← q1] at h1
  have h2 := num_P (m := 1048576) (by omega) (p ++ numE u) _ v v2 (by rw [← q2]; exact hlen)
  rw [← q2] at h2
  have h3 := ints_P (p ++ numE u ++ numE v) r l v3 (by rw [← q3]; exact hlen)
  rw [← q3] at h3
  simp only at h1 h2 h3
  unfold zZ zb9
  simp only
  rw [h1, Option.bind_some]
  simp only
  rw [h2, Option.bind_some]
  simp only
  rw [h3, Option.bind_some]
  simp
theorem pts_S {b : List UInt8} (hb : b.length ≤ 100000000000) : RdS b (fun q => zcn q 1000) (lsE ptE) (fun l => (l.length : Int) ≤ 1000 ∧ ∀ x ∈ l, ptV x) :=
  lst_S hb (by omega) (pt_S hb) (L := zbk) fun _ _ _ _ _ _ => rfl
theorem pts_P : RdP (fun q => zcn q 1000) (lsE ptE) (fun l => (l.length : Int) ≤ 1000 ∧ ∀ x ∈ l, ptV x) :=
  lst_P (by omega) pt_P (L := zbk) fun _ _ _ _ _ _ => rfl
end Go.Proofs.Ytckcngkkofemjaa
