import Derived.Test.YtckcngkkofemjaaGreatP_09i
import Derived.Test.YtckcngkkofemjaaGreatP_09k
namespace Go.Proofs.YtckcngkkofemjaaGreat
open Go.Ab Go.RowKit
set_option linter.unusedVariables false
set_option linter.unusedSimpArgs false
theorem zkw : ∀ {l : List Sp} {last : Int}, rtS last l = true → ∀ x ∈ l, Rt x.At = true
 | [], _, _, _, h => (nomatch h)
 | y :: l, last, h, x, hx => by
  obtain ⟨h1, h2, h3⟩ := zmy h
  rcases List.mem_cons.1 hx with rfl | hx
  ·exact h2
  ·exact zkw h3 x hx
theorem zoS {l : List Sp} (h : St l = true) : smS l := by
 have h' := h
 unfold St at h'
 simp only [Bool.and_eq_true, decide_eq_true_eq] at h'
 exact ⟨by omega, fun x hx => by have := (zjh (zkw h'.1 x hx)).2.1; omega⟩
def inP (x : Pl) : Prop := ∀ s ∈ x.Spans, ∀ y ∈ s, inr y.At
def tbV (l : List Pl) (q : List Pt) : Prop := ((l.length : Int) ≤ 64 ∧ zgh 0 l) ∧ (q.length : Int) ≤ 1000 ∧ ∀ x ∈ q, ptV x
theorem zku {v : Vr} (h : vaV v) : smV v ∧ v.Fields.length ≤ 8 := by
 obtain ⟨h1, h2⟩ := h
 by_cases k3 : v.Type_.Kind.toNat = 3
 ·rw [if_pos k3] at h2
  obtain ⟨a1, a2, a3, a4, a5⟩ := h2
  rw [smV, a4, a5]
  exact ⟨⟨by omega, Nat.zero_le _, by simp, by simp⟩, by simp⟩
 ·rw [if_neg k3] at h2
  by_cases k4 : v.Type_.Kind.toNat = 4
  ·rw [if_pos k4] at h2
   obtain ⟨a1, a2, a3, a4⟩ := h2
   exact ⟨⟨by omega, by omega, by omega, fun x hx => by have := a3.2 x hx; omega⟩, by omega⟩
  ·rw [if_neg k4] at h2
   obtain ⟨a1, a2, a3, a4⟩ := h2
   rw [smV, a2, a3]
   exact ⟨⟨by omega, Nat.zero_le _, by simp, by simp⟩, by simp⟩
theorem zkK {last : Int} {x : Pl} (h : plV last x) : smP x ∧ smW x := by
 obtain ⟨h1, h2, h3, h4, h5, h6, h7, h8⟩ := h
 exact ⟨⟨by omega, by omega, fun v hv => by have := (zku (h7 v hv)).2; omega, fun s hs => zoS (h8 s hs).1⟩, by omega, fun v hv => (zku (h7 v hv)).1⟩
theorem zhr : ∀ {l : List Pl} {last : Int}, zgh last l → ∀ x ∈ l, smP x ∧ smW x ∧ inP x
 | [], _, _, _, h => (nomatch h)
 | y :: l, last, h, x, hx => by
  rcases List.mem_cons.1 hx with rfl | hx
  ·exact ⟨(zkK h.1).1, (zkK h.1).2, fun s hs y hy => (h.1.2.2.2.2.2.2.2 s hs).2 y hy⟩
  ·exact zhr h.2 x hx
theorem zjE {l : List Pl} {q : List Pt} (h : tbV l q) : smT l ∧ (∀ x ∈ l, smW x) ∧ smQ q ∧ ∀ x ∈ l, inP x := by
 obtain ⟨⟨h1, h2⟩, h3, h4⟩ := h
 exact ⟨⟨by omega, fun x hx => (zhr h2 x hx).1⟩, fun x hx => (zhr h2 x hx).2.1, ⟨by omega, fun x hx => by have := (h4 x hx).2.2.1; omega⟩, fun x hx => (zhr h2 x hx).2.2⟩
def ziC (l : List Pl) (q : List Pt) : List UInt8 := zin l ++ lsE ptE q
end Go.Proofs.YtckcngkkofemjaaGreat
