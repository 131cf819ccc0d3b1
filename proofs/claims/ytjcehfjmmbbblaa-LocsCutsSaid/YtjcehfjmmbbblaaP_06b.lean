import Derived.Test.YtjcehfjmmbbblaaAd
import Derived.Test.YtjcehfjmmbbblaaF
import Derived.Test.YtjcehfjmmbbblaaPL
import Derived.Test.YtjcehfjmmbbblaaP_02
import Derived.Test.YtjcehfjmmbbblaaP_06
import Derived.KernelRfl
namespace Go.Proofs.Ytjcehfjmmbbblaa
open Go.Ab Go.RowKit
set_option linter.unusedVariables false
set_option linter.unusedSimpArgs false
def LiesL (b : List UInt8) (i : Nat) (x : List UInt8) : Prop := i + x.length ≤ b.length ∧ (b.drop i).take x.length = x
theorem LiesL.app {b x y : List UInt8} {i : Nat} (h1 : LiesL b i x) (h2 : LiesL b (i + x.length) y) : LiesL b i (x ++ y) := by
  refine ⟨by rw [List.length_append]; have := h2.1; omega, ?_⟩
  rw [List.length_append, List.take_add, h1.2, List.drop_drop, h2.2]
theorem LiesL.nil {b : List UInt8} {i : Nat} (h : i ≤ b.length) : LiesL b i [] := ⟨by simp; omega, by simp⟩
theorem LiesL.one {b : List UInt8} {i : Nat} (h : i < b.length) : LiesL b i [b[i]] := ⟨by simp; omega, by rw [List.drop_eq_getElem_cons h]; rfl⟩
def toldK (k : UInt8) : Bool := decide (1 ≤ (k.toNat : Int)) && decide ((k.toNat : Int) ≤ 3)
def inr (l : List Lc) : Prop := ∀ x ∈ l, -9223372036854775808 ≤ x.N ∧ x.N ≤ 9223372036854775807
def gt (b : List UInt8) : Nat → Nat → Option (List Lc × Nat)
  | 0, i => some ([], i)
  | k + 1, i => if h : i < b.length then
      if toldK b[i] = true then (if (rdS b ((i + 1 : Nat) : Int)).2.2 = 0 then (gt b k (rdS b ((i + 1 : Nat) : Int)).2.1.toNat).map fun p => (⟨b[i], (rdS b ((i + 1 : Nat) : Int)).1⟩ :: p.1, p.2) else none)
      else (gt b k (i + 1)).map fun p => (⟨b[i], 0⟩ :: p.1, p.2)
    else none
def gtE (r : Option (List Lc × Nat)) (acc : List Lc) : List Lc × Int × Int := match r with
  | none => ([], 0, 5)
  | some p => if Rt (acc ++ p.1) = true then (acc ++ p.1, (p.2 : Int), 0) else ([], 0, 5)
def getL (b : List UInt8) (a : Int) : List Lc × Int × Int := if a < 0 ∨ a > b.length then ([], 0, 1) else if (rdU b a).2.2 ≠ 0 ∨ (rdU b a).1 > 16 then ([], 0, 5) else gtE (gt b (rdU b a).1 (rdU b a).2.1.toNat) []
theorem rtL_ok : ∀ {l : List Lc} {d e : Nat}, rtL d l = some e → ∀ x ∈ l, okd x = true
  | [], _, _, _, _, h => (nomatch h)
  | y :: l, d, e, h, x, hx => by
    rw [rtL] at h
    split at h
    · rename_i hc
      rcases List.mem_cons.1 hx with rfl | hx
      · exact hc.1
      · exact rtL_ok h x hx
    · cases h
theorem Rt_ok {l : List Lc} (h : Rt l = true) : (∀ x ∈ l, okd x = true) ∧ l.length ≤ 16 ∧ rtL 0 l = some (if l.length = 0 then 0 else 1) := by
  unfold Rt at h
  cases hr : rtL 0 l with
  | none => rw [hr] at h; cases h
  | some d =>
    rw [hr] at h
    simp only [fin, decide_eq_true_eq] at h
    refine ⟨rtL_ok hr, h.1, ?_⟩
    cases l with
    | nil => rw [rtL] at hr; injection hr with hr; subst hr; rfl
    | cons x l => 
      rw [if_neg (by simp)]
      rcases h.2 with h | h
      · simp at h
      · rw [h]
end Go.Proofs.Ytjcehfjmmbbblaa
