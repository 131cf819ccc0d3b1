import Derived.Test.YtckcngkkofemjaaAd
import Derived.Test.YtckcngkkofemjaaF
import Derived.Test.YtckcngkkofemjaaPL
import Derived.Test.YtckcngkkofemjaaP_02
import Derived.Test.YtckcngkkofemjaaP_06
import Derived.KernelRfl
namespace Go.Proofs.Ytckcngkkofemjaa
open Go.Ab Go.RowKit
set_option linter.unusedVariables false
set_option linter.unusedSimpArgs false
def LiesL (b : List UInt8) (i : Nat) (x : List UInt8) : Prop := i + x.length ≤ b.length ∧ (b.drop i).take x.length = x
theorem LiesL.app {b x y : List UInt8} {i : Nat} (h1 : LiesL b i x) (h2 : LiesL b (i + x.length) y) : LiesL b i (x ++ y) := by
  refine ⟨by rw [List.length_append]; have := h2.1; omega, ?_⟩
  rw [List.length_append, List.take_add, h1.2, List.drop_drop, h2.2]
theorem LiesL.nil {b : List UInt8} {i : Nat} (h : i ≤ b.length) : LiesL b i [] := ⟨by simp; omega, by simp⟩
theorem LiesL.one {b : List UInt8} {i : Nat} (h : i < b.length) : LiesL b i [b[i]] := ⟨by simp; omega, by rw [List.drop_eq_getElem_cons h]; rfl⟩
def inr (l : List Lc) : Prop := ∀ x ∈ l, -9223372036854775808 ≤ x.N ∧ x.N ≤ 9223372036854775807
end Go.Proofs.Ytckcngkkofemjaa
