import Derived.Test.YtjcehfjmmbbblaaAd
import Derived.Test.YtjcehfjmmbbblaaF
import Derived.Test.YtjcehfjmmbbblaaPL
import Derived.Test.YtjcehfjmmbbblaaP_02
import Derived.Test.YtjcehfjmmbbblaaP_06
import Derived.Test.YtjcehfjmmbbblaaP_06b
import Derived.Test.YtjcehfjmmbbblaaP_06c
import Derived.Test.YtjcehfjmmbbblaaP_07
import Derived.Test.YtjcehfjmmbbblaaP_07b
namespace Go.Proofs.Ytjcehfjmmbbblaa
open Go.Ab Go.RowKit
set_option linter.unusedVariables false
set_option linter.unusedSimpArgs false
theorem St_small {l : List Sp} (h : St l = true) (hR : ∀ x ∈ l, Rt x.At = true) : smS l := by
  unfold St at h
  simp only [Bool.and_eq_true, decide_eq_true_eq] at h
  exact ⟨by omega, fun x hx => by have := (Rt_ok (hR x hx)).2.1; omega⟩
theorem getS_small (b : List UInt8) (a : Int) : smS (getS b a).1 := by
  rcases getS_cases b a with (h | h) | ⟨l, i, _, h, _, hS, hr⟩
  · rw [h]; exact ⟨by simp, fun _ h => (nomatch h)⟩
  · rw [h]; exact ⟨by simp, fun _ h => (nomatch h)⟩
  · rw [h]; exact St_small hS fun x hx => (hr x hx).2
theorem zdi (p0 : List UInt8) (p1 : Int) : zbS p0 p1 = some true := by
  unfold zbS
  by_cases hb : (p0.length : Int) > 8192
  · rw [decT hb, if_pos rfl, zcL]; rfl
  have hR : zbF p0 = some (p0, p0 ++ [8, 7, 6, 5, 4, 3, 2, 1]) := if_pos (by omega)
  rw [decF hb, if_neg (by simp), hR, Option.bind_some, zdw (by simp only; omega), Option.bind_some, zcX (by omega), Option.bind_some, zc3 (getS_small _ _)]
  simp only [decide_true, Option.bind_some, beq_self_eq_true, Bool.and_self, if_true, Kept_true (show p0.length ≤ 1099511000000 by omega), zcL]
end Go.Proofs.Ytjcehfjmmbbblaa
