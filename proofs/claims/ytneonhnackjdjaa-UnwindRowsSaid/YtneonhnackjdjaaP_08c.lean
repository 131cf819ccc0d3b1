import Derived.Test.YtneonhnackjdjaaAd
import Derived.Test.YtneonhnackjdjaaF
import Derived.Test.YtneonhnackjdjaaPL
import Derived.Test.YtneonhnackjdjaaP_02
import Derived.Test.YtneonhnackjdjaaP_08
import Derived.Test.YtneonhnackjdjaaP_08b
import Derived.KernelRfl
namespace Go.Proofs.Ytneonhnackjdjaa
open Go.Ab Go.RowKit
set_option linter.unusedVariables false
set_option linter.unusedSimpArgs false
def wk8 : List Ue := [⟨10, 20, 3, [⟨7, -2⟩]⟩]
def pv8 : zc := ⟨[true, true, true, true, true, true, true, true, true, true, true, true, true, true, true, true], [0, 0, 0, 0, 0, 0, 0, 0, 0, 0, 0, 0, 0, 0, 0, 5], 0, [0, 1, 2, 3, 4, 5, 6, 7, 8, 9]⟩
theorem plain8 : zbv 10 5 = some pv8 := by kernel_rfl
theorem up8 : zk wk8 12 pv8 = some (7, ⟨[false, false, false, false, false, false, true, true, true, true, true, true, false, false, false, true], [0, 0, 0, 0, 0, 0, 0, 6, 0, 0, 0, 0, 0, 0, 0, 8], 0, [0, 1, 2, 3, 4, 5, 6, 7, 8, 9]⟩, 0) := by kernel_rfl
theorem zbN : zr = some true := by
  have hu : Ut wk8 = true := by decide
  have he : encT wk8 = [1, 10, 10, 3, 1, 7, 2] := by
    simp only [encT, wk8, encEs, encE, encRs, List.length_cons, List.length_nil]
    repeat rw [encU_small (by decide)]
    rfl
  have hs : small wk8 := Ut_small hu
  have h1 := zbV (b := []) hs (by simp)
  rw [if_pos hu, List.nil_append, he] at h1
  have h2 := zch (p := []) (r := []) (l := wk8) (by rw [he]; simp) hu
  rw [List.nil_append, List.append_nil, he] at h2
  have h2 : zB [1, 10, 10, 3, 1, 7, 2] 0 = some (wk8, 7, 0) := h2
  have h3 := zbT (l := wk8) (m := wk8) hs (by simp [wk8])
  unfold zr
  have h1 : zw [] [(⟨10, 20, 3, [(⟨7, -2⟩ : zb)]⟩ : za)] = _ := h1
  have h3 : zu [(⟨10, 20, 3, [(⟨7, -2⟩ : zb)]⟩ : za)] wk8 = _ := h3
  rw [h1, Option.bind_some, h2, Option.bind_some, plain8, Option.bind_some]
  have h4 : zk wk8 12 (⟨pv8.Known, pv8.Regs, pv8.Base, pv8.Words⟩ : zc) = _ := up8
  rw [h4, Option.bind_some]
  simp only [h3]
  rfl
end Go.Proofs.Ytneonhnackjdjaa
