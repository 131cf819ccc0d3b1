import Derived.Test.YtneonhnackjdjaaAd
import Derived.Test.YtneonhnackjdjaaF
import Derived.Test.YtneonhnackjdjaaPL
import Derived.Test.YtneonhnackjdjaaP_02
import Derived.Test.YtneonhnackjdjaaP_08
import Derived.Test.YtneonhnackjdjaaP_08b
import Derived.KernelRfl
namespace Go.Proofs.Ytneonhnackjdjaa
open Go.Ab Go.RowKit
set_option linter.unusedVariables false
set_option linter.unusedSimpArgs false
def wk8 : List Ue := [⟨10, 20, 3, [⟨7, -2⟩]⟩]
def pv8 : S_api_View := ⟨[true, true, true, true, true, true, true, true, true, true, true, true, true, true, true, true], [0, 0, 0, 0, 0, 0, 0, 0, 0, 0, 0, 0, 0, 0, 0, 5], 0, [0, 1, 2, 3, 4, 5, 6, 7, 8, 9]⟩
theorem plain8 : F_law08_plain 10 5 = some pv8 := by kernel_rfl
theorem up8 : F_unwind_Up wk8 12 pv8 = some (7, ⟨[false, false, false, false, false, false, true, true, true, true, true, true, false, false, false, true], [0, 0, 0, 0, 0, 0, 0, 6, 0, 0, 0, 0, 0, 0, 0, 8], 0, [0, 1, 2, 3, 4, 5, 6, 7, 8, 9]⟩, 0) := by kernel_rfl
theorem P_works08 : F_law08_works = some true := by
  have hu : Ut wk8 = true := by decide
  have he : encT wk8 = [1, 10, 10, 3, 1, 7, 2] := by
    simp only [encT, wk8, encEs, encE, encRs, List.length_cons, List.length_nil]
    repeat rw [encU_small (by decide)]
    rfl
  have hs : small wk8 := Ut_small hu
  have h1 := P_Put (b := []) hs (by simp)
  rw [if_pos hu, List.nil_append, he] at h1
  have h2 := P_Get (p := []) (r := []) (l := wk8) (by rw [he]; simp) hu
  rw [List.nil_append, List.append_nil, he] at h2
  have h2 : F_unwind_Get [1, 10, 10, 3, 1, 7, 2] 0 = some (wk8, 7, 0) := h2
  have h3 := P_Same8 (l := wk8) (m := wk8) hs (by simp [wk8])
  unfold F_law08_works
  have h1 : F_unwind_Put [] [(⟨10, 20, 3, [(⟨7, -2⟩ : S_api_Saved)]⟩ : S_api_Unwind)] = _ := h1
  have h3 : F_ref08_Same [(⟨10, 20, 3, [(⟨7, -2⟩ : S_api_Saved)]⟩ : S_api_Unwind)] wk8 = _ := h3
  rw [h1, Option.bind_some, h2, Option.bind_some, plain8, Option.bind_some]
  have h4 : F_unwind_Up wk8 12 (⟨pv8.Known, pv8.Regs, pv8.Base, pv8.Words⟩ : S_api_View) = _ := up8
  rw [h4, Option.bind_some]
  simp only [h3]
  rfl
theorem P_UnwindGets (p0 : List UInt8) (p1 : Int) : F_law08_UnwindGets p0 p1 = some true := by
  unfold F_law08_UnwindGets
  by_cases hb : (p0.length : Int) > 8192
  · rw [decT hb, if_pos rfl, P_works08]; rfl
  have hR : F_ref00_Roomy p0 = some (p0, p0 ++ [8, 7, 6, 5, 4, 3, 2, 1]) := if_pos (by omega)
  obtain ⟨r, h1, h2, h3⟩ := P_Get_eq (b := p0) (a := p1) (by omega)
  have hs : small r.1 := by
    rcases h3 with ⟨_, _, hu⟩ | ⟨_, he, _⟩
    · exact Ut_small hu
    · rw [he]; exact ⟨by simp, fun _ h => (nomatch h)⟩
  rw [decF hb, if_neg (by simp), hR, Option.bind_some, h1, Option.bind_some, h2, Option.bind_some, P_Same8 hs hs.1]
  simp only [decide_true, Option.bind_some, beq_self_eq_true, Bool.and_self, if_true, Kept_true (show p0.length ≤ 1099511000000 by omega), P_works08]
end Go.Proofs.Ytneonhnackjdjaa
