import Derived.Test.YtnaafaopdefigaaAd
import Derived.Test.YtnaafaopdefigaaF
import Derived.Test.YtnaafaopdefigaaPL
import Derived.Test.YtnaafaopdefigaaP_02
import Derived.Test.YtnaafaopdefigaaP_01
import Derived.Test.YtnaafaopdefigaaP_03
import Derived.Test.YtnaafaopdefigaaP_03b
import Derived.Test.YtnaafaopdefigaaP_03c
import Derived.KernelRfl
namespace Go.Proofs.Ytnaafaopdefigaa
open Go.Ab Go.RowKit
set_option linter.unusedVariables false
set_option linter.unusedSimpArgs false
def wx3 : Ins := ⟨8, 0, 1, 2, 3, -2, 4⟩
theorem zdy : zQ = some true := by
  have hi : rgI wx3 := by unfold rgI wx3; simp
  have hR : Rti wx3 = true := by decide
  have he : encI wx3 = [8, 18, 3, 126, 4] := by
    have h1 : encS (-2) = [126] := by rw [encS_small (by omega)]; rfl
    have h2 : encU 4 = [4] := by rw [encU_small (by omega)]; rfl
    have hp : prts ((wx3.Kind.toNat : Int)) = some [.c_both_1, .c_third_1, .c_within, .c_bound_1] := rfl
    unfold encI bdy
    rw [hp]
    simp only [puAll, List.flatMap_cons, List.flatMap_nil, enP]
    have e1 : encS wx3.N = [126] := h1
    have e2 : encU wx3.M.toNat = [4] := h2
    rw [e1, e2]
    rfl
  have h1 := zct (b := [255]) hi (by simp)
  rw [if_pos hR, he] at h1
  have h2 := zdi hi hR (q := [255]) (r := []) (by rw [he]; simp)
  rw [he] at h2
  have h2 : zr [255, 8, 18, 3, 126, 4] 1 = some (wx3, 6, 0) := h2
  have h3 := zbi hi
  rw [hR] at h3
  have h4 : zn ⟨0, 0, 0, 0, 0, 0, 0⟩ = some false := by rw [zbi (by unfold rgI; simp)]; rfl
  have h5 : z0 wx3 = some 5 := by
    unfold z0
    have := zct (b := []) hi (by simp)
    rw [if_pos hR, he] at this
    have this : zq [] ⟨wx3.Kind, wx3.Op, wx3.R, wx3.S, wx3.T, wx3.N, wx3.M⟩ = _ := this
    rw [this]
    rfl
  unfold zQ
  have h1 : zq [255] ⟨8, 0, 1, 2, 3, -2, 4⟩ = some [255, 8, 18, 3, 126, 4] := h1
  have h3 : zn ⟨8, 0, 1, 2, 3, -2, 4⟩ = some true := h3
  have h5 : z0 ⟨8, 0, 1, 2, 3, -2, 4⟩ = some 5 := h5
  rw [h1, Option.bind_some, h2, Option.bind_some, h3, Option.bind_some, h4, h5]
  rfl
theorem zeE (p0 : List UInt8) (p1 : Int) : zcF p0 p1 = some true := by
  unfold zcF
  by_cases hb : (p0.length : Int) > 65536
  · rw [decT hb, if_pos rfl, zdy]; rfl
  have hR : zcL p0 = some (p0, p0 ++ [8, 7, 6, 5, 4, 3, 2, 1]) := if_pos (by omega)
  obtain ⟨r, h1, h2, h3⟩ := zeh (b := p0) (a := p1) (by omega)
  rw [decF hb, if_neg (by simp), hR, Option.bind_some, h1, Option.bind_some, h2, Option.bind_some, ins_eq]
  simp only [decide_true, Option.bind_some, beq_self_eq_true, Bool.and_self, if_true, Kept_true (show p0.length ≤ 1099511000000 by omega), zdy]
end Go.Proofs.Ytnaafaopdefigaa
