/- The law SyntaxJoins of theodolitelaw12: for every input it returns true, and each argument reads behind the call as it read before. No condition. -/
import Derived.Test.YtnhboaaikehpoaaRows
import Derived.Test.YtnhboaaikehpoaaG6
import Derived.Test.YtnhboaaikehpoaaP_12r
import Derived.Test.YtnhboaaikehpoaaO
import Derived.WalkKit
import Derived.ProofKit
import Derived.OpenShut
import Derived.ShutString
import Derived.ChangeOld
import Derived.Below
import Derived.SizedLaws
namespace Go.Proofs.Ytnhboaaikehpoaa.syntaxJoins
open Go.ChangeShapes Go.WideShapes Go.ChangeAt Go.RowKit Go.Ab
open Go.ChangeMaps (open_string shut_string)
set_option linter.unusedVariables false
theorem own : ownKnob Try.prog.godebug = none := by kernel_rfl
theorem laidOut : laidOutB Try.prog = true := by kernel_rfl
set_option maxRecDepth 100000 in
theorem lifted (os : Os) (started : os.Started) (H : Type) (enc : TypeId × Value → H) :
  ReturnsInHanded {} Try.checked os 7 .any (Rows.syntaxJoinsSpec.pre6 enc Try.prog Try.f7 Rows.syntaxJoinsRow.domain false) (Rows.syntaxJoinsSpec.post enc Try.prog Try.f7 false true false false) := by
 refine returnsInHanded_of_change_sized (C := Try.checked) own started (by kernel_rfl) Try.func7
  (ChangeSpec.witness6 (enc := enc) (C := Try.checked) false ⟨#[], #[.slice none 0 0, .slice none 0 0], []⟩ 8 (by kernel_rfl) (by kernel_rfl) (by kernel_rfl) (by kernel_rfl)) ?_
 intro W base args ds gs before hval0 hW hcnd hsz0 _
 have hval : ∀ (j : Nat) t v, Try.f7.params[j]? = some t → args[j]? = some v → Value.okWide Try.prog W .any base t v := hval0
 have hW' := hW
 obtain ⟨p, q, hA0, hV, rfl, hfz, hnd⟩ := hW
 have hA : DataW.TrodAll enc Try.prog W 0 (fun _ => true) true Try.f7.params.toList args.toList ds p := hA0
 rw [Try.params7] at hA hval
 obtain ⟨v0, vs0, d0, ds0, p0, q0, hargs, rfl, rfl, h0, r0⟩ := trodAll_cons hA
 obtain ⟨v1, vs1, d1, ds1, p1, q1, rfl, rfl, rfl, h1, r1⟩ := trodAll_cons r0
 obtain ⟨rfl, rfl, rfl⟩ := trodAll_nil r1
 obtain rfl : args = #[v0, v1] := by cases args; simp_all
 obtain ⟨rfl, rfl⟩ := trodVars_none hV
 have k0 := h0
 have lt0 : ∀ x ∈ p0, x.block < W.heap.size := by obtain ⟨m, hm⟩ := k0; exact DataW.trod_lt m _ _ _ hm
 obtain ⟨l0, y0, g0⟩ := Opn.slice_arg (zlC Try.underlying22 (by kernel_rfl) zlo) (okWide_slice Try.underlying22 (hval 0 22 v0 rfl rfl)) h0
 have z0 : l0.length ≤ reachBytes := by
  obtain ⟨m, hm⟩ := k0
  obtain ⟨A, c, hv, -⟩ := y0.form
  rcases DataW.trod_slice Try.underlying22 hm with ⟨hd, _⟩ | ⟨a, len, cap, elems, rest, n, hd, hx, h3, _, _, _, hlen, _, _, _⟩
  ·have h1 : [Value.slice A l0.length c] = [Value.slice none 0 0] := by rw [hv] at hd; exact hd
   simp only [List.cons.injEq, Value.slice.injEq] at h1
   omega
  ·have h1 : [Value.slice A l0.length c] = [Value.slice (some a) len cap] := by rw [hv] at hx; exact hx
   simp only [List.cons.injEq, Value.slice.injEq] at h1
   have h4 : Try.prog.underlying 22 = some (.slice 79) := Try.underlying22
   have sz := sized_slice (P := Try.prog) (ts := Try.f7.params.toList ++ DataSpec.varTypes Try.prog Rows.syntaxJoinsSpec.plain) (ds := [d0, d1]) hsz0 (j := 0) (t := 22) rfl (show _ = some (DataW.slice (elems.map (·.1)) (rest.map (·.1))) from congrArg some (congrArg Prod.fst h3)) h4
   have h5 : 1 ≤ Try.prog.bytesOf 79 := Nat.le_of_ble_eq_true (by kernel_rfl)
   rw [List.length_map, List.length_map] at sz
   have h6 := Nat.le_trans (Nat.le_mul_of_pos_right (elems.length + rest.length) h5) sz
   omega
 have k1 := h1
 have lt1 : ∀ x ∈ p1, x.block < W.heap.size := by obtain ⟨m, hm⟩ := k1; exact DataW.trod_lt m _ _ _ hm
 obtain ⟨l1, y1, g1⟩ := Opn.slice_arg (zlC Try.underlying22 (by kernel_rfl) zlo) (okWide_slice Try.underlying22 (hval 1 22 v1 rfl rfl)) h1
 have z1 : l1.length ≤ reachBytes := by
  obtain ⟨m, hm⟩ := k1
  obtain ⟨A, c, hv, -⟩ := y1.form
  rcases DataW.trod_slice Try.underlying22 hm with ⟨hd, _⟩ | ⟨a, len, cap, elems, rest, n, hd, hx, h3, _, _, _, hlen, _, _, _⟩
  ·have h1 : [Value.slice A l1.length c] = [Value.slice none 0 0] := by rw [hv] at hd; exact hd
   simp only [List.cons.injEq, Value.slice.injEq] at h1
   omega
  ·have h1 : [Value.slice A l1.length c] = [Value.slice (some a) len cap] := by rw [hv] at hx; exact hx
   simp only [List.cons.injEq, Value.slice.injEq] at h1
   have h4 : Try.prog.underlying 22 = some (.slice 79) := Try.underlying22
   have sz := sized_slice (P := Try.prog) (ts := Try.f7.params.toList ++ DataSpec.varTypes Try.prog Rows.syntaxJoinsSpec.plain) (ds := [d0, d1]) hsz0 (j := 1) (t := 22) rfl (show _ = some (DataW.slice (elems.map (·.1)) (rest.map (·.1))) from congrArg some (congrArg Prod.fst h3)) h4
   have h5 : 1 ≤ Try.prog.bytesOf 79 := Nat.le_of_ble_eq_true (by kernel_rfl)
   rw [List.length_map, List.length_map] at sz
   have h6 := Nat.le_trans (Nat.le_mul_of_pos_right (elems.length + rest.length) h5) sz
   omega
 clear hA0 hval0 hsz0
 refine (ACalls.row ((zqA y0 y1 (zrQ _ _ (by unfold reachBytes at z0 z1; omega))) (Go.Ab.base W) (foreign W) (Obs.nil _))).mono fun e W' ⟨v, he, bel, _, _, _, _, _, hv, _⟩ => ?_
 subst he
 subst hv
 exact ⟨_, rfl, _, _, _, [], _, [], hW', trodAll_mk1 (shut_bool Try.underlying4 _), (trodAll_cons_mk (Below.trod laidOut (by kernel_rfl) (of_decide_eq_true (by kernel_rfl)) k0 bel lt0) (trodAll_cons_mk (Below.trod laidOut (by kernel_rfl) (of_decide_eq_true (by kernel_rfl)) k1 bel lt1) trodAll_mk0)), rfl, bel.frame _, fun h => by cases h⟩
theorem over : Rows.syntaxJoinsRow.holds Try.pinned (OpenSpec.ofChange Rows.syntaxJoinsSpec) :=
 OpenClaim.holds_of_wide 7 Try.f7 rfl rfl rfl rfl rfl rfl rfl ⟨rfl, rfl, rfl, rfl, rfl⟩ rfl rfl rfl rfl rfl (by kernel_rfl) Try.func7 (by kernel_rfl)
  (of_decide_eq_true (by kernel_rfl)) (by unfold Func.isWrapper; first | (rw [if_pos (by decide +kernel)]; kernel_rfl) | (rw [if_neg (by decide +kernel)]; exact ⟨rfl, rfl⟩))
  (fun os started H enc _ => lifted os started H enc)
end Go.Proofs.Ytnhboaaikehpoaa.syntaxJoins
namespace Go.Proofs.Ytnhboaaikehpoaa
theorem syntaxJoins_holds : Rows.SyntaxJoinsSaid := syntaxJoins.over
#print axioms syntaxJoins_holds
end Go.Proofs.Ytnhboaaikehpoaa
