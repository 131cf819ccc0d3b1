/- The law CpuRuns of theodolitelaw04: for every input it returns true, and each argument reads behind the call as it read before. No condition. -/
import Derived.Test.YtgkllgoelpfdkaaGreatRows
import Derived.Test.YtgkllgoelpfdkaaGreatG5
import Derived.Test.YtgkllgoelpfdkaaGreatP_04f
import Derived.Test.YtgkllgoelpfdkaaGreatO
import Derived.WalkKit
import Derived.ProofKit
import Derived.OpenShut
import Derived.ShutString
import Derived.ChangeOld
import Derived.Below
import Derived.SizedLaws
namespace Go.Proofs.YtgkllgoelpfdkaaGreat.cpuRuns
open Go.ChangeShapes Go.WideShapes Go.ChangeAt Go.RowKit Go.Ab
open Go.ChangeMaps (open_string shut_string)
set_option linter.unusedVariables false
theorem own : ownKnob Tryz.prog.godebug = none := by kernel_rfl
theorem laidOut : laidOutB Tryz.prog = true := by kernel_rfl
set_option maxRecDepth 100000 in
theorem lifted (os : Os) (started : os.Started) (H : Type) (enc : TypeId × Value → H) :
  ReturnsInHanded {} Tryz.checked os 5 .any (Rows.cpuRunsSpec.pre6 enc Tryz.prog Tryz.f5 Rows.cpuRunsRow.domain false) (Rows.cpuRunsSpec.post enc Tryz.prog Tryz.f5 false true false false) := by
 refine returnsInHanded_of_change_sized (C := Tryz.checked) own started (by kernel_rfl) Tryz.func5
  (ChangeSpec.witness6 (enc := enc) (C := Tryz.checked) false ⟨#[], #[.agg #[.slice none 0 0, .slice none 0 0, .int .i64 0, .int .i64 0, .slice none 0 0, .int .i64 0]], []⟩ 8 (by kernel_rfl) (by kernel_rfl) (by kernel_rfl) (by kernel_rfl)) ?_
 intro W base args ds gs before hval0 hW hcnd hsz0 _
 have hval : ∀ (j : Nat) t v, Tryz.f5.params[j]? = some t → args[j]? = some v → Value.okWide Tryz.prog W .any base t v := hval0
 have hW' := hW
 obtain ⟨p, q, hA0, hV, rfl, hfz, hnd⟩ := hW
 have hA : DataW.TrodAll enc Tryz.prog W 0 (fun _ => true) true Tryz.f5.params.toList args.toList ds p := hA0
 rw [Tryz.params5] at hA hval
 obtain ⟨v0, vs0, d0, ds0, p0, q0, hargs, rfl, rfl, h0, r0⟩ := trodAll_cons hA
 obtain ⟨rfl, rfl, rfl⟩ := trodAll_nil r0
 obtain rfl : args = #[v0] := by cases args; simp_all
 obtain ⟨rfl, rfl⟩ := trodVars_none hV
 have k0 := h0
 have lt0 : ∀ x ∈ p0, x.block < W.heap.size := by obtain ⟨m, hm⟩ := k0; exact DataW.trod_lt m _ _ _ hm
 obtain ⟨cs0, rfl, _⟩ := okWide_struct Tryz.underlying26 (hval 0 26 v0 rfl rfl)
 obtain ⟨fuel0, hf0⟩ := h0
 obtain ⟨x0, ⟨u0_0, u0_1, u0_4, hcs0, y0_0, y0_1, y0_4⟩, g0⟩ := zpZ _ _ _ hf0
 obtain rfl : cs0 = #[u0_0, u0_1, .int .i64 x0.Start, .int .i64 x0.Words, u0_4, .int .i64 x0.Fuel] := Array.ext' hcs0
 clear hA0 hval0 hsz0
 refine (ACalls.row ((zpc y0_0 y0_1 y0_4 (zpu _ fun x hx => (g0.1.2 x hx).2.2.2.2.2.1)) (Go.Ab.base W) (foreign W) (Obs.nil _))).mono fun e W' ⟨v, he, bel, _, _, _, _, _, hv, _⟩ => ?_
 subst he
 subst hv
 exact ⟨_, rfl, _, _, _, [], _, [], hW', trodAll_mk1 (shut_bool Tryz.underlying4 _), (trodAll_cons_mk (Below.trod laidOut (by kernel_rfl) (of_decide_eq_true (by kernel_rfl)) k0 bel lt0) trodAll_mk0), rfl, bel.frame _, fun h => by cases h⟩
theorem over : Rows.cpuRunsRow.holds Tryz.pinned (OpenSpec.ofChange Rows.cpuRunsSpec) :=
 OpenClaim.holds_of_wide 5 Tryz.f5 rfl rfl rfl rfl rfl rfl rfl ⟨rfl, rfl, rfl, rfl, rfl⟩ rfl rfl rfl rfl rfl (by kernel_rfl) Tryz.func5 (by kernel_rfl)
  (of_decide_eq_true (by kernel_rfl)) (by unfold Func.isWrapper; first | (rw [if_pos (by decide +kernel)]; kernel_rfl) | (rw [if_neg (by decide +kernel)]; exact ⟨rfl, rfl⟩))
  (fun os started H enc _ => lifted os started H enc)
end Go.Proofs.YtgkllgoelpfdkaaGreat.cpuRuns
namespace Go.Proofs.YtgkllgoelpfdkaaGreat
theorem cpuRuns_holds : Rows.CpuRunsSaid := cpuRuns.over
#print axioms cpuRuns_holds
end Go.Proofs.YtgkllgoelpfdkaaGreat
