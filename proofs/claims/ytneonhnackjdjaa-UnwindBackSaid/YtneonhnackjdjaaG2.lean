import Derived.Test.YtneonhnackjdjaaF
import Derived.Test.YtneonhnackjdjaaAc0
import Derived.Test.YtneonhnackjdjaaM00
import Derived.Test.YtneonhnackjdjaaM02
import Derived.Test.YtneonhnackjdjaaG1
namespace Go.Proofs.Ytneonhnackjdjaa
open Go.Ab Go.RowKit
set_option linter.unusedVariables false
set_option linter.unusedSimpArgs false
set_option maxRecDepth 10000
theorem w_law08_UnwindBack {τ : Hp} {v0 : Value} {p0 : (List UInt8)} {v1 : Value} {p1 : (List S_api_Unwind)} {v2 : Value} {p2 : (List UInt8)} (r0 : RdT Ty.u8 τ v0 p0) (r1 : RdT TyS_api_Unwind τ v1 p1) (r2 : RdT Ty.u8 τ v2 p2) {rr : Bool} (hF : F_law08_UnwindBack p0 p1 p2 = some rr) :
    Ctr Try.prog 5 #[v0, v1, v2] τ [] (fun v τ' vs' => v = .bool rr ∧ vs' = []) := by
  obtain ⟨A0, c0, rfl, -⟩ := r0.form
  obtain ⟨A1, c1, rfl, -⟩ := r1.form
  obtain ⟨A2, c2, rfl, -⟩ := r2.form
  refine ctr_of (args := [.slice A0 p0.length c0, .slice A1 p1.length c1, .slice A2 p2.length c2]) hm Try.func5 s5 rfl fun w0 σ hO Q hQ => ?_
  unfold F_law08_UnwindBack at hF
  have hL := Hp.le.refl τ
  show wpn _ _ a5.body _ _ _
  unfold a5
  dsimp only
  refine wpn_qa hO [] [(0, .slice A0 p0.length c0), (1, .slice A1 p1.length c1), (2, .slice A2 p2.length c2)] (And.intro rfl (And.intro rfl (And.intro rfl trivial))) fun j => ?_
  refine wpn_assoc ?_
  refine wpn_q hO 7 [] [(0, .slice A0 p0.length c0), (1, .slice A1 p1.length c1), (2, .slice A2 p2.length c2), (26, .bool ((decide ((p0.length : Int) > 1024)) || (decide ((p2.length : Int) > 4096))))] (And.intro (And.intro rfl rfl) (fun _ => And.intro rfl (And.intro rfl (And.intro rfl (And.intro rfl trivial))))) fun j => ?_
  obtain ⟨c4, h5, hF⟩ := bind_some hF
  refine wpn_mid 2 (fun e' σ' => ∃ (τ' : Hp), agr [(30, .bool c4), (0, .slice A0 p0.length c0), (1, .slice A1 p1.length c1), (2, .slice A2 p2.length c2)] e' ∧ Obs τ' σ' [] ∧ Hp.le τ τ' ∧ RdT Ty.u8 τ' (.slice A0 p0.length c0) p0 ∧ RdT TyS_api_Unwind τ' (.slice A1 p1.length c1) p1 ∧ RdT Ty.u8 τ' (.slice A2 p2.length c2) p2) ?_ ?_
  · have hF := h5
    rcases ite_some hF with ⟨hb6, hF⟩ | ⟨hb6, hF⟩
    · refine wpn_gF (congrArg (fun x => isB (.bool x) false) hb6) ?_
      refine wpn_pk (congrArg Value.bool hb6) ?_
      refine wpn_nil ?_
      injection hF with hF
      subst hF
      refine wpn_end ?_
      exact ⟨rfl, _, And.intro rfl (And.intro rfl (And.intro rfl (And.intro rfl trivial))), hO, hL, r0, r1, r2⟩
    · refine wpn_gT (congrArg (fun x => isB (.bool x) false) hb6) ?_
      refine wpn_q hO 2 [] [(0, .slice A0 p0.length c0), (1, .slice A1 p1.length c1), (2, .slice A2 p2.length c2), (26, .bool ((decide ((p0.length : Int) > 1024)) || (decide ((p2.length : Int) > 4096)))), (27, .slice A1 p1.length c1), (28, .agg #[(.slice none 0 0), (.slice none 0 0), (.int .i64 0), (.slice none 0 0)])] (And.intro rfl (And.intro rfl (And.intro rfl (And.intro rfl (And.intro rfl (And.intro rfl trivial)))))) fun j => ?_
      obtain ⟨c7, h8, hF⟩ := bind_some hF
      refine wpn_c0 hO (w_law08_vast r1 (RdT.nil _ _) (RdT.nil _ _) (RdT.nil _ _) h8) rfl fun _ σ _ _ hO h9 h10 => ?_
      have hL := hL.trans h9
      have r0 := r0.le h9
      have r1 := r1.le h9
      have r2 := r2.le h9
      obtain ⟨rfl, rfl⟩ := h10
      have hO : Obs _ _ [] := hO
      refine wpn_pk (congrArg Value.bool hb6) ?_
      refine wpn_nil ?_
      injection hF with hF
      subst hF
      refine wpn_end ?_
      exact ⟨rfl, _, And.intro rfl (And.intro rfl (And.intro rfl (And.intro rfl trivial))), hO, hL, r0, r1, r2⟩
  · rintro e σ ⟨_, hA, hO, hL, r0, r1, r2⟩
    rw [← sets_agr _ _ hA]
    refine wpn_nil ?_
    rcases ite_some hF with ⟨hb11, hF⟩ | ⟨hb11, hF⟩
    · refine wpn_cT (congrArg Value.bool hb11) ?_
      refine wpn_assoc ?_
      obtain ⟨c12, h13, hF⟩ := bind_some hF
      refine wpn_c0 hO (w_law08_works h13) rfl fun _ σ _ _ hO h14 h15 => ?_
      have hL := hL.trans h14
      have r0 := r0.le h14
      have r1 := r1.le h14
      have r2 := r2.le h14
      obtain ⟨rfl, rfl⟩ := h15
      have hO : Obs _ _ [] := hO
      refine wpn_qa hO [] [(6, .bool c12)] (And.intro rfl trivial) fun j => ?_
      refine wpn_rt ?_
      injection hF with hF
      subst hF
      exact hQ _ _ _ _ _ rfl hO hL ⟨rfl, rfl⟩
    · refine wpn_cF (congrArg Value.bool hb11) ?_
      refine wpn_sk ?_
      refine wpn_qa hO [] [(0, .slice A0 p0.length c0), (1, .slice A1 p1.length c1), (2, .slice A2 p2.length c2), (7, .int .i64 (p0.length : Int))] (And.intro rfl (And.intro rfl (And.intro rfl (And.intro rfl trivial)))) fun j => ?_
      refine wpn_q hO 2 [] [(1, .slice A1 p1.length c1), (2, .slice A2 p2.length c2), (7, .int .i64 (p0.length : Int)), (35, .slice A0 p0.length c0), (36, .slice A1 p1.length c1)] (And.intro rfl (And.intro rfl (And.intro rfl (And.intro rfl (And.intro rfl trivial))))) fun j => ?_
      obtain ⟨c16, h17, hF⟩ := bind_some hF
      refine wpn_c0 hO (w_ref08_Twin r1 h17) rfl fun _ σ _ _ hO h18 h19 => ?_
      have hL := hL.trans h18
      have r1 := r1.le h18
      have r2 := r2.le h18
      have r0 := r0.le h18
      obtain ⟨v20, o23, rfl, rfl, w24⟩ := h19
      obtain ⟨A21, c22, rfl, -⟩ := w24.form
      have hO : Obs _ _ [_] := hO
      obtain ⟨_, h26, r25, hO⟩ := w24.share hO (i := 0) rfl
      have hL := hL.trans h26
      have r1 := r1.le h26
      have r2 := r2.le h26
      have r0 := r0.le h26
      have hO : Obs _ _ [_] := hO
      obtain ⟨c27, h28, hF⟩ := bind_some hF
      refine wpn_c0 hO (w_unwind_Put r0 r25 h28) rfl fun _ σ _ _ hO h29 h30 => ?_
      have hL := hL.trans h29
      have r1 := r1.le h29
      have r2 := r2.le h29
      have r0 := r0.le h29
      have r25 := r25.le h29
      obtain ⟨v31, o34, rfl, rfl, w35⟩ := h30
      obtain ⟨A32, c33, rfl, -⟩ := w35.form
      have hO : Obs _ _ [_, _] := hO
      refine wpn_qa hO [] [(1, .slice A1 p1.length c1), (2, .slice A2 p2.length c2), (7, .int .i64 (p0.length : Int)), (8, .slice A32 c27.1.length c33), (9, .int .i64 c27.2)] (And.intro rfl (And.intro rfl (And.intro rfl (And.intro rfl (And.intro rfl trivial))))) fun j => ?_
      refine wpn_assoc ?_
      refine wpn_q hO 3 [] [(1, .slice A1 p1.length c1), (2, .slice A2 p2.length c2), (7, .int .i64 (p0.length : Int)), (8, .slice A32 c27.1.length c33), (9, .int .i64 c27.2), (42, .bool (c27.2 == 0)), (43, .slice A1 p1.length c1)] (And.intro rfl (And.intro rfl (And.intro rfl (And.intro rfl (And.intro rfl (And.intro rfl (And.intro rfl trivial))))))) fun j => ?_
      obtain ⟨c36, h37, hF⟩ := bind_some hF
      refine wpn_c0 hO (w_unwind_Right r1 h37) rfl fun _ σ _ _ hO h38 h39 => ?_
      have hL := hL.trans h38
      have r1 := r1.le h38
      have r2 := r2.le h38
      have w35 := w35.le h38
      obtain ⟨rfl, rfl⟩ := h39
      have hO : Obs _ _ [_, _] := hO
      refine wpn_qa hO [] [(1, .slice A1 p1.length c1), (2, .slice A2 p2.length c2), (7, .int .i64 (p0.length : Int)), (8, .slice A32 c27.1.length c33), (9, .int .i64 c27.2), (45, .bool (!((c27.2 == 0) == c36)))] (And.intro rfl (And.intro rfl (And.intro rfl (And.intro rfl (And.intro rfl (And.intro rfl trivial)))))) fun j => ?_
      rcases ite_some hF with ⟨hb40, hF⟩ | ⟨hb40, hF⟩
      · refine wpn_cT (congrArg Value.bool hb40) ?_
        refine wpn_assoc ?_
        refine wpn_qa hO [] [(6, .bool false)] (And.intro rfl trivial) fun j => ?_
        refine wpn_rt ?_
        injection hF with hF
        subst hF
        have hO := hO.sel [] (by decide)
        exact hQ _ _ _ _ _ rfl hO hL ⟨rfl, rfl⟩
      · refine wpn_cF (congrArg Value.bool hb40) ?_
        refine wpn_sk ?_
        refine wpn_assoc ?_
        refine wpn_qa hO [] [(1, .slice A1 p1.length c1), (2, .slice A2 p2.length c2), (7, .int .i64 (p0.length : Int)), (8, .slice A32 c27.1.length c33), (47, .bool (c27.2 == 0))] (And.intro rfl (And.intro rfl (And.intro rfl (And.intro rfl (And.intro rfl trivial))))) fun j => ?_
        refine wpn_cut (fun e' σ' => ∃ (τ' : Hp), agr [(2, .slice A2 p2.length c2)] e' ∧ Obs τ' σ' [] ∧ Hp.le τ τ' ∧ RdT Ty.u8 τ' (.slice A2 p2.length c2) p2 ∧ F_law08_UnwindBack_k3 p2 = some rr) ?_ ?_
        · refine wpn_clast ?_
          rcases ite_some hF with ⟨hb127, hF⟩ | ⟨hb127, hF⟩
          · refine wpn_cT (congrArg Value.bool hb127) ?_
            refine wpn_assoc ?_
            refine wpn_q hO 1 [] [(1, .slice A1 p1.length c1), (2, .slice A2 p2.length c2), (7, .int .i64 (p0.length : Int)), (8, .slice A32 c27.1.length c33), (49, .slice A32 c27.1.length c33)] (And.intro rfl (And.intro rfl (And.intro rfl (And.intro rfl (And.intro rfl trivial))))) fun j => ?_
            obtain ⟨_, h129, r128, hO⟩ := w35.share hO (i := 1) rfl
            have hL := hL.trans h129
            have r1 := r1.le h129
            have r2 := r2.le h129
            have hO : Obs _ _ [_, _] := hO
            obtain ⟨c130, h131, hF⟩ := bind_some hF
            refine wpn_c0 hO (w_ref00_CopyBytes r128 h131) rfl fun _ σ _ _ hO h132 h133 => ?_
            have hL := hL.trans h132
            have r1 := r1.le h132
            have r2 := r2.le h132
            have r128 := r128.le h132
            obtain ⟨v134, o137, rfl, rfl, w138⟩ := h133
            obtain ⟨A135, c136, rfl, -⟩ := w138.form
            have hO : Obs _ _ [_, _, _] := hO
            refine wpn_q hO 1 [] [(1, .slice A1 p1.length c1), (2, .slice A2 p2.length c2), (7, .int .i64 (p0.length : Int)), (8, .slice A32 c27.1.length c33), (50, .slice A135 c130.length c136), (51, .slice A2 p2.length c2)] (And.intro rfl (And.intro rfl (And.intro rfl (And.intro rfl (And.intro rfl (And.intro rfl trivial)))))) fun j => ?_
            obtain ⟨_, hr, hF⟩ := bind_some hF
            refine wpn_apl (T := Ty.u8) hO w138 (i := 2) rfl rfl rfl r2 hr (by decide) fun _ σ o141 w142 hO => ?_
            obtain ⟨A139, c140, rfl, -⟩ := w142.form
            have hO : Obs _ _ [_, _, _] := hO
            refine wpn_q hO 1 [] [(1, .slice A1 p1.length c1), (2, .slice A2 p2.length c2), (8, .slice A32 c27.1.length c33), (52, .slice A139 (c130 ++ p2).length c140), (53, .int .i64 (p0.length : Int))] (And.intro rfl (And.intro rfl (And.intro rfl (And.intro rfl (And.intro rfl trivial))))) fun j => ?_
            obtain ⟨_, h144, r143, hO⟩ := w142.share hO (i := 2) rfl
            have hL := hL.trans h144
            have r1 := r1.le h144
            have r2 := r2.le h144
            have r128 := r128.le h144
            have hO : Obs _ _ [_, _, _] := hO
            obtain ⟨c145, h146, hF⟩ := bind_some hF
            refine wpn_c0 hO (w_unwind_Get r143 h146) rfl fun _ σ _ _ hO h147 h148 => ?_
            have hL := hL.trans h147
            have r1 := r1.le h147
            have r2 := r2.le h147
            have r128 := r128.le h147
            have r143 := r143.le h147
            obtain ⟨v149, rfl, rfl, r152⟩ := h148
            obtain ⟨A150, c151, rfl, -⟩ := r152.form
            have hO : Obs _ _ [_, _, _] := hO
            refine wpn_qa hO [] [(1, .slice A1 p1.length c1), (2, .slice A2 p2.length c2), (8, .slice A32 c27.1.length c33), (10, .slice A150 c145.1.length c151), (11, .int .i64 c145.2.1), (12, .int .i64 c145.2.2)] (And.intro rfl (And.intro rfl (And.intro rfl (And.intro rfl (And.intro rfl (And.intro rfl trivial)))))) fun j => ?_
            refine wpn_assoc ?_
            refine wpn_q hO 6 [] [(1, .slice A1 p1.length c1), (2, .slice A2 p2.length c2), (10, .slice A150 c145.1.length c151), (66, .bool ((c145.2.2 != 0) || (c145.2.1 != (c27.1.length : Int))))] (And.intro (And.intro rfl rfl) (fun _ => And.intro rfl (And.intro rfl (And.intro rfl (And.intro rfl trivial))))) fun j => ?_
            have hO := hO.sel [] (by decide)
            have hO : Obs _ _ [] := hO
            obtain ⟨c153, h154, hF⟩ := bind_some hF
            refine wpn_mid 2 (fun e' σ' => ∃ (τ' : Hp), agr [(71, .bool c153), (2, .slice A2 p2.length c2)] e' ∧ Obs τ' σ' [] ∧ Hp.le τ τ' ∧ RdT Ty.u8 τ' (.slice A2 p2.length c2) p2) ?_ ?_
            · have hF := h154
              rcases ite_some hF with ⟨hb155, hF⟩ | ⟨hb155, hF⟩
              · refine wpn_gF (congrArg (fun x => isB (.bool x) false) hb155) ?_
                refine wpn_pk (congrArg Value.bool hb155) ?_
                refine wpn_nil ?_
                injection hF with hF
                subst hF
                refine wpn_end ?_
                exact ⟨rfl, _, And.intro rfl (And.intro rfl trivial), hO, hL, r2⟩
              · refine wpn_gT (congrArg (fun x => isB (.bool x) false) hb155) ?_
                refine wpn_q hO 2 [] [(2, .slice A2 p2.length c2), (66, .bool ((c145.2.2 != 0) || (c145.2.1 != (c27.1.length : Int)))), (67, .slice A150 c145.1.length c151), (68, .slice A1 p1.length c1)] (And.intro rfl (And.intro rfl (And.intro rfl (And.intro rfl trivial)))) fun j => ?_
                obtain ⟨c156, h157, hF⟩ := bind_some hF
                refine wpn_c0 hO (w_ref08_Same r152 r1 h157) rfl fun _ σ _ _ hO h158 h159 => ?_
                have hL := hL.trans h158
                have r2 := r2.le h158
                have r152 := r152.le h158
                have r1 := r1.le h158
                obtain ⟨rfl, rfl⟩ := h159
                have hO : Obs _ _ [] := hO
                refine wpn_q hO 1 [] [(2, .slice A2 p2.length c2), (66, .bool ((c145.2.2 != 0) || (c145.2.1 != (c27.1.length : Int)))), (70, .bool (!c156))] (And.intro rfl (And.intro rfl (And.intro rfl trivial))) fun j => ?_
                refine wpn_pk (congrArg Value.bool hb155) ?_
                refine wpn_nil ?_
                injection hF with hF
                subst hF
                refine wpn_end ?_
                exact ⟨rfl, _, And.intro rfl (And.intro rfl trivial), hO, hL, r2⟩
            · rintro e σ ⟨_, hA, hO, hL, r2⟩
              rw [← sets_agr _ _ hA]
              refine wpn_nil ?_
              rcases ite_some hF with ⟨hb160, hF⟩ | ⟨hb160, hF⟩
              · refine wpn_cT (congrArg Value.bool hb160) ?_
                refine wpn_assoc ?_
                refine wpn_qa hO [] [(6, .bool false)] (And.intro rfl trivial) fun j => ?_
                refine wpn_rt ?_
                refine thn_r1 ?_
                injection hF with hF
                subst hF
                exact hQ _ _ _ _ _ rfl hO hL ⟨rfl, rfl⟩
              · refine wpn_cF (congrArg Value.bool hb160) ?_
                refine wpn_sk ?_
                refine wpn_end ?_
                refine thn_i ?_
                exact ⟨_, And.intro rfl trivial, hO, hL, r2, hF⟩
          · refine wpn_cF (congrArg Value.bool hb127) ?_
            refine wpn_assoc ?_
            refine wpn_qa hO [] [(2, .slice A2 p2.length c2), (74, .bool ((c27.1.length : Int) != 0))] (And.intro rfl (And.intro rfl trivial)) fun j => ?_
            rcases ite_some hF with ⟨hb161, hF⟩ | ⟨hb161, hF⟩
            · refine wpn_cT (congrArg Value.bool hb161) ?_
              refine wpn_assoc ?_
              refine wpn_qa hO [] [(6, .bool false)] (And.intro rfl trivial) fun j => ?_
              refine wpn_rt ?_
              refine thn_r1 ?_
              injection hF with hF
              subst hF
              have hO := hO.sel [] (by decide)
              exact hQ _ _ _ _ _ rfl hO hL ⟨rfl, rfl⟩
            · refine wpn_cF (congrArg Value.bool hb161) ?_
              refine wpn_sk ?_
              refine wpn_end ?_
              refine thn_i ?_
              have hO := hO.sel [] (by decide)
              exact ⟨_, And.intro rfl trivial, hO, hL, r2, hF⟩
        · rintro e σ ⟨_, hA, hO, hL, r76, hF⟩
          rw [← sets_agr _ _ hA]
          unfold F_law08_UnwindBack_k3 at hF
          refine wpn_q hO 1 [] [(2, .slice A2 p2.length c2), (76, .slice A2 p2.length c2)] (And.intro rfl (And.intro rfl trivial)) fun j => ?_
          obtain ⟨c77, h78, hF⟩ := bind_some hF
          refine wpn_c0 hO (w_unwind_Get r76 h78) rfl fun _ σ _ _ hO h79 h80 => ?_
          have hL := hL.trans h79
          have r76 := r76.le h79
          obtain ⟨v81, rfl, rfl, r84⟩ := h80
          obtain ⟨A82, c83, rfl, -⟩ := r84.form
          have hO : Obs _ _ [] := hO
          refine wpn_qa hO [] [(2, .slice A2 p2.length c2), (13, .slice A82 c77.1.length c83), (14, .int .i64 c77.2.1), (15, .int .i64 c77.2.2)] (And.intro rfl (And.intro rfl (And.intro rfl (And.intro rfl trivial)))) fun j => ?_
          refine wpn_assoc ?_
          refine wpn_qa hO [] [(2, .slice A2 p2.length c2), (13, .slice A82 c77.1.length c83), (14, .int .i64 c77.2.1), (82, .bool (c77.2.2 != 0))] (And.intro rfl (And.intro rfl (And.intro rfl (And.intro rfl trivial)))) fun j => ?_
          rcases ite_some hF with ⟨hb85, hF⟩ | ⟨hb85, hF⟩
          · refine wpn_cT (congrArg Value.bool hb85) ?_
            refine wpn_assoc ?_
            refine wpn_q hO 7 [] [(90, .bool (((c77.1.length : Int) == 0) && (c77.2.1 == 0)))] (And.intro (And.intro rfl rfl) (fun _ => And.intro rfl trivial)) fun j => ?_
            obtain ⟨c86, h87, hF⟩ := bind_some hF
            refine wpn_mid 2 (fun e' σ' => ∃ (τ' : Hp), agr [(92, .bool c86)] e' ∧ Obs τ' σ' [] ∧ Hp.le τ τ') ?_ ?_
            · have hF := h87
              rcases ite_some hF with ⟨hb88, hF⟩ | ⟨hb88, hF⟩
              · refine wpn_gT (congrArg (fun x => isB (.bool x) true) hb88) ?_
                obtain ⟨c89, h90, hF⟩ := bind_some hF
                refine wpn_c0 hO (w_law08_works h90) rfl fun _ σ _ _ hO h91 h92 => ?_
                have hL := hL.trans h91
                obtain ⟨rfl, rfl⟩ := h92
                have hO : Obs _ _ [] := hO
                refine wpn_pk (congrArg Value.bool hb88) ?_
                refine wpn_nil ?_
                injection hF with hF
                subst hF
                refine wpn_end ?_
                exact ⟨rfl, _, And.intro rfl (trivial), hO, hL⟩
              · refine wpn_gF (congrArg (fun x => isB (.bool x) true) hb88) ?_
                refine wpn_pk (congrArg Value.bool hb88) ?_
                refine wpn_nil ?_
                injection hF with hF
                subst hF
                refine wpn_end ?_
                exact ⟨rfl, _, And.intro rfl (trivial), hO, hL⟩
            · rintro e σ ⟨_, hA, hO, hL⟩
              rw [← sets_agr _ _ hA]
              refine wpn_qa hO [] [(6, .bool c86)] (And.intro rfl trivial) fun j => ?_
              refine wpn_rt ?_
              injection hF with hF
              subst hF
              exact hQ _ _ _ _ _ rfl hO hL ⟨rfl, rfl⟩
          · refine wpn_cF (congrArg Value.bool hb85) ?_
            refine wpn_sk ?_
            refine wpn_q hO 1 [] [(2, .slice A2 p2.length c2), (13, .slice A82 c77.1.length c83), (14, .int .i64 c77.2.1), (94, .slice A82 c77.1.length c83)] (And.intro rfl (And.intro rfl (And.intro rfl (And.intro rfl trivial)))) fun j => ?_
            obtain ⟨c93, h94, hF⟩ := bind_some hF
            refine wpn_c0 hO (w_unwind_Put (RdT.nil Ty.u8 _) r84 h94) rfl fun _ σ _ _ hO h95 h96 => ?_
            have hL := hL.trans h95
            have r76 := r76.le h95
            have r84 := r84.le h95
            obtain ⟨v97, o100, rfl, rfl, w101⟩ := h96
            obtain ⟨A98, c99, rfl, -⟩ := w101.form
            have hO : Obs _ _ [_] := hO
            refine wpn_qa hO [] [(2, .slice A2 p2.length c2), (13, .slice A82 c77.1.length c83), (14, .int .i64 c77.2.1), (16, .slice A98 c93.1.length c99), (17, .int .i64 c93.2)] (And.intro rfl (And.intro rfl (And.intro rfl (And.intro rfl (And.intro rfl trivial))))) fun j => ?_
            refine wpn_q hO 1 [] [(2, .slice A2 p2.length c2), (14, .int .i64 c77.2.1), (16, .slice A98 c93.1.length c99), (17, .int .i64 c93.2), (98, .slice A82 c77.1.length c83)] (And.intro rfl (And.intro rfl (And.intro rfl (And.intro rfl (And.intro rfl trivial))))) fun j => ?_
            obtain ⟨c102, h103, hF⟩ := bind_some hF
            refine wpn_c0 hO (w_unwind_Right r84 h103) rfl fun _ σ _ _ hO h104 h105 => ?_
            have hL := hL.trans h104
            have r76 := r76.le h104
            have w101 := w101.le h104
            have r84 := r84.le h104
            obtain ⟨rfl, rfl⟩ := h105
            have hO : Obs _ _ [_] := hO
            refine wpn_q hO 10 [] [(2, .slice A2 p2.length c2), (14, .int .i64 c77.2.1), (16, .slice A98 c93.1.length c99), (114, .bool (((c102 && (c93.2 == 0)) && (decide (c77.2.1 ≥ 1))) && (decide (c77.2.1 ≤ (p2.length : Int)))))] (And.intro (And.intro rfl rfl) (fun _ => And.intro (And.intro rfl rfl) (fun _ => And.intro (And.intro rfl rfl) (fun _ => And.intro rfl (And.intro rfl (And.intro rfl (And.intro rfl trivial))))))) fun j => ?_
            obtain ⟨_, h107, r106, hO⟩ := w101.share hO (i := 0) rfl
            have hL := hL.trans h107
            have r76 := r76.le h107
            have hO : Obs _ _ [_] := hO
            have hO := hO.sel [] (by decide)
            have hO : Obs _ _ [] := hO
            obtain ⟨c108, h109, hF⟩ := bind_some hF
            refine wpn_mid 2 (fun e' σ' => ∃ (τ' : Hp), agr [(120, .bool c108)] e' ∧ Obs τ' σ' [] ∧ Hp.le τ τ') ?_ ?_
            · have hF := h109
              rcases ite_some hF with ⟨hb110, hF⟩ | ⟨hb110, hF⟩
              · refine wpn_gT (congrArg (fun x => isB (.bool x) true) hb110) ?_
                refine wpn_q hO 3 [] [(114, .bool (((c102 && (c93.2 == 0)) && (decide (c77.2.1 ≥ 1))) && (decide (c77.2.1 ≤ (p2.length : Int))))), (115, .slice A98 c93.1.length c99), (116, .slice A2 p2.length c2), (117, .int .i64 c77.2.1)] (And.intro rfl (And.intro rfl (And.intro rfl (And.intro rfl trivial)))) fun j => ?_
                obtain ⟨y111, g112, hF⟩ := bind_some hF
                refine wpn_sl (T := Ty.u8) r76 rfl rfl rfl g112 fun _ r113 => ?_
                obtain ⟨A114, c115, rfl, -⟩ := r113.form
                obtain ⟨c116, h117, hF⟩ := bind_some hF
                refine wpn_c0 hO (w_ref00_EqBytes r106 r113 h117) rfl fun _ σ _ _ hO h118 h119 => ?_
                have hL := hL.trans h118
                have r106 := r106.le h118
                have r76 := r76.le h118
                have r113 := r113.le h118
                obtain ⟨rfl, rfl⟩ := h119
                have hO : Obs _ _ [] := hO
                refine wpn_pk (congrArg Value.bool hb110) ?_
                refine wpn_nil ?_
                injection hF with hF
                subst hF
                refine wpn_end ?_
                exact ⟨rfl, _, And.intro rfl (trivial), hO, hL⟩
              · refine wpn_gF (congrArg (fun x => isB (.bool x) true) hb110) ?_
                refine wpn_pk (congrArg Value.bool hb110) ?_
                refine wpn_nil ?_
                injection hF with hF
                subst hF
                refine wpn_end ?_
                exact ⟨rfl, _, And.intro rfl (trivial), hO, hL⟩
            · rintro e σ ⟨_, hA, hO, hL⟩
              rw [← sets_agr _ _ hA]
              refine wpn_q hO 1 [] [(121, .bool c108)] (And.intro rfl trivial) fun j => ?_
              obtain ⟨c120, h121, hF⟩ := bind_some hF
              refine wpn_mid 2 (fun e' σ' => ∃ (τ' : Hp), agr [(123, .bool c120)] e' ∧ Obs τ' σ' [] ∧ Hp.le τ τ') ?_ ?_
              · have hF := h121
                rcases ite_some hF with ⟨hb122, hF⟩ | ⟨hb122, hF⟩
                · refine wpn_gT (congrArg (fun x => isB (.bool x) true) hb122) ?_
                  obtain ⟨c123, h124, hF⟩ := bind_some hF
                  refine wpn_c0 hO (w_law08_works h124) rfl fun _ σ _ _ hO h125 h126 => ?_
                  have hL := hL.trans h125
                  obtain ⟨rfl, rfl⟩ := h126
                  have hO : Obs _ _ [] := hO
                  refine wpn_pk (congrArg Value.bool hb122) ?_
                  refine wpn_nil ?_
                  injection hF with hF
                  subst hF
                  refine wpn_end ?_
                  exact ⟨rfl, _, And.intro rfl (trivial), hO, hL⟩
                · refine wpn_gF (congrArg (fun x => isB (.bool x) true) hb122) ?_
                  refine wpn_pk (congrArg Value.bool hb122) ?_
                  refine wpn_nil ?_
                  injection hF with hF
                  subst hF
                  refine wpn_end ?_
                  exact ⟨rfl, _, And.intro rfl (trivial), hO, hL⟩
              · rintro e σ ⟨_, hA, hO, hL⟩
                rw [← sets_agr _ _ hA]
                refine wpn_qa hO [] [(6, .bool c120)] (And.intro rfl trivial) fun j => ?_
                refine wpn_r1 ?_
                injection hF with hF
                subst hF
                exact hQ _ _ _ _ _ rfl hO hL ⟨rfl, rfl⟩
end Go.Proofs.Ytneonhnackjdjaa
