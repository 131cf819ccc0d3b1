import Derived.Test.YtpmlbgaigjdmjaaF
import Derived.Test.YtpmlbgaigjdmjaaAc0
import Derived.Test.YtpmlbgaigjdmjaaM00
import Derived.Test.YtpmlbgaigjdmjaaM02
import Derived.Test.YtpmlbgaigjdmjaaG0
namespace Go.Proofs.Ytpmlbgaigjdmjaa
open Go.Ab Go.RowKit
set_option linter.unusedVariables false
set_option linter.unusedSimpArgs false
set_option maxRecDepth 10000
theorem w_law06_vast {τ : Hp} {v0 : Value} {p0 : (List S_api_Loc)} {p1 : S_api_View} {v1_0 : Value} {v1_1 : Value} {v1_3 : Value} (r0 : RdT TyS_api_Loc τ v0 p0) (r1_0 : RdT Ty.bool τ v1_0 p1.Known) (r1_1 : RdT (Ty.int .i64) τ v1_1 p1.Regs) (r1_3 : RdT (Ty.int .i64) τ v1_3 p1.Words) {rr : Bool} (hF : F_law06_vast p0 p1 = some rr) :
    Ctr Try.prog 20 #[v0, .agg #[v1_0, v1_1, .int .i64 p1.Base, v1_3]] τ [] (fun v τ' vs' => v = .bool rr ∧ vs' = []) := by
  obtain ⟨A0, c0, rfl, -⟩ := r0.form
  obtain ⟨A1_0, c1_0, rfl, -⟩ := r1_0.form
  obtain ⟨A1_1, c1_1, rfl, -⟩ := r1_1.form
  obtain ⟨A1_3, c1_3, rfl, -⟩ := r1_3.form
  refine ctr_of (args := [.slice A0 p0.length c0, .agg #[(.slice A1_0 p1.Known.length c1_0), (.slice A1_1 p1.Regs.length c1_1), .int .i64 p1.Base, (.slice A1_3 p1.Words.length c1_3)]]) hm Try.func20 s20 rfl fun w0 σ hO Q hQ => ?_
  unfold F_law06_vast at hF
  have hL := Hp.le.refl τ
  show wpn _ _ a20.body _ _ _
  unfold a20
  dsimp only
  refine wpn_bx (n := 4) hO rfl rfl fun b3 σ hO => ?_
  have hO : Obs _ _ [_] := hO
  refine wpn_qa hO [] [(0, .slice A0 p0.length c0), (3, .pointer (some ⟨b3, 0, none⟩))] (And.intro rfl (And.intro rfl trivial)) fun j => ?_
  refine wpn_qa hO [0, 0, 0] [(4, .bool ((((decide ((p0.length : Int) > 1000)) || (decide ((p1.Known.length : Int) > 1000))) || (decide ((p1.Regs.length : Int) > 1000))) || (decide ((p1.Words.length : Int) > 65536))))] (And.intro (And.intro rfl rfl) (And.intro (And.intro rfl rfl) (fun _ => And.intro (And.intro rfl rfl) (And.intro (And.intro rfl rfl) (fun _ => And.intro (And.intro rfl rfl) (And.intro (And.intro rfl rfl) (fun _ => And.intro rfl trivial))))))) fun j => ?_
  refine wpn_r1 ?_
  injection hF with hF
  subst hF
  have hO := hO.sel [] (by decide)
  exact hQ _ _ _ _ _ rfl hO hL ⟨rfl, rfl⟩
theorem w_law06_ExprParts {τ : Hp} {v0 : Value} {p0 : (List S_api_Loc)} {v1 : Value} {p1 : (List S_api_Loc)} {p2 : S_api_View} {v2_0 : Value} {v2_1 : Value} {v2_3 : Value} (r0 : RdT TyS_api_Loc τ v0 p0) (r1 : RdT TyS_api_Loc τ v1 p1) (r2_0 : RdT Ty.bool τ v2_0 p2.Known) (r2_1 : RdT (Ty.int .i64) τ v2_1 p2.Regs) (r2_3 : RdT (Ty.int .i64) τ v2_3 p2.Words) {rr : Bool} (hF : F_law06_ExprParts p0 p1 p2 = some rr) :
    Ctr Try.prog 6 #[v0, v1, .agg #[v2_0, v2_1, .int .i64 p2.Base, v2_3]] τ [] (fun v τ' vs' => v = .bool rr ∧ vs' = []) := by
  obtain ⟨A0, c0, rfl, -⟩ := r0.form
  obtain ⟨A1, c1, rfl, -⟩ := r1.form
  obtain ⟨A2_0, c2_0, rfl, -⟩ := r2_0.form
  obtain ⟨A2_1, c2_1, rfl, -⟩ := r2_1.form
  obtain ⟨A2_3, c2_3, rfl, -⟩ := r2_3.form
  refine ctr_of (args := [.slice A0 p0.length c0, .slice A1 p1.length c1, .agg #[(.slice A2_0 p2.Known.length c2_0), (.slice A2_1 p2.Regs.length c2_1), .int .i64 p2.Base, (.slice A2_3 p2.Words.length c2_3)]]) hm Try.func6 s6 rfl fun w0 σ hO Q hQ => ?_
  unfold F_law06_ExprParts at hF
  have hL := Hp.le.refl τ
  show wpn _ _ a6.body _ _ _
  unfold a6
  dsimp only
  refine wpn_bx (n := 4) hO rfl rfl fun b4 σ hO => ?_
  have hO : Obs _ _ [_] := hO
  refine wpn_qa hO [] [(0, .slice A0 p0.length c0), (1, .slice A1 p1.length c1), (5, .pointer (some ⟨b4, 0, none⟩))] (And.intro rfl (And.intro rfl (And.intro rfl trivial))) fun j => ?_
  refine wpn_assoc ?_
  refine wpn_q hO 2 [0] [(0, .slice A0 p0.length c0), (1, .slice A1 p1.length c1), (5, .pointer (some ⟨b4, 0, none⟩)), (19, .slice A0 p0.length c0), (20, .agg #[(.slice A2_0 p2.Known.length c2_0), (.slice A2_1 p2.Regs.length c2_1), (.int .i64 p2.Base), (.slice A2_3 p2.Words.length c2_3)])] (And.intro (And.intro rfl rfl) (And.intro rfl (And.intro rfl (And.intro rfl (And.intro rfl (And.intro rfl trivial)))))) fun j => ?_
  obtain ⟨c5, h6, hF⟩ := bind_some hF
  refine wpn_c0 hO (w_law06_vast r0 r2_0 r2_1 r2_3 h6) rfl fun _ σ _ _ hO h7 h8 => ?_
  have hL := hL.trans h7
  have r0 := r0.le h7
  have r1 := r1.le h7
  have r2_0 := r2_0.le h7
  have r2_1 := r2_1.le h7
  have r2_3 := r2_3.le h7
  obtain ⟨rfl, rfl⟩ := h8
  have hO : Obs _ _ [_] := hO
  refine wpn_q hO 1 [] [(0, .slice A0 p0.length c0), (1, .slice A1 p1.length c1), (5, .pointer (some ⟨b4, 0, none⟩)), (22, .bool c5)] (And.intro rfl (And.intro rfl (And.intro rfl (And.intro rfl trivial)))) fun j => ?_
  obtain ⟨c9, h10, hF⟩ := bind_some hF
  refine wpn_mid 2 (fun e' σ' => ∃ (τ' : Hp), agr [(26, .bool c9), (0, .slice A0 p0.length c0), (1, .slice A1 p1.length c1), (5, .pointer (some ⟨b4, 0, none⟩))] e' ∧ Obs τ' σ' [some (b4, ⟨[.slice A2_0 p2.Known.length c2_0, .slice A2_1 p2.Regs.length c2_1, .int .i64 p2.Base, .slice A2_3 p2.Words.length c2_3], 42, 4, true⟩)] ∧ Hp.le τ τ' ∧ RdT TyS_api_Loc τ' (.slice A0 p0.length c0) p0 ∧ RdT TyS_api_Loc τ' (.slice A1 p1.length c1) p1 ∧ RdT Ty.bool τ' (.slice A2_0 p2.Known.length c2_0) p2.Known ∧ RdT (Ty.int .i64) τ' (.slice A2_1 p2.Regs.length c2_1) p2.Regs ∧ RdT (Ty.int .i64) τ' (.slice A2_3 p2.Words.length c2_3) p2.Words) ?_ ?_
  · have hF := h10
    rcases ite_some hF with ⟨hb11, hF⟩ | ⟨hb11, hF⟩
    · refine wpn_gF (congrArg (fun x => isB (.bool x) false) hb11) ?_
      refine wpn_pk (congrArg Value.bool hb11) ?_
      refine wpn_nil ?_
      injection hF with hF
      subst hF
      refine wpn_end ?_
      exact ⟨rfl, _, And.intro rfl (And.intro rfl (And.intro rfl (And.intro rfl trivial))), hO, hL, r0, r1, r2_0, r2_1, r2_3⟩
    · refine wpn_gT (congrArg (fun x => isB (.bool x) false) hb11) ?_
      refine wpn_q hO 2 [0] [(0, .slice A0 p0.length c0), (1, .slice A1 p1.length c1), (5, .pointer (some ⟨b4, 0, none⟩)), (22, .bool c5), (23, .slice A1 p1.length c1), (24, .agg #[(.slice A2_0 p2.Known.length c2_0), (.slice A2_1 p2.Regs.length c2_1), (.int .i64 p2.Base), (.slice A2_3 p2.Words.length c2_3)])] (And.intro (And.intro rfl rfl) (And.intro rfl (And.intro rfl (And.intro rfl (And.intro rfl (And.intro rfl (And.intro rfl trivial))))))) fun j => ?_
      obtain ⟨c12, h13, hF⟩ := bind_some hF
      refine wpn_c0 hO (w_law06_vast r1 r2_0 r2_1 r2_3 h13) rfl fun _ σ _ _ hO h14 h15 => ?_
      have hL := hL.trans h14
      have r0 := r0.le h14
      have r1 := r1.le h14
      have r2_0 := r2_0.le h14
      have r2_1 := r2_1.le h14
      have r2_3 := r2_3.le h14
      obtain ⟨rfl, rfl⟩ := h15
      have hO : Obs _ _ [_] := hO
      refine wpn_pk (congrArg Value.bool hb11) ?_
      refine wpn_nil ?_
      injection hF with hF
      subst hF
      refine wpn_end ?_
      exact ⟨rfl, _, And.intro rfl (And.intro rfl (And.intro rfl (And.intro rfl trivial))), hO, hL, r0, r1, r2_0, r2_1, r2_3⟩
  · rintro e σ ⟨_, hA, hO, hL, r0, r1, r2_0, r2_1, r2_3⟩
    rw [← sets_agr _ _ hA]
    refine wpn_qa hO [] [(0, .slice A0 p0.length c0), (1, .slice A1 p1.length c1), (5, .pointer (some ⟨b4, 0, none⟩)), (44, .bool (((c9 || (decide ((IntKind.i64.wrap ((p0.length : Int) + (p1.length : Int))) > 15))) || ((p0.length : Int) == 0)) || ((p1.length : Int) == 0)))] (And.intro (And.intro rfl rfl) (fun _ => And.intro (And.intro rfl rfl) (fun _ => And.intro (And.intro rfl rfl) (fun _ => And.intro rfl (And.intro rfl (And.intro rfl (And.intro rfl trivial))))))) fun j => ?_
    rcases ite_some hF with ⟨hb16, hF⟩ | ⟨hb16, hF⟩
    · refine wpn_cT (congrArg Value.bool hb16) ?_
      refine wpn_assoc ?_
      obtain ⟨c17, h18, hF⟩ := bind_some hF
      refine wpn_c0 hO (w_law06_works h18) rfl fun _ σ _ _ hO h19 h20 => ?_
      have hL := hL.trans h19
      have r0 := r0.le h19
      have r1 := r1.le h19
      have r2_0 := r2_0.le h19
      have r2_1 := r2_1.le h19
      have r2_3 := r2_3.le h19
      obtain ⟨rfl, rfl⟩ := h20
      have hO : Obs _ _ [_] := hO
      refine wpn_qa hO [] [(6, .bool c17)] (And.intro rfl trivial) fun j => ?_
      refine wpn_rt ?_
      injection hF with hF
      subst hF
      have hO := hO.sel [] (by decide)
      exact hQ _ _ _ _ _ rfl hO hL ⟨rfl, rfl⟩
    · refine wpn_cF (congrArg Value.bool hb16) ?_
      refine wpn_sk ?_
      refine wpn_q hO 2 [0] [(0, .slice A0 p0.length c0), (1, .slice A1 p1.length c1), (5, .pointer (some ⟨b4, 0, none⟩)), (47, .slice A0 p0.length c0), (48, .agg #[(.slice A2_0 p2.Known.length c2_0), (.slice A2_1 p2.Regs.length c2_1), (.int .i64 p2.Base), (.slice A2_3 p2.Words.length c2_3)])] (And.intro (And.intro rfl rfl) (And.intro rfl (And.intro rfl (And.intro rfl (And.intro rfl (And.intro rfl trivial)))))) fun j => ?_
      obtain ⟨c21, h22, hF⟩ := bind_some hF
      refine wpn_c0 hO (w_expr_Eval r0 r2_0 r2_1 r2_3 h22) rfl fun _ σ _ _ hO h23 h24 => ?_
      have hL := hL.trans h23
      have r0 := r0.le h23
      have r1 := r1.le h23
      have r2_0 := r2_0.le h23
      have r2_1 := r2_1.le h23
      have r2_3 := r2_3.le h23
      obtain ⟨rfl, rfl⟩ := h24
      have hO : Obs _ _ [_] := hO
      refine wpn_qa hO [] [(0, .slice A0 p0.length c0), (1, .slice A1 p1.length c1), (5, .pointer (some ⟨b4, 0, none⟩)), (7, .int .i64 c21.1), (8, .int .i64 c21.2)] (And.intro rfl (And.intro rfl (And.intro rfl (And.intro rfl (And.intro rfl trivial))))) fun j => ?_
      refine wpn_q hO 2 [0] [(0, .slice A0 p0.length c0), (1, .slice A1 p1.length c1), (5, .pointer (some ⟨b4, 0, none⟩)), (7, .int .i64 c21.1), (8, .int .i64 c21.2), (53, .slice A1 p1.length c1), (54, .agg #[(.slice A2_0 p2.Known.length c2_0), (.slice A2_1 p2.Regs.length c2_1), (.int .i64 p2.Base), (.slice A2_3 p2.Words.length c2_3)])] (And.intro (And.intro rfl rfl) (And.intro rfl (And.intro rfl (And.intro rfl (And.intro rfl (And.intro rfl (And.intro rfl (And.intro rfl trivial)))))))) fun j => ?_
      obtain ⟨c25, h26, hF⟩ := bind_some hF
      refine wpn_c0 hO (w_expr_Eval r1 r2_0 r2_1 r2_3 h26) rfl fun _ σ _ _ hO h27 h28 => ?_
      have hL := hL.trans h27
      have r0 := r0.le h27
      have r1 := r1.le h27
      have r2_0 := r2_0.le h27
      have r2_1 := r2_1.le h27
      have r2_3 := r2_3.le h27
      obtain ⟨rfl, rfl⟩ := h28
      have hO : Obs _ _ [_] := hO
      refine wpn_qa hO [] [(0, .slice A0 p0.length c0), (1, .slice A1 p1.length c1), (5, .pointer (some ⟨b4, 0, none⟩)), (7, .int .i64 c21.1), (8, .int .i64 c21.2), (9, .int .i64 c25.1), (10, .int .i64 c25.2)] (And.intro rfl (And.intro rfl (And.intro rfl (And.intro rfl (And.intro rfl (And.intro rfl (And.intro rfl trivial))))))) fun j => ?_
      refine wpn_q hO 1 [] [(0, .slice A0 p0.length c0), (1, .slice A1 p1.length c1), (5, .pointer (some ⟨b4, 0, none⟩)), (7, .int .i64 c21.1), (8, .int .i64 c21.2), (9, .int .i64 c25.1), (10, .int .i64 c25.2), (58, .slice A0 p0.length c0)] (And.intro rfl (And.intro rfl (And.intro rfl (And.intro rfl (And.intro rfl (And.intro rfl (And.intro rfl (And.intro rfl trivial)))))))) fun j => ?_
      obtain ⟨c29, h30, hF⟩ := bind_some hF
      refine wpn_c0 hO (w_ref06_Twin r0 h30) rfl fun _ σ _ _ hO h31 h32 => ?_
      have hL := hL.trans h31
      have r0 := r0.le h31
      have r1 := r1.le h31
      have r2_0 := r2_0.le h31
      have r2_1 := r2_1.le h31
      have r2_3 := r2_3.le h31
      obtain ⟨v33, o36, rfl, rfl, w37⟩ := h32
      obtain ⟨A34, c35, rfl, -⟩ := w37.form
      have hO : Obs _ _ [_, _] := hO
      refine wpn_q hO 1 [] [(0, .slice A0 p0.length c0), (1, .slice A1 p1.length c1), (5, .pointer (some ⟨b4, 0, none⟩)), (7, .int .i64 c21.1), (8, .int .i64 c21.2), (9, .int .i64 c25.1), (10, .int .i64 c25.2), (59, .slice A34 c29.length c35), (60, .slice A1 p1.length c1)] (And.intro rfl (And.intro rfl (And.intro rfl (And.intro rfl (And.intro rfl (And.intro rfl (And.intro rfl (And.intro rfl (And.intro rfl trivial))))))))) fun j => ?_
      obtain ⟨_, hr, hF⟩ := bind_some hF
      refine wpn_apl (T := TyS_api_Loc) hO w37 (i := 1) rfl rfl rfl r1 hr (by decide) fun _ σ o40 w41 hO => ?_
      obtain ⟨A38, c39, rfl, -⟩ := w41.form
      have hO : Obs _ _ [_, _] := hO
      refine wpn_q hO 1 [] [(0, .slice A0 p0.length c0), (1, .slice A1 p1.length c1), (5, .pointer (some ⟨b4, 0, none⟩)), (7, .int .i64 c21.1), (8, .int .i64 c21.2), (9, .int .i64 c25.1), (10, .int .i64 c25.2), (61, .slice A38 (c29 ++ p1).length c39), (62, .agg #[(.int .u8 5), (.int .i64 0)])] (And.intro rfl (And.intro rfl (And.intro rfl (And.intro rfl (And.intro rfl (And.intro rfl (And.intro rfl (And.intro rfl (And.intro rfl trivial))))))))) fun j => ?_
      obtain ⟨_, hr, hF⟩ := bind_some hF
      refine wpn_ap1 (T := TyS_api_Loc) (y := (⟨(5 : UInt8), 0⟩ : S_api_Loc)) hO w41 (i := 1) rfl rfl (fun _ => rfl) rfl rfl rfl hr (by decide) fun u _ σ o44 w45 hO => ?_
      obtain ⟨A42, c43, rfl, -⟩ := w45.form
      have hO : Obs _ _ [_, _] := hO
      refine wpn_qa hO [] [(0, .slice A0 p0.length c0), (1, .slice A1 p1.length c1), (5, .pointer (some ⟨b4, 0, none⟩)), (7, .int .i64 c21.1), (8, .int .i64 c21.2), (9, .int .i64 c25.1), (10, .int .i64 c25.2), (11, .slice A42 ((c29 ++ p1) ++ [(⟨(5 : UInt8), 0⟩ : S_api_Loc)]).length c43)] (And.intro rfl (And.intro rfl (And.intro rfl (And.intro rfl (And.intro rfl (And.intro rfl (And.intro rfl (And.intro rfl trivial)))))))) fun j => ?_
      refine wpn_q hO 2 [0] [(0, .slice A0 p0.length c0), (1, .slice A1 p1.length c1), (5, .pointer (some ⟨b4, 0, none⟩)), (7, .int .i64 c21.1), (8, .int .i64 c21.2), (9, .int .i64 c25.1), (10, .int .i64 c25.2), (11, .slice A42 ((c29 ++ p1) ++ [(⟨(5 : UInt8), 0⟩ : S_api_Loc)]).length c43), (66, .slice A42 ((c29 ++ p1) ++ [(⟨(5 : UInt8), 0⟩ : S_api_Loc)]).length c43), (67, .agg #[(.slice A2_0 p2.Known.length c2_0), (.slice A2_1 p2.Regs.length c2_1), (.int .i64 p2.Base), (.slice A2_3 p2.Words.length c2_3)])] (And.intro (And.intro rfl rfl) (And.intro rfl (And.intro rfl (And.intro rfl (And.intro rfl (And.intro rfl (And.intro rfl (And.intro rfl (And.intro rfl (And.intro rfl (And.intro rfl trivial))))))))))) fun j => ?_
      obtain ⟨_, h47, r46, hO⟩ := w45.share hO (i := 1) rfl
      have hL := hL.trans h47
      have r0 := r0.le h47
      have r1 := r1.le h47
      have r2_0 := r2_0.le h47
      have r2_1 := r2_1.le h47
      have r2_3 := r2_3.le h47
      have hO : Obs _ _ [_, _] := hO
      obtain ⟨c48, h49, hF⟩ := bind_some hF
      refine wpn_c0 hO (w_expr_Eval r46 r2_0 r2_1 r2_3 h49) rfl fun _ σ _ _ hO h50 h51 => ?_
      have hL := hL.trans h50
      have r0 := r0.le h50
      have r1 := r1.le h50
      have r46 := r46.le h50
      have r2_0 := r2_0.le h50
      have r2_1 := r2_1.le h50
      have r2_3 := r2_3.le h50
      obtain ⟨rfl, rfl⟩ := h51
      have hO : Obs _ _ [_, _] := hO
      refine wpn_qa hO [] [(0, .slice A0 p0.length c0), (1, .slice A1 p1.length c1), (5, .pointer (some ⟨b4, 0, none⟩)), (7, .int .i64 c21.1), (8, .int .i64 c21.2), (9, .int .i64 c25.1), (10, .int .i64 c25.2), (11, .slice A42 ((c29 ++ p1) ++ [(⟨(5 : UInt8), 0⟩ : S_api_Loc)]).length c43), (12, .int .i64 c48.1), (13, .int .i64 c48.2)] (And.intro rfl (And.intro rfl (And.intro rfl (And.intro rfl (And.intro rfl (And.intro rfl (And.intro rfl (And.intro rfl (And.intro rfl (And.intro rfl trivial)))))))))) fun j => ?_
      refine wpn_assoc ?_
      refine wpn_q hO 6 [] [(0, .slice A0 p0.length c0), (1, .slice A1 p1.length c1), (5, .pointer (some ⟨b4, 0, none⟩)), (7, .int .i64 c21.1), (8, .int .i64 c21.2), (9, .int .i64 c25.1), (10, .int .i64 c25.2), (11, .slice A42 ((c29 ++ p1) ++ [(⟨(5 : UInt8), 0⟩ : S_api_Loc)]).length c43), (12, .int .i64 c48.1), (13, .int .i64 c48.2), (77, .bool ((c21.2 == 0) && (c25.2 == 0)))] (And.intro (And.intro rfl rfl) (fun _ => And.intro rfl (And.intro rfl (And.intro rfl (And.intro rfl (And.intro rfl (And.intro rfl (And.intro rfl (And.intro rfl (And.intro rfl (And.intro rfl (And.intro rfl trivial)))))))))))) fun j => ?_
      have hO := hO.sel [0] (by decide)
      have hO : Obs _ _ [_] := hO
      obtain ⟨c52, h53, hF⟩ := bind_some hF
      refine wpn_mid 2 (fun e' σ' => ∃ (τ' : Hp), agr [(80, .bool c52), (0, .slice A0 p0.length c0), (1, .slice A1 p1.length c1), (5, .pointer (some ⟨b4, 0, none⟩)), (7, .int .i64 c21.1), (8, .int .i64 c21.2), (9, .int .i64 c25.1), (10, .int .i64 c25.2), (11, .slice A42 ((c29 ++ p1) ++ [(⟨(5 : UInt8), 0⟩ : S_api_Loc)]).length c43), (12, .int .i64 c48.1), (13, .int .i64 c48.2)] e' ∧ Obs τ' σ' [some (b4, ⟨[.slice A2_0 p2.Known.length c2_0, .slice A2_1 p2.Regs.length c2_1, .int .i64 p2.Base, .slice A2_3 p2.Words.length c2_3], 42, 4, true⟩)] ∧ Hp.le τ τ' ∧ RdT TyS_api_Loc τ' (.slice A0 p0.length c0) p0 ∧ RdT TyS_api_Loc τ' (.slice A1 p1.length c1) p1 ∧ RdT TyS_api_Loc τ' (.slice A42 ((c29 ++ p1) ++ [(⟨(5 : UInt8), 0⟩ : S_api_Loc)]).length c43) ((c29 ++ p1) ++ [(⟨(5 : UInt8), 0⟩ : S_api_Loc)]) ∧ RdT Ty.bool τ' (.slice A2_0 p2.Known.length c2_0) p2.Known ∧ RdT (Ty.int .i64) τ' (.slice A2_1 p2.Regs.length c2_1) p2.Regs ∧ RdT (Ty.int .i64) τ' (.slice A2_3 p2.Words.length c2_3) p2.Words) ?_ ?_
      · have hF := h53
        rcases ite_some hF with ⟨hb54, hF⟩ | ⟨hb54, hF⟩
        · refine wpn_gT (congrArg (fun x => isB (.bool x) true) hb54) ?_
          refine wpn_q hO 1 [] [(0, .slice A0 p0.length c0), (1, .slice A1 p1.length c1), (5, .pointer (some ⟨b4, 0, none⟩)), (7, .int .i64 c21.1), (8, .int .i64 c21.2), (9, .int .i64 c25.1), (10, .int .i64 c25.2), (11, .slice A42 ((c29 ++ p1) ++ [(⟨(5 : UInt8), 0⟩ : S_api_Loc)]).length c43), (12, .int .i64 c48.1), (13, .int .i64 c48.2), (77, .bool ((c21.2 == 0) && (c25.2 == 0))), (78, .slice A42 ((c29 ++ p1) ++ [(⟨(5 : UInt8), 0⟩ : S_api_Loc)]).length c43)] (And.intro rfl (And.intro rfl (And.intro rfl (And.intro rfl (And.intro rfl (And.intro rfl (And.intro rfl (And.intro rfl (And.intro rfl (And.intro rfl (And.intro rfl (And.intro rfl trivial)))))))))))) fun j => ?_
          obtain ⟨c55, h56, hF⟩ := bind_some hF
          refine wpn_c0 hO (w_expr_Right r46 h56) rfl fun _ σ _ _ hO h57 h58 => ?_
          have hL := hL.trans h57
          have r0 := r0.le h57
          have r1 := r1.le h57
          have r46 := r46.le h57
          have r2_0 := r2_0.le h57
          have r2_1 := r2_1.le h57
          have r2_3 := r2_3.le h57
          obtain ⟨rfl, rfl⟩ := h58
          have hO : Obs _ _ [_] := hO
          refine wpn_pk (congrArg Value.bool hb54) ?_
          refine wpn_nil ?_
          injection hF with hF
          subst hF
          refine wpn_end ?_
          exact ⟨rfl, _, And.intro rfl (And.intro rfl (And.intro rfl (And.intro rfl (And.intro rfl (And.intro rfl (And.intro rfl (And.intro rfl (And.intro rfl (And.intro rfl (And.intro rfl trivial)))))))))), hO, hL, r0, r1, r46, r2_0, r2_1, r2_3⟩
        · refine wpn_gF (congrArg (fun x => isB (.bool x) true) hb54) ?_
          refine wpn_pk (congrArg Value.bool hb54) ?_
          refine wpn_nil ?_
          injection hF with hF
          subst hF
          refine wpn_end ?_
          exact ⟨rfl, _, And.intro rfl (And.intro rfl (And.intro rfl (And.intro rfl (And.intro rfl (And.intro rfl (And.intro rfl (And.intro rfl (And.intro rfl (And.intro rfl (And.intro rfl trivial)))))))))), hO, hL, r0, r1, r46, r2_0, r2_1, r2_3⟩
      · rintro e σ ⟨_, hA, hO, hL, r0, r1, r46, r2_0, r2_1, r2_3⟩
        rw [← sets_agr _ _ hA]
        refine wpn_q hO 1 [] [(0, .slice A0 p0.length c0), (1, .slice A1 p1.length c1), (5, .pointer (some ⟨b4, 0, none⟩)), (7, .int .i64 c21.1), (8, .int .i64 c21.2), (9, .int .i64 c25.1), (10, .int .i64 c25.2), (11, .slice A42 ((c29 ++ p1) ++ [(⟨(5 : UInt8), 0⟩ : S_api_Loc)]).length c43), (12, .int .i64 c48.1), (13, .int .i64 c48.2), (81, .bool c52)] (And.intro rfl (And.intro rfl (And.intro rfl (And.intro rfl (And.intro rfl (And.intro rfl (And.intro rfl (And.intro rfl (And.intro rfl (And.intro rfl (And.intro rfl trivial))))))))))) fun j => ?_
        obtain ⟨c59, h60, hF⟩ := bind_some hF
        refine wpn_midq 4 [(91, .bool c59), (0, .slice A0 p0.length c0), (1, .slice A1 p1.length c1), (5, .pointer (some ⟨b4, 0, none⟩)), (7, .int .i64 c21.1), (8, .int .i64 c21.2), (10, .int .i64 c25.2), (11, .slice A42 ((c29 ++ p1) ++ [(⟨(5 : UInt8), 0⟩ : S_api_Loc)]).length c43)] (fun Q hQ => ?_) fun j => ?_
        · have hF := h60
          rcases ite_some hF with ⟨hb61, hF⟩ | ⟨hb61, hF⟩
          · refine wpn_gT (congrArg (fun x => isB (.bool x) true) hb61) ?_
            refine wpn_q hO 3 [] [(0, .slice A0 p0.length c0), (1, .slice A1 p1.length c1), (5, .pointer (some ⟨b4, 0, none⟩)), (7, .int .i64 c21.1), (8, .int .i64 c21.2), (9, .int .i64 c25.1), (10, .int .i64 c25.2), (11, .slice A42 ((c29 ++ p1) ++ [(⟨(5 : UInt8), 0⟩ : S_api_Loc)]).length c43), (12, .int .i64 c48.1), (81, .bool c52), (84, .bool (c48.2 != 0))] (And.intro rfl (And.intro rfl (And.intro rfl (And.intro rfl (And.intro rfl (And.intro rfl (And.intro rfl (And.intro rfl (And.intro rfl (And.intro rfl (And.intro rfl trivial))))))))))) fun j => ?_
            rcases ite_some hF with ⟨hb62, hF⟩ | ⟨hb62, hF⟩
            · refine wpn_gF (congrArg (fun x => isB (.bool x) false) hb62) ?_
              refine wpn_gT (congrArg (fun x => isB (.bool x) true) hb61) ?_
              refine wpn_pk (congrArg Value.bool hb62) ?_
              refine wpn_pk (congrArg Value.bool hb61) ?_
              refine wpn_nil ?_
              injection hF with hF
              subst hF
              refine wpn_end ?_
              exact hQ _ (And.intro rfl (And.intro rfl (And.intro rfl (And.intro rfl (And.intro rfl (And.intro rfl (And.intro rfl (And.intro rfl trivial))))))))
            · refine wpn_gT (congrArg (fun x => isB (.bool x) false) hb62) ?_
              refine wpn_q hO 5 [] [(0, .slice A0 p0.length c0), (1, .slice A1 p1.length c1), (5, .pointer (some ⟨b4, 0, none⟩)), (7, .int .i64 c21.1), (8, .int .i64 c21.2), (10, .int .i64 c25.2), (11, .slice A42 ((c29 ++ p1) ++ [(⟨(5 : UInt8), 0⟩ : S_api_Loc)]).length c43), (81, .bool c52), (84, .bool (c48.2 != 0)), (89, .bool (c48.1 != (IntKind.i64.wrap (c21.1 + c25.1))))] (And.intro rfl (And.intro rfl (And.intro rfl (And.intro rfl (And.intro rfl (And.intro rfl (And.intro rfl (And.intro rfl (And.intro rfl (And.intro rfl trivial)))))))))) fun j => ?_
              refine wpn_gT (congrArg (fun x => isB (.bool x) true) hb61) ?_
              refine wpn_pk (congrArg Value.bool hb62) ?_
              refine wpn_pk (congrArg Value.bool hb61) ?_
              refine wpn_nil ?_
              injection hF with hF
              subst hF
              refine wpn_end ?_
              exact hQ _ (And.intro rfl (And.intro rfl (And.intro rfl (And.intro rfl (And.intro rfl (And.intro rfl (And.intro rfl (And.intro rfl trivial))))))))
          · refine wpn_gF (congrArg (fun x => isB (.bool x) true) hb61) ?_
            refine wpn_gF rfl ?_
            refine wpn_gF (congrArg (fun x => isB (.bool x) true) hb61) ?_
            refine wpn_pk (congrArg Value.bool hb61) ?_
            refine wpn_nil ?_
            injection hF with hF
            subst hF
            refine wpn_end ?_
            exact hQ _ (And.intro rfl (And.intro rfl (And.intro rfl (And.intro rfl (And.intro rfl (And.intro rfl (And.intro rfl (And.intro rfl trivial))))))))
        · refine wpn_nil ?_
          rcases ite_some hF with ⟨hb63, hF⟩ | ⟨hb63, hF⟩
          · refine wpn_cT (congrArg Value.bool hb63) ?_
            refine wpn_assoc ?_
            refine wpn_qa hO [] [(6, .bool false)] (And.intro rfl trivial) fun j => ?_
            refine wpn_rt ?_
            injection hF with hF
            subst hF
            have hO := hO.sel [] (by decide)
            exact hQ _ _ _ _ _ rfl hO hL ⟨rfl, rfl⟩
          · refine wpn_cF (congrArg Value.bool hb63) ?_
            refine wpn_sk ?_
            refine wpn_assoc ?_
            refine wpn_q hO 12 [] [(0, .slice A0 p0.length c0), (5, .pointer (some ⟨b4, 0, none⟩)), (7, .int .i64 c21.1), (8, .int .i64 c21.2), (11, .slice A42 ((c29 ++ p1) ++ [(⟨(5 : UInt8), 0⟩ : S_api_Loc)]).length c43), (108, .bool ((((c21.2 == 0) && (c25.2 == 0)) && ((p1.length : Int) == 1)) && (decide ((p0.length : Int) ≤ 7))))] (And.intro (And.intro rfl rfl) (fun _ => And.intro (And.intro rfl rfl) (fun _ => And.intro (And.intro rfl rfl) (fun _ => And.intro rfl (And.intro rfl (And.intro rfl (And.intro rfl (And.intro rfl (And.intro rfl trivial))))))))) fun j => ?_
            obtain ⟨c64, h65, hF⟩ := bind_some hF
            refine wpn_mid 2 (fun e' σ' => ∃ (τ' : Hp), agr [(112, .bool c64), (0, .slice A0 p0.length c0), (5, .pointer (some ⟨b4, 0, none⟩)), (7, .int .i64 c21.1), (8, .int .i64 c21.2)] e' ∧ Obs τ' σ' [some (b4, ⟨[.slice A2_0 p2.Known.length c2_0, .slice A2_1 p2.Regs.length c2_1, .int .i64 p2.Base, .slice A2_3 p2.Words.length c2_3], 42, 4, true⟩)] ∧ Hp.le τ τ' ∧ RdT TyS_api_Loc τ' (.slice A0 p0.length c0) p0 ∧ RdT Ty.bool τ' (.slice A2_0 p2.Known.length c2_0) p2.Known ∧ RdT (Ty.int .i64) τ' (.slice A2_1 p2.Regs.length c2_1) p2.Regs ∧ RdT (Ty.int .i64) τ' (.slice A2_3 p2.Words.length c2_3) p2.Words) ?_ ?_
            · have hF := h65
              rcases ite_some hF with ⟨hb66, hF⟩ | ⟨hb66, hF⟩
              · refine wpn_gT (congrArg (fun x => isB (.bool x) true) hb66) ?_
                refine wpn_q hO 1 [] [(0, .slice A0 p0.length c0), (5, .pointer (some ⟨b4, 0, none⟩)), (7, .int .i64 c21.1), (8, .int .i64 c21.2), (108, .bool ((((c21.2 == 0) && (c25.2 == 0)) && ((p1.length : Int) == 1)) && (decide ((p0.length : Int) ≤ 7)))), (109, .slice A42 ((c29 ++ p1) ++ [(⟨(5 : UInt8), 0⟩ : S_api_Loc)]).length c43)] (And.intro rfl (And.intro rfl (And.intro rfl (And.intro rfl (And.intro rfl (And.intro rfl trivial)))))) fun j => ?_
                obtain ⟨c67, h68, hF⟩ := bind_some hF
                refine wpn_c0 hO (w_expr_Right r46 h68) rfl fun _ σ _ _ hO h69 h70 => ?_
                have hL := hL.trans h69
                have r0 := r0.le h69
                have r46 := r46.le h69
                have r2_0 := r2_0.le h69
                have r2_1 := r2_1.le h69
                have r2_3 := r2_3.le h69
                obtain ⟨rfl, rfl⟩ := h70
                have hO : Obs _ _ [_] := hO
                refine wpn_q hO 1 [] [(0, .slice A0 p0.length c0), (5, .pointer (some ⟨b4, 0, none⟩)), (7, .int .i64 c21.1), (8, .int .i64 c21.2), (108, .bool ((((c21.2 == 0) && (c25.2 == 0)) && ((p1.length : Int) == 1)) && (decide ((p0.length : Int) ≤ 7)))), (111, .bool (!c67))] (And.intro rfl (And.intro rfl (And.intro rfl (And.intro rfl (And.intro rfl (And.intro rfl trivial)))))) fun j => ?_
                refine wpn_pk (congrArg Value.bool hb66) ?_
                refine wpn_nil ?_
                injection hF with hF
                subst hF
                refine wpn_end ?_
                exact ⟨rfl, _, And.intro rfl (And.intro rfl (And.intro rfl (And.intro rfl (And.intro rfl trivial)))), hO, hL, r0, r2_0, r2_1, r2_3⟩
              · refine wpn_gF (congrArg (fun x => isB (.bool x) true) hb66) ?_
                refine wpn_pk (congrArg Value.bool hb66) ?_
                refine wpn_nil ?_
                injection hF with hF
                subst hF
                refine wpn_end ?_
                exact ⟨rfl, _, And.intro rfl (And.intro rfl (And.intro rfl (And.intro rfl (And.intro rfl trivial)))), hO, hL, r0, r2_0, r2_1, r2_3⟩
            · rintro e σ ⟨_, hA, hO, hL, r0, r2_0, r2_1, r2_3⟩
              rw [← sets_agr _ _ hA]
              refine wpn_nil ?_
              rcases ite_some hF with ⟨hb71, hF⟩ | ⟨hb71, hF⟩
              · refine wpn_cT (congrArg Value.bool hb71) ?_
                refine wpn_assoc ?_
                refine wpn_qa hO [] [(6, .bool false)] (And.intro rfl trivial) fun j => ?_
                refine wpn_rt ?_
                injection hF with hF
                subst hF
                have hO := hO.sel [] (by decide)
                exact hQ _ _ _ _ _ rfl hO hL ⟨rfl, rfl⟩
              · refine wpn_cF (congrArg Value.bool hb71) ?_
                refine wpn_sk ?_
                refine wpn_pq ?_
                refine wpn_qa hO [] [(0, .slice A0 p0.length c0), (5, .pointer (some ⟨b4, 0, none⟩)), (7, .int .i64 c21.1), (8, .int .i64 c21.2), (114, .slice A0 p0.length c0)] (And.intro rfl (And.intro rfl (And.intro rfl (And.intro rfl (And.intro rfl trivial))))) fun j => ?_
                refine wpn_pq ?_
                refine wpn_qa hO [] [(0, .slice A0 p0.length c0), (5, .pointer (some ⟨b4, 0, none⟩)), (7, .int .i64 c21.1), (8, .int .i64 c21.2), (114, .slice A0 p0.length c0), (116, .agg #[(.int .u8 6), (.int .i64 0)])] (And.intro rfl (And.intro rfl (And.intro rfl (And.intro rfl (And.intro rfl (And.intro rfl trivial)))))) fun j => ?_
                refine wpn_pq ?_
                refine wpn_qa hO [0] [(0, .slice A0 p0.length c0), (5, .pointer (some ⟨b4, 0, none⟩)), (7, .int .i64 c21.1), (8, .int .i64 c21.2), (114, .slice A0 p0.length c0), (116, .agg #[(.int .u8 6), (.int .i64 0)]), (119, .agg #[(.slice A2_0 p2.Known.length c2_0), (.slice A2_1 p2.Regs.length c2_1), (.int .i64 p2.Base), (.slice A2_3 p2.Words.length c2_3)])] (And.intro (And.intro rfl rfl) (And.intro rfl (And.intro rfl (And.intro rfl (And.intro rfl (And.intro rfl (And.intro rfl (And.intro rfl trivial)))))))) fun j => ?_
                refine wpn_cut (fun e' σ' => ∃ (x99 : Int) (x100 : Int) (τ' : Hp), agr [(0, .slice A0 p0.length c0), (5, .pointer (some ⟨b4, 0, none⟩)), (7, .int .i64 c21.1), (8, .int .i64 c21.2), (14, .int .i64 x99), (15, .int .i64 x100)] e' ∧ Obs τ' σ' [some (b4, ⟨[.slice A2_0 p2.Known.length c2_0, .slice A2_1 p2.Regs.length c2_1, .int .i64 p2.Base, .slice A2_3 p2.Words.length c2_3], 42, 4, true⟩)] ∧ Hp.le τ τ' ∧ RdT TyS_api_Loc τ' (.slice A0 p0.length c0) p0 ∧ RdT Ty.bool τ' (.slice A2_0 p2.Known.length c2_0) p2.Known ∧ RdT (Ty.int .i64) τ' (.slice A2_1 p2.Regs.length c2_1) p2.Regs ∧ RdT (Ty.int .i64) τ' (.slice A2_3 p2.Words.length c2_3) p2.Words ∧ F_law06_ExprParts_k4 p0 p2 c21 x99 x100 = some rr) ?_ ?_
                · refine wpn_ptl ?_
                  obtain ⟨c173, h174, hF⟩ := bind_some hF
                  obtain ⟨_, hr, hF⟩ := bind_some hF
                  obtain ⟨c192, h193, hF⟩ := bind_some hF
                  refine wpn_pb ?_ ?_
                  · refine wpn_pe ?_
                    refine wpn_late ?_
                    refine wpn_c0 hO (w_ref06_Twin r0 h174) rfl fun _ σ _ _ hO h175 h176 => ?_
                    have hL := hL.trans h175
                    have r0 := r0.le h175
                    have r2_0 := r2_0.le h175
                    have r2_1 := r2_1.le h175
                    have r2_3 := r2_3.le h175
                    obtain ⟨v177, o180, rfl, rfl, w181⟩ := h176
                    obtain ⟨A178, c179, rfl, -⟩ := w181.form
                    have hO : Obs _ _ [_, _] := hO
                    refine wpn_nil ?_
                    refine wpn_ag ⟨again_ld rfl (hO.val (i := 0) (off := 0) (agg := true) (n := 4) rfl rfl) rfl, trivial⟩ ?_
                    refine wpn_nil ?_
                    refine wpn_pe ?_
                    refine wpn_late ?_
                    refine wpn_lit (T := TyS_api_Loc) (l := ([(⟨(6 : UInt8), 0⟩ : S_api_Loc)] : List S_api_Loc)) (cs := [.int .u8 6, .int .i64 0]) hO rfl ⟨[.int .u8 6, .int .i64 0], _, rfl, rfl, rfl⟩ rfl (by decide) fun _ σ o184 w185 hO => ?_
                    obtain ⟨A182, c183, rfl, -⟩ := w185.form
                    have hO : Obs _ _ [_, _, _] := hO
                    refine wpn_nil ?_
                    refine wpn_ag ⟨again_ld rfl (hO.val (i := 0) (off := 0) (agg := true) (n := 4) rfl rfl) rfl, trivial⟩ ?_
                    refine wpn_nil ?_
                    refine wpn_pe ?_
                    refine wpn_late ?_
                    refine wpn_apf (T := TyS_api_Loc) TyS_api_Loc_flat hO w181 (i := 1) rfl rfl rfl (w185.rd hO (i := 2) rfl) hr (by decide) fun _ σ o188 w189 hO => ?_
                    obtain ⟨A186, c187, rfl, -⟩ := w189.form
                    have hO : Obs _ _ [_, _, _] := hO
                    refine wpn_nil ?_
                    refine wpn_ag ⟨again_ld rfl (hO.val (i := 0) (off := 0) (agg := true) (n := 4) rfl rfl) rfl, trivial⟩ ?_
                    refine wpn_nil ?_
                    refine wpn_pe ?_
                    obtain ⟨_, h191, r190, hO⟩ := w189.share hO (i := 1) rfl
                    have hL := hL.trans h191
                    have r0 := r0.le h191
                    have w185 := w185.le h191
                    have r2_0 := r2_0.le h191
                    have r2_1 := r2_1.le h191
                    have r2_3 := r2_3.le h191
                    have hO : Obs _ _ [_, _, _] := hO
                    refine wpn_c0 hO (w_expr_Eval r190 r2_0 r2_1 r2_3 h193) rfl fun _ σ _ _ hO h194 h195 => ?_
                    have hL := hL.trans h194
                    have r0 := r0.le h194
                    have w185 := w185.le h194
                    have r190 := r190.le h194
                    have r2_0 := r2_0.le h194
                    have r2_1 := r2_1.le h194
                    have r2_3 := r2_3.le h194
                    obtain ⟨rfl, rfl⟩ := h195
                    have hO : Obs _ _ [_, _, _] := hO
                    refine wpn_nil ?_
                    refine wpn_pq ?_
                    refine wpn_qa hO [] [(0, .slice A0 p0.length c0), (5, .pointer (some ⟨b4, 0, none⟩)), (7, .int .i64 c21.1), (8, .int .i64 c21.2), (113, .tuple #[(.int .i64 c192.1), (.int .i64 c192.2)])] (And.intro rfl (And.intro rfl (And.intro rfl (And.intro rfl (And.intro rfl trivial))))) fun j => ?_
                    refine wpn_pq ?_
                    refine wpn_qa hO [] [(0, .slice A0 p0.length c0), (5, .pointer (some ⟨b4, 0, none⟩)), (7, .int .i64 c21.1), (8, .int .i64 c21.2), (113, .tuple #[(.int .i64 c192.1), (.int .i64 c192.2)]), (121, .int .i64 c192.1)] (And.intro rfl (And.intro rfl (And.intro rfl (And.intro rfl (And.intro rfl (And.intro rfl trivial)))))) fun j => ?_
                    refine wpn_pq ?_
                    refine wpn_qa hO [] [(0, .slice A0 p0.length c0), (5, .pointer (some ⟨b4, 0, none⟩)), (7, .int .i64 c21.1), (8, .int .i64 c21.2), (121, .int .i64 c192.1), (122, .int .i64 c192.2)] (And.intro rfl (And.intro rfl (And.intro rfl (And.intro rfl (And.intro rfl (And.intro rfl trivial)))))) fun j => ?_
                    refine wpn_pq ?_
                    refine wpn_qa hO [] [(0, .slice A0 p0.length c0), (5, .pointer (some ⟨b4, 0, none⟩)), (7, .int .i64 c21.1), (8, .int .i64 c21.2), (14, .int .i64 c192.1), (122, .int .i64 c192.2)] (And.intro rfl (And.intro rfl (And.intro rfl (And.intro rfl (And.intro rfl (And.intro rfl trivial)))))) fun j => ?_
                    refine wpn_pq ?_
                    refine wpn_qa hO [] [(0, .slice A0 p0.length c0), (5, .pointer (some ⟨b4, 0, none⟩)), (7, .int .i64 c21.1), (8, .int .i64 c21.2), (14, .int .i64 c192.1), (15, .int .i64 c192.2)] (And.intro rfl (And.intro rfl (And.intro rfl (And.intro rfl (And.intro rfl (And.intro rfl trivial)))))) fun j => ?_
                    refine wpn_pd ?_
                    refine wpn_end ?_
                    refine thn_i ?_
                    have hO := hO.sel [0] (by decide)
                    exact ⟨c192.1, c192.2, _, And.intro rfl (And.intro rfl (And.intro rfl (And.intro rfl (And.intro rfl (And.intro rfl trivial))))), hO, hL, r0, r2_0, r2_1, r2_3, hF⟩
                  · refine wpn_pe ?_
                    refine wpn_late ?_
                    refine wpn_lit (T := TyS_api_Loc) (l := ([(⟨(6 : UInt8), 0⟩ : S_api_Loc)] : List S_api_Loc)) (cs := [.int .u8 6, .int .i64 0]) hO rfl ⟨[.int .u8 6, .int .i64 0], _, rfl, rfl, rfl⟩ rfl (by decide) fun _ σ o184 w185 hO => ?_
                    obtain ⟨A182, c183, rfl, -⟩ := w185.form
                    have hO : Obs _ _ [_, _] := hO
                    refine wpn_nil ?_
                    refine wpn_ag ⟨again_ld rfl (hO.val (i := 0) (off := 0) (agg := true) (n := 4) rfl rfl) rfl, trivial⟩ ?_
                    refine wpn_nil ?_
                    refine wpn_pe ?_
                    refine wpn_late ?_
                    refine wpn_c0 hO (w_ref06_Twin r0 h174) rfl fun _ σ _ _ hO h175 h176 => ?_
                    have hL := hL.trans h175
                    have r0 := r0.le h175
                    have w185 := w185.le h175
                    have r2_0 := r2_0.le h175
                    have r2_1 := r2_1.le h175
                    have r2_3 := r2_3.le h175
                    obtain ⟨v177, o180, rfl, rfl, w181⟩ := h176
                    obtain ⟨A178, c179, rfl, -⟩ := w181.form
                    have hO : Obs _ _ [_, _, _] := hO
                    refine wpn_nil ?_
                    refine wpn_ag ⟨again_ld rfl (hO.val (i := 0) (off := 0) (agg := true) (n := 4) rfl rfl) rfl, trivial⟩ ?_
                    refine wpn_nil ?_
                    refine wpn_pe ?_
                    refine wpn_late ?_
                    refine wpn_apf (T := TyS_api_Loc) TyS_api_Loc_flat hO w181 (i := 2) rfl rfl rfl (w185.rd hO (i := 1) rfl) hr (by decide) fun _ σ o188 w189 hO => ?_
                    obtain ⟨A186, c187, rfl, -⟩ := w189.form
                    have hO : Obs _ _ [_, _, _] := hO
                    refine wpn_nil ?_
                    refine wpn_ag ⟨again_ld rfl (hO.val (i := 0) (off := 0) (agg := true) (n := 4) rfl rfl) rfl, trivial⟩ ?_
                    refine wpn_nil ?_
                    refine wpn_pe ?_
                    obtain ⟨_, h191, r190, hO⟩ := w189.share hO (i := 2) rfl
                    have hL := hL.trans h191
                    have r0 := r0.le h191
                    have w185 := w185.le h191
                    have r2_0 := r2_0.le h191
                    have r2_1 := r2_1.le h191
                    have r2_3 := r2_3.le h191
                    have hO : Obs _ _ [_, _, _] := hO
                    refine wpn_c0 hO (w_expr_Eval r190 r2_0 r2_1 r2_3 h193) rfl fun _ σ _ _ hO h194 h195 => ?_
                    have hL := hL.trans h194
                    have r0 := r0.le h194
                    have w185 := w185.le h194
                    have r190 := r190.le h194
                    have r2_0 := r2_0.le h194
                    have r2_1 := r2_1.le h194
                    have r2_3 := r2_3.le h194
                    obtain ⟨rfl, rfl⟩ := h195
                    have hO : Obs _ _ [_, _, _] := hO
                    refine wpn_nil ?_
                    refine wpn_pq ?_
                    refine wpn_qa hO [] [(0, .slice A0 p0.length c0), (5, .pointer (some ⟨b4, 0, none⟩)), (7, .int .i64 c21.1), (8, .int .i64 c21.2), (113, .tuple #[(.int .i64 c192.1), (.int .i64 c192.2)])] (And.intro rfl (And.intro rfl (And.intro rfl (And.intro rfl (And.intro rfl trivial))))) fun j => ?_
                    refine wpn_pq ?_
                    refine wpn_qa hO [] [(0, .slice A0 p0.length c0), (5, .pointer (some ⟨b4, 0, none⟩)), (7, .int .i64 c21.1), (8, .int .i64 c21.2), (113, .tuple #[(.int .i64 c192.1), (.int .i64 c192.2)]), (121, .int .i64 c192.1)] (And.intro rfl (And.intro rfl (And.intro rfl (And.intro rfl (And.intro rfl (And.intro rfl trivial)))))) fun j => ?_
                    refine wpn_pq ?_
                    refine wpn_qa hO [] [(0, .slice A0 p0.length c0), (5, .pointer (some ⟨b4, 0, none⟩)), (7, .int .i64 c21.1), (8, .int .i64 c21.2), (121, .int .i64 c192.1), (122, .int .i64 c192.2)] (And.intro rfl (And.intro rfl (And.intro rfl (And.intro rfl (And.intro rfl (And.intro rfl trivial)))))) fun j => ?_
                    refine wpn_pq ?_
                    refine wpn_qa hO [] [(0, .slice A0 p0.length c0), (5, .pointer (some ⟨b4, 0, none⟩)), (7, .int .i64 c21.1), (8, .int .i64 c21.2), (14, .int .i64 c192.1), (122, .int .i64 c192.2)] (And.intro rfl (And.intro rfl (And.intro rfl (And.intro rfl (And.intro rfl (And.intro rfl trivial)))))) fun j => ?_
                    refine wpn_pq ?_
                    refine wpn_qa hO [] [(0, .slice A0 p0.length c0), (5, .pointer (some ⟨b4, 0, none⟩)), (7, .int .i64 c21.1), (8, .int .i64 c21.2), (14, .int .i64 c192.1), (15, .int .i64 c192.2)] (And.intro rfl (And.intro rfl (And.intro rfl (And.intro rfl (And.intro rfl (And.intro rfl trivial)))))) fun j => ?_
                    refine wpn_pd ?_
                    refine wpn_end ?_
                    refine thn_i ?_
                    have hO := hO.sel [0] (by decide)
                    exact ⟨c192.1, c192.2, _, And.intro rfl (And.intro rfl (And.intro rfl (And.intro rfl (And.intro rfl (And.intro rfl trivial))))), hO, hL, r0, r2_0, r2_1, r2_3, hF⟩
                · rintro e σ ⟨x99, x100, _, hA, hO, hL, r95, r96, r97, r98, hF⟩
                  rw [← sets_agr _ _ hA]
                  unfold F_law06_ExprParts_k4 at hF
                  refine wpn_assoc ?_
                  refine wpn_q hO 6 [] [(0, .slice A0 p0.length c0), (5, .pointer (some ⟨b4, 0, none⟩)), (7, .int .i64 c21.1), (8, .int .i64 c21.2), (14, .int .i64 x99), (128, .bool (!((x100 == 0) == (c21.2 == 0))))] (And.intro rfl (And.intro rfl (And.intro rfl (And.intro rfl (And.intro rfl (And.intro rfl trivial)))))) fun j => ?_
                  obtain ⟨c101, h102, hF⟩ := bind_some hF
                  refine wpn_midq 4 [(137, .bool c101), (0, .slice A0 p0.length c0), (5, .pointer (some ⟨b4, 0, none⟩)), (7, .int .i64 c21.1), (8, .int .i64 c21.2)] (fun Q hQ => ?_) fun j => ?_
                  · have hF := h102
                    rcases ite_some hF with ⟨hb103, hF⟩ | ⟨hb103, hF⟩
                    · refine wpn_gF (congrArg (fun x => isB (.bool x) false) hb103) ?_
                      refine wpn_gF rfl ?_
                      refine wpn_gF (congrArg (fun x => isB (.bool x) false) hb103) ?_
                      refine wpn_pk (congrArg Value.bool hb103) ?_
                      refine wpn_nil ?_
                      injection hF with hF
                      subst hF
                      refine wpn_end ?_
                      exact hQ _ (And.intro rfl (And.intro rfl (And.intro rfl (And.intro rfl (And.intro rfl trivial)))))
                    · refine wpn_gT (congrArg (fun x => isB (.bool x) false) hb103) ?_
                      refine wpn_q hO 3 [] [(0, .slice A0 p0.length c0), (5, .pointer (some ⟨b4, 0, none⟩)), (7, .int .i64 c21.1), (8, .int .i64 c21.2), (14, .int .i64 x99), (128, .bool (!((x100 == 0) == (c21.2 == 0)))), (131, .bool (c21.2 == 0))] (And.intro rfl (And.intro rfl (And.intro rfl (And.intro rfl (And.intro rfl (And.intro rfl (And.intro rfl trivial))))))) fun j => ?_
                      rcases ite_some hF with ⟨hb104, hF⟩ | ⟨hb104, hF⟩
                      · refine wpn_gT (congrArg (fun x => isB (.bool x) true) hb104) ?_
                        refine wpn_q hO 4 [] [(0, .slice A0 p0.length c0), (5, .pointer (some ⟨b4, 0, none⟩)), (7, .int .i64 c21.1), (8, .int .i64 c21.2), (128, .bool (!((x100 == 0) == (c21.2 == 0)))), (131, .bool (c21.2 == 0)), (135, .bool (x99 != (IntKind.i64.wrap (0 - c21.1))))] (And.intro rfl (And.intro rfl (And.intro rfl (And.intro rfl (And.intro rfl (And.intro rfl (And.intro rfl trivial))))))) fun j => ?_
                        refine wpn_gT (congrArg (fun x => isB (.bool x) false) hb103) ?_
                        refine wpn_pk (congrArg Value.bool hb104) ?_
                        refine wpn_pk (congrArg Value.bool hb103) ?_
                        refine wpn_nil ?_
                        injection hF with hF
                        subst hF
                        refine wpn_end ?_
                        exact hQ _ (And.intro rfl (And.intro rfl (And.intro rfl (And.intro rfl (And.intro rfl trivial)))))
                      · refine wpn_gF (congrArg (fun x => isB (.bool x) true) hb104) ?_
                        refine wpn_gT (congrArg (fun x => isB (.bool x) false) hb103) ?_
                        refine wpn_pk (congrArg Value.bool hb104) ?_
                        refine wpn_pk (congrArg Value.bool hb103) ?_
                        refine wpn_nil ?_
                        injection hF with hF
                        subst hF
                        refine wpn_end ?_
                        exact hQ _ (And.intro rfl (And.intro rfl (And.intro rfl (And.intro rfl (And.intro rfl trivial)))))
                  · refine wpn_nil ?_
                    rcases ite_some hF with ⟨hb105, hF⟩ | ⟨hb105, hF⟩
                    · refine wpn_cT (congrArg Value.bool hb105) ?_
                      refine wpn_assoc ?_
                      refine wpn_qa hO [] [(6, .bool false)] (And.intro rfl trivial) fun j => ?_
                      refine wpn_rt ?_
                      injection hF with hF
                      subst hF
                      have hO := hO.sel [] (by decide)
                      exact hQ _ _ _ _ _ rfl hO hL ⟨rfl, rfl⟩
                    · refine wpn_cF (congrArg Value.bool hb105) ?_
                      refine wpn_sk ?_
                      refine wpn_pq ?_
                      refine wpn_qa hO [] [(5, .pointer (some ⟨b4, 0, none⟩)), (7, .int .i64 c21.1), (8, .int .i64 c21.2), (139, .slice A0 p0.length c0)] (And.intro rfl (And.intro rfl (And.intro rfl (And.intro rfl trivial)))) fun j => ?_
                      refine wpn_pq ?_
                      refine wpn_qa hO [] [(5, .pointer (some ⟨b4, 0, none⟩)), (7, .int .i64 c21.1), (8, .int .i64 c21.2), (139, .slice A0 p0.length c0), (141, .agg #[(.int .u8 4), (.int .i64 0)])] (And.intro rfl (And.intro rfl (And.intro rfl (And.intro rfl (And.intro rfl trivial))))) fun j => ?_
                      refine wpn_pq ?_
                      refine wpn_qa hO [0] [(5, .pointer (some ⟨b4, 0, none⟩)), (7, .int .i64 c21.1), (8, .int .i64 c21.2), (139, .slice A0 p0.length c0), (141, .agg #[(.int .u8 4), (.int .i64 0)]), (144, .agg #[(.slice A2_0 p2.Known.length c2_0), (.slice A2_1 p2.Regs.length c2_1), (.int .i64 p2.Base), (.slice A2_3 p2.Words.length c2_3)])] (And.intro (And.intro rfl rfl) (And.intro rfl (And.intro rfl (And.intro rfl (And.intro rfl (And.intro rfl (And.intro rfl trivial))))))) fun j => ?_
                      refine wpn_cut (fun e' σ' => ∃ (x132 : Int) (x133 : Int) (τ' : Hp), agr [(5, .pointer (some ⟨b4, 0, none⟩)), (7, .int .i64 c21.1), (8, .int .i64 c21.2), (16, .int .i64 x132), (17, .int .i64 x133)] e' ∧ Obs τ' σ' [some (b4, ⟨[.slice A2_0 p2.Known.length c2_0, .slice A2_1 p2.Regs.length c2_1, .int .i64 p2.Base, .slice A2_3 p2.Words.length c2_3], 42, 4, true⟩)] ∧ Hp.le τ τ' ∧ RdT Ty.bool τ' (.slice A2_0 p2.Known.length c2_0) p2.Known ∧ RdT (Ty.int .i64) τ' (.slice A2_1 p2.Regs.length c2_1) p2.Regs ∧ RdT (Ty.int .i64) τ' (.slice A2_3 p2.Words.length c2_3) p2.Words ∧ F_law06_ExprParts_k5 p2 c21 x132 x133 = some rr) ?_ ?_
                      · refine wpn_ptl ?_
                        obtain ⟨c150, h151, hF⟩ := bind_some hF
                        obtain ⟨_, hr, hF⟩ := bind_some hF
                        obtain ⟨c169, h170, hF⟩ := bind_some hF
                        refine wpn_pb ?_ ?_
                        · refine wpn_pe ?_
                          refine wpn_late ?_
                          refine wpn_c0 hO (w_ref06_Twin r95 h151) rfl fun _ σ _ _ hO h152 h153 => ?_
                          have hL := hL.trans h152
                          have r95 := r95.le h152
                          have r96 := r96.le h152
                          have r97 := r97.le h152
                          have r98 := r98.le h152
                          obtain ⟨v154, o157, rfl, rfl, w158⟩ := h153
                          obtain ⟨A155, c156, rfl, -⟩ := w158.form
                          have hO : Obs _ _ [_, _] := hO
                          refine wpn_nil ?_
                          refine wpn_ag ⟨again_ld rfl (hO.val (i := 0) (off := 0) (agg := true) (n := 4) rfl rfl) rfl, trivial⟩ ?_
                          refine wpn_nil ?_
                          refine wpn_pe ?_
                          refine wpn_late ?_
                          refine wpn_lit (T := TyS_api_Loc) (l := ([(⟨(4 : UInt8), 0⟩ : S_api_Loc)] : List S_api_Loc)) (cs := [.int .u8 4, .int .i64 0]) hO rfl ⟨[.int .u8 4, .int .i64 0], _, rfl, rfl, rfl⟩ rfl (by decide) fun _ σ o161 w162 hO => ?_
                          obtain ⟨A159, c160, rfl, -⟩ := w162.form
                          have hO : Obs _ _ [_, _, _] := hO
                          refine wpn_nil ?_
                          refine wpn_ag ⟨again_ld rfl (hO.val (i := 0) (off := 0) (agg := true) (n := 4) rfl rfl) rfl, trivial⟩ ?_
                          refine wpn_nil ?_
                          refine wpn_pe ?_
                          refine wpn_late ?_
                          refine wpn_apf (T := TyS_api_Loc) TyS_api_Loc_flat hO w158 (i := 1) rfl rfl rfl (w162.rd hO (i := 2) rfl) hr (by decide) fun _ σ o165 w166 hO => ?_
                          obtain ⟨A163, c164, rfl, -⟩ := w166.form
                          have hO : Obs _ _ [_, _, _] := hO
                          refine wpn_nil ?_
                          refine wpn_ag ⟨again_ld rfl (hO.val (i := 0) (off := 0) (agg := true) (n := 4) rfl rfl) rfl, trivial⟩ ?_
                          refine wpn_nil ?_
                          refine wpn_pe ?_
                          obtain ⟨_, h168, r167, hO⟩ := w166.share hO (i := 1) rfl
                          have hL := hL.trans h168
                          have r95 := r95.le h168
                          have w162 := w162.le h168
                          have r96 := r96.le h168
                          have r97 := r97.le h168
                          have r98 := r98.le h168
                          have hO : Obs _ _ [_, _, _] := hO
                          refine wpn_c0 hO (w_expr_Eval r167 r96 r97 r98 h170) rfl fun _ σ _ _ hO h171 h172 => ?_
                          have hL := hL.trans h171
                          have r95 := r95.le h171
                          have w162 := w162.le h171
                          have r167 := r167.le h171
                          have r96 := r96.le h171
                          have r97 := r97.le h171
                          have r98 := r98.le h171
                          obtain ⟨rfl, rfl⟩ := h172
                          have hO : Obs _ _ [_, _, _] := hO
                          refine wpn_nil ?_
                          refine wpn_pq ?_
                          refine wpn_qa hO [] [(5, .pointer (some ⟨b4, 0, none⟩)), (7, .int .i64 c21.1), (8, .int .i64 c21.2), (138, .tuple #[(.int .i64 c169.1), (.int .i64 c169.2)])] (And.intro rfl (And.intro rfl (And.intro rfl (And.intro rfl trivial)))) fun j => ?_
                          refine wpn_pq ?_
                          refine wpn_qa hO [] [(5, .pointer (some ⟨b4, 0, none⟩)), (7, .int .i64 c21.1), (8, .int .i64 c21.2), (138, .tuple #[(.int .i64 c169.1), (.int .i64 c169.2)]), (146, .int .i64 c169.1)] (And.intro rfl (And.intro rfl (And.intro rfl (And.intro rfl (And.intro rfl trivial))))) fun j => ?_
                          refine wpn_pq ?_
                          refine wpn_qa hO [] [(5, .pointer (some ⟨b4, 0, none⟩)), (7, .int .i64 c21.1), (8, .int .i64 c21.2), (146, .int .i64 c169.1), (147, .int .i64 c169.2)] (And.intro rfl (And.intro rfl (And.intro rfl (And.intro rfl (And.intro rfl trivial))))) fun j => ?_
                          refine wpn_pq ?_
                          refine wpn_qa hO [] [(5, .pointer (some ⟨b4, 0, none⟩)), (7, .int .i64 c21.1), (8, .int .i64 c21.2), (16, .int .i64 c169.1), (147, .int .i64 c169.2)] (And.intro rfl (And.intro rfl (And.intro rfl (And.intro rfl (And.intro rfl trivial))))) fun j => ?_
                          refine wpn_pq ?_
                          refine wpn_qa hO [] [(5, .pointer (some ⟨b4, 0, none⟩)), (7, .int .i64 c21.1), (8, .int .i64 c21.2), (16, .int .i64 c169.1), (17, .int .i64 c169.2)] (And.intro rfl (And.intro rfl (And.intro rfl (And.intro rfl (And.intro rfl trivial))))) fun j => ?_
                          refine wpn_pd ?_
                          refine wpn_end ?_
                          refine thn_i ?_
                          have hO := hO.sel [0] (by decide)
                          exact ⟨c169.1, c169.2, _, And.intro rfl (And.intro rfl (And.intro rfl (And.intro rfl (And.intro rfl trivial)))), hO, hL, r96, r97, r98, hF⟩
                        · refine wpn_pe ?_
                          refine wpn_late ?_
                          refine wpn_lit (T := TyS_api_Loc) (l := ([(⟨(4 : UInt8), 0⟩ : S_api_Loc)] : List S_api_Loc)) (cs := [.int .u8 4, .int .i64 0]) hO rfl ⟨[.int .u8 4, .int .i64 0], _, rfl, rfl, rfl⟩ rfl (by decide) fun _ σ o161 w162 hO => ?_
                          obtain ⟨A159, c160, rfl, -⟩ := w162.form
                          have hO : Obs _ _ [_, _] := hO
                          refine wpn_nil ?_
                          refine wpn_ag ⟨again_ld rfl (hO.val (i := 0) (off := 0) (agg := true) (n := 4) rfl rfl) rfl, trivial⟩ ?_
                          refine wpn_nil ?_
                          refine wpn_pe ?_
                          refine wpn_late ?_
                          refine wpn_c0 hO (w_ref06_Twin r95 h151) rfl fun _ σ _ _ hO h152 h153 => ?_
                          have hL := hL.trans h152
                          have r95 := r95.le h152
                          have w162 := w162.le h152
                          have r96 := r96.le h152
                          have r97 := r97.le h152
                          have r98 := r98.le h152
                          obtain ⟨v154, o157, rfl, rfl, w158⟩ := h153
                          obtain ⟨A155, c156, rfl, -⟩ := w158.form
                          have hO : Obs _ _ [_, _, _] := hO
                          refine wpn_nil ?_
                          refine wpn_ag ⟨again_ld rfl (hO.val (i := 0) (off := 0) (agg := true) (n := 4) rfl rfl) rfl, trivial⟩ ?_
                          refine wpn_nil ?_
                          refine wpn_pe ?_
                          refine wpn_late ?_
                          refine wpn_apf (T := TyS_api_Loc) TyS_api_Loc_flat hO w158 (i := 2) rfl rfl rfl (w162.rd hO (i := 1) rfl) hr (by decide) fun _ σ o165 w166 hO => ?_
                          obtain ⟨A163, c164, rfl, -⟩ := w166.form
                          have hO : Obs _ _ [_, _, _] := hO
                          refine wpn_nil ?_
                          refine wpn_ag ⟨again_ld rfl (hO.val (i := 0) (off := 0) (agg := true) (n := 4) rfl rfl) rfl, trivial⟩ ?_
                          refine wpn_nil ?_
                          refine wpn_pe ?_
                          obtain ⟨_, h168, r167, hO⟩ := w166.share hO (i := 2) rfl
                          have hL := hL.trans h168
                          have r95 := r95.le h168
                          have w162 := w162.le h168
                          have r96 := r96.le h168
                          have r97 := r97.le h168
                          have r98 := r98.le h168
                          have hO : Obs _ _ [_, _, _] := hO
                          refine wpn_c0 hO (w_expr_Eval r167 r96 r97 r98 h170) rfl fun _ σ _ _ hO h171 h172 => ?_
                          have hL := hL.trans h171
                          have r95 := r95.le h171
                          have w162 := w162.le h171
                          have r167 := r167.le h171
                          have r96 := r96.le h171
                          have r97 := r97.le h171
                          have r98 := r98.le h171
                          obtain ⟨rfl, rfl⟩ := h172
                          have hO : Obs _ _ [_, _, _] := hO
                          refine wpn_nil ?_
                          refine wpn_pq ?_
                          refine wpn_qa hO [] [(5, .pointer (some ⟨b4, 0, none⟩)), (7, .int .i64 c21.1), (8, .int .i64 c21.2), (138, .tuple #[(.int .i64 c169.1), (.int .i64 c169.2)])] (And.intro rfl (And.intro rfl (And.intro rfl (And.intro rfl trivial)))) fun j => ?_
                          refine wpn_pq ?_
                          refine wpn_qa hO [] [(5, .pointer (some ⟨b4, 0, none⟩)), (7, .int .i64 c21.1), (8, .int .i64 c21.2), (138, .tuple #[(.int .i64 c169.1), (.int .i64 c169.2)]), (146, .int .i64 c169.1)] (And.intro rfl (And.intro rfl (And.intro rfl (And.intro rfl (And.intro rfl trivial))))) fun j => ?_
                          refine wpn_pq ?_
                          refine wpn_qa hO [] [(5, .pointer (some ⟨b4, 0, none⟩)), (7, .int .i64 c21.1), (8, .int .i64 c21.2), (146, .int .i64 c169.1), (147, .int .i64 c169.2)] (And.intro rfl (And.intro rfl (And.intro rfl (And.intro rfl (And.intro rfl trivial))))) fun j => ?_
                          refine wpn_pq ?_
                          refine wpn_qa hO [] [(5, .pointer (some ⟨b4, 0, none⟩)), (7, .int .i64 c21.1), (8, .int .i64 c21.2), (16, .int .i64 c169.1), (147, .int .i64 c169.2)] (And.intro rfl (And.intro rfl (And.intro rfl (And.intro rfl (And.intro rfl trivial))))) fun j => ?_
                          refine wpn_pq ?_
                          refine wpn_qa hO [] [(5, .pointer (some ⟨b4, 0, none⟩)), (7, .int .i64 c21.1), (8, .int .i64 c21.2), (16, .int .i64 c169.1), (17, .int .i64 c169.2)] (And.intro rfl (And.intro rfl (And.intro rfl (And.intro rfl (And.intro rfl trivial))))) fun j => ?_
                          refine wpn_pd ?_
                          refine wpn_end ?_
                          refine thn_i ?_
                          have hO := hO.sel [0] (by decide)
                          exact ⟨c169.1, c169.2, _, And.intro rfl (And.intro rfl (And.intro rfl (And.intro rfl (And.intro rfl trivial)))), hO, hL, r96, r97, r98, hF⟩
                      · rintro e σ ⟨x132, x133, _, hA, hO, hL, r129, r130, r131, hF⟩
                        rw [← sets_agr _ _ hA]
                        unfold F_law06_ExprParts_k5 at hF
                        refine wpn_qa hO [0] [(5, .pointer (some ⟨b4, 0, none⟩)), (7, .int .i64 c21.1), (16, .int .i64 x132), (17, .int .i64 x133), (18, .bool (((c21.2 == 0) && (decide (c21.1 ≥ 0))) && (decide (c21.1 < (p2.Words.length : Int)))))] (And.intro (And.intro rfl rfl) (fun _ => And.intro (And.intro rfl rfl) (And.intro (And.intro rfl rfl) (fun _ => And.intro rfl (And.intro rfl (And.intro rfl (And.intro rfl (And.intro rfl trivial)))))))) fun j => ?_
                        refine wpn_q hO 5 [] [(5, .pointer (some ⟨b4, 0, none⟩)), (7, .int .i64 c21.1), (16, .int .i64 x132), (18, .bool (((c21.2 == 0) && (decide (c21.1 ≥ 0))) && (decide (c21.1 < (p2.Words.length : Int))))), (165, .bool ((x133 == 0) == (((c21.2 == 0) && (decide (c21.1 ≥ 0))) && (decide (c21.1 < (p2.Words.length : Int))))))] (And.intro rfl (And.intro rfl (And.intro rfl (And.intro rfl (And.intro rfl trivial))))) fun j => ?_
                        obtain ⟨c134, h135, hF⟩ := bind_some hF
                        refine wpn_midq 4 [(177, .bool c134)] (fun Q hQ => ?_) fun j => ?_
                        · have hF := h135
                          rcases ite_some hF with ⟨hb136, hF⟩ | ⟨hb136, hF⟩
                          · refine wpn_gT (congrArg (fun x => isB (.bool x) true) hb136) ?_
                            refine wpn_q hO 3 [] [(5, .pointer (some ⟨b4, 0, none⟩)), (7, .int .i64 c21.1), (16, .int .i64 x132), (165, .bool ((x133 == 0) == (((c21.2 == 0) && (decide (c21.1 ≥ 0))) && (decide (c21.1 < (p2.Words.length : Int)))))), (168, .bool (!(((c21.2 == 0) && (decide (c21.1 ≥ 0))) && (decide (c21.1 < (p2.Words.length : Int))))))] (And.intro rfl (And.intro rfl (And.intro rfl (And.intro rfl (And.intro rfl trivial))))) fun j => ?_
                            rcases ite_some hF with ⟨hb137, hF⟩ | ⟨hb137, hF⟩
                            · refine wpn_gF (congrArg (fun x => isB (.bool x) false) hb137) ?_
                              refine wpn_gT (congrArg (fun x => isB (.bool x) true) hb136) ?_
                              refine wpn_pk (congrArg Value.bool hb137) ?_
                              refine wpn_pk (congrArg Value.bool hb136) ?_
                              refine wpn_nil ?_
                              injection hF with hF
                              subst hF
                              refine wpn_end ?_
                              exact hQ _ (And.intro rfl (trivial))
                            · refine wpn_gT (congrArg (fun x => isB (.bool x) false) hb137) ?_
                              refine wpn_q hO 4 [0] [(165, .bool ((x133 == 0) == (((c21.2 == 0) && (decide (c21.1 ≥ 0))) && (decide (c21.1 < (p2.Words.length : Int)))))), (168, .bool (!(((c21.2 == 0) && (decide (c21.1 ≥ 0))) && (decide (c21.1 < (p2.Words.length : Int)))))), (169, .int .i64 x132), (171, .slice A2_3 p2.Words.length c2_3), (172, .int .i64 c21.1)] (And.intro (And.intro rfl rfl) (And.intro rfl (And.intro rfl (And.intro rfl (And.intro rfl (And.intro rfl trivial)))))) fun j => ?_
                              obtain ⟨y138, g139, hF⟩ := bind_some hF
                              refine wpn_idx (T := (Ty.int .i64)) r131 hO.base rfl rfl g139 (by decide) fun a140 _ k141 m142 => ?_
                              obtain rfl : _ = ([.int .i64 y138] : List Value) := k141
                              refine wpn_ld rfl (m142.le hO.base).fst ?_
                              refine wpn_q hO 1 [] [(165, .bool ((x133 == 0) == (((c21.2 == 0) && (decide (c21.1 ≥ 0))) && (decide (c21.1 < (p2.Words.length : Int)))))), (168, .bool (!(((c21.2 == 0) && (decide (c21.1 ≥ 0))) && (decide (c21.1 < (p2.Words.length : Int)))))), (175, .bool (x132 == y138))] (And.intro rfl (And.intro rfl (And.intro rfl trivial))) fun j => ?_
                              refine wpn_gT (congrArg (fun x => isB (.bool x) true) hb136) ?_
                              refine wpn_pk (congrArg Value.bool hb137) ?_
                              refine wpn_pk (congrArg Value.bool hb136) ?_
                              refine wpn_nil ?_
                              injection hF with hF
                              subst hF
                              refine wpn_end ?_
                              exact hQ _ (And.intro rfl (trivial))
                          · refine wpn_gF (congrArg (fun x => isB (.bool x) true) hb136) ?_
                            refine wpn_gF rfl ?_
                            refine wpn_gF (congrArg (fun x => isB (.bool x) true) hb136) ?_
                            refine wpn_pk (congrArg Value.bool hb136) ?_
                            refine wpn_nil ?_
                            injection hF with hF
                            subst hF
                            refine wpn_end ?_
                            exact hQ _ (And.intro rfl (trivial))
                        · refine wpn_q hO 1 [] [(178, .bool c134)] (And.intro rfl trivial) fun j => ?_
                          have hO := hO.sel [] (by decide)
                          have hO : Obs _ _ [] := hO
                          obtain ⟨c143, h144, hF⟩ := bind_some hF
                          refine wpn_mid 2 (fun e' σ' => ∃ (τ' : Hp), agr [(180, .bool c143)] e' ∧ Obs τ' σ' [] ∧ Hp.le τ τ') ?_ ?_
                          · have hF := h144
                            rcases ite_some hF with ⟨hb145, hF⟩ | ⟨hb145, hF⟩
                            · refine wpn_gT (congrArg (fun x => isB (.bool x) true) hb145) ?_
                              obtain ⟨c146, h147, hF⟩ := bind_some hF
                              refine wpn_c0 hO (w_law06_works h147) rfl fun _ σ _ _ hO h148 h149 => ?_
                              have hL := hL.trans h148
                              obtain ⟨rfl, rfl⟩ := h149
                              have hO : Obs _ _ [] := hO
                              refine wpn_pk (congrArg Value.bool hb145) ?_
                              refine wpn_nil ?_
                              injection hF with hF
                              subst hF
                              refine wpn_end ?_
                              exact ⟨rfl, _, And.intro rfl (trivial), hO, hL⟩
                            · refine wpn_gF (congrArg (fun x => isB (.bool x) true) hb145) ?_
                              refine wpn_pk (congrArg Value.bool hb145) ?_
                              refine wpn_nil ?_
                              injection hF with hF
                              subst hF
                              refine wpn_end ?_
                              exact ⟨rfl, _, And.intro rfl (trivial), hO, hL⟩
                          · rintro e σ ⟨_, hA, hO, hL⟩
                            rw [← sets_agr _ _ hA]
                            refine wpn_qa hO [] [(6, .bool c143)] (And.intro rfl trivial) fun j => ?_
                            refine wpn_r1 ?_
                            injection hF with hF
                            subst hF
                            exact hQ _ _ _ _ _ rfl hO hL ⟨rfl, rfl⟩
end Go.Proofs.Ytpmlbgaigjdmjaa
