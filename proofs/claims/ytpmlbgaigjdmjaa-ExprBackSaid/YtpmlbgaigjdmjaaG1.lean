import Derived.Test.YtpmlbgaigjdmjaaF
import Derived.Test.YtpmlbgaigjdmjaaAc0
import Derived.Test.YtpmlbgaigjdmjaaM00
import Derived.Test.YtpmlbgaigjdmjaaM02
import Derived.Test.YtpmlbgaigjdmjaaG0
namespace Go.Proofs.Ytpmlbgaigjdmjaa
open Go.Ab Go.RowKit
set_option linter.unusedVariables false
set_option linter.unusedSimpArgs false
set_option maxRecDepth 10000
theorem w_law06_vast {τ : Hp} {v0 : Value} {p0 : (List S_api_Loc)} {p1 : S_api_View} {v1_0 : Value} {v1_1 : Value} {v1_3 : Value} (r0 : RdT TyS_api_Loc τ v0 p0) (r1_0 : RdT Ty.bool τ v1_0 p1.Known) (r1_1 : RdT (Ty.int .i64) τ v1_1 p1.Regs) (r1_3 : RdT (Ty.int .i64) τ v1_3 p1.Words) {rr : Bool} (hF : F_law06_vast p0 p1 = some rr) :
    Ctr Try.prog 20 #[v0, .agg #[v1_0, v1_1, .int .i64 p1.Base, v1_3]] τ [] (fun v τ' vs' => v = .bool rr ∧ vs' = []) := by
  obtain ⟨A0, c0, rfl, -⟩ := r0.form
  obtain ⟨A1_0, c1_0, rfl, -⟩ := r1_0.form
  obtain ⟨A1_1, c1_1, rfl, -⟩ := r1_1.form
  obtain ⟨A1_3, c1_3, rfl, -⟩ := r1_3.form
  refine ctr_of (args := [.slice A0 p0.length c0, .agg #[(.slice A1_0 p1.Known.length c1_0), (.slice A1_1 p1.Regs.length c1_1), .int .i64 p1.Base, (.slice A1_3 p1.Words.length c1_3)]]) hm Try.func20 s20 rfl fun w0 σ hO Q hQ => ?_
  unfold F_law06_vast at hF
  have hL := Hp.le.refl τ
  show wpn _ _ a20.body _ _ _
  unfold a20
  dsimp only
  refine wpn_bx (n := 4) hO rfl rfl fun b3 σ hO => ?_
  have hO : Obs _ _ [_] := hO
  refine wpn_qa hO [] [(0, .slice A0 p0.length c0), (3, .pointer (some ⟨b3, 0, none⟩))] (And.intro rfl (And.intro rfl trivial)) fun j => ?_
  refine wpn_qa hO [0, 0, 0] [(4, .bool ((((decide ((p0.length : Int) > 1000)) || (decide ((p1.Known.length : Int) > 1000))) || (decide ((p1.Regs.length : Int) > 1000))) || (decide ((p1.Words.length : Int) > 65536))))] (And.intro (And.intro rfl rfl) (And.intro (And.intro rfl rfl) (fun _ => And.intro (And.intro rfl rfl) (And.intro (And.intro rfl rfl) (fun _ => And.intro (And.intro rfl rfl) (And.intro (And.intro rfl rfl) (fun _ => And.intro rfl trivial))))))) fun j => ?_
  refine wpn_r1 ?_
  injection hF with hF
  subst hF
  have hO := hO.sel [] (by decide)
  exact hQ _ _ _ _ _ rfl hO hL ⟨rfl, rfl⟩
theorem w_law06_ExprBack {τ : Hp} {v0 : Value} {p0 : (List UInt8)} {v1 : Value} {p1 : (List S_api_Loc)} {v2 : Value} {p2 : (List UInt8)} {p3 : S_api_View} {v3_0 : Value} {v3_1 : Value} {v3_3 : Value} (r0 : RdT Ty.u8 τ v0 p0) (r1 : RdT TyS_api_Loc τ v1 p1) (r2 : RdT Ty.u8 τ v2 p2) (r3_0 : RdT Ty.bool τ v3_0 p3.Known) (r3_1 : RdT (Ty.int .i64) τ v3_1 p3.Regs) (r3_3 : RdT (Ty.int .i64) τ v3_3 p3.Words) {rr : Bool} (hF : F_law06_ExprBack p0 p1 p2 p3 = some rr) :
    Ctr Try.prog 5 #[v0, v1, v2, .agg #[v3_0, v3_1, .int .i64 p3.Base, v3_3]] τ [] (fun v τ' vs' => v = .bool rr ∧ vs' = []) := by
  obtain ⟨A0, c0, rfl, -⟩ := r0.form
  obtain ⟨A1, c1, rfl, -⟩ := r1.form
  obtain ⟨A2, c2, rfl, -⟩ := r2.form
  obtain ⟨A3_0, c3_0, rfl, -⟩ := r3_0.form
  obtain ⟨A3_1, c3_1, rfl, -⟩ := r3_1.form
  obtain ⟨A3_3, c3_3, rfl, -⟩ := r3_3.form
  refine ctr_of (args := [.slice A0 p0.length c0, .slice A1 p1.length c1, .slice A2 p2.length c2, .agg #[(.slice A3_0 p3.Known.length c3_0), (.slice A3_1 p3.Regs.length c3_1), .int .i64 p3.Base, (.slice A3_3 p3.Words.length c3_3)]]) hm Try.func5 s5 rfl fun w0 σ hO Q hQ => ?_
  unfold F_law06_ExprBack at hF
  have hL := Hp.le.refl τ
  show wpn _ _ a5.body _ _ _
  unfold a5
  dsimp only
  refine wpn_bx (n := 4) hO rfl rfl fun b5 σ hO => ?_
  have hO : Obs _ _ [_] := hO
  refine wpn_qa hO [] [(0, .slice A0 p0.length c0), (1, .slice A1 p1.length c1), (2, .slice A2 p2.length c2), (7, .pointer (some ⟨b5, 0, none⟩))] (And.intro rfl (And.intro rfl (And.intro rfl (And.intro rfl trivial)))) fun j => ?_
  refine wpn_assoc ?_
  refine wpn_q hO 7 [] [(0, .slice A0 p0.length c0), (1, .slice A1 p1.length c1), (2, .slice A2 p2.length c2), (7, .pointer (some ⟨b5, 0, none⟩)), (32, .bool ((decide ((p0.length : Int) > 1024)) || (decide ((p2.length : Int) > 1024))))] (And.intro (And.intro rfl rfl) (fun _ => And.intro rfl (And.intro rfl (And.intro rfl (And.intro rfl (And.intro rfl trivial)))))) fun j => ?_
  obtain ⟨c6, h7, hF⟩ := bind_some hF
  refine wpn_mid 2 (fun e' σ' => ∃ (τ' : Hp), agr [(36, .bool c6), (0, .slice A0 p0.length c0), (1, .slice A1 p1.length c1), (2, .slice A2 p2.length c2), (7, .pointer (some ⟨b5, 0, none⟩))] e' ∧ Obs τ' σ' [some (b5, ⟨[.slice A3_0 p3.Known.length c3_0, .slice A3_1 p3.Regs.length c3_1, .int .i64 p3.Base, .slice A3_3 p3.Words.length c3_3], 42, 4, true⟩)] ∧ Hp.le τ τ' ∧ RdT Ty.u8 τ' (.slice A0 p0.length c0) p0 ∧ RdT TyS_api_Loc τ' (.slice A1 p1.length c1) p1 ∧ RdT Ty.u8 τ' (.slice A2 p2.length c2) p2 ∧ RdT Ty.bool τ' (.slice A3_0 p3.Known.length c3_0) p3.Known ∧ RdT (Ty.int .i64) τ' (.slice A3_1 p3.Regs.length c3_1) p3.Regs ∧ RdT (Ty.int .i64) τ' (.slice A3_3 p3.Words.length c3_3) p3.Words) ?_ ?_
  · have hF := h7
    rcases ite_some hF with ⟨hb8, hF⟩ | ⟨hb8, hF⟩
    · refine wpn_gF (congrArg (fun x => isB (.bool x) false) hb8) ?_
      refine wpn_pk (congrArg Value.bool hb8) ?_
      refine wpn_nil ?_
      injection hF with hF
      subst hF
      refine wpn_end ?_
      exact ⟨rfl, _, And.intro rfl (And.intro rfl (And.intro rfl (And.intro rfl (And.intro rfl trivial)))), hO, hL, r0, r1, r2, r3_0, r3_1, r3_3⟩
    · refine wpn_gT (congrArg (fun x => isB (.bool x) false) hb8) ?_
      refine wpn_q hO 2 [0] [(0, .slice A0 p0.length c0), (1, .slice A1 p1.length c1), (2, .slice A2 p2.length c2), (7, .pointer (some ⟨b5, 0, none⟩)), (32, .bool ((decide ((p0.length : Int) > 1024)) || (decide ((p2.length : Int) > 1024)))), (33, .slice A1 p1.length c1), (34, .agg #[(.slice A3_0 p3.Known.length c3_0), (.slice A3_1 p3.Regs.length c3_1), (.int .i64 p3.Base), (.slice A3_3 p3.Words.length c3_3)])] (And.intro (And.intro rfl rfl) (And.intro rfl (And.intro rfl (And.intro rfl (And.intro rfl (And.intro rfl (And.intro rfl (And.intro rfl trivial)))))))) fun j => ?_
      obtain ⟨c9, h10, hF⟩ := bind_some hF
      refine wpn_c0 hO (w_law06_vast r1 r3_0 r3_1 r3_3 h10) rfl fun _ σ _ _ hO h11 h12 => ?_
      have hL := hL.trans h11
      have r0 := r0.le h11
      have r1 := r1.le h11
      have r2 := r2.le h11
      have r3_0 := r3_0.le h11
      have r3_1 := r3_1.le h11
      have r3_3 := r3_3.le h11
      obtain ⟨rfl, rfl⟩ := h12
      have hO : Obs _ _ [_] := hO
      refine wpn_pk (congrArg Value.bool hb8) ?_
      refine wpn_nil ?_
      injection hF with hF
      subst hF
      refine wpn_end ?_
      exact ⟨rfl, _, And.intro rfl (And.intro rfl (And.intro rfl (And.intro rfl (And.intro rfl trivial)))), hO, hL, r0, r1, r2, r3_0, r3_1, r3_3⟩
  · rintro e σ ⟨_, hA, hO, hL, r0, r1, r2, r3_0, r3_1, r3_3⟩
    rw [← sets_agr _ _ hA]
    refine wpn_nil ?_
    rcases ite_some hF with ⟨hb13, hF⟩ | ⟨hb13, hF⟩
    · refine wpn_cT (congrArg Value.bool hb13) ?_
      refine wpn_assoc ?_
      obtain ⟨c14, h15, hF⟩ := bind_some hF
      refine wpn_c0 hO (w_law06_works h15) rfl fun _ σ _ _ hO h16 h17 => ?_
      have hL := hL.trans h16
      have r0 := r0.le h16
      have r1 := r1.le h16
      have r2 := r2.le h16
      have r3_0 := r3_0.le h16
      have r3_1 := r3_1.le h16
      have r3_3 := r3_3.le h16
      obtain ⟨rfl, rfl⟩ := h17
      have hO : Obs _ _ [_] := hO
      refine wpn_qa hO [] [(8, .bool c14)] (And.intro rfl trivial) fun j => ?_
      refine wpn_rt ?_
      injection hF with hF
      subst hF
      have hO := hO.sel [] (by decide)
      exact hQ _ _ _ _ _ rfl hO hL ⟨rfl, rfl⟩
    · refine wpn_cF (congrArg Value.bool hb13) ?_
      refine wpn_sk ?_
      refine wpn_qa hO [] [(0, .slice A0 p0.length c0), (1, .slice A1 p1.length c1), (2, .slice A2 p2.length c2), (7, .pointer (some ⟨b5, 0, none⟩)), (9, .int .i64 (p0.length : Int))] (And.intro rfl (And.intro rfl (And.intro rfl (And.intro rfl (And.intro rfl trivial))))) fun j => ?_
      refine wpn_q hO 2 [] [(1, .slice A1 p1.length c1), (2, .slice A2 p2.length c2), (7, .pointer (some ⟨b5, 0, none⟩)), (9, .int .i64 (p0.length : Int)), (41, .slice A0 p0.length c0), (42, .slice A1 p1.length c1)] (And.intro rfl (And.intro rfl (And.intro rfl (And.intro rfl (And.intro rfl (And.intro rfl trivial)))))) fun j => ?_
      obtain ⟨c18, h19, hF⟩ := bind_some hF
      refine wpn_c0 hO (w_ref06_Twin r1 h19) rfl fun _ σ _ _ hO h20 h21 => ?_
      have hL := hL.trans h20
      have r1 := r1.le h20
      have r2 := r2.le h20
      have r0 := r0.le h20
      have r3_0 := r3_0.le h20
      have r3_1 := r3_1.le h20
      have r3_3 := r3_3.le h20
      obtain ⟨v22, o25, rfl, rfl, w26⟩ := h21
      obtain ⟨A23, c24, rfl, -⟩ := w26.form
      have hO : Obs _ _ [_, _] := hO
      obtain ⟨_, h28, r27, hO⟩ := w26.share hO (i := 1) rfl
      have hL := hL.trans h28
      have r1 := r1.le h28
      have r2 := r2.le h28
      have r0 := r0.le h28
      have r3_0 := r3_0.le h28
      have r3_1 := r3_1.le h28
      have r3_3 := r3_3.le h28
      have hO : Obs _ _ [_, _] := hO
      obtain ⟨c29, h30, hF⟩ := bind_some hF
      refine wpn_c0 hO (w_expr_Put r0 r27 h30) rfl fun _ σ _ _ hO h31 h32 => ?_
      have hL := hL.trans h31
      have r1 := r1.le h31
      have r2 := r2.le h31
      have r0 := r0.le h31
      have r27 := r27.le h31
      have r3_0 := r3_0.le h31
      have r3_1 := r3_1.le h31
      have r3_3 := r3_3.le h31
      obtain ⟨v33, o36, rfl, rfl, w37⟩ := h32
      obtain ⟨A34, c35, rfl, -⟩ := w37.form
      have hO : Obs _ _ [_, _, _] := hO
      refine wpn_qa hO [] [(1, .slice A1 p1.length c1), (2, .slice A2 p2.length c2), (7, .pointer (some ⟨b5, 0, none⟩)), (9, .int .i64 (p0.length : Int)), (10, .slice A34 c29.1.length c35), (11, .int .i64 c29.2)] (And.intro rfl (And.intro rfl (And.intro rfl (And.intro rfl (And.intro rfl (And.intro rfl trivial)))))) fun j => ?_
      refine wpn_assoc ?_
      refine wpn_q hO 3 [] [(1, .slice A1 p1.length c1), (2, .slice A2 p2.length c2), (7, .pointer (some ⟨b5, 0, none⟩)), (9, .int .i64 (p0.length : Int)), (10, .slice A34 c29.1.length c35), (11, .int .i64 c29.2), (48, .bool (c29.2 == 0)), (49, .slice A1 p1.length c1)] (And.intro rfl (And.intro rfl (And.intro rfl (And.intro rfl (And.intro rfl (And.intro rfl (And.intro rfl (And.intro rfl trivial)))))))) fun j => ?_
      obtain ⟨c38, h39, hF⟩ := bind_some hF
      refine wpn_c0 hO (w_expr_Right r1 h39) rfl fun _ σ _ _ hO h40 h41 => ?_
      have hL := hL.trans h40
      have r1 := r1.le h40
      have r2 := r2.le h40
      have w37 := w37.le h40
      have r3_0 := r3_0.le h40
      have r3_1 := r3_1.le h40
      have r3_3 := r3_3.le h40
      obtain ⟨rfl, rfl⟩ := h41
      have hO : Obs _ _ [_, _, _] := hO
      refine wpn_qa hO [] [(1, .slice A1 p1.length c1), (2, .slice A2 p2.length c2), (7, .pointer (some ⟨b5, 0, none⟩)), (9, .int .i64 (p0.length : Int)), (10, .slice A34 c29.1.length c35), (11, .int .i64 c29.2), (51, .bool (!((c29.2 == 0) == c38)))] (And.intro rfl (And.intro rfl (And.intro rfl (And.intro rfl (And.intro rfl (And.intro rfl (And.intro rfl trivial))))))) fun j => ?_
      rcases ite_some hF with ⟨hb42, hF⟩ | ⟨hb42, hF⟩
      · refine wpn_cT (congrArg Value.bool hb42) ?_
        refine wpn_assoc ?_
        refine wpn_qa hO [] [(8, .bool false)] (And.intro rfl trivial) fun j => ?_
        refine wpn_rt ?_
        injection hF with hF
        subst hF
        have hO := hO.sel [] (by decide)
        exact hQ _ _ _ _ _ rfl hO hL ⟨rfl, rfl⟩
      · refine wpn_cF (congrArg Value.bool hb42) ?_
        refine wpn_sk ?_
        refine wpn_assoc ?_
        refine wpn_qa hO [] [(1, .slice A1 p1.length c1), (2, .slice A2 p2.length c2), (7, .pointer (some ⟨b5, 0, none⟩)), (9, .int .i64 (p0.length : Int)), (10, .slice A34 c29.1.length c35), (53, .bool (c29.2 == 0))] (And.intro rfl (And.intro rfl (And.intro rfl (And.intro rfl (And.intro rfl (And.intro rfl trivial)))))) fun j => ?_
        refine wpn_cut (fun e' σ' => ∃ (τ' : Hp), agr [(2, .slice A2 p2.length c2)] e' ∧ Obs τ' σ' [] ∧ Hp.le τ τ' ∧ RdT Ty.u8 τ' (.slice A2 p2.length c2) p2 ∧ F_law06_ExprBack_k3 p2 = some rr) ?_ ?_
        · refine wpn_clast ?_
          rcases ite_some hF with ⟨hb137, hF⟩ | ⟨hb137, hF⟩
          · refine wpn_cT (congrArg Value.bool hb137) ?_
            refine wpn_assoc ?_
            refine wpn_q hO 1 [] [(1, .slice A1 p1.length c1), (2, .slice A2 p2.length c2), (7, .pointer (some ⟨b5, 0, none⟩)), (9, .int .i64 (p0.length : Int)), (10, .slice A34 c29.1.length c35), (55, .slice A34 c29.1.length c35)] (And.intro rfl (And.intro rfl (And.intro rfl (And.intro rfl (And.intro rfl (And.intro rfl trivial)))))) fun j => ?_
            obtain ⟨_, h139, r138, hO⟩ := w37.share hO (i := 2) rfl
            have hL := hL.trans h139
            have r1 := r1.le h139
            have r2 := r2.le h139
            have r3_0 := r3_0.le h139
            have r3_1 := r3_1.le h139
            have r3_3 := r3_3.le h139
            have hO : Obs _ _ [_, _, _] := hO
            obtain ⟨c140, h141, hF⟩ := bind_some hF
            refine wpn_c0 hO (w_ref00_CopyBytes r138 h141) rfl fun _ σ _ _ hO h142 h143 => ?_
            have hL := hL.trans h142
            have r1 := r1.le h142
            have r2 := r2.le h142
            have r138 := r138.le h142
            have r3_0 := r3_0.le h142
            have r3_1 := r3_1.le h142
            have r3_3 := r3_3.le h142
            obtain ⟨v144, o147, rfl, rfl, w148⟩ := h143
            obtain ⟨A145, c146, rfl, -⟩ := w148.form
            have hO : Obs _ _ [_, _, _, _] := hO
            refine wpn_q hO 1 [] [(1, .slice A1 p1.length c1), (2, .slice A2 p2.length c2), (7, .pointer (some ⟨b5, 0, none⟩)), (9, .int .i64 (p0.length : Int)), (10, .slice A34 c29.1.length c35), (56, .slice A145 c140.length c146), (57, .slice A2 p2.length c2)] (And.intro rfl (And.intro rfl (And.intro rfl (And.intro rfl (And.intro rfl (And.intro rfl (And.intro rfl trivial))))))) fun j => ?_
            obtain ⟨_, hr, hF⟩ := bind_some hF
            refine wpn_apl (T := Ty.u8) hO w148 (i := 3) rfl rfl rfl r2 hr (by decide) fun _ σ o151 w152 hO => ?_
            obtain ⟨A149, c150, rfl, -⟩ := w152.form
            have hO : Obs _ _ [_, _, _, _] := hO
            refine wpn_q hO 1 [] [(1, .slice A1 p1.length c1), (2, .slice A2 p2.length c2), (7, .pointer (some ⟨b5, 0, none⟩)), (10, .slice A34 c29.1.length c35), (58, .slice A149 (c140 ++ p2).length c150), (59, .int .i64 (p0.length : Int))] (And.intro rfl (And.intro rfl (And.intro rfl (And.intro rfl (And.intro rfl (And.intro rfl trivial)))))) fun j => ?_
            obtain ⟨_, h154, r153, hO⟩ := w152.share hO (i := 3) rfl
            have hL := hL.trans h154
            have r1 := r1.le h154
            have r2 := r2.le h154
            have r138 := r138.le h154
            have r3_0 := r3_0.le h154
            have r3_1 := r3_1.le h154
            have r3_3 := r3_3.le h154
            have hO : Obs _ _ [_, _, _, _] := hO
            obtain ⟨c155, h156, hF⟩ := bind_some hF
            refine wpn_c0 hO (w_expr_Get r153 h156) rfl fun _ σ _ _ hO h157 h158 => ?_
            have hL := hL.trans h157
            have r1 := r1.le h157
            have r2 := r2.le h157
            have r138 := r138.le h157
            have r153 := r153.le h157
            have r3_0 := r3_0.le h157
            have r3_1 := r3_1.le h157
            have r3_3 := r3_3.le h157
            obtain ⟨v159, rfl, rfl, r162⟩ := h158
            obtain ⟨A160, c161, rfl, -⟩ := r162.form
            have hO : Obs _ _ [_, _, _, _] := hO
            refine wpn_qa hO [] [(1, .slice A1 p1.length c1), (2, .slice A2 p2.length c2), (7, .pointer (some ⟨b5, 0, none⟩)), (10, .slice A34 c29.1.length c35), (12, .slice A160 c155.1.length c161), (13, .int .i64 c155.2.1), (14, .int .i64 c155.2.2)] (And.intro rfl (And.intro rfl (And.intro rfl (And.intro rfl (And.intro rfl (And.intro rfl (And.intro rfl trivial))))))) fun j => ?_
            refine wpn_assoc ?_
            refine wpn_q hO 2 [0] [(1, .slice A1 p1.length c1), (2, .slice A2 p2.length c2), (7, .pointer (some ⟨b5, 0, none⟩)), (10, .slice A34 c29.1.length c35), (12, .slice A160 c155.1.length c161), (13, .int .i64 c155.2.1), (14, .int .i64 c155.2.2), (65, .slice A1 p1.length c1), (66, .agg #[(.slice A3_0 p3.Known.length c3_0), (.slice A3_1 p3.Regs.length c3_1), (.int .i64 p3.Base), (.slice A3_3 p3.Words.length c3_3)])] (And.intro (And.intro rfl rfl) (And.intro rfl (And.intro rfl (And.intro rfl (And.intro rfl (And.intro rfl (And.intro rfl (And.intro rfl (And.intro rfl (And.intro rfl trivial)))))))))) fun j => ?_
            obtain ⟨c163, h164, hF⟩ := bind_some hF
            refine wpn_c0 hO (w_expr_Eval r1 r3_0 r3_1 r3_3 h164) rfl fun _ σ _ _ hO h165 h166 => ?_
            have hL := hL.trans h165
            have r1 := r1.le h165
            have r2 := r2.le h165
            have r138 := r138.le h165
            have r162 := r162.le h165
            have r3_0 := r3_0.le h165
            have r3_1 := r3_1.le h165
            have r3_3 := r3_3.le h165
            obtain ⟨rfl, rfl⟩ := h166
            have hO : Obs _ _ [_, _, _, _] := hO
            refine wpn_qa hO [] [(1, .slice A1 p1.length c1), (2, .slice A2 p2.length c2), (7, .pointer (some ⟨b5, 0, none⟩)), (10, .slice A34 c29.1.length c35), (12, .slice A160 c155.1.length c161), (13, .int .i64 c155.2.1), (14, .int .i64 c155.2.2), (15, .int .i64 c163.1), (16, .int .i64 c163.2)] (And.intro rfl (And.intro rfl (And.intro rfl (And.intro rfl (And.intro rfl (And.intro rfl (And.intro rfl (And.intro rfl (And.intro rfl trivial))))))))) fun j => ?_
            refine wpn_assoc ?_
            refine wpn_q hO 2 [0] [(1, .slice A1 p1.length c1), (2, .slice A2 p2.length c2), (10, .slice A34 c29.1.length c35), (12, .slice A160 c155.1.length c161), (13, .int .i64 c155.2.1), (14, .int .i64 c155.2.2), (15, .int .i64 c163.1), (16, .int .i64 c163.2), (71, .slice A160 c155.1.length c161), (72, .agg #[(.slice A3_0 p3.Known.length c3_0), (.slice A3_1 p3.Regs.length c3_1), (.int .i64 p3.Base), (.slice A3_3 p3.Words.length c3_3)])] (And.intro (And.intro rfl rfl) (And.intro rfl (And.intro rfl (And.intro rfl (And.intro rfl (And.intro rfl (And.intro rfl (And.intro rfl (And.intro rfl (And.intro rfl (And.intro rfl trivial))))))))))) fun j => ?_
            obtain ⟨c167, h168, hF⟩ := bind_some hF
            refine wpn_c0 hO (w_expr_Eval r162 r3_0 r3_1 r3_3 h168) rfl fun _ σ _ _ hO h169 h170 => ?_
            have hL := hL.trans h169
            have r1 := r1.le h169
            have r2 := r2.le h169
            have r138 := r138.le h169
            have r162 := r162.le h169
            have r3_0 := r3_0.le h169
            have r3_1 := r3_1.le h169
            have r3_3 := r3_3.le h169
            obtain ⟨rfl, rfl⟩ := h170
            have hO : Obs _ _ [_, _, _, _] := hO
            refine wpn_qa hO [] [(1, .slice A1 p1.length c1), (2, .slice A2 p2.length c2), (10, .slice A34 c29.1.length c35), (12, .slice A160 c155.1.length c161), (13, .int .i64 c155.2.1), (14, .int .i64 c155.2.2), (15, .int .i64 c163.1), (16, .int .i64 c163.2), (17, .int .i64 c167.1), (18, .int .i64 c167.2)] (And.intro rfl (And.intro rfl (And.intro rfl (And.intro rfl (And.intro rfl (And.intro rfl (And.intro rfl (And.intro rfl (And.intro rfl (And.intro rfl trivial)))))))))) fun j => ?_
            refine wpn_assoc ?_
            refine wpn_q hO 6 [] [(1, .slice A1 p1.length c1), (2, .slice A2 p2.length c2), (12, .slice A160 c155.1.length c161), (15, .int .i64 c163.1), (16, .int .i64 c163.2), (17, .int .i64 c167.1), (18, .int .i64 c167.2), (84, .bool ((c155.2.2 != 0) || (c155.2.1 != (c29.1.length : Int))))] (And.intro (And.intro rfl rfl) (fun _ => And.intro rfl (And.intro rfl (And.intro rfl (And.intro rfl (And.intro rfl (And.intro rfl (And.intro rfl (And.intro rfl trivial))))))))) fun j => ?_
            have hO := hO.sel [] (by decide)
            have hO : Obs _ _ [] := hO
            obtain ⟨c171, h172, hF⟩ := bind_some hF
            refine wpn_mid 2 (fun e' σ' => ∃ (τ' : Hp), agr [(89, .bool c171), (2, .slice A2 p2.length c2), (15, .int .i64 c163.1), (16, .int .i64 c163.2), (17, .int .i64 c167.1), (18, .int .i64 c167.2)] e' ∧ Obs τ' σ' [] ∧ Hp.le τ τ' ∧ RdT Ty.u8 τ' (.slice A2 p2.length c2) p2) ?_ ?_
            · have hF := h172
              rcases ite_some hF with ⟨hb173, hF⟩ | ⟨hb173, hF⟩
              · refine wpn_gF (congrArg (fun x => isB (.bool x) false) hb173) ?_
                refine wpn_pk (congrArg Value.bool hb173) ?_
                refine wpn_nil ?_
                injection hF with hF
                subst hF
                refine wpn_end ?_
                exact ⟨rfl, _, And.intro rfl (And.intro rfl (And.intro rfl (And.intro rfl (And.intro rfl (And.intro rfl trivial))))), hO, hL, r2⟩
              · refine wpn_gT (congrArg (fun x => isB (.bool x) false) hb173) ?_
                refine wpn_q hO 2 [] [(2, .slice A2 p2.length c2), (15, .int .i64 c163.1), (16, .int .i64 c163.2), (17, .int .i64 c167.1), (18, .int .i64 c167.2), (84, .bool ((c155.2.2 != 0) || (c155.2.1 != (c29.1.length : Int)))), (85, .slice A160 c155.1.length c161), (86, .slice A1 p1.length c1)] (And.intro rfl (And.intro rfl (And.intro rfl (And.intro rfl (And.intro rfl (And.intro rfl (And.intro rfl (And.intro rfl trivial)))))))) fun j => ?_
                obtain ⟨c174, h175, hF⟩ := bind_some hF
                refine wpn_c0 hO (w_ref06_Same r162 r1 h175) rfl fun _ σ _ _ hO h176 h177 => ?_
                have hL := hL.trans h176
                have r2 := r2.le h176
                have r162 := r162.le h176
                have r1 := r1.le h176
                obtain ⟨rfl, rfl⟩ := h177
                have hO : Obs _ _ [] := hO
                refine wpn_q hO 1 [] [(2, .slice A2 p2.length c2), (15, .int .i64 c163.1), (16, .int .i64 c163.2), (17, .int .i64 c167.1), (18, .int .i64 c167.2), (84, .bool ((c155.2.2 != 0) || (c155.2.1 != (c29.1.length : Int)))), (88, .bool (!c174))] (And.intro rfl (And.intro rfl (And.intro rfl (And.intro rfl (And.intro rfl (And.intro rfl (And.intro rfl trivial))))))) fun j => ?_
                refine wpn_pk (congrArg Value.bool hb173) ?_
                refine wpn_nil ?_
                injection hF with hF
                subst hF
                refine wpn_end ?_
                exact ⟨rfl, _, And.intro rfl (And.intro rfl (And.intro rfl (And.intro rfl (And.intro rfl (And.intro rfl trivial))))), hO, hL, r2⟩
            · rintro e σ ⟨_, hA, hO, hL, r2⟩
              rw [← sets_agr _ _ hA]
              refine wpn_qa hO [] [(2, .slice A2 p2.length c2), (99, .bool ((c171 || (c163.1 != c167.1)) || (c163.2 != c167.2)))] (And.intro (And.intro rfl rfl) (fun _ => And.intro (And.intro rfl rfl) (fun _ => And.intro rfl (And.intro rfl trivial)))) fun j => ?_
              rcases ite_some hF with ⟨hb178, hF⟩ | ⟨hb178, hF⟩
              · refine wpn_cT (congrArg Value.bool hb178) ?_
                refine wpn_assoc ?_
                refine wpn_qa hO [] [(8, .bool false)] (And.intro rfl trivial) fun j => ?_
                refine wpn_rt ?_
                refine thn_r1 ?_
                injection hF with hF
                subst hF
                exact hQ _ _ _ _ _ rfl hO hL ⟨rfl, rfl⟩
              · refine wpn_cF (congrArg Value.bool hb178) ?_
                refine wpn_sk ?_
                refine wpn_end ?_
                refine thn_i ?_
                exact ⟨_, And.intro rfl trivial, hO, hL, r2, hF⟩
          · refine wpn_cF (congrArg Value.bool hb137) ?_
            refine wpn_assoc ?_
            refine wpn_qa hO [] [(2, .slice A2 p2.length c2), (102, .bool ((c29.1.length : Int) != 0))] (And.intro rfl (And.intro rfl trivial)) fun j => ?_
            rcases ite_some hF with ⟨hb179, hF⟩ | ⟨hb179, hF⟩
            · refine wpn_cT (congrArg Value.bool hb179) ?_
              refine wpn_assoc ?_
              refine wpn_qa hO [] [(8, .bool false)] (And.intro rfl trivial) fun j => ?_
              refine wpn_rt ?_
              refine thn_r1 ?_
              injection hF with hF
              subst hF
              have hO := hO.sel [] (by decide)
              exact hQ _ _ _ _ _ rfl hO hL ⟨rfl, rfl⟩
            · refine wpn_cF (congrArg Value.bool hb179) ?_
              refine wpn_sk ?_
              refine wpn_end ?_
              refine thn_i ?_
              have hO := hO.sel [] (by decide)
              exact ⟨_, And.intro rfl trivial, hO, hL, r2, hF⟩
        · rintro e σ ⟨_, hA, hO, hL, r86, hF⟩
          rw [← sets_agr _ _ hA]
          unfold F_law06_ExprBack_k3 at hF
          refine wpn_q hO 1 [] [(2, .slice A2 p2.length c2), (104, .slice A2 p2.length c2)] (And.intro rfl (And.intro rfl trivial)) fun j => ?_
          obtain ⟨c87, h88, hF⟩ := bind_some hF
          refine wpn_c0 hO (w_expr_Get r86 h88) rfl fun _ σ _ _ hO h89 h90 => ?_
          have hL := hL.trans h89
          have r86 := r86.le h89
          obtain ⟨v91, rfl, rfl, r94⟩ := h90
          obtain ⟨A92, c93, rfl, -⟩ := r94.form
          have hO : Obs _ _ [] := hO
          refine wpn_qa hO [] [(2, .slice A2 p2.length c2), (19, .slice A92 c87.1.length c93), (20, .int .i64 c87.2.1), (21, .int .i64 c87.2.2)] (And.intro rfl (And.intro rfl (And.intro rfl (And.intro rfl trivial)))) fun j => ?_
          refine wpn_assoc ?_
          refine wpn_qa hO [] [(2, .slice A2 p2.length c2), (19, .slice A92 c87.1.length c93), (20, .int .i64 c87.2.1), (110, .bool (c87.2.2 != 0))] (And.intro rfl (And.intro rfl (And.intro rfl (And.intro rfl trivial)))) fun j => ?_
          rcases ite_some hF with ⟨hb95, hF⟩ | ⟨hb95, hF⟩
          · refine wpn_cT (congrArg Value.bool hb95) ?_
            refine wpn_assoc ?_
            refine wpn_q hO 7 [] [(118, .bool (((c87.1.length : Int) == 0) && (c87.2.1 == 0)))] (And.intro (And.intro rfl rfl) (fun _ => And.intro rfl trivial)) fun j => ?_
            obtain ⟨c96, h97, hF⟩ := bind_some hF
            refine wpn_mid 2 (fun e' σ' => ∃ (τ' : Hp), agr [(120, .bool c96)] e' ∧ Obs τ' σ' [] ∧ Hp.le τ τ') ?_ ?_
            · have hF := h97
              rcases ite_some hF with ⟨hb98, hF⟩ | ⟨hb98, hF⟩
              · refine wpn_gT (congrArg (fun x => isB (.bool x) true) hb98) ?_
                obtain ⟨c99, h100, hF⟩ := bind_some hF
                refine wpn_c0 hO (w_law06_works h100) rfl fun _ σ _ _ hO h101 h102 => ?_
                have hL := hL.trans h101
                obtain ⟨rfl, rfl⟩ := h102
                have hO : Obs _ _ [] := hO
                refine wpn_pk (congrArg Value.bool hb98) ?_
                refine wpn_nil ?_
                injection hF with hF
                subst hF
                refine wpn_end ?_
                exact ⟨rfl, _, And.intro rfl (trivial), hO, hL⟩
              · refine wpn_gF (congrArg (fun x => isB (.bool x) true) hb98) ?_
                refine wpn_pk (congrArg Value.bool hb98) ?_
                refine wpn_nil ?_
                injection hF with hF
                subst hF
                refine wpn_end ?_
                exact ⟨rfl, _, And.intro rfl (trivial), hO, hL⟩
            · rintro e σ ⟨_, hA, hO, hL⟩
              rw [← sets_agr _ _ hA]
              refine wpn_qa hO [] [(8, .bool c96)] (And.intro rfl trivial) fun j => ?_
              refine wpn_rt ?_
              injection hF with hF
              subst hF
              exact hQ _ _ _ _ _ rfl hO hL ⟨rfl, rfl⟩
          · refine wpn_cF (congrArg Value.bool hb95) ?_
            refine wpn_sk ?_
            refine wpn_q hO 1 [] [(2, .slice A2 p2.length c2), (19, .slice A92 c87.1.length c93), (20, .int .i64 c87.2.1), (122, .slice A92 c87.1.length c93)] (And.intro rfl (And.intro rfl (And.intro rfl (And.intro rfl trivial)))) fun j => ?_
            obtain ⟨c103, h104, hF⟩ := bind_some hF
            refine wpn_c0 hO (w_expr_Put (RdT.nil Ty.u8 _) r94 h104) rfl fun _ σ _ _ hO h105 h106 => ?_
            have hL := hL.trans h105
            have r86 := r86.le h105
            have r94 := r94.le h105
            obtain ⟨v107, o110, rfl, rfl, w111⟩ := h106
            obtain ⟨A108, c109, rfl, -⟩ := w111.form
            have hO : Obs _ _ [_] := hO
            refine wpn_qa hO [] [(2, .slice A2 p2.length c2), (19, .slice A92 c87.1.length c93), (20, .int .i64 c87.2.1), (22, .slice A108 c103.1.length c109), (23, .int .i64 c103.2)] (And.intro rfl (And.intro rfl (And.intro rfl (And.intro rfl (And.intro rfl trivial))))) fun j => ?_
            refine wpn_q hO 1 [] [(2, .slice A2 p2.length c2), (20, .int .i64 c87.2.1), (22, .slice A108 c103.1.length c109), (23, .int .i64 c103.2), (126, .slice A92 c87.1.length c93)] (And.intro rfl (And.intro rfl (And.intro rfl (And.intro rfl (And.intro rfl trivial))))) fun j => ?_
            obtain ⟨c112, h113, hF⟩ := bind_some hF
            refine wpn_c0 hO (w_expr_Right r94 h113) rfl fun _ σ _ _ hO h114 h115 => ?_
            have hL := hL.trans h114
            have r86 := r86.le h114
            have w111 := w111.le h114
            have r94 := r94.le h114
            obtain ⟨rfl, rfl⟩ := h115
            have hO : Obs _ _ [_] := hO
            refine wpn_q hO 10 [] [(2, .slice A2 p2.length c2), (20, .int .i64 c87.2.1), (22, .slice A108 c103.1.length c109), (142, .bool (((c112 && (c103.2 == 0)) && (decide (c87.2.1 ≥ 1))) && (decide (c87.2.1 ≤ (p2.length : Int)))))] (And.intro (And.intro rfl rfl) (fun _ => And.intro (And.intro rfl rfl) (fun _ => And.intro (And.intro rfl rfl) (fun _ => And.intro rfl (And.intro rfl (And.intro rfl (And.intro rfl trivial))))))) fun j => ?_
            obtain ⟨_, h117, r116, hO⟩ := w111.share hO (i := 0) rfl
            have hL := hL.trans h117
            have r86 := r86.le h117
            have hO : Obs _ _ [_] := hO
            have hO := hO.sel [] (by decide)
            have hO : Obs _ _ [] := hO
            obtain ⟨c118, h119, hF⟩ := bind_some hF
            refine wpn_mid 2 (fun e' σ' => ∃ (τ' : Hp), agr [(148, .bool c118)] e' ∧ Obs τ' σ' [] ∧ Hp.le τ τ') ?_ ?_
            · have hF := h119
              rcases ite_some hF with ⟨hb120, hF⟩ | ⟨hb120, hF⟩
              · refine wpn_gT (congrArg (fun x => isB (.bool x) true) hb120) ?_
                refine wpn_q hO 3 [] [(142, .bool (((c112 && (c103.2 == 0)) && (decide (c87.2.1 ≥ 1))) && (decide (c87.2.1 ≤ (p2.length : Int))))), (143, .slice A108 c103.1.length c109), (144, .slice A2 p2.length c2), (145, .int .i64 c87.2.1)] (And.intro rfl (And.intro rfl (And.intro rfl (And.intro rfl trivial)))) fun j => ?_
                obtain ⟨y121, g122, hF⟩ := bind_some hF
                refine wpn_sl (T := Ty.u8) r86 rfl rfl rfl g122 fun _ r123 => ?_
                obtain ⟨A124, c125, rfl, -⟩ := r123.form
                obtain ⟨c126, h127, hF⟩ := bind_some hF
                refine wpn_c0 hO (w_ref00_EqBytes r116 r123 h127) rfl fun _ σ _ _ hO h128 h129 => ?_
                have hL := hL.trans h128
                have r116 := r116.le h128
                have r86 := r86.le h128
                have r123 := r123.le h128
                obtain ⟨rfl, rfl⟩ := h129
                have hO : Obs _ _ [] := hO
                refine wpn_pk (congrArg Value.bool hb120) ?_
                refine wpn_nil ?_
                injection hF with hF
                subst hF
                refine wpn_end ?_
                exact ⟨rfl, _, And.intro rfl (trivial), hO, hL⟩
              · refine wpn_gF (congrArg (fun x => isB (.bool x) true) hb120) ?_
                refine wpn_pk (congrArg Value.bool hb120) ?_
                refine wpn_nil ?_
                injection hF with hF
                subst hF
                refine wpn_end ?_
                exact ⟨rfl, _, And.intro rfl (trivial), hO, hL⟩
            · rintro e σ ⟨_, hA, hO, hL⟩
              rw [← sets_agr _ _ hA]
              refine wpn_q hO 1 [] [(149, .bool c118)] (And.intro rfl trivial) fun j => ?_
              obtain ⟨c130, h131, hF⟩ := bind_some hF
              refine wpn_mid 2 (fun e' σ' => ∃ (τ' : Hp), agr [(151, .bool c130)] e' ∧ Obs τ' σ' [] ∧ Hp.le τ τ') ?_ ?_
              · have hF := h131
                rcases ite_some hF with ⟨hb132, hF⟩ | ⟨hb132, hF⟩
                · refine wpn_gT (congrArg (fun x => isB (.bool x) true) hb132) ?_
                  obtain ⟨c133, h134, hF⟩ := bind_some hF
                  refine wpn_c0 hO (w_law06_works h134) rfl fun _ σ _ _ hO h135 h136 => ?_
                  have hL := hL.trans h135
                  obtain ⟨rfl, rfl⟩ := h136
                  have hO : Obs _ _ [] := hO
                  refine wpn_pk (congrArg Value.bool hb132) ?_
                  refine wpn_nil ?_
                  injection hF with hF
                  subst hF
                  refine wpn_end ?_
                  exact ⟨rfl, _, And.intro rfl (trivial), hO, hL⟩
                · refine wpn_gF (congrArg (fun x => isB (.bool x) true) hb132) ?_
                  refine wpn_pk (congrArg Value.bool hb132) ?_
                  refine wpn_nil ?_
                  injection hF with hF
                  subst hF
                  refine wpn_end ?_
                  exact ⟨rfl, _, And.intro rfl (trivial), hO, hL⟩
              · rintro e σ ⟨_, hA, hO, hL⟩
                rw [← sets_agr _ _ hA]
                refine wpn_qa hO [] [(8, .bool c130)] (And.intro rfl trivial) fun j => ?_
                refine wpn_r1 ?_
                injection hF with hF
                subst hF
                exact hQ _ _ _ _ _ rfl hO hL ⟨rfl, rfl⟩
end Go.Proofs.Ytpmlbgaigjdmjaa
