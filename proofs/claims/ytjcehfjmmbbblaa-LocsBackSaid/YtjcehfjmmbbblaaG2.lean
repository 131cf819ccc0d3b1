import Derived.Test.YtjcehfjmmbbblaaF
import Derived.Test.YtjcehfjmmbbblaaAc0
import Derived.Test.YtjcehfjmmbbblaaM00
import Derived.Test.YtjcehfjmmbbblaaM01
import Derived.Test.YtjcehfjmmbbblaaG1
namespace Go.Proofs.Ytjcehfjmmbbblaa
open Go.Ab Go.RowKit
set_option linter.unusedVariables false
set_option linter.unusedSimpArgs false
set_option maxRecDepth 10000
theorem zcE {τ : Hp} {v0 : Value} {p0 : (List UInt8)} {v1 : Value} {p1 : (List za)} {v2 : Value} {p2 : (List UInt8)} (r0 : RdT Ty.u8 τ v0 p0) (r1 : RdT zc τ v1 p1) (r2 : RdT Ty.u8 τ v2 p2) {rr : Bool} (hF : zbo p0 p1 p2 = some rr) :
    Ctr Try.prog 6 #[v0, v1, v2] τ [] (fun v τ' vs' => v = .bool rr ∧ vs' = []) := by
  obtain ⟨A0, c0, rfl, -⟩ := r0.form
  obtain ⟨A1, c1, rfl, -⟩ := r1.form
  obtain ⟨A2, c2, rfl, -⟩ := r2.form
  refine ctr_of (args := [.slice A0 p0.length c0, .slice A1 p1.length c1, .slice A2 p2.length c2]) hm Try.func6 s6 rfl fun w0 σ hO Q hQ => ?_
  unfold zbo at hF
  have hL := Hp.le.refl τ
  show wpn _ _ a6.body _ _ _
  unfold a6
  dsimp only
  refine wpn_qa hO [] [(0, .slice A0 p0.length c0), (1, .slice A1 p1.length c1), (2, .slice A2 p2.length c2)] (ar (ar (ar trivial))) fun j => ?_
  refine wpn_assoc ?_
  refine wpn_q hO 7 [] [(0, .slice A0 p0.length c0), (1, .slice A1 p1.length c1), (2, .slice A2 p2.length c2), (26, .bool ((decide ((p0.length : Int) > 1024)) || (decide ((p2.length : Int) > 4096))))] (And.intro (And.intro rfl rfl) (fun _ => ar (ar (ar (ar trivial))))) fun j => ?_
  obtain ⟨c4, h5, hF⟩ := bind_some hF
  refine wpn_mid 2 (fun e' σ' => ∃ (τ' : Hp), agr [(29, .bool c4), (0, .slice A0 p0.length c0), (1, .slice A1 p1.length c1), (2, .slice A2 p2.length c2)] e' ∧ Obs τ' σ' [] ∧ Hp.le τ τ' ∧ RdT Ty.u8 τ' (.slice A0 p0.length c0) p0 ∧ RdT zc τ' (.slice A1 p1.length c1) p1 ∧ RdT Ty.u8 τ' (.slice A2 p2.length c2) p2) ?_ ?_
  · have hF := h5
    rcases ite_some hF with ⟨hb6, hF⟩ | ⟨hb6, hF⟩
    · refine wpn_gF (congrArg (fun x => isB (.bool x) false) hb6) ?_
      refine wpn_pk (congrArg Value.bool hb6) ?_
      refine wpn_nil ?_
      injection hF with hF
      subst hF
      refine wpn_end ?_
      exact ⟨rfl, _, ar (ar (ar (ar trivial))), hO, hL, r0, r1, r2⟩
    · refine wpn_gT (congrArg (fun x => isB (.bool x) false) hb6) ?_
      refine wpn_q hO 1 [] [(0, .slice A0 p0.length c0), (1, .slice A1 p1.length c1), (2, .slice A2 p2.length c2), (26, .bool ((decide ((p0.length : Int) > 1024)) || (decide ((p2.length : Int) > 4096)))), (27, .slice A1 p1.length c1)] (ar (ar (ar (ar (ar trivial))))) fun j => ?_
      obtain ⟨c7, h8, hF⟩ := bind_some hF
      refine wpn_c0 hO (zcI r1 h8) rfl fun _ σ _ _ hO h9 h10 => ?_
      have hL := hL.trans h9
      have r0 := r0.le h9
      have r1 := r1.le h9
      have r2 := r2.le h9
      obtain ⟨rfl, rfl⟩ := h10
      have hO : Obs _ _ [] := hO
      refine wpn_pk (congrArg Value.bool hb6) ?_
      refine wpn_nil ?_
      injection hF with hF
      subst hF
      refine wpn_end ?_
      exact ⟨rfl, _, ar (ar (ar (ar trivial))), hO, hL, r0, r1, r2⟩
  · rintro e σ ⟨_, hA, hO, hL, r0, r1, r2⟩
    rw [← sets_agr _ _ hA]
    refine wpn_nil ?_
    rcases ite_some hF with ⟨hb11, hF⟩ | ⟨hb11, hF⟩
    · refine wpn_cT (congrArg Value.bool hb11) ?_
      refine wpn_assoc ?_
      obtain ⟨c12, h13, hF⟩ := bind_some hF
      refine wpn_c0 hO (zbS h13) rfl fun _ σ _ _ hO h14 h15 => ?_
      have hL := hL.trans h14
      have r0 := r0.le h14
      have r1 := r1.le h14
      have r2 := r2.le h14
      obtain ⟨rfl, rfl⟩ := h15
      have hO : Obs _ _ [] := hO
      refine wpn_qa hO [] [(6, .bool c12)] (ar trivial) fun j => ?_
      refine wpn_rt ?_
      injection hF with hF
      subst hF
      exact hQ _ _ _ _ _ rfl hO hL ⟨rfl, rfl⟩
    · refine wpn_cF (congrArg Value.bool hb11) ?_
      refine wpn_sk ?_
      refine wpn_qa hO [] [(0, .slice A0 p0.length c0), (1, .slice A1 p1.length c1), (2, .slice A2 p2.length c2), (7, .int .i64 (p0.length : Int))] (ar (ar (ar (ar trivial)))) fun j => ?_
      refine wpn_q hO 2 [] [(1, .slice A1 p1.length c1), (2, .slice A2 p2.length c2), (7, .int .i64 (p0.length : Int)), (34, .slice A0 p0.length c0), (35, .slice A1 p1.length c1)] (ar (ar (ar (ar (ar trivial))))) fun j => ?_
      obtain ⟨c16, h17, hF⟩ := bind_some hF
      refine wpn_c0 hO (zco r1 h17) rfl fun _ σ _ _ hO h18 h19 => ?_
      have hL := hL.trans h18
      have r1 := r1.le h18
      have r2 := r2.le h18
      have r0 := r0.le h18
      obtain ⟨v20, o23, rfl, rfl, w24⟩ := h19
      obtain ⟨A21, c22, rfl, -⟩ := w24.form
      have hO : Obs _ _ [_] := hO
      obtain ⟨_, h26, r25, hO⟩ := w24.share hO (i := 0) rfl
      have hL := hL.trans h26
      have r1 := r1.le h26
      have r2 := r2.le h26
      have r0 := r0.le h26
      have hO : Obs _ _ [_] := hO
      obtain ⟨c27, h28, hF⟩ := bind_some hF
      refine wpn_c0 hO (zbM r0 r25 h28) rfl fun _ σ _ _ hO h29 h30 => ?_
      have hL := hL.trans h29
      have r1 := r1.le h29
      have r2 := r2.le h29
      have r0 := r0.le h29
      have r25 := r25.le h29
      obtain ⟨v31, o34, rfl, rfl, w35⟩ := h30
      obtain ⟨A32, c33, rfl, -⟩ := w35.form
      have hO : Obs _ _ [_, _] := hO
      refine wpn_qa hO [] [(1, .slice A1 p1.length c1), (2, .slice A2 p2.length c2), (7, .int .i64 (p0.length : Int)), (8, .slice A32 c27.1.length c33), (9, .int .i64 c27.2)] (ar (ar (ar (ar (ar trivial))))) fun j => ?_
      refine wpn_assoc ?_
      refine wpn_q hO 3 [] [(1, .slice A1 p1.length c1), (2, .slice A2 p2.length c2), (7, .int .i64 (p0.length : Int)), (8, .slice A32 c27.1.length c33), (9, .int .i64 c27.2), (41, .bool (c27.2 == 0)), (42, .slice A1 p1.length c1)] (ar (ar (ar (ar (ar (ar (ar trivial))))))) fun j => ?_
      obtain ⟨c36, h37, hF⟩ := bind_some hF
      refine wpn_c0 hO (zB r1 h37) rfl fun _ σ _ _ hO h38 h39 => ?_
      have hL := hL.trans h38
      have r1 := r1.le h38
      have r2 := r2.le h38
      have w35 := w35.le h38
      obtain ⟨rfl, rfl⟩ := h39
      have hO : Obs _ _ [_, _] := hO
      refine wpn_qa hO [] [(1, .slice A1 p1.length c1), (2, .slice A2 p2.length c2), (7, .int .i64 (p0.length : Int)), (8, .slice A32 c27.1.length c33), (9, .int .i64 c27.2), (44, .bool (!((c27.2 == 0) == c36)))] (ar (ar (ar (ar (ar (ar trivial)))))) fun j => ?_
      rcases ite_some hF with ⟨hb40, hF⟩ | ⟨hb40, hF⟩
      · refine wpn_cT (congrArg Value.bool hb40) ?_
        refine wpn_assoc ?_
        refine wpn_qa hO [] [(6, .bool false)] (ar trivial) fun j => ?_
        refine wpn_rt ?_
        injection hF with hF
        subst hF
        have hO := hO.sel [] (by decide)
        exact hQ _ _ _ _ _ rfl hO hL ⟨rfl, rfl⟩
      · refine wpn_cF (congrArg Value.bool hb40) ?_
        refine wpn_sk ?_
        refine wpn_assoc ?_
        refine wpn_qa hO [] [(1, .slice A1 p1.length c1), (2, .slice A2 p2.length c2), (7, .int .i64 (p0.length : Int)), (8, .slice A32 c27.1.length c33), (46, .bool (c27.2 == 0))] (ar (ar (ar (ar (ar trivial))))) fun j => ?_
        refine wpn_cut (fun e' σ' => ∃ (τ' : Hp), agr [(2, .slice A2 p2.length c2)] e' ∧ Obs τ' σ' [] ∧ Hp.le τ τ' ∧ RdT Ty.u8 τ' (.slice A2 p2.length c2) p2 ∧ zo p2 = some rr) ?_ ?_
        · refine wpn_clast ?_
          rcases ite_some hF with ⟨hb128, hF⟩ | ⟨hb128, hF⟩
          · refine wpn_cT (congrArg Value.bool hb128) ?_
            refine wpn_assoc ?_
            refine wpn_q hO 1 [] [(1, .slice A1 p1.length c1), (2, .slice A2 p2.length c2), (7, .int .i64 (p0.length : Int)), (8, .slice A32 c27.1.length c33), (48, .slice A32 c27.1.length c33)] (ar (ar (ar (ar (ar trivial))))) fun j => ?_
            obtain ⟨_, h130, r129, hO⟩ := w35.share hO (i := 1) rfl
            have hL := hL.trans h130
            have r1 := r1.le h130
            have r2 := r2.le h130
            have hO : Obs _ _ [_, _] := hO
            obtain ⟨c131, h132, hF⟩ := bind_some hF
            refine wpn_c0 hO (zcB r129 h132) rfl fun _ σ _ _ hO h133 h134 => ?_
            have hL := hL.trans h133
            have r1 := r1.le h133
            have r2 := r2.le h133
            have r129 := r129.le h133
            obtain ⟨v135, o138, rfl, rfl, w139⟩ := h134
            obtain ⟨A136, c137, rfl, -⟩ := w139.form
            have hO : Obs _ _ [_, _, _] := hO
            refine wpn_q hO 1 [] [(1, .slice A1 p1.length c1), (2, .slice A2 p2.length c2), (7, .int .i64 (p0.length : Int)), (8, .slice A32 c27.1.length c33), (49, .slice A136 c131.length c137), (50, .slice A2 p2.length c2)] (ar (ar (ar (ar (ar (ar trivial)))))) fun j => ?_
            obtain ⟨_, hr144, hF⟩ := bind_some hF
            refine wpn_apl (T := Ty.u8) hO w139 (i := 2) rfl rfl rfl r2 hr144 (by decide) fun _ σ o142 w143 hO => ?_
            obtain ⟨A140, c141, rfl, -⟩ := w143.form
            have hO : Obs _ _ [_, _, _] := hO
            refine wpn_q hO 1 [] [(1, .slice A1 p1.length c1), (2, .slice A2 p2.length c2), (8, .slice A32 c27.1.length c33), (51, .slice A140 (c131 ++ p2).length c141), (52, .int .i64 (p0.length : Int))] (ar (ar (ar (ar (ar trivial))))) fun j => ?_
            obtain ⟨_, h146, r145, hO⟩ := w143.share hO (i := 2) rfl
            have hL := hL.trans h146
            have r1 := r1.le h146
            have r2 := r2.le h146
            have r129 := r129.le h146
            have hO : Obs _ _ [_, _, _] := hO
            obtain ⟨c147, h148, hF⟩ := bind_some hF
            refine wpn_c0 hO (zbL r145 h148) rfl fun _ σ _ _ hO h149 h150 => ?_
            have hL := hL.trans h149
            have r1 := r1.le h149
            have r2 := r2.le h149
            have r129 := r129.le h149
            have r145 := r145.le h149
            obtain ⟨v151, rfl, rfl, r154⟩ := h150
            obtain ⟨A152, c153, rfl, -⟩ := r154.form
            have hO : Obs _ _ [_, _, _] := hO
            refine wpn_qa hO [] [(1, .slice A1 p1.length c1), (2, .slice A2 p2.length c2), (8, .slice A32 c27.1.length c33), (10, .slice A152 c147.1.length c153), (11, .int .i64 c147.2.1), (12, .int .i64 c147.2.2)] (ar (ar (ar (ar (ar (ar trivial)))))) fun j => ?_
            refine wpn_assoc ?_
            refine wpn_q hO 6 [] [(1, .slice A1 p1.length c1), (2, .slice A2 p2.length c2), (10, .slice A152 c147.1.length c153), (65, .bool ((c147.2.2 != 0) || (c147.2.1 != (c27.1.length : Int))))] (And.intro (And.intro rfl rfl) (fun _ => ar (ar (ar (ar trivial))))) fun j => ?_
            have hO := hO.sel [] (by decide)
            have hO : Obs _ _ [] := hO
            obtain ⟨c155, h156, hF⟩ := bind_some hF
            refine wpn_mid 2 (fun e' σ' => ∃ (τ' : Hp), agr [(70, .bool c155), (2, .slice A2 p2.length c2)] e' ∧ Obs τ' σ' [] ∧ Hp.le τ τ' ∧ RdT Ty.u8 τ' (.slice A2 p2.length c2) p2) ?_ ?_
            · have hF := h156
              rcases ite_some hF with ⟨hb157, hF⟩ | ⟨hb157, hF⟩
              · refine wpn_gF (congrArg (fun x => isB (.bool x) false) hb157) ?_
                refine wpn_pk (congrArg Value.bool hb157) ?_
                refine wpn_nil ?_
                injection hF with hF
                subst hF
                refine wpn_end ?_
                exact ⟨rfl, _, ar (ar trivial), hO, hL, r2⟩
              · refine wpn_gT (congrArg (fun x => isB (.bool x) false) hb157) ?_
                refine wpn_q hO 2 [] [(2, .slice A2 p2.length c2), (65, .bool ((c147.2.2 != 0) || (c147.2.1 != (c27.1.length : Int)))), (66, .slice A152 c147.1.length c153), (67, .slice A1 p1.length c1)] (ar (ar (ar (ar trivial)))) fun j => ?_
                obtain ⟨c158, h159, hF⟩ := bind_some hF
                refine wpn_c0 hO (zcd r154 r1 h159) rfl fun _ σ _ _ hO h160 h161 => ?_
                have hL := hL.trans h160
                have r2 := r2.le h160
                have r154 := r154.le h160
                have r1 := r1.le h160
                obtain ⟨rfl, rfl⟩ := h161
                have hO : Obs _ _ [] := hO
                refine wpn_q hO 1 [] [(2, .slice A2 p2.length c2), (65, .bool ((c147.2.2 != 0) || (c147.2.1 != (c27.1.length : Int)))), (69, .bool (!c158))] (ar (ar (ar trivial))) fun j => ?_
                refine wpn_pk (congrArg Value.bool hb157) ?_
                refine wpn_nil ?_
                injection hF with hF
                subst hF
                refine wpn_end ?_
                exact ⟨rfl, _, ar (ar trivial), hO, hL, r2⟩
            · rintro e σ ⟨_, hA, hO, hL, r2⟩
              rw [← sets_agr _ _ hA]
              refine wpn_nil ?_
              rcases ite_some hF with ⟨hb162, hF⟩ | ⟨hb162, hF⟩
              · refine wpn_cT (congrArg Value.bool hb162) ?_
                refine wpn_assoc ?_
                refine wpn_qa hO [] [(6, .bool false)] (ar trivial) fun j => ?_
                refine wpn_rt ?_
                refine thn_r1 ?_
                injection hF with hF
                subst hF
                exact hQ _ _ _ _ _ rfl hO hL ⟨rfl, rfl⟩
              · refine wpn_cF (congrArg Value.bool hb162) ?_
                refine wpn_sk ?_
                refine wpn_end ?_
                refine thn_i ?_
                exact ⟨_, ar trivial, hO, hL, r2, hF⟩
          · refine wpn_cF (congrArg Value.bool hb128) ?_
            refine wpn_assoc ?_
            refine wpn_qa hO [] [(2, .slice A2 p2.length c2), (73, .bool ((c27.1.length : Int) != 0))] (ar (ar trivial)) fun j => ?_
            rcases ite_some hF with ⟨hb163, hF⟩ | ⟨hb163, hF⟩
            · refine wpn_cT (congrArg Value.bool hb163) ?_
              refine wpn_assoc ?_
              refine wpn_qa hO [] [(6, .bool false)] (ar trivial) fun j => ?_
              refine wpn_rt ?_
              refine thn_r1 ?_
              injection hF with hF
              subst hF
              have hO := hO.sel [] (by decide)
              exact hQ _ _ _ _ _ rfl hO hL ⟨rfl, rfl⟩
            · refine wpn_cF (congrArg Value.bool hb163) ?_
              refine wpn_sk ?_
              refine wpn_end ?_
              refine thn_i ?_
              have hO := hO.sel [] (by decide)
              exact ⟨_, ar trivial, hO, hL, r2, hF⟩
        · rintro e σ ⟨_, hA, hO, hL, r77, hF⟩
          rw [← sets_agr _ _ hA]
          unfold zo at hF
          refine wpn_q hO 1 [] [(2, .slice A2 p2.length c2), (75, .slice A2 p2.length c2)] (ar (ar trivial)) fun j => ?_
          obtain ⟨c78, h79, hF⟩ := bind_some hF
          refine wpn_c0 hO (zbL r77 h79) rfl fun _ σ _ _ hO h80 h81 => ?_
          have hL := hL.trans h80
          have r77 := r77.le h80
          obtain ⟨v82, rfl, rfl, r85⟩ := h81
          obtain ⟨A83, c84, rfl, -⟩ := r85.form
          have hO : Obs _ _ [] := hO
          refine wpn_qa hO [] [(2, .slice A2 p2.length c2), (13, .slice A83 c78.1.length c84), (14, .int .i64 c78.2.1), (15, .int .i64 c78.2.2)] (ar (ar (ar (ar trivial)))) fun j => ?_
          refine wpn_assoc ?_
          refine wpn_qa hO [] [(2, .slice A2 p2.length c2), (13, .slice A83 c78.1.length c84), (14, .int .i64 c78.2.1), (81, .bool (c78.2.2 != 0))] (ar (ar (ar (ar trivial)))) fun j => ?_
          rcases ite_some hF with ⟨hb86, hF⟩ | ⟨hb86, hF⟩
          · refine wpn_cT (congrArg Value.bool hb86) ?_
            refine wpn_assoc ?_
            refine wpn_q hO 7 [] [(89, .bool (((c78.1.length : Int) == 0) && (c78.2.1 == 0)))] (And.intro (And.intro rfl rfl) (fun _ => ar trivial)) fun j => ?_
            obtain ⟨c87, h88, hF⟩ := bind_some hF
            refine wpn_mid 2 (fun e' σ' => ∃ (τ' : Hp), agr [(91, .bool c87)] e' ∧ Obs τ' σ' [] ∧ Hp.le τ τ') ?_ ?_
            · have hF := h88
              rcases ite_some hF with ⟨hb89, hF⟩ | ⟨hb89, hF⟩
              · refine wpn_gT (congrArg (fun x => isB (.bool x) true) hb89) ?_
                obtain ⟨c90, h91, hF⟩ := bind_some hF
                refine wpn_c0 hO (zbS h91) rfl fun _ σ _ _ hO h92 h93 => ?_
                have hL := hL.trans h92
                obtain ⟨rfl, rfl⟩ := h93
                have hO : Obs _ _ [] := hO
                refine wpn_pk (congrArg Value.bool hb89) ?_
                refine wpn_nil ?_
                injection hF with hF
                subst hF
                refine wpn_end ?_
                exact ⟨rfl, _, ar (trivial), hO, hL⟩
              · refine wpn_gF (congrArg (fun x => isB (.bool x) true) hb89) ?_
                refine wpn_pk (congrArg Value.bool hb89) ?_
                refine wpn_nil ?_
                injection hF with hF
                subst hF
                refine wpn_end ?_
                exact ⟨rfl, _, ar (trivial), hO, hL⟩
            · rintro e σ ⟨_, hA, hO, hL⟩
              rw [← sets_agr _ _ hA]
              refine wpn_qa hO [] [(6, .bool c87)] (ar trivial) fun j => ?_
              refine wpn_rt ?_
              injection hF with hF
              subst hF
              exact hQ _ _ _ _ _ rfl hO hL ⟨rfl, rfl⟩
          · refine wpn_cF (congrArg Value.bool hb86) ?_
            refine wpn_sk ?_
            refine wpn_q hO 1 [] [(2, .slice A2 p2.length c2), (13, .slice A83 c78.1.length c84), (14, .int .i64 c78.2.1), (93, .slice A83 c78.1.length c84)] (ar (ar (ar (ar trivial)))) fun j => ?_
            obtain ⟨c94, h95, hF⟩ := bind_some hF
            refine wpn_c0 hO (zbM (RdT.nil Ty.u8 _) r85 h95) rfl fun _ σ _ _ hO h96 h97 => ?_
            have hL := hL.trans h96
            have r77 := r77.le h96
            have r85 := r85.le h96
            obtain ⟨v98, o101, rfl, rfl, w102⟩ := h97
            obtain ⟨A99, c100, rfl, -⟩ := w102.form
            have hO : Obs _ _ [_] := hO
            refine wpn_qa hO [] [(2, .slice A2 p2.length c2), (13, .slice A83 c78.1.length c84), (14, .int .i64 c78.2.1), (16, .slice A99 c94.1.length c100), (17, .int .i64 c94.2)] (ar (ar (ar (ar (ar trivial))))) fun j => ?_
            refine wpn_q hO 1 [] [(2, .slice A2 p2.length c2), (14, .int .i64 c78.2.1), (16, .slice A99 c94.1.length c100), (17, .int .i64 c94.2), (97, .slice A83 c78.1.length c84)] (ar (ar (ar (ar (ar trivial))))) fun j => ?_
            obtain ⟨c103, h104, hF⟩ := bind_some hF
            refine wpn_c0 hO (zB r85 h104) rfl fun _ σ _ _ hO h105 h106 => ?_
            have hL := hL.trans h105
            have r77 := r77.le h105
            have w102 := w102.le h105
            have r85 := r85.le h105
            obtain ⟨rfl, rfl⟩ := h106
            have hO : Obs _ _ [_] := hO
            refine wpn_q hO 10 [] [(2, .slice A2 p2.length c2), (14, .int .i64 c78.2.1), (16, .slice A99 c94.1.length c100), (113, .bool (((c103 && (c94.2 == 0)) && (decide (c78.2.1 ≥ 1))) && (decide (c78.2.1 ≤ (p2.length : Int)))))] (And.intro (And.intro rfl rfl) (fun _ => And.intro (And.intro rfl rfl) (fun _ => And.intro (And.intro rfl rfl) (fun _ => ar (ar (ar (ar trivial))))))) fun j => ?_
            obtain ⟨_, h108, r107, hO⟩ := w102.share hO (i := 0) rfl
            have hL := hL.trans h108
            have r77 := r77.le h108
            have hO : Obs _ _ [_] := hO
            have hO := hO.sel [] (by decide)
            have hO : Obs _ _ [] := hO
            obtain ⟨c109, h110, hF⟩ := bind_some hF
            refine wpn_mid 2 (fun e' σ' => ∃ (τ' : Hp), agr [(119, .bool c109)] e' ∧ Obs τ' σ' [] ∧ Hp.le τ τ') ?_ ?_
            · have hF := h110
              rcases ite_some hF with ⟨hb111, hF⟩ | ⟨hb111, hF⟩
              · refine wpn_gT (congrArg (fun x => isB (.bool x) true) hb111) ?_
                refine wpn_q hO 3 [] [(113, .bool (((c103 && (c94.2 == 0)) && (decide (c78.2.1 ≥ 1))) && (decide (c78.2.1 ≤ (p2.length : Int))))), (114, .slice A99 c94.1.length c100), (115, .slice A2 p2.length c2), (116, .int .i64 c78.2.1)] (ar (ar (ar (ar trivial)))) fun j => ?_
                obtain ⟨y112, g113, hF⟩ := bind_some hF
                refine wpn_sl (T := Ty.u8) r77 rfl rfl rfl g113 fun _ r114 => ?_
                obtain ⟨A115, c116, rfl, -⟩ := r114.form
                obtain ⟨c117, h118, hF⟩ := bind_some hF
                refine wpn_c0 hO (zcy r107 r114 h118) rfl fun _ σ _ _ hO h119 h120 => ?_
                have hL := hL.trans h119
                have r107 := r107.le h119
                have r77 := r77.le h119
                have r114 := r114.le h119
                obtain ⟨rfl, rfl⟩ := h120
                have hO : Obs _ _ [] := hO
                refine wpn_pk (congrArg Value.bool hb111) ?_
                refine wpn_nil ?_
                injection hF with hF
                subst hF
                refine wpn_end ?_
                exact ⟨rfl, _, ar (trivial), hO, hL⟩
              · refine wpn_gF (congrArg (fun x => isB (.bool x) true) hb111) ?_
                refine wpn_pk (congrArg Value.bool hb111) ?_
                refine wpn_nil ?_
                injection hF with hF
                subst hF
                refine wpn_end ?_
                exact ⟨rfl, _, ar (trivial), hO, hL⟩
            · rintro e σ ⟨_, hA, hO, hL⟩
              rw [← sets_agr _ _ hA]
              refine wpn_q hO 1 [] [(120, .bool c109)] (ar trivial) fun j => ?_
              obtain ⟨c121, h122, hF⟩ := bind_some hF
              refine wpn_mid 2 (fun e' σ' => ∃ (τ' : Hp), agr [(122, .bool c121)] e' ∧ Obs τ' σ' [] ∧ Hp.le τ τ') ?_ ?_
              · have hF := h122
                rcases ite_some hF with ⟨hb123, hF⟩ | ⟨hb123, hF⟩
                · refine wpn_gT (congrArg (fun x => isB (.bool x) true) hb123) ?_
                  obtain ⟨c124, h125, hF⟩ := bind_some hF
                  refine wpn_c0 hO (zbS h125) rfl fun _ σ _ _ hO h126 h127 => ?_
                  have hL := hL.trans h126
                  obtain ⟨rfl, rfl⟩ := h127
                  have hO : Obs _ _ [] := hO
                  refine wpn_pk (congrArg Value.bool hb123) ?_
                  refine wpn_nil ?_
                  injection hF with hF
                  subst hF
                  refine wpn_end ?_
                  exact ⟨rfl, _, ar (trivial), hO, hL⟩
                · refine wpn_gF (congrArg (fun x => isB (.bool x) true) hb123) ?_
                  refine wpn_pk (congrArg Value.bool hb123) ?_
                  refine wpn_nil ?_
                  injection hF with hF
                  subst hF
                  refine wpn_end ?_
                  exact ⟨rfl, _, ar (trivial), hO, hL⟩
              · rintro e σ ⟨_, hA, hO, hL⟩
                rw [← sets_agr _ _ hA]
                refine wpn_qa hO [] [(6, .bool c121)] (ar trivial) fun j => ?_
                refine wpn_r1 ?_
                injection hF with hF
                subst hF
                exact hQ _ _ _ _ _ rfl hO hL ⟨rfl, rfl⟩
end Go.Proofs.Ytjcehfjmmbbblaa
