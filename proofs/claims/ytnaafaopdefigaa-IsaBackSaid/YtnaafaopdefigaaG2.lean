import Derived.Test.YtnaafaopdefigaaF
import Derived.Test.YtnaafaopdefigaaAc0
import Derived.Test.YtnaafaopdefigaaM00
import Derived.Test.YtnaafaopdefigaaM02
import Derived.Test.YtnaafaopdefigaaG1
namespace Go.Proofs.Ytnaafaopdefigaa
open Go.Ab Go.RowKit
set_option linter.unusedVariables false
set_option linter.unusedSimpArgs false
set_option maxRecDepth 10000
theorem w_law03_IsaBack {τ : Hp} {v0 : Value} {p0 : (List UInt8)} {p1 : S_api_Instr} {v2 : Value} {p2 : (List UInt8)} (r0 : RdT Ty.u8 τ v0 p0) (r2 : RdT Ty.u8 τ v2 p2) {rr : Bool} (hF : F_law03_IsaBack p0 p1 p2 = some rr) :
    Ctr Try.prog 5 #[v0, .agg #[.int .u8 p1.Kind.toNat, .int .u8 p1.Op.toNat, .int .i64 p1.R, .int .i64 p1.S, .int .i64 p1.T, .int .i64 p1.N, .int .i64 p1.M], v2] τ [] (fun v τ' vs' => v = .bool rr ∧ vs' = []) := by
  obtain ⟨A0, c0, rfl, -⟩ := r0.form
  obtain ⟨A2, c2, rfl, -⟩ := r2.form
  refine ctr_of (args := [.slice A0 p0.length c0, .agg #[.int .u8 p1.Kind.toNat, .int .u8 p1.Op.toNat, .int .i64 p1.R, .int .i64 p1.S, .int .i64 p1.T, .int .i64 p1.N, .int .i64 p1.M], .slice A2 p2.length c2]) hm Try.func5 s5 rfl fun w0 σ hO Q hQ => ?_
  unfold F_law03_IsaBack at hF
  have hL := Hp.le.refl τ
  show wpn _ _ a5.body _ _ _
  unfold a5
  dsimp only
  refine wpn_bx (n := 7) hO rfl rfl fun b4 σ hO => ?_
  have hO : Obs _ _ [_] := hO
  refine wpn_qa hO [] [(0, .slice A0 p0.length c0), (2, .slice A2 p2.length c2), (4, .pointer (some ⟨b4, 0, none⟩))] (And.intro rfl (And.intro rfl (And.intro rfl trivial))) fun j => ?_
  refine wpn_assoc ?_
  refine wpn_qa hO [] [(0, .slice A0 p0.length c0), (2, .slice A2 p2.length c2), (4, .pointer (some ⟨b4, 0, none⟩)), (26, .bool ((decide ((p0.length : Int) > 1024)) || (decide ((p2.length : Int) > 1024))))] (And.intro (And.intro rfl rfl) (fun _ => And.intro rfl (And.intro rfl (And.intro rfl (And.intro rfl trivial))))) fun j => ?_
  rcases ite_some hF with ⟨hb5, hF⟩ | ⟨hb5, hF⟩
  · refine wpn_cT (congrArg Value.bool hb5) ?_
    refine wpn_assoc ?_
    obtain ⟨c6, h7, hF⟩ := bind_some hF
    refine wpn_c0 hO (w_law03_works h7) rfl fun _ σ _ _ hO h8 h9 => ?_
    have hL := hL.trans h8
    have r0 := r0.le h8
    have r2 := r2.le h8
    obtain ⟨rfl, rfl⟩ := h9
    have hO : Obs _ _ [_] := hO
    refine wpn_qa hO [] [(6, .bool c6)] (And.intro rfl trivial) fun j => ?_
    refine wpn_rt ?_
    injection hF with hF
    subst hF
    have hO := hO.sel [] (by decide)
    exact hQ _ _ _ _ _ rfl hO hL ⟨rfl, rfl⟩
  · refine wpn_cF (congrArg Value.bool hb5) ?_
    refine wpn_sk ?_
    refine wpn_qa hO [] [(0, .slice A0 p0.length c0), (2, .slice A2 p2.length c2), (4, .pointer (some ⟨b4, 0, none⟩)), (7, .int .i64 (p0.length : Int))] (And.intro rfl (And.intro rfl (And.intro rfl (And.intro rfl trivial)))) fun j => ?_
    refine wpn_q hO 2 [0] [(0, .slice A0 p0.length c0), (2, .slice A2 p2.length c2), (4, .pointer (some ⟨b4, 0, none⟩)), (7, .int .i64 (p0.length : Int)), (30, .slice A0 p0.length c0), (31, .agg #[(.int .u8 (p1.Kind.toNat : Int)), (.int .u8 (p1.Op.toNat : Int)), (.int .i64 p1.R), (.int .i64 p1.S), (.int .i64 p1.T), (.int .i64 p1.N), (.int .i64 p1.M)])] (And.intro (And.intro rfl rfl) (And.intro rfl (And.intro rfl (And.intro rfl (And.intro rfl (And.intro rfl (And.intro rfl trivial))))))) fun j => ?_
    obtain ⟨c10, h11, hF⟩ := bind_some hF
    refine wpn_c0 hO (w_isa_Put r0 h11) rfl fun _ σ _ _ hO h12 h13 => ?_
    have hL := hL.trans h12
    have r0 := r0.le h12
    have r2 := r2.le h12
    obtain ⟨v14, o17, rfl, rfl, w18⟩ := h13
    obtain ⟨A15, c16, rfl, -⟩ := w18.form
    have hO : Obs _ _ [_, _] := hO
    refine wpn_qa hO [] [(0, .slice A0 p0.length c0), (2, .slice A2 p2.length c2), (4, .pointer (some ⟨b4, 0, none⟩)), (7, .int .i64 (p0.length : Int)), (8, .slice A15 c10.length c16)] (And.intro rfl (And.intro rfl (And.intro rfl (And.intro rfl (And.intro rfl trivial))))) fun j => ?_
    refine wpn_assoc ?_
    refine wpn_q hO 1 [0] [(0, .slice A0 p0.length c0), (2, .slice A2 p2.length c2), (4, .pointer (some ⟨b4, 0, none⟩)), (7, .int .i64 (p0.length : Int)), (8, .slice A15 c10.length c16), (33, .agg #[(.int .u8 (p1.Kind.toNat : Int)), (.int .u8 (p1.Op.toNat : Int)), (.int .i64 p1.R), (.int .i64 p1.S), (.int .i64 p1.T), (.int .i64 p1.N), (.int .i64 p1.M)])] (And.intro (And.intro rfl rfl) (And.intro rfl (And.intro rfl (And.intro rfl (And.intro rfl (And.intro rfl (And.intro rfl trivial))))))) fun j => ?_
    obtain ⟨c19, h20, hF⟩ := bind_some hF
    refine wpn_c0 hO (w_isa_Right h20) rfl fun _ σ _ _ hO h21 h22 => ?_
    have hL := hL.trans h21
    have r0 := r0.le h21
    have r2 := r2.le h21
    have w18 := w18.le h21
    obtain ⟨rfl, rfl⟩ := h22
    have hO : Obs _ _ [_, _] := hO
    refine wpn_qa hO [] [(0, .slice A0 p0.length c0), (2, .slice A2 p2.length c2), (4, .pointer (some ⟨b4, 0, none⟩)), (7, .int .i64 (p0.length : Int)), (8, .slice A15 c10.length c16), (35, .bool (!c19))] (And.intro rfl (And.intro rfl (And.intro rfl (And.intro rfl (And.intro rfl (And.intro rfl trivial)))))) fun j => ?_
    rcases ite_some hF with ⟨hb23, hF⟩ | ⟨hb23, hF⟩
    · refine wpn_cT (congrArg Value.bool hb23) ?_
      refine wpn_assoc ?_
      refine wpn_q hO 2 [] [(4, .pointer (some ⟨b4, 0, none⟩)), (36, .slice A15 c10.length c16), (37, .slice A0 p0.length c0)] (And.intro rfl (And.intro rfl (And.intro rfl trivial))) fun j => ?_
      obtain ⟨_, h25, r24, hO⟩ := w18.share hO (i := 1) rfl
      have hL := hL.trans h25
      have r0 := r0.le h25
      have hO : Obs _ _ [_, _] := hO
      obtain ⟨c26, h27, hF⟩ := bind_some hF
      refine wpn_c0 hO (w_ref00_EqBytes r24 r0 h27) rfl fun _ σ _ _ hO h28 h29 => ?_
      have hL := hL.trans h28
      have r24 := r24.le h28
      have r0 := r0.le h28
      obtain ⟨rfl, rfl⟩ := h29
      have hO : Obs _ _ [_, _] := hO
      refine wpn_q hO 1 [] [(4, .pointer (some ⟨b4, 0, none⟩)), (39, .bool c26)] (And.intro rfl (And.intro rfl trivial)) fun j => ?_
      have hO := hO.sel [0] (by decide)
      have hO : Obs _ _ [_] := hO
      obtain ⟨c30, h31, hF⟩ := bind_some hF
      refine wpn_mid 2 (fun e' σ' => ∃ (τ' : Hp), agr [(43, .bool c30)] e' ∧ Obs τ' σ' [some (b4, ⟨[.int .u8 (p1.Kind.toNat : Int), .int .u8 (p1.Op.toNat : Int), .int .i64 p1.R, .int .i64 p1.S, .int .i64 p1.T, .int .i64 p1.N, .int .i64 p1.M], 24, 7, true⟩)] ∧ Hp.le τ τ') ?_ ?_
      · have hF := h31
        rcases ite_some hF with ⟨hb32, hF⟩ | ⟨hb32, hF⟩
        · refine wpn_gT (congrArg (fun x => isB (.bool x) true) hb32) ?_
          refine wpn_q hO 1 [0] [(39, .bool c26), (40, .agg #[(.int .u8 (p1.Kind.toNat : Int)), (.int .u8 (p1.Op.toNat : Int)), (.int .i64 p1.R), (.int .i64 p1.S), (.int .i64 p1.T), (.int .i64 p1.N), (.int .i64 p1.M)])] (And.intro (And.intro rfl rfl) (And.intro rfl (And.intro rfl trivial))) fun j => ?_
          obtain ⟨c33, h34, hF⟩ := bind_some hF
          refine wpn_c0 hO (w_isa_Size h34) rfl fun _ σ _ _ hO h35 h36 => ?_
          have hL := hL.trans h35
          obtain ⟨rfl, rfl⟩ := h36
          have hO : Obs _ _ [_] := hO
          refine wpn_q hO 1 [] [(39, .bool c26), (42, .bool (c33 == 0))] (And.intro rfl (And.intro rfl trivial)) fun j => ?_
          refine wpn_pk (congrArg Value.bool hb32) ?_
          refine wpn_nil ?_
          injection hF with hF
          subst hF
          refine wpn_end ?_
          exact ⟨rfl, _, And.intro rfl (trivial), hO, hL⟩
        · refine wpn_gF (congrArg (fun x => isB (.bool x) true) hb32) ?_
          refine wpn_pk (congrArg Value.bool hb32) ?_
          refine wpn_nil ?_
          injection hF with hF
          subst hF
          refine wpn_end ?_
          exact ⟨rfl, _, And.intro rfl (trivial), hO, hL⟩
      · rintro e σ ⟨_, hA, hO, hL⟩
        rw [← sets_agr _ _ hA]
        refine wpn_q hO 1 [] [(44, .bool c30)] (And.intro rfl trivial) fun j => ?_
        have hO := hO.sel [] (by decide)
        have hO : Obs _ _ [] := hO
        obtain ⟨c37, h38, hF⟩ := bind_some hF
        refine wpn_mid 2 (fun e' σ' => ∃ (τ' : Hp), agr [(46, .bool c37)] e' ∧ Obs τ' σ' [] ∧ Hp.le τ τ') ?_ ?_
        · have hF := h38
          rcases ite_some hF with ⟨hb39, hF⟩ | ⟨hb39, hF⟩
          · refine wpn_gT (congrArg (fun x => isB (.bool x) true) hb39) ?_
            obtain ⟨c40, h41, hF⟩ := bind_some hF
            refine wpn_c0 hO (w_law03_works h41) rfl fun _ σ _ _ hO h42 h43 => ?_
            have hL := hL.trans h42
            obtain ⟨rfl, rfl⟩ := h43
            have hO : Obs _ _ [] := hO
            refine wpn_pk (congrArg Value.bool hb39) ?_
            refine wpn_nil ?_
            injection hF with hF
            subst hF
            refine wpn_end ?_
            exact ⟨rfl, _, And.intro rfl (trivial), hO, hL⟩
          · refine wpn_gF (congrArg (fun x => isB (.bool x) true) hb39) ?_
            refine wpn_pk (congrArg Value.bool hb39) ?_
            refine wpn_nil ?_
            injection hF with hF
            subst hF
            refine wpn_end ?_
            exact ⟨rfl, _, And.intro rfl (trivial), hO, hL⟩
        · rintro e σ ⟨_, hA, hO, hL⟩
          rw [← sets_agr _ _ hA]
          refine wpn_qa hO [] [(6, .bool c37)] (And.intro rfl trivial) fun j => ?_
          refine wpn_rt ?_
          injection hF with hF
          subst hF
          exact hQ _ _ _ _ _ rfl hO hL ⟨rfl, rfl⟩
    · refine wpn_cF (congrArg Value.bool hb23) ?_
      refine wpn_sk ?_
      refine wpn_q hO 1 [] [(2, .slice A2 p2.length c2), (4, .pointer (some ⟨b4, 0, none⟩)), (7, .int .i64 (p0.length : Int)), (8, .slice A15 c10.length c16), (48, .slice A15 c10.length c16)] (And.intro rfl (And.intro rfl (And.intro rfl (And.intro rfl (And.intro rfl trivial))))) fun j => ?_
      obtain ⟨_, h45, r44, hO⟩ := w18.share hO (i := 1) rfl
      have hL := hL.trans h45
      have r2 := r2.le h45
      have hO : Obs _ _ [_, _] := hO
      obtain ⟨c46, h47, hF⟩ := bind_some hF
      refine wpn_c0 hO (w_ref00_CopyBytes r44 h47) rfl fun _ σ _ _ hO h48 h49 => ?_
      have hL := hL.trans h48
      have r2 := r2.le h48
      have r44 := r44.le h48
      obtain ⟨v50, o53, rfl, rfl, w54⟩ := h49
      obtain ⟨A51, c52, rfl, -⟩ := w54.form
      have hO : Obs _ _ [_, _, _] := hO
      refine wpn_q hO 1 [] [(2, .slice A2 p2.length c2), (4, .pointer (some ⟨b4, 0, none⟩)), (7, .int .i64 (p0.length : Int)), (8, .slice A15 c10.length c16), (49, .slice A51 c46.length c52), (50, .slice A2 p2.length c2)] (And.intro rfl (And.intro rfl (And.intro rfl (And.intro rfl (And.intro rfl (And.intro rfl trivial)))))) fun j => ?_
      obtain ⟨_, hr, hF⟩ := bind_some hF
      refine wpn_apl (T := Ty.u8) hO w54 (i := 2) rfl rfl rfl r2 hr (by decide) fun _ σ o57 w58 hO => ?_
      obtain ⟨A55, c56, rfl, -⟩ := w58.form
      have hO : Obs _ _ [_, _, _] := hO
      refine wpn_q hO 1 [] [(2, .slice A2 p2.length c2), (4, .pointer (some ⟨b4, 0, none⟩)), (7, .int .i64 (p0.length : Int)), (8, .slice A15 c10.length c16), (51, .slice A55 (c46 ++ p2).length c56), (52, .int .i64 (p0.length : Int))] (And.intro rfl (And.intro rfl (And.intro rfl (And.intro rfl (And.intro rfl (And.intro rfl trivial)))))) fun j => ?_
      obtain ⟨_, h60, r59, hO⟩ := w58.share hO (i := 2) rfl
      have hL := hL.trans h60
      have r2 := r2.le h60
      have r44 := r44.le h60
      have hO : Obs _ _ [_, _, _] := hO
      obtain ⟨c61, h62, hF⟩ := bind_some hF
      refine wpn_c0 hO (w_isa_Get r59 h62) rfl fun _ σ _ _ hO h63 h64 => ?_
      have hL := hL.trans h63
      have r2 := r2.le h63
      have r44 := r44.le h63
      have r59 := r59.le h63
      obtain ⟨rfl, rfl⟩ := h64
      have hO : Obs _ _ [_, _, _] := hO
      refine wpn_q hO 4 [] [(2, .slice A2 p2.length c2), (4, .pointer (some ⟨b4, 0, none⟩)), (7, .int .i64 (p0.length : Int)), (8, .slice A15 c10.length c16), (54, .agg #[(.int .u8 (c61.1.Kind.toNat : Int)), (.int .u8 (c61.1.Op.toNat : Int)), (.int .i64 c61.1.R), (.int .i64 c61.1.S), (.int .i64 c61.1.T), (.int .i64 c61.1.N), (.int .i64 c61.1.M)]), (55, .int .i64 c61.2.1), (56, .int .i64 c61.2.2)] (And.intro rfl (And.intro rfl (And.intro rfl (And.intro rfl (And.intro rfl (And.intro rfl (And.intro rfl trivial))))))) fun j => ?_
      refine wpn_al hO fun b65 σ hO => ?_
      have hO : Obs _ _ [_, _, _, _] := hO
      refine wpn_st hO (i := 3) rfl (off := 0) rfl rfl rfl rfl (Nat.le_of_ble_eq_true rfl) rfl fun σ hO => ?_
      have hO : Obs _ _ [_, _, _, _] := hO
      refine wpn_qa hO [] [(2, .slice A2 p2.length c2), (4, .pointer (some ⟨b4, 0, none⟩)), (7, .int .i64 (p0.length : Int)), (8, .slice A15 c10.length c16), (9, .pointer (some ⟨b65, 0, none⟩)), (10, .int .i64 c61.2.1), (11, .int .i64 c61.2.2)] (And.intro rfl (And.intro rfl (And.intro rfl (And.intro rfl (And.intro rfl (And.intro rfl (And.intro rfl trivial))))))) fun j => ?_
      refine wpn_assoc ?_
      refine wpn_q hO 10 [3, 0] [(2, .slice A2 p2.length c2), (4, .pointer (some ⟨b4, 0, none⟩)), (7, .int .i64 (p0.length : Int)), (8, .slice A15 c10.length c16), (70, .bool (((!(( (c61.1.Kind.toNat : Int) == (p1.Kind.toNat : Int)) && (( (c61.1.Op.toNat : Int) == (p1.Op.toNat : Int)) && (( c61.1.R == p1.R) && (( c61.1.S == p1.S) && (( c61.1.T == p1.T) && (( c61.1.N == p1.N) && (( c61.1.M == p1.M) && true)))))))) || (c61.2.1 != (c10.length : Int))) || (c61.2.2 != 0)))] (And.intro (And.intro rfl rfl) (And.intro (And.intro rfl rfl) (And.intro (And.intro rfl rfl) (fun _ => And.intro (And.intro rfl rfl) (fun _ => And.intro rfl (And.intro rfl (And.intro rfl (And.intro rfl (And.intro rfl trivial))))))))) fun j => ?_
      have hO := hO.sel [0] (by decide)
      have hO : Obs _ _ [_] := hO
      obtain ⟨c66, h67, hF⟩ := bind_some hF
      refine wpn_mid 2 (fun e' σ' => ∃ (τ' : Hp), agr [(78, .bool c66), (2, .slice A2 p2.length c2), (7, .int .i64 (p0.length : Int)), (8, .slice A15 c10.length c16)] e' ∧ Obs τ' σ' [some (b4, ⟨[.int .u8 (p1.Kind.toNat : Int), .int .u8 (p1.Op.toNat : Int), .int .i64 p1.R, .int .i64 p1.S, .int .i64 p1.T, .int .i64 p1.N, .int .i64 p1.M], 24, 7, true⟩)] ∧ Hp.le τ τ' ∧ RdT Ty.u8 τ' (.slice A2 p2.length c2) p2 ∧ RdT Ty.u8 τ' (.slice A15 c10.length c16) c10) ?_ ?_
      · have hF := h67
        rcases ite_some hF with ⟨hb68, hF⟩ | ⟨hb68, hF⟩
        · refine wpn_gF (congrArg (fun x => isB (.bool x) false) hb68) ?_
          refine wpn_pk (congrArg Value.bool hb68) ?_
          refine wpn_nil ?_
          injection hF with hF
          subst hF
          refine wpn_end ?_
          exact ⟨rfl, _, And.intro rfl (And.intro rfl (And.intro rfl (And.intro rfl trivial))), hO, hL, r2, r44⟩
        · refine wpn_gT (congrArg (fun x => isB (.bool x) false) hb68) ?_
          refine wpn_q hO 1 [0] [(2, .slice A2 p2.length c2), (7, .int .i64 (p0.length : Int)), (8, .slice A15 c10.length c16), (70, .bool (((!(( (c61.1.Kind.toNat : Int) == (p1.Kind.toNat : Int)) && (( (c61.1.Op.toNat : Int) == (p1.Op.toNat : Int)) && (( c61.1.R == p1.R) && (( c61.1.S == p1.S) && (( c61.1.T == p1.T) && (( c61.1.N == p1.N) && (( c61.1.M == p1.M) && true)))))))) || (c61.2.1 != (c10.length : Int))) || (c61.2.2 != 0))), (71, .agg #[(.int .u8 (p1.Kind.toNat : Int)), (.int .u8 (p1.Op.toNat : Int)), (.int .i64 p1.R), (.int .i64 p1.S), (.int .i64 p1.T), (.int .i64 p1.N), (.int .i64 p1.M)])] (And.intro (And.intro rfl rfl) (And.intro rfl (And.intro rfl (And.intro rfl (And.intro rfl (And.intro rfl trivial)))))) fun j => ?_
          obtain ⟨c69, h70, hF⟩ := bind_some hF
          refine wpn_c0 hO (w_isa_Size h70) rfl fun _ σ _ _ hO h71 h72 => ?_
          have hL := hL.trans h71
          have r2 := r2.le h71
          have r44 := r44.le h71
          obtain ⟨rfl, rfl⟩ := h72
          have hO : Obs _ _ [_] := hO
          refine wpn_q hO 5 [] [(2, .slice A2 p2.length c2), (7, .int .i64 (p0.length : Int)), (8, .slice A15 c10.length c16), (70, .bool (((!(( (c61.1.Kind.toNat : Int) == (p1.Kind.toNat : Int)) && (( (c61.1.Op.toNat : Int) == (p1.Op.toNat : Int)) && (( c61.1.R == p1.R) && (( c61.1.S == p1.S) && (( c61.1.T == p1.T) && (( c61.1.N == p1.N) && (( c61.1.M == p1.M) && true)))))))) || (c61.2.1 != (c10.length : Int))) || (c61.2.2 != 0))), (77, .bool (c69 != (IntKind.i64.wrap ((c10.length : Int) - (p0.length : Int)))))] (And.intro rfl (And.intro rfl (And.intro rfl (And.intro rfl (And.intro rfl trivial))))) fun j => ?_
          refine wpn_pk (congrArg Value.bool hb68) ?_
          refine wpn_nil ?_
          injection hF with hF
          subst hF
          refine wpn_end ?_
          exact ⟨rfl, _, And.intro rfl (And.intro rfl (And.intro rfl (And.intro rfl trivial))), hO, hL, r2, r44⟩
      · rintro e σ ⟨_, hA, hO, hL, r2, r44⟩
        rw [← sets_agr _ _ hA]
        refine wpn_qa hO [] [(2, .slice A2 p2.length c2), (7, .int .i64 (p0.length : Int)), (8, .slice A15 c10.length c16), (92, .bool ((c66 || (decide ((IntKind.i64.wrap ((c10.length : Int) - (p0.length : Int))) < 1))) || (decide ((IntKind.i64.wrap ((c10.length : Int) - (p0.length : Int))) > 12))))] (And.intro (And.intro rfl rfl) (fun _ => And.intro (And.intro rfl rfl) (fun _ => And.intro rfl (And.intro rfl (And.intro rfl (And.intro rfl trivial)))))) fun j => ?_
        rcases ite_some hF with ⟨hb73, hF⟩ | ⟨hb73, hF⟩
        · refine wpn_cT (congrArg Value.bool hb73) ?_
          refine wpn_assoc ?_
          refine wpn_qa hO [] [(6, .bool false)] (And.intro rfl trivial) fun j => ?_
          refine wpn_rt ?_
          injection hF with hF
          subst hF
          have hO := hO.sel [] (by decide)
          exact hQ _ _ _ _ _ rfl hO hL ⟨rfl, rfl⟩
        · refine wpn_cF (congrArg Value.bool hb73) ?_
          refine wpn_sk ?_
          refine wpn_assoc ?_
          refine wpn_qa hO [] [(2, .slice A2 p2.length c2), (7, .int .i64 (p0.length : Int)), (8, .slice A15 c10.length c16), (12, .int .i64 (p0.length : Int))] (And.intro rfl (And.intro rfl (And.intro rfl (And.intro rfl trivial)))) fun j => ?_
          refine wpn_bl ?_
          have hO := hO.sel [] (by decide)
          refine wpn_lp (fun (n : Nat) e' σ' => ∃ (x201 : Int) (τ' : Hp), agr [(2, .slice A2 p2.length c2), (7, .int .i64 (p0.length : Int)), (8, .slice A15 c10.length c16), (12, .int .i64 x201)] e' ∧ Obs τ' σ' [] ∧ Hp.le τ τ' ∧ RdT Ty.u8 τ' (.slice A2 p2.length c2) p2 ∧ RdT Ty.u8 τ' (.slice A15 c10.length c16) c10 ∧ F_law03_IsaBack_l3 p0 p2 c10 n x201 = some rr) big ⟨(p0.length : Int), _, And.intro rfl (And.intro rfl (And.intro rfl (And.intro rfl trivial))), hO, hL, r2, r44, hF⟩ ?_
          clear hF hO hL
          rintro n325 e σ ⟨x201, _, hA, hO, hL, r199, r200, hF⟩
          rw [← sets_agr _ _ hA]
          cases n325 with
          | zero => exact nomatch (show none = some rr from hF)
          | succ n325 =>
            replace hF : F_law03_IsaBack_l3B (F_law03_IsaBack_l3 p0 p2 c10 n325) p0 p2 c10 x201 = some rr := hF
            unfold F_law03_IsaBack_l3B at hF
            refine wpn_assoc ?_
            refine wpn_qa hO [] [(2, .slice A2 p2.length c2), (7, .int .i64 (p0.length : Int)), (8, .slice A15 c10.length c16), (12, .int .i64 x201), (97, .bool (decide (x201 < (c10.length : Int))))] (And.intro rfl (And.intro rfl (And.intro rfl (And.intro rfl (And.intro rfl trivial))))) fun j => ?_
            rcases ite_some hF with ⟨hb326, hF⟩ | ⟨hb326, hF⟩
            · refine wpn_cT (congrArg Value.bool hb326) ?_
              refine wpn_sk ?_
              refine wpn_bl ?_
              refine wpn_q hO 2 [] [(2, .slice A2 p2.length c2), (7, .int .i64 (p0.length : Int)), (8, .slice A15 c10.length c16), (12, .int .i64 x201), (101, .slice A15 c10.length c16), (102, .int .i64 x201)] (And.intro rfl (And.intro rfl (And.intro rfl (And.intro rfl (And.intro rfl (And.intro rfl trivial)))))) fun j => ?_
              obtain ⟨y327, g328, hF⟩ := bind_some hF
              refine wpn_sl (T := Ty.u8) r200 rfl rfl rfl g328 fun _ r329 => ?_
              obtain ⟨A330, c331, rfl, -⟩ := r329.form
              refine wpn_q hO 1 [] [(2, .slice A2 p2.length c2), (7, .int .i64 (p0.length : Int)), (8, .slice A15 c10.length c16), (12, .int .i64 x201), (103, .slice A330 y327.length c331), (104, .int .i64 (p0.length : Int))] (And.intro rfl (And.intro rfl (And.intro rfl (And.intro rfl (And.intro rfl (And.intro rfl trivial)))))) fun j => ?_
              obtain ⟨c332, h333, hF⟩ := bind_some hF
              refine wpn_c0 hO (w_isa_Get r329 h333) rfl fun _ σ _ _ hO h334 h335 => ?_
              have hL := hL.trans h334
              have r199 := r199.le h334
              have r200 := r200.le h334
              have r329 := r329.le h334
              obtain ⟨rfl, rfl⟩ := h335
              have hO : Obs _ _ [] := hO
              refine wpn_q hO 4 [] [(2, .slice A2 p2.length c2), (7, .int .i64 (p0.length : Int)), (8, .slice A15 c10.length c16), (12, .int .i64 x201), (106, .agg #[(.int .u8 (c332.1.Kind.toNat : Int)), (.int .u8 (c332.1.Op.toNat : Int)), (.int .i64 c332.1.R), (.int .i64 c332.1.S), (.int .i64 c332.1.T), (.int .i64 c332.1.N), (.int .i64 c332.1.M)]), (107, .int .i64 c332.2.1), (108, .int .i64 c332.2.2)] (And.intro rfl (And.intro rfl (And.intro rfl (And.intro rfl (And.intro rfl (And.intro rfl (And.intro rfl trivial))))))) fun j => ?_
              refine wpn_al hO fun b336 σ hO => ?_
              have hO : Obs _ _ [_] := hO
              refine wpn_st hO (i := 0) rfl (off := 0) rfl rfl rfl rfl (Nat.le_of_ble_eq_true rfl) rfl fun σ hO => ?_
              have hO : Obs _ _ [_] := hO
              refine wpn_qa hO [] [(2, .slice A2 p2.length c2), (7, .int .i64 (p0.length : Int)), (8, .slice A15 c10.length c16), (12, .int .i64 x201), (15, .int .i64 c332.2.2)] (And.intro rfl (And.intro rfl (And.intro rfl (And.intro rfl (And.intro rfl trivial))))) fun j => ?_
              refine wpn_qa hO [] [(2, .slice A2 p2.length c2), (7, .int .i64 (p0.length : Int)), (8, .slice A15 c10.length c16), (12, .int .i64 x201), (110, .bool (c332.2.2 == 0))] (And.intro rfl (And.intro rfl (And.intro rfl (And.intro rfl (And.intro rfl trivial))))) fun j => ?_
              refine wpn_clast ?_
              rcases ite_some hF with ⟨hb337, hF⟩ | ⟨hb337, hF⟩
              · refine wpn_cT (congrArg Value.bool hb337) ?_
                refine wpn_assoc ?_
                refine wpn_qa hO [] [(6, .bool false)] (And.intro rfl trivial) fun j => ?_
                refine wpn_rt ?_
                refine inb_r1 ?_
                refine thn_r1 ?_
                refine thn_r1 ?_
                refine inb_r1 ?_
                refine thn_r1 ?_
                injection hF with hF
                subst hF
                have hO := hO.sel [] (by decide)
                exact hQ _ _ _ _ _ rfl hO hL ⟨rfl, rfl⟩
              · refine wpn_cF (congrArg Value.bool hb337) ?_
                refine wpn_sk ?_
                refine wpn_end ?_
                refine inb_i ?_
                refine thn_i ?_
                refine wpn_rlast ?_
                refine wpn_qa hO [] [(2, .slice A2 p2.length c2), (7, .int .i64 (p0.length : Int)), (8, .slice A15 c10.length c16), (12, .int .i64 (IntKind.i64.wrap (x201 + 1)))] (And.intro rfl (And.intro rfl (And.intro rfl (And.intro rfl trivial)))) fun j => ?_
                refine wpn_end ?_
                refine thn_i ?_
                have hO := hO.sel [] (by decide)
                exact ⟨n325, Nat.lt_succ_self _, (IntKind.i64.wrap (x201 + 1)), _, And.intro rfl (And.intro rfl (And.intro rfl (And.intro rfl trivial))), hO, hL, r199, r200, hF⟩
            · refine wpn_cF (congrArg Value.bool hb326) ?_
              refine wpn_ex ?_
              refine thn_x ?_
              refine inb_x ?_
              refine thn_i ?_
              refine wpn_q hO 1 [] [(2, .slice A2 p2.length c2), (112, .slice A2 p2.length c2)] (And.intro rfl (And.intro rfl trivial)) fun j => ?_
              obtain ⟨c338, h339, hF⟩ := bind_some hF
              refine wpn_c0 hO (w_isa_Get r199 h339) rfl fun _ σ _ _ hO h340 h341 => ?_
              have hL := hL.trans h340
              have r199 := r199.le h340
              obtain ⟨rfl, rfl⟩ := h341
              have hO : Obs _ _ [] := hO
              refine wpn_q hO 4 [] [(2, .slice A2 p2.length c2), (114, .agg #[(.int .u8 (c338.1.Kind.toNat : Int)), (.int .u8 (c338.1.Op.toNat : Int)), (.int .i64 c338.1.R), (.int .i64 c338.1.S), (.int .i64 c338.1.T), (.int .i64 c338.1.N), (.int .i64 c338.1.M)]), (115, .int .i64 c338.2.1), (116, .int .i64 c338.2.2)] (And.intro rfl (And.intro rfl (And.intro rfl (And.intro rfl trivial)))) fun j => ?_
              refine wpn_al hO fun b342 σ hO => ?_
              have hO : Obs _ _ [_] := hO
              refine wpn_st hO (i := 0) rfl (off := 0) rfl rfl rfl rfl (Nat.le_of_ble_eq_true rfl) rfl fun σ hO => ?_
              have hO : Obs _ _ [_] := hO
              refine wpn_qa hO [] [(2, .slice A2 p2.length c2), (16, .pointer (some ⟨b342, 0, none⟩)), (17, .int .i64 c338.2.1), (18, .int .i64 c338.2.2)] (And.intro rfl (And.intro rfl (And.intro rfl (And.intro rfl trivial)))) fun j => ?_
              refine wpn_assoc ?_
              refine wpn_p2r ?_
              refine wpn_q hO 3 [] [(2, .slice A2 p2.length c2), (16, .pointer (some ⟨b342, 0, none⟩)), (17, .int .i64 c338.2.1), (18, .int .i64 c338.2.2), (119, .bool (c338.2.2 == 0))] (And.intro rfl (And.intro rfl (And.intro rfl (And.intro rfl (And.intro rfl trivial))))) fun j => ?_
              obtain ⟨c343, h344, hF⟩ := bind_some hF
              refine wpn_mid 8 (fun e' σ' => ∃ (τ' : Hp), agr [(142, .bool c343), (16, .pointer (some ⟨b342, 0, none⟩)), (17, .int .i64 c338.2.1), (18, .int .i64 c338.2.2)] e' ∧ Obs τ' σ' [some (b342, ⟨[.int .u8 (c338.1.Kind.toNat : Int), .int .u8 (c338.1.Op.toNat : Int), .int .i64 c338.1.R, .int .i64 c338.1.S, .int .i64 c338.1.T, .int .i64 c338.1.N, .int .i64 c338.1.M], 24, 7, true⟩)] ∧ Hp.le τ τ') ?_ ?_
              · have hF := h344
                rcases ite_some hF with ⟨hb345, hF⟩ | ⟨hb345, hF⟩
                · refine wpn_gT (congrArg (fun x => isB (.bool x) true) hb345) ?_
                  refine wpn_q hO 1 [0] [(2, .slice A2 p2.length c2), (16, .pointer (some ⟨b342, 0, none⟩)), (17, .int .i64 c338.2.1), (18, .int .i64 c338.2.2), (119, .bool (c338.2.2 == 0)), (120, .agg #[(.int .u8 (c338.1.Kind.toNat : Int)), (.int .u8 (c338.1.Op.toNat : Int)), (.int .i64 c338.1.R), (.int .i64 c338.1.S), (.int .i64 c338.1.T), (.int .i64 c338.1.N), (.int .i64 c338.1.M)])] (And.intro (And.intro rfl rfl) (And.intro rfl (And.intro rfl (And.intro rfl (And.intro rfl (And.intro rfl (And.intro rfl trivial))))))) fun j => ?_
                  obtain ⟨c346, h347, hF⟩ := bind_some hF
                  refine wpn_c0 hO (w_isa_Right h347) rfl fun _ σ _ _ hO h348 h349 => ?_
                  have hL := hL.trans h348
                  have r199 := r199.le h348
                  obtain ⟨rfl, rfl⟩ := h349
                  have hO : Obs _ _ [_] := hO
                  refine wpn_q hO 2 [] [(2, .slice A2 p2.length c2), (16, .pointer (some ⟨b342, 0, none⟩)), (17, .int .i64 c338.2.1), (18, .int .i64 c338.2.2), (119, .bool (c338.2.2 == 0)), (123, .bool (!c346))] (And.intro rfl (And.intro rfl (And.intro rfl (And.intro rfl (And.intro rfl (And.intro rfl trivial)))))) fun j => ?_
                  rcases ite_some hF with ⟨hb350, hF⟩ | ⟨hb350, hF⟩
                  · refine wpn_gF (congrArg (fun x => isB (.bool x) false) hb350) ?_
                    refine wpn_gT (congrArg (fun x => isB (.bool x) true) hb345) ?_
                    refine wpn_pk (congrArg Value.bool hb350) ?_
                    refine wpn_q hO 1 [] [(2, .slice A2 p2.length c2), (16, .pointer (some ⟨b342, 0, none⟩)), (17, .int .i64 c338.2.1), (18, .int .i64 c338.2.2), (119, .bool (c338.2.2 == 0)), (127, .bool true)] (And.intro rfl (And.intro rfl (And.intro rfl (And.intro rfl (And.intro rfl (And.intro rfl trivial)))))) fun j => ?_
                    rcases ite_some hF with ⟨hb351, hF⟩ | ⟨hb351, hF⟩
                    · refine wpn_gF (congrArg (fun x => isB (.bool x) false) hb351) ?_
                      refine wpn_gT (congrArg (fun x => isB (.bool x) true) hb345) ?_
                      refine wpn_pk (congrArg Value.bool hb351) ?_
                      refine wpn_q hO 1 [] [(2, .slice A2 p2.length c2), (16, .pointer (some ⟨b342, 0, none⟩)), (17, .int .i64 c338.2.1), (18, .int .i64 c338.2.2), (119, .bool (c338.2.2 == 0)), (133, .bool true)] (And.intro rfl (And.intro rfl (And.intro rfl (And.intro rfl (And.intro rfl (And.intro rfl trivial)))))) fun j => ?_
                      rcases ite_some hF with ⟨hb352, hF⟩ | ⟨hb352, hF⟩
                      · refine wpn_gF (congrArg (fun x => isB (.bool x) false) hb352) ?_
                        refine wpn_gT (congrArg (fun x => isB (.bool x) true) hb345) ?_
                        refine wpn_pk (congrArg Value.bool hb352) ?_
                        refine wpn_pk (congrArg Value.bool hb345) ?_
                        refine wpn_nil ?_
                        injection hF with hF
                        subst hF
                        refine wpn_end ?_
                        exact ⟨rfl, _, And.intro rfl (And.intro rfl (And.intro rfl (And.intro rfl trivial))), hO, hL⟩
                      · refine wpn_gT (congrArg (fun x => isB (.bool x) false) hb352) ?_
                        refine wpn_q hO 3 [0] [(16, .pointer (some ⟨b342, 0, none⟩)), (17, .int .i64 c338.2.1), (18, .int .i64 c338.2.2), (119, .bool (c338.2.2 == 0)), (133, .bool true), (134, .agg #[(.int .u8 (c338.1.Kind.toNat : Int)), (.int .u8 (c338.1.Op.toNat : Int)), (.int .i64 c338.1.R), (.int .i64 c338.1.S), (.int .i64 c338.1.T), (.int .i64 c338.1.N), (.int .i64 c338.1.M)]), (136, .slice A2 p2.length c2), (137, .int .i64 c338.2.1)] (And.intro (And.intro rfl rfl) (And.intro rfl (And.intro rfl (And.intro rfl (And.intro rfl (And.intro rfl (And.intro rfl (And.intro rfl (And.intro rfl trivial))))))))) fun j => ?_
                        obtain ⟨y353, g354, hF⟩ := bind_some hF
                        refine wpn_sl (T := Ty.u8) r199 rfl rfl rfl g354 fun _ r355 => ?_
                        obtain ⟨A356, c357, rfl, -⟩ := r355.form
                        obtain ⟨c358, h359, hF⟩ := bind_some hF
                        refine wpn_c0 hO (w_isa_Put (RdT.nil Ty.u8 _) h359) rfl fun _ σ _ _ hO h360 h361 => ?_
                        have hL := hL.trans h360
                        have r199 := r199.le h360
                        have r355 := r355.le h360
                        obtain ⟨v362, o365, rfl, rfl, w366⟩ := h361
                        obtain ⟨A363, c364, rfl, -⟩ := w366.form
                        have hO : Obs _ _ [_, _] := hO
                        obtain ⟨_, h368, r367, hO⟩ := w366.share hO (i := 1) rfl
                        have hL := hL.trans h368
                        have r199 := r199.le h368
                        have r355 := r355.le h368
                        have hO : Obs _ _ [_, _] := hO
                        obtain ⟨c369, h370, hF⟩ := bind_some hF
                        refine wpn_c0 hO (w_ref00_EqBytes r367 r355 h370) rfl fun _ σ _ _ hO h371 h372 => ?_
                        have hL := hL.trans h371
                        have r367 := r367.le h371
                        have r199 := r199.le h371
                        have r355 := r355.le h371
                        obtain ⟨rfl, rfl⟩ := h372
                        have hO : Obs _ _ [_, _] := hO
                        refine wpn_q hO 1 [] [(16, .pointer (some ⟨b342, 0, none⟩)), (17, .int .i64 c338.2.1), (18, .int .i64 c338.2.2), (119, .bool (c338.2.2 == 0)), (133, .bool true), (140, .bool (!c369))] (And.intro rfl (And.intro rfl (And.intro rfl (And.intro rfl (And.intro rfl (And.intro rfl trivial)))))) fun j => ?_
                        refine wpn_gT (congrArg (fun x => isB (.bool x) true) hb345) ?_
                        refine wpn_pk (congrArg Value.bool hb352) ?_
                        refine wpn_pk (congrArg Value.bool hb345) ?_
                        refine wpn_nil ?_
                        injection hF with hF
                        subst hF
                        refine wpn_end ?_
                        have hO := hO.sel [0] (by decide)
                        exact ⟨rfl, _, And.intro rfl (And.intro rfl (And.intro rfl (And.intro rfl trivial))), hO, hL⟩
                    · refine wpn_gT (congrArg (fun x => isB (.bool x) false) hb351) ?_
                      refine wpn_q hO 4 [] [(2, .slice A2 p2.length c2), (16, .pointer (some ⟨b342, 0, none⟩)), (17, .int .i64 c338.2.1), (18, .int .i64 c338.2.2), (119, .bool (c338.2.2 == 0)), (127, .bool true), (131, .bool (decide (c338.2.1 > (p2.length : Int))))] (And.intro rfl (And.intro rfl (And.intro rfl (And.intro rfl (And.intro rfl (And.intro rfl (And.intro rfl trivial))))))) fun j => ?_
                      refine wpn_gT (congrArg (fun x => isB (.bool x) true) hb345) ?_
                      refine wpn_pk (congrArg Value.bool hb351) ?_
                      refine wpn_q hO 1 [] [(2, .slice A2 p2.length c2), (16, .pointer (some ⟨b342, 0, none⟩)), (17, .int .i64 c338.2.1), (18, .int .i64 c338.2.2), (119, .bool (c338.2.2 == 0)), (133, .bool (decide (c338.2.1 > (p2.length : Int))))] (And.intro rfl (And.intro rfl (And.intro rfl (And.intro rfl (And.intro rfl (And.intro rfl trivial)))))) fun j => ?_
                      rcases ite_some hF with ⟨hb373, hF⟩ | ⟨hb373, hF⟩
                      · refine wpn_gF (congrArg (fun x => isB (.bool x) false) hb373) ?_
                        refine wpn_gT (congrArg (fun x => isB (.bool x) true) hb345) ?_
                        refine wpn_pk (congrArg Value.bool hb373) ?_
                        refine wpn_pk (congrArg Value.bool hb345) ?_
                        refine wpn_nil ?_
                        injection hF with hF
                        subst hF
                        refine wpn_end ?_
                        exact ⟨rfl, _, And.intro rfl (And.intro rfl (And.intro rfl (And.intro rfl trivial))), hO, hL⟩
                      · refine wpn_gT (congrArg (fun x => isB (.bool x) false) hb373) ?_
                        refine wpn_q hO 3 [0] [(16, .pointer (some ⟨b342, 0, none⟩)), (17, .int .i64 c338.2.1), (18, .int .i64 c338.2.2), (119, .bool (c338.2.2 == 0)), (133, .bool (decide (c338.2.1 > (p2.length : Int)))), (134, .agg #[(.int .u8 (c338.1.Kind.toNat : Int)), (.int .u8 (c338.1.Op.toNat : Int)), (.int .i64 c338.1.R), (.int .i64 c338.1.S), (.int .i64 c338.1.T), (.int .i64 c338.1.N), (.int .i64 c338.1.M)]), (136, .slice A2 p2.length c2), (137, .int .i64 c338.2.1)] (And.intro (And.intro rfl rfl) (And.intro rfl (And.intro rfl (And.intro rfl (And.intro rfl (And.intro rfl (And.intro rfl (And.intro rfl (And.intro rfl trivial))))))))) fun j => ?_
                        obtain ⟨y374, g375, hF⟩ := bind_some hF
                        refine wpn_sl (T := Ty.u8) r199 rfl rfl rfl g375 fun _ r376 => ?_
                        obtain ⟨A377, c378, rfl, -⟩ := r376.form
                        obtain ⟨c379, h380, hF⟩ := bind_some hF
                        refine wpn_c0 hO (w_isa_Put (RdT.nil Ty.u8 _) h380) rfl fun _ σ _ _ hO h381 h382 => ?_
                        have hL := hL.trans h381
                        have r199 := r199.le h381
                        have r376 := r376.le h381
                        obtain ⟨v383, o386, rfl, rfl, w387⟩ := h382
                        obtain ⟨A384, c385, rfl, -⟩ := w387.form
                        have hO : Obs _ _ [_, _] := hO
                        obtain ⟨_, h389, r388, hO⟩ := w387.share hO (i := 1) rfl
                        have hL := hL.trans h389
                        have r199 := r199.le h389
                        have r376 := r376.le h389
                        have hO : Obs _ _ [_, _] := hO
                        obtain ⟨c390, h391, hF⟩ := bind_some hF
                        refine wpn_c0 hO (w_ref00_EqBytes r388 r376 h391) rfl fun _ σ _ _ hO h392 h393 => ?_
                        have hL := hL.trans h392
                        have r388 := r388.le h392
                        have r199 := r199.le h392
                        have r376 := r376.le h392
                        obtain ⟨rfl, rfl⟩ := h393
                        have hO : Obs _ _ [_, _] := hO
                        refine wpn_q hO 1 [] [(16, .pointer (some ⟨b342, 0, none⟩)), (17, .int .i64 c338.2.1), (18, .int .i64 c338.2.2), (119, .bool (c338.2.2 == 0)), (133, .bool (decide (c338.2.1 > (p2.length : Int)))), (140, .bool (!c390))] (And.intro rfl (And.intro rfl (And.intro rfl (And.intro rfl (And.intro rfl (And.intro rfl trivial)))))) fun j => ?_
                        refine wpn_gT (congrArg (fun x => isB (.bool x) true) hb345) ?_
                        refine wpn_pk (congrArg Value.bool hb373) ?_
                        refine wpn_pk (congrArg Value.bool hb345) ?_
                        refine wpn_nil ?_
                        injection hF with hF
                        subst hF
                        refine wpn_end ?_
                        have hO := hO.sel [0] (by decide)
                        exact ⟨rfl, _, And.intro rfl (And.intro rfl (And.intro rfl (And.intro rfl trivial))), hO, hL⟩
                  · refine wpn_gT (congrArg (fun x => isB (.bool x) false) hb350) ?_
                    refine wpn_q hO 2 [] [(2, .slice A2 p2.length c2), (16, .pointer (some ⟨b342, 0, none⟩)), (17, .int .i64 c338.2.1), (18, .int .i64 c338.2.2), (119, .bool (c338.2.2 == 0)), (123, .bool (!c346)), (125, .bool (decide (c338.2.1 < 1)))] (And.intro rfl (And.intro rfl (And.intro rfl (And.intro rfl (And.intro rfl (And.intro rfl (And.intro rfl trivial))))))) fun j => ?_
                    refine wpn_gT (congrArg (fun x => isB (.bool x) true) hb345) ?_
                    refine wpn_pk (congrArg Value.bool hb350) ?_
                    refine wpn_q hO 1 [] [(2, .slice A2 p2.length c2), (16, .pointer (some ⟨b342, 0, none⟩)), (17, .int .i64 c338.2.1), (18, .int .i64 c338.2.2), (119, .bool (c338.2.2 == 0)), (127, .bool (decide (c338.2.1 < 1)))] (And.intro rfl (And.intro rfl (And.intro rfl (And.intro rfl (And.intro rfl (And.intro rfl trivial)))))) fun j => ?_
                    rcases ite_some hF with ⟨hb394, hF⟩ | ⟨hb394, hF⟩
                    · refine wpn_gF (congrArg (fun x => isB (.bool x) false) hb394) ?_
                      refine wpn_gT (congrArg (fun x => isB (.bool x) true) hb345) ?_
                      refine wpn_pk (congrArg Value.bool hb394) ?_
                      refine wpn_q hO 1 [] [(2, .slice A2 p2.length c2), (16, .pointer (some ⟨b342, 0, none⟩)), (17, .int .i64 c338.2.1), (18, .int .i64 c338.2.2), (119, .bool (c338.2.2 == 0)), (133, .bool true)] (And.intro rfl (And.intro rfl (And.intro rfl (And.intro rfl (And.intro rfl (And.intro rfl trivial)))))) fun j => ?_
                      rcases ite_some hF with ⟨hb395, hF⟩ | ⟨hb395, hF⟩
                      · refine wpn_gF (congrArg (fun x => isB (.bool x) false) hb395) ?_
                        refine wpn_gT (congrArg (fun x => isB (.bool x) true) hb345) ?_
                        refine wpn_pk (congrArg Value.bool hb395) ?_
                        refine wpn_pk (congrArg Value.bool hb345) ?_
                        refine wpn_nil ?_
                        injection hF with hF
                        subst hF
                        refine wpn_end ?_
                        exact ⟨rfl, _, And.intro rfl (And.intro rfl (And.intro rfl (And.intro rfl trivial))), hO, hL⟩
                      · refine wpn_gT (congrArg (fun x => isB (.bool x) false) hb395) ?_
                        refine wpn_q hO 3 [0] [(16, .pointer (some ⟨b342, 0, none⟩)), (17, .int .i64 c338.2.1), (18, .int .i64 c338.2.2), (119, .bool (c338.2.2 == 0)), (133, .bool true), (134, .agg #[(.int .u8 (c338.1.Kind.toNat : Int)), (.int .u8 (c338.1.Op.toNat : Int)), (.int .i64 c338.1.R), (.int .i64 c338.1.S), (.int .i64 c338.1.T), (.int .i64 c338.1.N), (.int .i64 c338.1.M)]), (136, .slice A2 p2.length c2), (137, .int .i64 c338.2.1)] (And.intro (And.intro rfl rfl) (And.intro rfl (And.intro rfl (And.intro rfl (And.intro rfl (And.intro rfl (And.intro rfl (And.intro rfl (And.intro rfl trivial))))))))) fun j => ?_
                        obtain ⟨y396, g397, hF⟩ := bind_some hF
                        refine wpn_sl (T := Ty.u8) r199 rfl rfl rfl g397 fun _ r398 => ?_
                        obtain ⟨A399, c400, rfl, -⟩ := r398.form
                        obtain ⟨c401, h402, hF⟩ := bind_some hF
                        refine wpn_c0 hO (w_isa_Put (RdT.nil Ty.u8 _) h402) rfl fun _ σ _ _ hO h403 h404 => ?_
                        have hL := hL.trans h403
                        have r199 := r199.le h403
                        have r398 := r398.le h403
                        obtain ⟨v405, o408, rfl, rfl, w409⟩ := h404
                        obtain ⟨A406, c407, rfl, -⟩ := w409.form
                        have hO : Obs _ _ [_, _] := hO
                        obtain ⟨_, h411, r410, hO⟩ := w409.share hO (i := 1) rfl
                        have hL := hL.trans h411
                        have r199 := r199.le h411
                        have r398 := r398.le h411
                        have hO : Obs _ _ [_, _] := hO
                        obtain ⟨c412, h413, hF⟩ := bind_some hF
                        refine wpn_c0 hO (w_ref00_EqBytes r410 r398 h413) rfl fun _ σ _ _ hO h414 h415 => ?_
                        have hL := hL.trans h414
                        have r410 := r410.le h414
                        have r199 := r199.le h414
                        have r398 := r398.le h414
                        obtain ⟨rfl, rfl⟩ := h415
                        have hO : Obs _ _ [_, _] := hO
                        refine wpn_q hO 1 [] [(16, .pointer (some ⟨b342, 0, none⟩)), (17, .int .i64 c338.2.1), (18, .int .i64 c338.2.2), (119, .bool (c338.2.2 == 0)), (133, .bool true), (140, .bool (!c412))] (And.intro rfl (And.intro rfl (And.intro rfl (And.intro rfl (And.intro rfl (And.intro rfl trivial)))))) fun j => ?_
                        refine wpn_gT (congrArg (fun x => isB (.bool x) true) hb345) ?_
                        refine wpn_pk (congrArg Value.bool hb395) ?_
                        refine wpn_pk (congrArg Value.bool hb345) ?_
                        refine wpn_nil ?_
                        injection hF with hF
                        subst hF
                        refine wpn_end ?_
                        have hO := hO.sel [0] (by decide)
                        exact ⟨rfl, _, And.intro rfl (And.intro rfl (And.intro rfl (And.intro rfl trivial))), hO, hL⟩
                    · refine wpn_gT (congrArg (fun x => isB (.bool x) false) hb394) ?_
                      refine wpn_q hO 4 [] [(2, .slice A2 p2.length c2), (16, .pointer (some ⟨b342, 0, none⟩)), (17, .int .i64 c338.2.1), (18, .int .i64 c338.2.2), (119, .bool (c338.2.2 == 0)), (127, .bool (decide (c338.2.1 < 1))), (131, .bool (decide (c338.2.1 > (p2.length : Int))))] (And.intro rfl (And.intro rfl (And.intro rfl (And.intro rfl (And.intro rfl (And.intro rfl (And.intro rfl trivial))))))) fun j => ?_
                      refine wpn_gT (congrArg (fun x => isB (.bool x) true) hb345) ?_
                      refine wpn_pk (congrArg Value.bool hb394) ?_
                      refine wpn_q hO 1 [] [(2, .slice A2 p2.length c2), (16, .pointer (some ⟨b342, 0, none⟩)), (17, .int .i64 c338.2.1), (18, .int .i64 c338.2.2), (119, .bool (c338.2.2 == 0)), (133, .bool (decide (c338.2.1 > (p2.length : Int))))] (And.intro rfl (And.intro rfl (And.intro rfl (And.intro rfl (And.intro rfl (And.intro rfl trivial)))))) fun j => ?_
                      rcases ite_some hF with ⟨hb416, hF⟩ | ⟨hb416, hF⟩
                      · refine wpn_gF (congrArg (fun x => isB (.bool x) false) hb416) ?_
                        refine wpn_gT (congrArg (fun x => isB (.bool x) true) hb345) ?_
                        refine wpn_pk (congrArg Value.bool hb416) ?_
                        refine wpn_pk (congrArg Value.bool hb345) ?_
                        refine wpn_nil ?_
                        injection hF with hF
                        subst hF
                        refine wpn_end ?_
                        exact ⟨rfl, _, And.intro rfl (And.intro rfl (And.intro rfl (And.intro rfl trivial))), hO, hL⟩
                      · refine wpn_gT (congrArg (fun x => isB (.bool x) false) hb416) ?_
                        refine wpn_q hO 3 [0] [(16, .pointer (some ⟨b342, 0, none⟩)), (17, .int .i64 c338.2.1), (18, .int .i64 c338.2.2), (119, .bool (c338.2.2 == 0)), (133, .bool (decide (c338.2.1 > (p2.length : Int)))), (134, .agg #[(.int .u8 (c338.1.Kind.toNat : Int)), (.int .u8 (c338.1.Op.toNat : Int)), (.int .i64 c338.1.R), (.int .i64 c338.1.S), (.int .i64 c338.1.T), (.int .i64 c338.1.N), (.int .i64 c338.1.M)]), (136, .slice A2 p2.length c2), (137, .int .i64 c338.2.1)] (And.intro (And.intro rfl rfl) (And.intro rfl (And.intro rfl (And.intro rfl (And.intro rfl (And.intro rfl (And.intro rfl (And.intro rfl (And.intro rfl trivial))))))))) fun j => ?_
                        obtain ⟨y417, g418, hF⟩ := bind_some hF
                        refine wpn_sl (T := Ty.u8) r199 rfl rfl rfl g418 fun _ r419 => ?_
                        obtain ⟨A420, c421, rfl, -⟩ := r419.form
                        obtain ⟨c422, h423, hF⟩ := bind_some hF
                        refine wpn_c0 hO (w_isa_Put (RdT.nil Ty.u8 _) h423) rfl fun _ σ _ _ hO h424 h425 => ?_
                        have hL := hL.trans h424
                        have r199 := r199.le h424
                        have r419 := r419.le h424
                        obtain ⟨v426, o429, rfl, rfl, w430⟩ := h425
                        obtain ⟨A427, c428, rfl, -⟩ := w430.form
                        have hO : Obs _ _ [_, _] := hO
                        obtain ⟨_, h432, r431, hO⟩ := w430.share hO (i := 1) rfl
                        have hL := hL.trans h432
                        have r199 := r199.le h432
                        have r419 := r419.le h432
                        have hO : Obs _ _ [_, _] := hO
                        obtain ⟨c433, h434, hF⟩ := bind_some hF
                        refine wpn_c0 hO (w_ref00_EqBytes r431 r419 h434) rfl fun _ σ _ _ hO h435 h436 => ?_
                        have hL := hL.trans h435
                        have r431 := r431.le h435
                        have r199 := r199.le h435
                        have r419 := r419.le h435
                        obtain ⟨rfl, rfl⟩ := h436
                        have hO : Obs _ _ [_, _] := hO
                        refine wpn_q hO 1 [] [(16, .pointer (some ⟨b342, 0, none⟩)), (17, .int .i64 c338.2.1), (18, .int .i64 c338.2.2), (119, .bool (c338.2.2 == 0)), (133, .bool (decide (c338.2.1 > (p2.length : Int)))), (140, .bool (!c433))] (And.intro rfl (And.intro rfl (And.intro rfl (And.intro rfl (And.intro rfl (And.intro rfl trivial)))))) fun j => ?_
                        refine wpn_gT (congrArg (fun x => isB (.bool x) true) hb345) ?_
                        refine wpn_pk (congrArg Value.bool hb416) ?_
                        refine wpn_pk (congrArg Value.bool hb345) ?_
                        refine wpn_nil ?_
                        injection hF with hF
                        subst hF
                        refine wpn_end ?_
                        have hO := hO.sel [0] (by decide)
                        exact ⟨rfl, _, And.intro rfl (And.intro rfl (And.intro rfl (And.intro rfl trivial))), hO, hL⟩
                · refine wpn_gF (congrArg (fun x => isB (.bool x) true) hb345) ?_
                  refine wpn_gF rfl ?_
                  refine wpn_gF (congrArg (fun x => isB (.bool x) true) hb345) ?_
                  refine wpn_gF rfl ?_
                  refine wpn_gF (congrArg (fun x => isB (.bool x) true) hb345) ?_
                  refine wpn_gF rfl ?_
                  refine wpn_gF (congrArg (fun x => isB (.bool x) true) hb345) ?_
                  refine wpn_pk (congrArg Value.bool hb345) ?_
                  refine wpn_nil ?_
                  injection hF with hF
                  subst hF
                  refine wpn_end ?_
                  exact ⟨rfl, _, And.intro rfl (And.intro rfl (And.intro rfl (And.intro rfl trivial))), hO, hL⟩
              · rintro e σ ⟨_, hA, hO, hL⟩
                rw [← sets_agr _ _ hA]
                refine wpn_nil ?_
                rcases ite_some hF with ⟨hb437, hF⟩ | ⟨hb437, hF⟩
                · refine wpn_cT (congrArg Value.bool hb437) ?_
                  refine wpn_assoc ?_
                  refine wpn_qa hO [] [(6, .bool false)] (And.intro rfl trivial) fun j => ?_
                  refine wpn_rt ?_
                  injection hF with hF
                  subst hF
                  have hO := hO.sel [] (by decide)
                  exact hQ _ _ _ _ _ rfl hO hL ⟨rfl, rfl⟩
                · refine wpn_cF (congrArg Value.bool hb437) ?_
                  refine wpn_sk ?_
                  refine wpn_q hO 3 [] [(16, .pointer (some ⟨b342, 0, none⟩)), (17, .int .i64 c338.2.1), (145, .bool (c338.2.2 == 0))] (And.intro rfl (And.intro rfl (And.intro rfl trivial))) fun j => ?_
                  obtain ⟨c438, h439, hF⟩ := bind_some hF
                  refine wpn_midq 4 [(153, .bool c438)] (fun Q hQ => ?_) fun j => ?_
                  · have hF := h439
                    rcases ite_some hF with ⟨hb440, hF⟩ | ⟨hb440, hF⟩
                    · refine wpn_gF (congrArg (fun x => isB (.bool x) false) hb440) ?_
                      refine wpn_gF rfl ?_
                      refine wpn_gF (congrArg (fun x => isB (.bool x) false) hb440) ?_
                      refine wpn_pk (congrArg Value.bool hb440) ?_
                      refine wpn_nil ?_
                      injection hF with hF
                      subst hF
                      refine wpn_end ?_
                      exact hQ _ (And.intro rfl (trivial))
                    · refine wpn_gT (congrArg (fun x => isB (.bool x) false) hb440) ?_
                      refine wpn_q hO 4 [0] [(17, .int .i64 c338.2.1), (145, .bool (c338.2.2 == 0)), (149, .bool (( (c338.1.Kind.toNat : Int) == 0) && (( (c338.1.Op.toNat : Int) == 0) && (( c338.1.R == 0) && (( c338.1.S == 0) && (( c338.1.T == 0) && (( c338.1.N == 0) && (( c338.1.M == 0) && true))))))))] (And.intro (And.intro rfl rfl) (And.intro rfl (And.intro rfl (And.intro rfl trivial)))) fun j => ?_
                      rcases ite_some hF with ⟨hb441, hF⟩ | ⟨hb441, hF⟩
                      · refine wpn_gT (congrArg (fun x => isB (.bool x) true) hb441) ?_
                        refine wpn_q hO 2 [] [(145, .bool (c338.2.2 == 0)), (149, .bool (( (c338.1.Kind.toNat : Int) == 0) && (( (c338.1.Op.toNat : Int) == 0) && (( c338.1.R == 0) && (( c338.1.S == 0) && (( c338.1.T == 0) && (( c338.1.N == 0) && (( c338.1.M == 0) && true)))))))), (151, .bool (c338.2.1 == 0))] (And.intro rfl (And.intro rfl (And.intro rfl trivial))) fun j => ?_
                        refine wpn_gT (congrArg (fun x => isB (.bool x) false) hb440) ?_
                        refine wpn_pk (congrArg Value.bool hb441) ?_
                        refine wpn_pk (congrArg Value.bool hb440) ?_
                        refine wpn_nil ?_
                        injection hF with hF
                        subst hF
                        refine wpn_end ?_
                        exact hQ _ (And.intro rfl (trivial))
                      · refine wpn_gF (congrArg (fun x => isB (.bool x) true) hb441) ?_
                        refine wpn_gT (congrArg (fun x => isB (.bool x) false) hb440) ?_
                        refine wpn_pk (congrArg Value.bool hb441) ?_
                        refine wpn_pk (congrArg Value.bool hb440) ?_
                        refine wpn_nil ?_
                        injection hF with hF
                        subst hF
                        refine wpn_end ?_
                        exact hQ _ (And.intro rfl (trivial))
                  · refine wpn_q hO 1 [] [(154, .bool c438)] (And.intro rfl trivial) fun j => ?_
                    have hO := hO.sel [] (by decide)
                    have hO : Obs _ _ [] := hO
                    obtain ⟨c442, h443, hF⟩ := bind_some hF
                    refine wpn_mid 2 (fun e' σ' => ∃ (τ' : Hp), agr [(156, .bool c442)] e' ∧ Obs τ' σ' [] ∧ Hp.le τ τ') ?_ ?_
                    · have hF := h443
                      rcases ite_some hF with ⟨hb444, hF⟩ | ⟨hb444, hF⟩
                      · refine wpn_gT (congrArg (fun x => isB (.bool x) true) hb444) ?_
                        obtain ⟨c445, h446, hF⟩ := bind_some hF
                        refine wpn_c0 hO (w_law03_works h446) rfl fun _ σ _ _ hO h447 h448 => ?_
                        have hL := hL.trans h447
                        obtain ⟨rfl, rfl⟩ := h448
                        have hO : Obs _ _ [] := hO
                        refine wpn_pk (congrArg Value.bool hb444) ?_
                        refine wpn_nil ?_
                        injection hF with hF
                        subst hF
                        refine wpn_end ?_
                        exact ⟨rfl, _, And.intro rfl (trivial), hO, hL⟩
                      · refine wpn_gF (congrArg (fun x => isB (.bool x) true) hb444) ?_
                        refine wpn_pk (congrArg Value.bool hb444) ?_
                        refine wpn_nil ?_
                        injection hF with hF
                        subst hF
                        refine wpn_end ?_
                        exact ⟨rfl, _, And.intro rfl (trivial), hO, hL⟩
                    · rintro e σ ⟨_, hA, hO, hL⟩
                      rw [← sets_agr _ _ hA]
                      refine wpn_qa hO [] [(6, .bool c442)] (And.intro rfl trivial) fun j => ?_
                      refine wpn_r1 ?_
                      injection hF with hF
                      subst hF
                      exact hQ _ _ _ _ _ rfl hO hL ⟨rfl, rfl⟩
end Go.Proofs.Ytnaafaopdefigaa
