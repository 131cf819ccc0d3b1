import Derived.Test.YtneonhnackjdjaaF
import Derived.Test.YtneonhnackjdjaaAc0
import Derived.Test.YtneonhnackjdjaaM00
import Derived.Test.YtneonhnackjdjaaM02
import Derived.Test.YtneonhnackjdjaaG0
namespace Go.Proofs.Ytneonhnackjdjaa
open Go.Ab Go.RowKit
set_option linter.unusedVariables false
set_option linter.unusedSimpArgs false
set_option maxRecDepth 10000
theorem w_unwind_Up {τ : Hp} {v0 : Value} {p0 : (List S_api_Unwind)} {p1 : Int} {p2 : S_api_View} {v2_0 : Value} {v2_1 : Value} {v2_3 : Value} (r0 : RdT TyS_api_Unwind τ v0 p0) (r2_0 : RdT Ty.bool τ v2_0 p2.Known) (r2_1 : RdT (Ty.int .i64) τ v2_1 p2.Regs) (r2_3 : RdT (Ty.int .i64) τ v2_3 p2.Words) {rr : Int × S_api_View × Int} (hF : F_unwind_Up p0 p1 p2 = some rr) :
    Ctr Try.prog 23 #[v0, .int .i64 p1, .agg #[v2_0, v2_1, .int .i64 p2.Base, v2_3]] τ [] (fun v τ' vs' => ∃ (v1_0 : Value) (v1_1 : Value) (v1_3 : Value), v = .tuple #[.int .i64 rr.1, .agg #[v1_0, v1_1, .int .i64 rr.2.1.Base, v1_3], .int .i64 rr.2.2] ∧ vs' = [] ∧ RdT Ty.bool τ' v1_0 rr.2.1.Known ∧ RdT (Ty.int .i64) τ' v1_1 rr.2.1.Regs ∧ RdT (Ty.int .i64) τ' v1_3 rr.2.1.Words) := by
  obtain ⟨A0, c0, rfl, -⟩ := r0.form
  obtain ⟨A2_0, c2_0, rfl, -⟩ := r2_0.form
  obtain ⟨A2_1, c2_1, rfl, -⟩ := r2_1.form
  obtain ⟨A2_3, c2_3, rfl, -⟩ := r2_3.form
  refine ctr_of (args := [.slice A0 p0.length c0, .int .i64 p1, .agg #[(.slice A2_0 p2.Known.length c2_0), (.slice A2_1 p2.Regs.length c2_1), .int .i64 p2.Base, (.slice A2_3 p2.Words.length c2_3)]]) hm Try.func23 s23 rfl fun w0 σ hO Q hQ => ?_
  unfold F_unwind_Up at hF
  have hL := Hp.le.refl τ
  show wpn _ _ a23.body _ _ _
  unfold a23
  dsimp only
  refine wpn_bx (n := 4) hO rfl rfl fun b4 σ hO => ?_
  have hO : Obs _ _ [_] := hO
  refine wpn_q hO 1 [] [(0, .slice A0 p0.length c0), (1, .int .i64 p1), (5, .pointer (some ⟨b4, 0, none⟩))] (And.intro rfl (And.intro rfl (And.intro rfl trivial))) fun j => ?_
  refine wpn_al hO fun b5 σ hO => ?_
  have hO : Obs _ _ [_, _] := hO
  refine wpn_qa hO [] [(0, .slice A0 p0.length c0), (1, .int .i64 p1), (5, .pointer (some ⟨b4, 0, none⟩)), (7, .pointer (some ⟨b5, 0, none⟩))] (And.intro rfl (And.intro rfl (And.intro rfl (And.intro rfl trivial)))) fun j => ?_
  refine wpn_q hO 3 [0] [(0, .slice A0 p0.length c0), (1, .int .i64 p1), (5, .pointer (some ⟨b4, 0, none⟩)), (7, .pointer (some ⟨b5, 0, none⟩)), (21, .slice A0 p0.length c0), (22, .int .i64 p1), (23, .agg #[(.slice A2_0 p2.Known.length c2_0), (.slice A2_1 p2.Regs.length c2_1), (.int .i64 p2.Base), (.slice A2_3 p2.Words.length c2_3)])] (And.intro (And.intro rfl rfl) (And.intro rfl (And.intro rfl (And.intro rfl (And.intro rfl (And.intro rfl (And.intro rfl (And.intro rfl trivial)))))))) fun j => ?_
  obtain ⟨c6, h7, hF⟩ := bind_some hF
  refine wpn_c0 hO (w_unwind_Frame r0 r2_0 r2_1 r2_3 h7) rfl fun _ σ _ _ hO h8 h9 => ?_
  have hL := hL.trans h8
  have r0 := r0.le h8
  have r2_0 := r2_0.le h8
  have r2_1 := r2_1.le h8
  have r2_3 := r2_3.le h8
  obtain ⟨v10, v14, v18, rfl, rfl, r11, r15, r19⟩ := h9
  obtain ⟨A12, c13, rfl, -⟩ := r11.form
  obtain ⟨A16, c17, rfl, -⟩ := r15.form
  obtain ⟨A20, c21, rfl, -⟩ := r19.form
  have hO : Obs _ _ [_, _] := hO
  refine wpn_q hO 3 [] [(0, .slice A0 p0.length c0), (1, .int .i64 p1), (5, .pointer (some ⟨b4, 0, none⟩)), (7, .pointer (some ⟨b5, 0, none⟩)), (25, .agg #[(.slice A12 c6.1.Known.length c13), (.slice A16 c6.1.Regs.length c17), (.int .i64 c6.1.Base), (.slice A20 c6.1.Words.length c21)]), (26, .int .i64 c6.2)] (And.intro rfl (And.intro rfl (And.intro rfl (And.intro rfl (And.intro rfl (And.intro rfl trivial)))))) fun j => ?_
  refine wpn_al hO fun b22 σ hO => ?_
  have hO : Obs _ _ [_, _, _] := hO
  refine wpn_st hO (i := 2) rfl (off := 0) rfl rfl rfl rfl (Nat.le_of_ble_eq_true rfl) rfl fun σ hO => ?_
  have hO : Obs _ _ [_, _, _] := hO
  refine wpn_qa hO [] [(0, .slice A0 p0.length c0), (1, .int .i64 p1), (5, .pointer (some ⟨b4, 0, none⟩)), (7, .pointer (some ⟨b5, 0, none⟩)), (8, .int .i64 c6.2), (9, .pointer (some ⟨b22, 0, none⟩))] (And.intro rfl (And.intro rfl (And.intro rfl (And.intro rfl (And.intro rfl (And.intro rfl trivial)))))) fun j => ?_
  refine wpn_assoc ?_
  refine wpn_qa hO [] [(0, .slice A0 p0.length c0), (1, .int .i64 p1), (5, .pointer (some ⟨b4, 0, none⟩)), (7, .pointer (some ⟨b5, 0, none⟩)), (8, .int .i64 c6.2), (9, .pointer (some ⟨b22, 0, none⟩)), (28, .bool (c6.2 != 0))] (And.intro rfl (And.intro rfl (And.intro rfl (And.intro rfl (And.intro rfl (And.intro rfl (And.intro rfl trivial))))))) fun j => ?_
  rcases ite_some hF with ⟨hb23, hF⟩ | ⟨hb23, hF⟩
  · refine wpn_cT (congrArg Value.bool hb23) ?_
    refine wpn_assoc ?_
    refine wpn_p2r ?_
    refine wpn_q hO 3 [1] [(6, .int .i64 0), (7, .pointer (some ⟨b5, 0, none⟩)), (29, .agg #[(.slice none 0 0), (.slice none 0 0), (.int .i64 0), (.slice none 0 0)]), (30, .int .i64 c6.2)] (And.intro (And.intro rfl rfl) (And.intro rfl (And.intro rfl (And.intro rfl (And.intro rfl trivial))))) fun j => ?_
    refine wpn_st hO (i := 1) rfl (off := 0) rfl rfl rfl rfl (Nat.le_of_ble_eq_true rfl) rfl fun σ hO => ?_
    have hO : Obs _ _ [_, _, _] := hO
    refine wpn_qa hO [] [(6, .int .i64 0), (7, .pointer (some ⟨b5, 0, none⟩)), (8, .int .i64 c6.2)] (And.intro rfl (And.intro rfl (And.intro rfl trivial))) fun j => ?_
    refine wpn_rt ?_
    injection hF with hF
    subst hF
    have hV1 := hO.val (i := 1) rfl (off := 0) (agg := true) (n := 4) rfl
    have hO := hO.sel [] (by decide)
    exact hQ _ _ _ _ _ (resvs_t (resvs_c rfl (hV1) (resvs_t rfl))) hO hL ⟨_, _, _, rfl, rfl, (RdT.nil _ _), (RdT.nil _ _), (RdT.nil _ _)⟩
  · refine wpn_cF (congrArg Value.bool hb23) ?_
    refine wpn_sk ?_
    refine wpn_q hO 2 [] [(5, .pointer (some ⟨b4, 0, none⟩)), (7, .pointer (some ⟨b5, 0, none⟩)), (9, .pointer (some ⟨b22, 0, none⟩)), (32, .slice A0 p0.length c0), (33, .int .i64 p1)] (And.intro rfl (And.intro rfl (And.intro rfl (And.intro rfl (And.intro rfl trivial))))) fun j => ?_
    obtain ⟨c24, h25, hF⟩ := bind_some hF
    refine wpn_c0 hO (w_unwind_Find r0 h25) rfl fun _ σ _ _ hO h26 h27 => ?_
    have hL := hL.trans h26
    have r0 := r0.le h26
    have r2_0 := r2_0.le h26
    have r2_1 := r2_1.le h26
    have r2_3 := r2_3.le h26
    have r11 := r11.le h26
    have r15 := r15.le h26
    have r19 := r19.le h26
    obtain ⟨v28, rfl, rfl, r29⟩ := h27
    obtain ⟨A30, c31, rfl, -⟩ := r29.form
    have hO : Obs _ _ [_, _, _] := hO
    refine wpn_q hO 3 [] [(5, .pointer (some ⟨b4, 0, none⟩)), (7, .pointer (some ⟨b5, 0, none⟩)), (9, .pointer (some ⟨b22, 0, none⟩)), (35, .agg #[(.int .i64 c24.1.From), (.int .i64 c24.1.To), (.int .i64 c24.1.Up), (.slice A30 c24.1.Regs.length c31)]), (36, .bool c24.2)] (And.intro rfl (And.intro rfl (And.intro rfl (And.intro rfl (And.intro rfl trivial))))) fun j => ?_
    refine wpn_al hO fun b32 σ hO => ?_
    have hO : Obs _ _ [_, _, _, _] := hO
    refine wpn_st hO (i := 3) rfl (off := 0) rfl rfl rfl rfl (Nat.le_of_ble_eq_true rfl) rfl fun σ hO => ?_
    have hO : Obs _ _ [_, _, _, _] := hO
    refine wpn_qa hO [] [(5, .pointer (some ⟨b4, 0, none⟩)), (7, .pointer (some ⟨b5, 0, none⟩)), (9, .pointer (some ⟨b22, 0, none⟩)), (10, .pointer (some ⟨b32, 0, none⟩))] (And.intro rfl (And.intro rfl (And.intro rfl (And.intro rfl trivial)))) fun j => ?_
    refine wpn_assoc ?_
    refine wpn_q hO 1 [3] [(5, .pointer (some ⟨b4, 0, none⟩)), (7, .pointer (some ⟨b5, 0, none⟩)), (9, .pointer (some ⟨b22, 0, none⟩)), (10, .pointer (some ⟨b32, 0, none⟩)), (37, .agg #[(.int .i64 c24.1.From), (.int .i64 c24.1.To), (.int .i64 c24.1.Up), (.slice A30 c24.1.Regs.length c31)])] (And.intro (And.intro rfl rfl) (And.intro rfl (And.intro rfl (And.intro rfl (And.intro rfl (And.intro rfl trivial)))))) fun j => ?_
    refine wpn_lit (T := TyS_api_Unwind) (l := ([(⟨c24.1.From, c24.1.To, c24.1.Up, c24.1.Regs⟩ : S_api_Unwind)] : List S_api_Unwind)) (cs := [.int .i64 c24.1.From, .int .i64 c24.1.To, .int .i64 c24.1.Up, .slice A30 c24.1.Regs.length c31]) hO rfl ⟨[.int .i64 c24.1.From, .int .i64 c24.1.To, .int .i64 c24.1.Up, .slice A30 c24.1.Regs.length c31], _, rfl, ⟨_, rfl, r29⟩, rfl⟩ rfl (by decide) fun _ σ o35 w36 hO => ?_
    obtain ⟨A33, c34, rfl, -⟩ := w36.form
    have hO : Obs _ _ [_, _, _, _, _] := hO
    obtain ⟨_, h38, r37, hO⟩ := w36.share hO (i := 4) rfl
    have hL := hL.trans h38
    have r29 := r29.le h38
    have r2_0 := r2_0.le h38
    have r2_1 := r2_1.le h38
    have r2_3 := r2_3.le h38
    have r11 := r11.le h38
    have r15 := r15.le h38
    have r19 := r19.le h38
    have hO : Obs _ _ [_, _, _, _, _] := hO
    obtain ⟨c39, h40, hF⟩ := bind_some hF
    refine wpn_c0 hO (w_unwind_Right r37 h40) rfl fun _ σ _ _ hO h41 h42 => ?_
    have hL := hL.trans h41
    have r29 := r29.le h41
    have r37 := r37.le h41
    have r2_0 := r2_0.le h41
    have r2_1 := r2_1.le h41
    have r2_3 := r2_3.le h41
    have r11 := r11.le h41
    have r15 := r15.le h41
    have r19 := r19.le h41
    obtain ⟨rfl, rfl⟩ := h42
    have hO : Obs _ _ [_, _, _, _, _] := hO
    refine wpn_qa hO [] [(5, .pointer (some ⟨b4, 0, none⟩)), (7, .pointer (some ⟨b5, 0, none⟩)), (9, .pointer (some ⟨b22, 0, none⟩)), (10, .pointer (some ⟨b32, 0, none⟩)), (40, .bool (!c39))] (And.intro rfl (And.intro rfl (And.intro rfl (And.intro rfl (And.intro rfl trivial))))) fun j => ?_
    rcases ite_some hF with ⟨hb43, hF⟩ | ⟨hb43, hF⟩
    · refine wpn_cT (congrArg Value.bool hb43) ?_
      refine wpn_assoc ?_
      refine wpn_p2r ?_
      refine wpn_q hO 2 [1] [(6, .int .i64 0), (7, .pointer (some ⟨b5, 0, none⟩)), (41, .agg #[(.slice none 0 0), (.slice none 0 0), (.int .i64 0), (.slice none 0 0)])] (And.intro (And.intro rfl rfl) (And.intro rfl (And.intro rfl (And.intro rfl trivial)))) fun j => ?_
      refine wpn_st hO (i := 1) rfl (off := 0) rfl rfl rfl rfl (Nat.le_of_ble_eq_true rfl) rfl fun σ hO => ?_
      have hO : Obs _ _ [_, _, _, _, _] := hO
      refine wpn_qa hO [] [(6, .int .i64 0), (7, .pointer (some ⟨b5, 0, none⟩)), (8, .int .i64 1)] (And.intro rfl (And.intro rfl (And.intro rfl trivial))) fun j => ?_
      refine wpn_rt ?_
      injection hF with hF
      subst hF
      have hV1 := hO.val (i := 1) rfl (off := 0) (agg := true) (n := 4) rfl
      have hO := hO.sel [] (by decide)
      exact hQ _ _ _ _ _ (resvs_t (resvs_c rfl (hV1) (resvs_t rfl))) hO hL ⟨_, _, _, rfl, rfl, (RdT.nil _ _), (RdT.nil _ _), (RdT.nil _ _)⟩
    · refine wpn_cF (congrArg Value.bool hb43) ?_
      refine wpn_sk ?_
      refine wpn_q hO 4 [0, 2] [(5, .pointer (some ⟨b4, 0, none⟩)), (7, .pointer (some ⟨b5, 0, none⟩)), (9, .pointer (some ⟨b22, 0, none⟩)), (10, .pointer (some ⟨b32, 0, none⟩)), (43, .agg #[(.slice A2_0 p2.Known.length c2_0), (.slice A2_1 p2.Regs.length c2_1), (.int .i64 p2.Base), (.slice A2_3 p2.Words.length c2_3)]), (46, .int .i64 (IntKind.i64.wrap (c6.1.Base - 1)))] (And.intro (And.intro rfl rfl) (And.intro (And.intro rfl rfl) (And.intro rfl (And.intro rfl (And.intro rfl (And.intro rfl (And.intro rfl (And.intro rfl trivial)))))))) fun j => ?_
      obtain ⟨c44, h45, hF⟩ := bind_some hF
      refine wpn_c0 hO (w_unwind_word r2_0 r2_1 r2_3 h45) rfl fun _ σ _ _ hO h46 h47 => ?_
      have hL := hL.trans h46
      have r2_0 := r2_0.le h46
      have r2_1 := r2_1.le h46
      have r2_3 := r2_3.le h46
      have r11 := r11.le h46
      have r15 := r15.le h46
      have r19 := r19.le h46
      have r29 := r29.le h46
      obtain ⟨rfl, rfl⟩ := h47
      have hO : Obs _ _ [_, _, _, _, _] := hO
      refine wpn_qa hO [] [(5, .pointer (some ⟨b4, 0, none⟩)), (7, .pointer (some ⟨b5, 0, none⟩)), (9, .pointer (some ⟨b22, 0, none⟩)), (10, .pointer (some ⟨b32, 0, none⟩)), (12, .int .i64 c44.1), (13, .bool c44.2)] (And.intro rfl (And.intro rfl (And.intro rfl (And.intro rfl (And.intro rfl (And.intro rfl trivial)))))) fun j => ?_
      refine wpn_assoc ?_
      refine wpn_qa hO [] [(5, .pointer (some ⟨b4, 0, none⟩)), (7, .pointer (some ⟨b5, 0, none⟩)), (9, .pointer (some ⟨b22, 0, none⟩)), (10, .pointer (some ⟨b32, 0, none⟩)), (12, .int .i64 c44.1), (59, .bool (((!c44.2) || (decide (c44.1 < 0))) || (decide (c44.1 ≥ 16777216))))] (And.intro (And.intro rfl rfl) (fun _ => And.intro (And.intro rfl rfl) (fun _ => And.intro rfl (And.intro rfl (And.intro rfl (And.intro rfl (And.intro rfl (And.intro rfl trivial)))))))) fun j => ?_
      rcases ite_some hF with ⟨hb48, hF⟩ | ⟨hb48, hF⟩
      · refine wpn_cT (congrArg Value.bool hb48) ?_
        refine wpn_assoc ?_
        refine wpn_p2r ?_
        refine wpn_q hO 2 [1] [(6, .int .i64 0), (7, .pointer (some ⟨b5, 0, none⟩)), (60, .agg #[(.slice none 0 0), (.slice none 0 0), (.int .i64 0), (.slice none 0 0)])] (And.intro (And.intro rfl rfl) (And.intro rfl (And.intro rfl (And.intro rfl trivial)))) fun j => ?_
        refine wpn_st hO (i := 1) rfl (off := 0) rfl rfl rfl rfl (Nat.le_of_ble_eq_true rfl) rfl fun σ hO => ?_
        have hO : Obs _ _ [_, _, _, _, _] := hO
        refine wpn_qa hO [] [(6, .int .i64 0), (7, .pointer (some ⟨b5, 0, none⟩)), (8, .int .i64 4)] (And.intro rfl (And.intro rfl (And.intro rfl trivial))) fun j => ?_
        refine wpn_rt ?_
        injection hF with hF
        subst hF
        have hV1 := hO.val (i := 1) rfl (off := 0) (agg := true) (n := 4) rfl
        have hO := hO.sel [] (by decide)
        exact hQ _ _ _ _ _ (resvs_t (resvs_c rfl (hV1) (resvs_t rfl))) hO hL ⟨_, _, _, rfl, rfl, (RdT.nil _ _), (RdT.nil _ _), (RdT.nil _ _)⟩
      · refine wpn_cF (congrArg Value.bool hb48) ?_
        refine wpn_sk ?_
        refine wpn_pq ?_
        refine wpn_qa hO [] [(5, .pointer (some ⟨b4, 0, none⟩)), (7, .pointer (some ⟨b5, 0, none⟩)), (9, .pointer (some ⟨b22, 0, none⟩)), (10, .pointer (some ⟨b32, 0, none⟩)), (12, .int .i64 c44.1), (63, .pointer (some ⟨b22, 3, none⟩))] (And.intro rfl (And.intro rfl (And.intro rfl (And.intro rfl (And.intro rfl (And.intro rfl trivial)))))) fun j => ?_
        refine wpn_pq ?_
        refine wpn_qa hO [2] [(5, .pointer (some ⟨b4, 0, none⟩)), (7, .pointer (some ⟨b5, 0, none⟩)), (9, .pointer (some ⟨b22, 0, none⟩)), (10, .pointer (some ⟨b32, 0, none⟩)), (12, .int .i64 c44.1), (63, .pointer (some ⟨b22, 3, none⟩)), (64, .slice A20 c6.1.Words.length c21)] (And.intro (And.intro rfl rfl) (And.intro rfl (And.intro rfl (And.intro rfl (And.intro rfl (And.intro rfl (And.intro rfl (And.intro rfl trivial)))))))) fun j => ?_
        refine wpn_cut (fun e' σ' => ∃ (b71 : Nat) (A72 : Option Addr) (c73 : Nat) (o74 : Ob) (x75 : List Bool) (A77 : Option Addr) (c78 : Nat) (o79 : Ob) (x80 : List Int) (τ' : Hp), agr [(5, .pointer (some ⟨b4, 0, none⟩)), (7, .pointer (some ⟨b5, 0, none⟩)), (9, .pointer (some ⟨b22, 0, none⟩)), (10, .pointer (some ⟨b32, 0, none⟩)), (12, .int .i64 c44.1), (14, .pointer (some ⟨b71, 0, none⟩))] e' ∧ Obs τ' σ' [some (b4, ⟨[.slice A2_0 p2.Known.length c2_0, .slice A2_1 p2.Regs.length c2_1, .int .i64 p2.Base, .slice A2_3 p2.Words.length c2_3], 28, 4, true⟩), some (b5, ⟨[.slice none 0 0, .slice none 0 0, .int .i64 0, .slice none 0 0], 28, 4, true⟩), some (b22, ⟨[.slice A12 c6.1.Known.length c13, .slice A16 c6.1.Regs.length c17, .int .i64 c6.1.Base, .slice A20 c6.1.Words.length c21], 28, 4, true⟩), some (b32, ⟨[.int .i64 c24.1.From, .int .i64 c24.1.To, .int .i64 c24.1.Up, .slice A30 c24.1.Regs.length c31], 48, 4, true⟩), some (b71, ⟨[.slice A72 x75.length c73, .slice A77 x80.length c78, .int .i64 0, .slice A20 c6.1.Words.length c21], 28, 4, true⟩), o74, o79] ∧ Hp.le τ τ' ∧ RdT Ty.bool τ' (.slice A2_0 p2.Known.length c2_0) p2.Known ∧ RdT (Ty.int .i64) τ' (.slice A2_1 p2.Regs.length c2_1) p2.Regs ∧ RdT (Ty.int .i64) τ' (.slice A2_3 p2.Words.length c2_3) p2.Words ∧ RdT Ty.bool τ' (.slice A12 c6.1.Known.length c13) c6.1.Known ∧ RdT (Ty.int .i64) τ' (.slice A16 c6.1.Regs.length c17) c6.1.Regs ∧ RdT (Ty.int .i64) τ' (.slice A20 c6.1.Words.length c21) c6.1.Words ∧ RdT TyS_api_Saved τ' (.slice A30 c24.1.Regs.length c31) c24.1.Regs ∧ OwnO Ty.bool 4 τ' (.slice A72 x75.length c73) x75 o74 ∧ OwnO (Ty.int .i64) 2 τ' (.slice A77 x80.length c78) x80 o79 ∧ RdT (Ty.int .i64) τ' (.slice A20 c6.1.Words.length c21) c6.1.Words ∧ F_unwind_Up_k11 p2 c6 c24 c44 x75 x80 = some rr) ?_ ?_
        · refine wpn_ptl ?_
          obtain ⟨y692, g693, hF⟩ := bind_some hF
          obtain ⟨y699, g700, hF⟩ := bind_some hF
          refine wpn_pb ?_ ?_
          · refine wpn_pe ?_
            refine wpn_late ?_
            refine wpn_mkb (T := Ty.bool) hO rfl rfl g693 (show _ = _ from rfl) (by decide) fun b698 c695 σ o696 w697 hO => ?_
            have hO : Obs _ _ [_, _, _, _, _, _] := hO
            refine wpn_nil ?_
            refine wpn_ag ⟨again_ld rfl (hO.lookV1 (i := 2) rfl rfl) rfl, trivial⟩ ?_
            refine wpn_nil ?_
            refine wpn_pb ?_ ?_
            · refine wpn_pe ?_
              refine wpn_late ?_
              refine wpn_mkb (T := (Ty.int .i64)) hO rfl rfl g700 (show _ = _ from rfl) (by decide) fun b705 c702 σ o703 w704 hO => ?_
              have hO : Obs _ _ [_, _, _, _, _, _, _] := hO
              refine wpn_nil ?_
              refine wpn_ag ⟨again_ld rfl (hO.lookV1 (i := 2) rfl rfl) rfl, trivial⟩ ?_
              refine wpn_nil ?_
              refine wpn_pq ?_
              refine wpn_qa hO [] [(5, .pointer (some ⟨b4, 0, none⟩)), (7, .pointer (some ⟨b5, 0, none⟩)), (9, .pointer (some ⟨b22, 0, none⟩)), (10, .pointer (some ⟨b32, 0, none⟩)), (12, .int .i64 c44.1), (63, .pointer (some ⟨b22, 3, none⟩)), (64, .slice A20 c6.1.Words.length c21), (65, .agg #[(.slice (some ⟨b698, 0, none⟩) y692.length c695), (.slice (some ⟨b705, 0, none⟩) y699.length c702), (.int .i64 0), (.slice A20 c6.1.Words.length c21)])] (And.intro rfl (And.intro rfl (And.intro rfl (And.intro rfl (And.intro rfl (And.intro rfl (And.intro rfl (And.intro rfl trivial)))))))) fun j => ?_
              refine wpn_pe ?_
              refine wpn_late ?_
              refine wpn_al hO fun b706 σ hO => ?_
              have hO : Obs _ _ [_, _, _, _, _, _, _, _] := hO
              refine wpn_nil ?_
              refine wpn_ag ⟨again_ld rfl (hO.lookV1 (i := 2) rfl rfl) rfl, trivial⟩ ?_
              refine wpn_nil ?_
              refine wpn_pe ?_
              refine wpn_st hO (i := 7) rfl (off := 0) rfl rfl rfl rfl (Nat.le_of_ble_eq_true rfl) rfl fun σ hO => ?_
              have hO : Obs _ _ [_, _, _, _, _, _, _, _] := hO
              refine wpn_nil ?_
              refine wpn_pd ?_
              refine wpn_end ?_
              refine thn_i ?_
              have hO := hO.sel [0, 1, 2, 3, 7, 5, 6] (by decide)
              exact ⟨b706, (some ⟨b698, 0, none⟩), c695, o696, y692, (some ⟨b705, 0, none⟩), c702, o703, y699, _, And.intro rfl (And.intro rfl (And.intro rfl (And.intro rfl (And.intro rfl (And.intro rfl trivial))))), hO, hL, r2_0, r2_1, r2_3, r11, r15, r19, r29, w697, w704, r19, hF⟩
            · refine wpn_pe ?_
              refine wpn_late ?_
              refine wpn_al hO fun b706 σ hO => ?_
              have hO : Obs _ _ [_, _, _, _, _, _, _] := hO
              refine wpn_nil ?_
              refine wpn_ag ⟨again_ld rfl (hO.lookV1 (i := 2) rfl rfl) rfl, trivial⟩ ?_
              refine wpn_nil ?_
              refine wpn_pe ?_
              refine wpn_late ?_
              refine wpn_mkb (T := (Ty.int .i64)) hO rfl rfl g700 (show _ = _ from rfl) (by decide) fun b705 c702 σ o703 w704 hO => ?_
              have hO : Obs _ _ [_, _, _, _, _, _, _, _] := hO
              refine wpn_nil ?_
              refine wpn_ag ⟨again_ld rfl (hO.lookV1 (i := 2) rfl rfl) rfl, trivial⟩ ?_
              refine wpn_nil ?_
              refine wpn_pq ?_
              refine wpn_qa hO [] [(5, .pointer (some ⟨b4, 0, none⟩)), (7, .pointer (some ⟨b5, 0, none⟩)), (9, .pointer (some ⟨b22, 0, none⟩)), (10, .pointer (some ⟨b32, 0, none⟩)), (12, .int .i64 c44.1), (14, .pointer (some ⟨b706, 0, none⟩)), (65, .agg #[(.slice (some ⟨b698, 0, none⟩) y692.length c695), (.slice (some ⟨b705, 0, none⟩) y699.length c702), (.int .i64 0), (.slice A20 c6.1.Words.length c21)])] (And.intro rfl (And.intro rfl (And.intro rfl (And.intro rfl (And.intro rfl (And.intro rfl (And.intro rfl trivial))))))) fun j => ?_
              refine wpn_pe ?_
              refine wpn_st hO (i := 6) rfl (off := 0) rfl rfl rfl rfl (Nat.le_of_ble_eq_true rfl) rfl fun σ hO => ?_
              have hO : Obs _ _ [_, _, _, _, _, _, _, _] := hO
              refine wpn_nil ?_
              refine wpn_pd ?_
              refine wpn_end ?_
              refine thn_i ?_
              have hO := hO.sel [0, 1, 2, 3, 6, 5, 7] (by decide)
              exact ⟨b706, (some ⟨b698, 0, none⟩), c695, o696, y692, (some ⟨b705, 0, none⟩), c702, o703, y699, _, And.intro rfl (And.intro rfl (And.intro rfl (And.intro rfl (And.intro rfl (And.intro rfl trivial))))), hO, hL, r2_0, r2_1, r2_3, r11, r15, r19, r29, w697, w704, r19, hF⟩
          · refine wpn_pb ?_ ?_
            · refine wpn_pe ?_
              refine wpn_late ?_
              refine wpn_mkb (T := (Ty.int .i64)) hO rfl rfl g700 (show _ = _ from rfl) (by decide) fun b705 c702 σ o703 w704 hO => ?_
              have hO : Obs _ _ [_, _, _, _, _, _] := hO
              refine wpn_nil ?_
              refine wpn_ag ⟨again_ld rfl (hO.lookV1 (i := 2) rfl rfl) rfl, trivial⟩ ?_
              refine wpn_nil ?_
              refine wpn_pb ?_ ?_
              · refine wpn_pe ?_
                refine wpn_late ?_
                refine wpn_mkb (T := Ty.bool) hO rfl rfl g693 (show _ = _ from rfl) (by decide) fun b698 c695 σ o696 w697 hO => ?_
                have hO : Obs _ _ [_, _, _, _, _, _, _] := hO
                refine wpn_nil ?_
                refine wpn_ag ⟨again_ld rfl (hO.lookV1 (i := 2) rfl rfl) rfl, trivial⟩ ?_
                refine wpn_nil ?_
                refine wpn_pq ?_
                refine wpn_qa hO [] [(5, .pointer (some ⟨b4, 0, none⟩)), (7, .pointer (some ⟨b5, 0, none⟩)), (9, .pointer (some ⟨b22, 0, none⟩)), (10, .pointer (some ⟨b32, 0, none⟩)), (12, .int .i64 c44.1), (63, .pointer (some ⟨b22, 3, none⟩)), (64, .slice A20 c6.1.Words.length c21), (65, .agg #[(.slice (some ⟨b698, 0, none⟩) y692.length c695), (.slice (some ⟨b705, 0, none⟩) y699.length c702), (.int .i64 0), (.slice A20 c6.1.Words.length c21)])] (And.intro rfl (And.intro rfl (And.intro rfl (And.intro rfl (And.intro rfl (And.intro rfl (And.intro rfl (And.intro rfl trivial)))))))) fun j => ?_
                refine wpn_pe ?_
                refine wpn_late ?_
                refine wpn_al hO fun b706 σ hO => ?_
                have hO : Obs _ _ [_, _, _, _, _, _, _, _] := hO
                refine wpn_nil ?_
                refine wpn_ag ⟨again_ld rfl (hO.lookV1 (i := 2) rfl rfl) rfl, trivial⟩ ?_
                refine wpn_nil ?_
                refine wpn_pe ?_
                refine wpn_st hO (i := 7) rfl (off := 0) rfl rfl rfl rfl (Nat.le_of_ble_eq_true rfl) rfl fun σ hO => ?_
                have hO : Obs _ _ [_, _, _, _, _, _, _, _] := hO
                refine wpn_nil ?_
                refine wpn_pd ?_
                refine wpn_end ?_
                refine thn_i ?_
                have hO := hO.sel [0, 1, 2, 3, 7, 6, 5] (by decide)
                exact ⟨b706, (some ⟨b698, 0, none⟩), c695, o696, y692, (some ⟨b705, 0, none⟩), c702, o703, y699, _, And.intro rfl (And.intro rfl (And.intro rfl (And.intro rfl (And.intro rfl (And.intro rfl trivial))))), hO, hL, r2_0, r2_1, r2_3, r11, r15, r19, r29, w697, w704, r19, hF⟩
              · refine wpn_pe ?_
                refine wpn_late ?_
                refine wpn_al hO fun b706 σ hO => ?_
                have hO : Obs _ _ [_, _, _, _, _, _, _] := hO
                refine wpn_nil ?_
                refine wpn_ag ⟨again_ld rfl (hO.lookV1 (i := 2) rfl rfl) rfl, trivial⟩ ?_
                refine wpn_nil ?_
                refine wpn_pe ?_
                refine wpn_late ?_
                refine wpn_mkb (T := Ty.bool) hO rfl rfl g693 (show _ = _ from rfl) (by decide) fun b698 c695 σ o696 w697 hO => ?_
                have hO : Obs _ _ [_, _, _, _, _, _, _, _] := hO
                refine wpn_nil ?_
                refine wpn_ag ⟨again_ld rfl (hO.lookV1 (i := 2) rfl rfl) rfl, trivial⟩ ?_
                refine wpn_nil ?_
                refine wpn_pq ?_
                refine wpn_qa hO [] [(5, .pointer (some ⟨b4, 0, none⟩)), (7, .pointer (some ⟨b5, 0, none⟩)), (9, .pointer (some ⟨b22, 0, none⟩)), (10, .pointer (some ⟨b32, 0, none⟩)), (12, .int .i64 c44.1), (14, .pointer (some ⟨b706, 0, none⟩)), (65, .agg #[(.slice (some ⟨b698, 0, none⟩) y692.length c695), (.slice (some ⟨b705, 0, none⟩) y699.length c702), (.int .i64 0), (.slice A20 c6.1.Words.length c21)])] (And.intro rfl (And.intro rfl (And.intro rfl (And.intro rfl (And.intro rfl (And.intro rfl (And.intro rfl trivial))))))) fun j => ?_
                refine wpn_pe ?_
                refine wpn_st hO (i := 6) rfl (off := 0) rfl rfl rfl rfl (Nat.le_of_ble_eq_true rfl) rfl fun σ hO => ?_
                have hO : Obs _ _ [_, _, _, _, _, _, _, _] := hO
                refine wpn_nil ?_
                refine wpn_pd ?_
                refine wpn_end ?_
                refine thn_i ?_
                have hO := hO.sel [0, 1, 2, 3, 6, 7, 5] (by decide)
                exact ⟨b706, (some ⟨b698, 0, none⟩), c695, o696, y692, (some ⟨b705, 0, none⟩), c702, o703, y699, _, And.intro rfl (And.intro rfl (And.intro rfl (And.intro rfl (And.intro rfl (And.intro rfl trivial))))), hO, hL, r2_0, r2_1, r2_3, r11, r15, r19, r29, w697, w704, r19, hF⟩
            · refine wpn_pe ?_
              refine wpn_late ?_
              refine wpn_al hO fun b706 σ hO => ?_
              have hO : Obs _ _ [_, _, _, _, _, _] := hO
              refine wpn_nil ?_
              refine wpn_ag ⟨again_ld rfl (hO.lookV1 (i := 2) rfl rfl) rfl, trivial⟩ ?_
              refine wpn_nil ?_
              refine wpn_pb ?_ ?_
              · refine wpn_pe ?_
                refine wpn_late ?_
                refine wpn_mkb (T := Ty.bool) hO rfl rfl g693 (show _ = _ from rfl) (by decide) fun b698 c695 σ o696 w697 hO => ?_
                have hO : Obs _ _ [_, _, _, _, _, _, _] := hO
                refine wpn_nil ?_
                refine wpn_ag ⟨again_ld rfl (hO.lookV1 (i := 2) rfl rfl) rfl, trivial⟩ ?_
                refine wpn_nil ?_
                refine wpn_pe ?_
                refine wpn_late ?_
                refine wpn_mkb (T := (Ty.int .i64)) hO rfl rfl g700 (show _ = _ from rfl) (by decide) fun b705 c702 σ o703 w704 hO => ?_
                have hO : Obs _ _ [_, _, _, _, _, _, _, _] := hO
                refine wpn_nil ?_
                refine wpn_ag ⟨again_ld rfl (hO.lookV1 (i := 2) rfl rfl) rfl, trivial⟩ ?_
                refine wpn_nil ?_
                refine wpn_pq ?_
                refine wpn_qa hO [] [(5, .pointer (some ⟨b4, 0, none⟩)), (7, .pointer (some ⟨b5, 0, none⟩)), (9, .pointer (some ⟨b22, 0, none⟩)), (10, .pointer (some ⟨b32, 0, none⟩)), (12, .int .i64 c44.1), (14, .pointer (some ⟨b706, 0, none⟩)), (65, .agg #[(.slice (some ⟨b698, 0, none⟩) y692.length c695), (.slice (some ⟨b705, 0, none⟩) y699.length c702), (.int .i64 0), (.slice A20 c6.1.Words.length c21)])] (And.intro rfl (And.intro rfl (And.intro rfl (And.intro rfl (And.intro rfl (And.intro rfl (And.intro rfl trivial))))))) fun j => ?_
                refine wpn_pe ?_
                refine wpn_st hO (i := 5) rfl (off := 0) rfl rfl rfl rfl (Nat.le_of_ble_eq_true rfl) rfl fun σ hO => ?_
                have hO : Obs _ _ [_, _, _, _, _, _, _, _] := hO
                refine wpn_nil ?_
                refine wpn_pd ?_
                refine wpn_end ?_
                refine thn_i ?_
                have hO := hO.sel [0, 1, 2, 3, 5, 6, 7] (by decide)
                exact ⟨b706, (some ⟨b698, 0, none⟩), c695, o696, y692, (some ⟨b705, 0, none⟩), c702, o703, y699, _, And.intro rfl (And.intro rfl (And.intro rfl (And.intro rfl (And.intro rfl (And.intro rfl trivial))))), hO, hL, r2_0, r2_1, r2_3, r11, r15, r19, r29, w697, w704, r19, hF⟩
              · refine wpn_pe ?_
                refine wpn_late ?_
                refine wpn_mkb (T := (Ty.int .i64)) hO rfl rfl g700 (show _ = _ from rfl) (by decide) fun b705 c702 σ o703 w704 hO => ?_
                have hO : Obs _ _ [_, _, _, _, _, _, _] := hO
                refine wpn_nil ?_
                refine wpn_ag ⟨again_ld rfl (hO.lookV1 (i := 2) rfl rfl) rfl, trivial⟩ ?_
                refine wpn_nil ?_
                refine wpn_pe ?_
                refine wpn_late ?_
                refine wpn_mkb (T := Ty.bool) hO rfl rfl g693 (show _ = _ from rfl) (by decide) fun b698 c695 σ o696 w697 hO => ?_
                have hO : Obs _ _ [_, _, _, _, _, _, _, _] := hO
                refine wpn_nil ?_
                refine wpn_ag ⟨again_ld rfl (hO.lookV1 (i := 2) rfl rfl) rfl, trivial⟩ ?_
                refine wpn_nil ?_
                refine wpn_pq ?_
                refine wpn_qa hO [] [(5, .pointer (some ⟨b4, 0, none⟩)), (7, .pointer (some ⟨b5, 0, none⟩)), (9, .pointer (some ⟨b22, 0, none⟩)), (10, .pointer (some ⟨b32, 0, none⟩)), (12, .int .i64 c44.1), (14, .pointer (some ⟨b706, 0, none⟩)), (65, .agg #[(.slice (some ⟨b698, 0, none⟩) y692.length c695), (.slice (some ⟨b705, 0, none⟩) y699.length c702), (.int .i64 0), (.slice A20 c6.1.Words.length c21)])] (And.intro rfl (And.intro rfl (And.intro rfl (And.intro rfl (And.intro rfl (And.intro rfl (And.intro rfl trivial))))))) fun j => ?_
                refine wpn_pe ?_
                refine wpn_st hO (i := 5) rfl (off := 0) rfl rfl rfl rfl (Nat.le_of_ble_eq_true rfl) rfl fun σ hO => ?_
                have hO : Obs _ _ [_, _, _, _, _, _, _, _] := hO
                refine wpn_nil ?_
                refine wpn_pd ?_
                refine wpn_end ?_
                refine thn_i ?_
                have hO := hO.sel [0, 1, 2, 3, 5, 7, 6] (by decide)
                exact ⟨b706, (some ⟨b698, 0, none⟩), c695, o696, y692, (some ⟨b705, 0, none⟩), c702, o703, y699, _, And.intro rfl (And.intro rfl (And.intro rfl (And.intro rfl (And.intro rfl (And.intro rfl trivial))))), hO, hL, r2_0, r2_1, r2_3, r11, r15, r19, r29, w697, w704, r19, hF⟩
        · rintro e σ ⟨b71, A72, c73, o74, x75, A77, c78, o79, x80, _, hA, hO, hL, r64, r65, r66, r67, r68, r69, r70, w76, w81, r82, hF⟩
          rw [← sets_agr _ _ hA]
          unfold F_unwind_Up_k11 at hF
          refine wpn_assoc ?_
          refine wpn_qa hO [] [(5, .pointer (some ⟨b4, 0, none⟩)), (7, .pointer (some ⟨b5, 0, none⟩)), (9, .pointer (some ⟨b22, 0, none⟩)), (10, .pointer (some ⟨b32, 0, none⟩)), (12, .int .i64 c44.1), (14, .pointer (some ⟨b71, 0, none⟩)), (15, .int .i64 6)] (And.intro rfl (And.intro rfl (And.intro rfl (And.intro rfl (And.intro rfl (And.intro rfl (And.intro rfl trivial))))))) fun j => ?_
          refine wpn_bl ?_
          refine wpn_lp (fun (n : Nat) e' σ' => ∃ (k297 : Nat) (A298 : Option Addr) (c299 : Nat) (o300 : Ob) (x301 : List Bool) (k304 : Nat) (A305 : Option Addr) (c306 : Nat) (o307 : Ob) (x308 : List Int) (x312 : Int) (τ' : Hp), agr [(5, .pointer (some ⟨b4, 0, none⟩)), (7, .pointer (some ⟨b5, 0, none⟩)), (9, .pointer (some ⟨b22, 0, none⟩)), (10, .pointer (some ⟨b32, 0, none⟩)), (12, .int .i64 c44.1), (14, .pointer (some ⟨b71, 0, none⟩)), (15, .int .i64 x312)] e' ∧ Obs τ' σ' [some (b4, ⟨[.slice A2_0 p2.Known.length c2_0, .slice A2_1 p2.Regs.length c2_1, .int .i64 p2.Base, .slice A2_3 p2.Words.length c2_3], 28, 4, true⟩), some (b5, ⟨[.slice none 0 0, .slice none 0 0, .int .i64 0, .slice none 0 0], 28, 4, true⟩), some (b22, ⟨[.slice A12 c6.1.Known.length c13, .slice A16 c6.1.Regs.length c17, .int .i64 c6.1.Base, .slice A20 c6.1.Words.length c21], 28, 4, true⟩), some (b32, ⟨[.int .i64 c24.1.From, .int .i64 c24.1.To, .int .i64 c24.1.Up, .slice A30 c24.1.Regs.length c31], 48, 4, true⟩), some (b71, ⟨[.slice A298 k297 c299, .slice A305 k304 c306, .int .i64 0, .slice A20 c6.1.Words.length c21], 28, 4, true⟩), o300, o307] ∧ Hp.le τ τ' ∧ RdT Ty.bool τ' (.slice A2_0 p2.Known.length c2_0) p2.Known ∧ RdT (Ty.int .i64) τ' (.slice A2_1 p2.Regs.length c2_1) p2.Regs ∧ RdT (Ty.int .i64) τ' (.slice A2_3 p2.Words.length c2_3) p2.Words ∧ RdT Ty.bool τ' (.slice A12 c6.1.Known.length c13) c6.1.Known ∧ RdT (Ty.int .i64) τ' (.slice A16 c6.1.Regs.length c17) c6.1.Regs ∧ RdT (Ty.int .i64) τ' (.slice A20 c6.1.Words.length c21) c6.1.Words ∧ RdT TyS_api_Saved τ' (.slice A30 c24.1.Regs.length c31) c24.1.Regs ∧ k297 = x301.length ∧ OwnO Ty.bool 4 τ' (.slice A298 k297 c299) x301 o300 ∧ k304 = x308.length ∧ OwnO (Ty.int .i64) 2 τ' (.slice A305 k304 c306) x308 o307 ∧ RdT (Ty.int .i64) τ' (.slice A20 c6.1.Words.length c21) c6.1.Words ∧ F_unwind_Up_l15 p2 c6 c24 c44 n x301 x308 x312 = some rr) big ⟨x75.length, A72, c73, o74, x75, x80.length, A77, c78, o79, x80, 6, _, And.intro rfl (And.intro rfl (And.intro rfl (And.intro rfl (And.intro rfl (And.intro rfl (And.intro rfl trivial)))))), hO, hL, r64, r65, r66, r67, r68, r69, r70, w76.len, w76, w81.len, w81, r82, hF⟩ ?_
          clear hF hO hL
          rintro n502 e σ ⟨k297, A298, c299, o300, x301, k304, A305, c306, o307, x308, x312, _, hA, hO, hL, r290, r291, r292, r293, r294, r295, r296, hk302, w303, hk309, w310, r311, hF⟩
          rw [← sets_agr _ _ hA]
          cases n502 with
          | zero => exact nomatch (show none = some rr from hF)
          | succ n502 =>
            replace hF : F_unwind_Up_l15B (F_unwind_Up_l15 p2 c6 c24 c44 n502) p2 c6 c24 c44 x301 x308 x312 = some rr := hF
            unfold F_unwind_Up_l15B at hF
            subst hk302
            subst hk309
            refine wpn_assoc ?_
            refine wpn_qa hO [] [(5, .pointer (some ⟨b4, 0, none⟩)), (7, .pointer (some ⟨b5, 0, none⟩)), (9, .pointer (some ⟨b22, 0, none⟩)), (10, .pointer (some ⟨b32, 0, none⟩)), (12, .int .i64 c44.1), (14, .pointer (some ⟨b71, 0, none⟩)), (15, .int .i64 x312), (67, .bool (decide (x312 ≤ 11)))] (And.intro rfl (And.intro rfl (And.intro rfl (And.intro rfl (And.intro rfl (And.intro rfl (And.intro rfl (And.intro rfl trivial)))))))) fun j => ?_
            rcases ite_some hF with ⟨hb503, hF⟩ | ⟨hb503, hF⟩
            · refine wpn_cT (congrArg Value.bool hb503) ?_
              refine wpn_sk ?_
              refine wpn_bl ?_
              refine wpn_plast ?_
              refine wpn_q hO 8 [4, 4, 0] [(5, .pointer (some ⟨b4, 0, none⟩)), (7, .pointer (some ⟨b5, 0, none⟩)), (9, .pointer (some ⟨b22, 0, none⟩)), (10, .pointer (some ⟨b32, 0, none⟩)), (12, .int .i64 c44.1), (14, .pointer (some ⟨b71, 0, none⟩)), (15, .int .i64 x312), (71, .pointer (some ⟨b71, 1, none⟩)), (72, .slice A305 x308.length c306), (73, .int .i64 x312), (74, .pointer (some ⟨b71, 0, none⟩)), (75, .slice A298 x301.length c299), (76, .int .i64 x312), (77, .agg #[(.slice A2_0 p2.Known.length c2_0), (.slice A2_1 p2.Regs.length c2_1), (.int .i64 p2.Base), (.slice A2_3 p2.Words.length c2_3)]), (78, .int .i64 x312)] (And.intro (And.intro rfl rfl) (And.intro (And.intro rfl rfl) (And.intro (And.intro rfl rfl) (And.intro rfl (And.intro rfl (And.intro rfl (And.intro rfl (And.intro rfl (And.intro rfl (And.intro rfl (And.intro rfl (And.intro rfl (And.intro rfl (And.intro rfl (And.intro rfl (And.intro rfl (And.intro rfl (And.intro rfl trivial)))))))))))))))))) fun j => ?_
              refine wpn_late ?_
              obtain ⟨c504, h505, hF⟩ := bind_some hF
              refine wpn_c0 hO (w_unwind_reg r290 r291 r292 h505) rfl fun _ σ _ _ hO h506 h507 => ?_
              have hL := hL.trans h506
              have w310 := w310.le h506
              have w303 := w303.le h506
              have r290 := r290.le h506
              have r291 := r291.le h506
              have r292 := r292.le h506
              have r293 := r293.le h506
              have r294 := r294.le h506
              have r295 := r295.le h506
              have r296 := r296.le h506
              have r311 := r311.le h506
              obtain ⟨rfl, rfl⟩ := h507
              have hO : Obs _ _ [_, _, _, _, _, _, _] := hO
              refine wpn_nil ?_
              refine wpn_ag ⟨again_ld rfl (hO.lookV1 (i := 4) rfl rfl) rfl, again_ld rfl (hO.lookV1 (i := 4) rfl rfl) rfl, trivial⟩ ?_
              refine wpn_q hO 3 [] [(5, .pointer (some ⟨b4, 0, none⟩)), (7, .pointer (some ⟨b5, 0, none⟩)), (9, .pointer (some ⟨b22, 0, none⟩)), (10, .pointer (some ⟨b32, 0, none⟩)), (12, .int .i64 c44.1), (14, .pointer (some ⟨b71, 0, none⟩)), (15, .int .i64 x312), (72, .slice A305 x308.length c306), (73, .int .i64 x312), (74, .pointer (some ⟨b71, 0, none⟩)), (75, .slice A298 x301.length c299), (76, .int .i64 x312), (80, .int .i64 c504.1), (81, .bool c504.2)] (And.intro rfl (And.intro rfl (And.intro rfl (And.intro rfl (And.intro rfl (And.intro rfl (And.intro rfl (And.intro rfl (And.intro rfl (And.intro rfl (And.intro rfl (And.intro rfl (And.intro rfl (And.intro rfl trivial)))))))))))))) fun j => ?_
              obtain ⟨y508, g509, hF⟩ := bind_some hF
              refine wpn_ido (T := (Ty.int .i64)) hO w310 (i := 6) rfl rfl rfl g509 (by decide) fun a510 _ k511 m512 i513 => ?_
              have k514 := k511
              obtain rfl : _ = ([.int .i64 y508] : List Value) := k514
              refine wpn_late ?_
              refine wpn_sto (T := (Ty.int .i64)) (off := 0) (vs := [.int .i64 c504.1]) hO w310 (i := 6) rfl (by rw [add_zero]; rfl) i513 g509 k511 m512 rfl rfl rfl rfl (by decide) (show _ = _ from rfl) fun σ o515 w516 hO => ?_
              have hO : Obs _ _ [_, _, _, _, _, _, _] := hO
              refine wpn_nil ?_
              refine wpn_ag ⟨again_ld rfl (hO.lookV1 (i := 4) rfl rfl) rfl, trivial⟩ ?_
              obtain ⟨y517, g518, hF⟩ := bind_some hF
              refine wpn_ido (T := Ty.bool) hO w303 (i := 5) rfl rfl rfl g518 (by decide) fun a519 _ k520 m521 i522 => ?_
              have k523 := k520
              obtain rfl : _ = ([.bool y517] : List Value) := k523
              refine wpn_sto (T := Ty.bool) (off := 0) (vs := [.bool c504.2]) hO w303 (i := 5) rfl (by rw [add_zero]; rfl) i522 g518 k520 m521 rfl rfl rfl rfl (by decide) (show _ = _ from rfl) fun σ o524 w525 hO => ?_
              have hO : Obs _ _ [_, _, _, _, _, _, _] := hO
              refine wpn_nil ?_
              refine wpn_end ?_
              refine inb_i ?_
              refine thn_i ?_
              refine wpn_rlast ?_
              refine wpn_qa hO [] [(5, .pointer (some ⟨b4, 0, none⟩)), (7, .pointer (some ⟨b5, 0, none⟩)), (9, .pointer (some ⟨b22, 0, none⟩)), (10, .pointer (some ⟨b32, 0, none⟩)), (12, .int .i64 c44.1), (14, .pointer (some ⟨b71, 0, none⟩)), (15, .int .i64 (IntKind.i64.wrap (x312 + 1)))] (And.intro rfl (And.intro rfl (And.intro rfl (And.intro rfl (And.intro rfl (And.intro rfl (And.intro rfl trivial))))))) fun j => ?_
              refine wpn_end ?_
              refine thn_i ?_
              exact ⟨n502, Nat.lt_succ_self _, x301.length, A298, c299, o524, (x301.set (Int.toNat x312) c504.2), x308.length, A305, c306, o515, (x308.set (Int.toNat x312) c504.1), (IntKind.i64.wrap (x312 + 1)), _, And.intro rfl (And.intro rfl (And.intro rfl (And.intro rfl (And.intro rfl (And.intro rfl (And.intro rfl trivial)))))), hO, hL, r290, r291, r292, r293, r294, r295, r296, w525.len, w525, w516.len, w516, r311, hF⟩
            · refine wpn_cF (congrArg Value.bool hb503) ?_
              refine wpn_ex ?_
              refine thn_x ?_
              refine inb_x ?_
              refine thn_i ?_
              refine wpn_p2r ?_
              refine wpn_q hO 6 [4, 4, 2] [(5, .pointer (some ⟨b4, 0, none⟩)), (7, .pointer (some ⟨b5, 0, none⟩)), (9, .pointer (some ⟨b22, 0, none⟩)), (10, .pointer (some ⟨b32, 0, none⟩)), (12, .int .i64 c44.1), (14, .pointer (some ⟨b71, 0, none⟩)), (85, .slice A305 x308.length c306), (86, .pointer (some ⟨b71, 0, none⟩)), (87, .slice A298 x301.length c299), (89, .int .i64 c6.1.Base)] (And.intro (And.intro rfl rfl) (And.intro (And.intro rfl rfl) (And.intro (And.intro rfl rfl) (And.intro rfl (And.intro rfl (And.intro rfl (And.intro rfl (And.intro rfl (And.intro rfl (And.intro rfl (And.intro rfl (And.intro rfl (And.intro rfl trivial))))))))))))) fun j => ?_
              obtain ⟨y526, g527, hF⟩ := bind_some hF
              refine wpn_ido (T := (Ty.int .i64)) hO w310 (i := 6) rfl rfl rfl g527 (by decide) fun a528 _ k529 m530 i531 => ?_
              have k532 := k529
              obtain rfl : _ = ([.int .i64 y526] : List Value) := k532
              refine wpn_late ?_
              refine wpn_sto (T := (Ty.int .i64)) (off := 0) (vs := [.int .i64 c6.1.Base]) hO w310 (i := 6) rfl (by rw [add_zero]; rfl) i531 g527 k529 m530 rfl rfl rfl rfl (by decide) (show _ = _ from rfl) fun σ o533 w534 hO => ?_
              have hO : Obs _ _ [_, _, _, _, _, _, _] := hO
              refine wpn_nil ?_
              refine wpn_ag ⟨again_ld rfl (hO.lookV1 (i := 4) rfl rfl) rfl, trivial⟩ ?_
              obtain ⟨y535, g536, hF⟩ := bind_some hF
              refine wpn_ido (T := Ty.bool) hO w303 (i := 5) rfl rfl rfl g536 (by decide) fun a537 _ k538 m539 i540 => ?_
              have k541 := k538
              obtain rfl : _ = ([.bool y535] : List Value) := k541
              refine wpn_sto (T := Ty.bool) (off := 0) (vs := [.bool true]) hO w303 (i := 5) rfl (by rw [add_zero]; rfl) i540 g536 k538 m539 rfl rfl rfl rfl (by decide) (show _ = _ from rfl) fun σ o542 w543 hO => ?_
              have hO : Obs _ _ [_, _, _, _, _, _, _] := hO
              refine wpn_nil ?_
              refine wpn_assoc ?_
              refine wpn_qa hO [3] [(5, .pointer (some ⟨b4, 0, none⟩)), (7, .pointer (some ⟨b5, 0, none⟩)), (9, .pointer (some ⟨b22, 0, none⟩)), (12, .int .i64 c44.1), (14, .pointer (some ⟨b71, 0, none⟩)), (93, .slice A30 c24.1.Regs.length c31), (94, .int .i64 (c24.1.Regs.length : Int)), (95, .int .i64 0)] (And.intro (And.intro rfl rfl) (And.intro rfl (And.intro rfl (And.intro rfl (And.intro rfl (And.intro rfl (And.intro rfl (And.intro rfl (And.intro rfl trivial))))))))) fun j => ?_
              refine wpn_bl ?_
              have hO := hO.sel [0, 1, 2, 4, 5, 6] (by decide)
              refine wpn_lp (fun (n : Nat) e' σ' => ∃ (k606 : Nat) (A607 : Option Addr) (c608 : Nat) (o609 : Ob) (x610 : List Bool) (k613 : Nat) (A614 : Option Addr) (c615 : Nat) (o616 : Ob) (x617 : List Int) (x622 : Int) (τ' : Hp), agr [(5, .pointer (some ⟨b4, 0, none⟩)), (7, .pointer (some ⟨b5, 0, none⟩)), (9, .pointer (some ⟨b22, 0, none⟩)), (12, .int .i64 c44.1), (14, .pointer (some ⟨b71, 0, none⟩)), (93, .slice A30 c24.1.Regs.length c31), (94, .int .i64 (c24.1.Regs.length : Int)), (95, .int .i64 x622)] e' ∧ Obs τ' σ' [some (b4, ⟨[.slice A2_0 p2.Known.length c2_0, .slice A2_1 p2.Regs.length c2_1, .int .i64 p2.Base, .slice A2_3 p2.Words.length c2_3], 28, 4, true⟩), some (b5, ⟨[.slice none 0 0, .slice none 0 0, .int .i64 0, .slice none 0 0], 28, 4, true⟩), some (b22, ⟨[.slice A12 c6.1.Known.length c13, .slice A16 c6.1.Regs.length c17, .int .i64 c6.1.Base, .slice A20 c6.1.Words.length c21], 28, 4, true⟩), some (b71, ⟨[.slice A607 k606 c608, .slice A614 k613 c615, .int .i64 0, .slice A20 c6.1.Words.length c21], 28, 4, true⟩), o609, o616] ∧ Hp.le τ τ' ∧ RdT Ty.bool τ' (.slice A2_0 p2.Known.length c2_0) p2.Known ∧ RdT (Ty.int .i64) τ' (.slice A2_1 p2.Regs.length c2_1) p2.Regs ∧ RdT (Ty.int .i64) τ' (.slice A2_3 p2.Words.length c2_3) p2.Words ∧ RdT Ty.bool τ' (.slice A12 c6.1.Known.length c13) c6.1.Known ∧ RdT (Ty.int .i64) τ' (.slice A16 c6.1.Regs.length c17) c6.1.Regs ∧ RdT (Ty.int .i64) τ' (.slice A20 c6.1.Words.length c21) c6.1.Words ∧ k606 = x610.length ∧ OwnO Ty.bool 4 τ' (.slice A607 k606 c608) x610 o609 ∧ k613 = x617.length ∧ OwnO (Ty.int .i64) 2 τ' (.slice A614 k613 c615) x617 o616 ∧ RdT (Ty.int .i64) τ' (.slice A20 c6.1.Words.length c21) c6.1.Words ∧ RdT TyS_api_Saved τ' (.slice A30 c24.1.Regs.length c31) c24.1.Regs ∧ F_unwind_Up_l17 p2 c6 c24 c44 n x610 x617 x622 = some rr) big ⟨x301.length, A298, c299, o542, (x301.set (Int.toNat 15) true), x308.length, A305, c306, o533, (x308.set (Int.toNat 15) c6.1.Base), 0, _, And.intro rfl (And.intro rfl (And.intro rfl (And.intro rfl (And.intro rfl (And.intro rfl (And.intro rfl (And.intro rfl trivial))))))), hO, hL, r290, r291, r292, r293, r294, r295, w543.len, w543, w534.len, w534, r311, r296, hF⟩ ?_
              clear hF hO hL
              rintro n657 e σ ⟨k606, A607, c608, o609, x610, k613, A614, c615, o616, x617, x622, _, hA, hO, hL, r600, r601, r602, r603, r604, r605, hk611, w612, hk618, w619, r620, r621, hF⟩
              rw [← sets_agr _ _ hA]
              cases n657 with
              | zero => exact nomatch (show none = some rr from hF)
              | succ n657 =>
                replace hF : F_unwind_Up_l17B (F_unwind_Up_l17 p2 c6 c24 c44 n657) p2 c6 c24 c44 x610 x617 x622 = some rr := hF
                unfold F_unwind_Up_l17B at hF
                subst hk611
                subst hk618
                refine wpn_qa hO [] [(5, .pointer (some ⟨b4, 0, none⟩)), (7, .pointer (some ⟨b5, 0, none⟩)), (9, .pointer (some ⟨b22, 0, none⟩)), (12, .int .i64 c44.1), (14, .pointer (some ⟨b71, 0, none⟩)), (93, .slice A30 c24.1.Regs.length c31), (94, .int .i64 (c24.1.Regs.length : Int)), (95, .int .i64 x622), (96, .bool (decide (x622 < (c24.1.Regs.length : Int))))] (And.intro rfl (And.intro rfl (And.intro rfl (And.intro rfl (And.intro rfl (And.intro rfl (And.intro rfl (And.intro rfl (And.intro rfl trivial))))))))) fun j => ?_
                rcases ite_some hF with ⟨hb658, hF⟩ | ⟨hb658, hF⟩
                · refine wpn_cT (congrArg Value.bool hb658) ?_
                  refine wpn_sk ?_
                  refine wpn_bl ?_
                  obtain ⟨y659, g660, hF⟩ := bind_some hF
                  refine wpn_idx (T := TyS_api_Saved) r621 hO.base rfl rfl g660 (by decide) fun a661 _ k662 m663 => ?_
                  obtain rfl : _ = ([.int .i64 y659.Reg, .int .i64 y659.At] : List Value) := k662
                  refine wpn_ld rfl ((m663.le hO.base).all rfl) ?_
                  refine wpn_al hO fun b664 σ hO => ?_
                  have hO : Obs _ _ [_, _, _, _, _, _, _] := hO
                  refine wpn_st hO (i := 6) rfl (off := 0) rfl rfl rfl rfl (Nat.le_of_ble_eq_true rfl) rfl fun σ hO => ?_
                  have hO : Obs _ _ [_, _, _, _, _, _, _] := hO
                  refine wpn_nil ?_
                  refine wpn_q hO 6 [0, 2, 6] [(5, .pointer (some ⟨b4, 0, none⟩)), (7, .pointer (some ⟨b5, 0, none⟩)), (9, .pointer (some ⟨b22, 0, none⟩)), (12, .int .i64 c44.1), (14, .pointer (some ⟨b71, 0, none⟩)), (17, .pointer (some ⟨b664, 0, none⟩)), (93, .slice A30 c24.1.Regs.length c31), (94, .int .i64 (c24.1.Regs.length : Int)), (95, .int .i64 x622), (100, .agg #[(.slice A2_0 p2.Known.length c2_0), (.slice A2_1 p2.Regs.length c2_1), (.int .i64 p2.Base), (.slice A2_3 p2.Words.length c2_3)]), (105, .int .i64 (IntKind.i64.wrap (c6.1.Base + y659.At)))] (And.intro (And.intro rfl rfl) (And.intro (And.intro rfl rfl) (And.intro (And.intro rfl rfl) (And.intro rfl (And.intro rfl (And.intro rfl (And.intro rfl (And.intro rfl (And.intro rfl (And.intro rfl (And.intro rfl (And.intro rfl (And.intro rfl (And.intro rfl trivial)))))))))))))) fun j => ?_
                  obtain ⟨c665, h666, hF⟩ := bind_some hF
                  refine wpn_c0 hO (w_unwind_word r600 r601 r602 h666) rfl fun _ σ _ _ hO h667 h668 => ?_
                  have hL := hL.trans h667
                  have r621 := r621.le h667
                  have r600 := r600.le h667
                  have r601 := r601.le h667
                  have r602 := r602.le h667
                  have r603 := r603.le h667
                  have r604 := r604.le h667
                  have r605 := r605.le h667
                  have w612 := w612.le h667
                  have w619 := w619.le h667
                  have r620 := r620.le h667
                  obtain ⟨rfl, rfl⟩ := h668
                  have hO : Obs _ _ [_, _, _, _, _, _, _] := hO
                  refine wpn_qa hO [] [(5, .pointer (some ⟨b4, 0, none⟩)), (7, .pointer (some ⟨b5, 0, none⟩)), (9, .pointer (some ⟨b22, 0, none⟩)), (12, .int .i64 c44.1), (14, .pointer (some ⟨b71, 0, none⟩)), (17, .pointer (some ⟨b664, 0, none⟩)), (18, .int .i64 c665.1), (19, .bool c665.2), (93, .slice A30 c24.1.Regs.length c31), (94, .int .i64 (c24.1.Regs.length : Int)), (95, .int .i64 x622)] (And.intro rfl (And.intro rfl (And.intro rfl (And.intro rfl (And.intro rfl (And.intro rfl (And.intro rfl (And.intro rfl (And.intro rfl (And.intro rfl (And.intro rfl trivial))))))))))) fun j => ?_
                  refine wpn_assoc ?_
                  refine wpn_qa hO [] [(5, .pointer (some ⟨b4, 0, none⟩)), (7, .pointer (some ⟨b5, 0, none⟩)), (9, .pointer (some ⟨b22, 0, none⟩)), (12, .int .i64 c44.1), (14, .pointer (some ⟨b71, 0, none⟩)), (17, .pointer (some ⟨b664, 0, none⟩)), (18, .int .i64 c665.1), (93, .slice A30 c24.1.Regs.length c31), (94, .int .i64 (c24.1.Regs.length : Int)), (95, .int .i64 x622), (110, .bool (!c665.2))] (And.intro rfl (And.intro rfl (And.intro rfl (And.intro rfl (And.intro rfl (And.intro rfl (And.intro rfl (And.intro rfl (And.intro rfl (And.intro rfl (And.intro rfl trivial))))))))))) fun j => ?_
                  rcases ite_some hF with ⟨hb669, hF⟩ | ⟨hb669, hF⟩
                  · refine wpn_cT (congrArg Value.bool hb669) ?_
                    refine wpn_assoc ?_
                    refine wpn_p2r ?_
                    refine wpn_q hO 2 [1] [(6, .int .i64 0), (7, .pointer (some ⟨b5, 0, none⟩)), (111, .agg #[(.slice none 0 0), (.slice none 0 0), (.int .i64 0), (.slice none 0 0)])] (And.intro (And.intro rfl rfl) (And.intro rfl (And.intro rfl (And.intro rfl trivial)))) fun j => ?_
                    refine wpn_st hO (i := 1) rfl (off := 0) rfl rfl rfl rfl (Nat.le_of_ble_eq_true rfl) rfl fun σ hO => ?_
                    have hO : Obs _ _ [_, _, _, _, _, _, _] := hO
                    refine wpn_qa hO [] [(6, .int .i64 0), (7, .pointer (some ⟨b5, 0, none⟩)), (8, .int .i64 4)] (And.intro rfl (And.intro rfl (And.intro rfl trivial))) fun j => ?_
                    refine wpn_rt ?_
                    refine inb_r1 ?_
                    refine thn_r1 ?_
                    refine thn_r1 ?_
                    refine inb_r1 ?_
                    refine thn_r1 ?_
                    injection hF with hF
                    subst hF
                    have hV1 := hO.val (i := 1) rfl (off := 0) (agg := true) (n := 4) rfl
                    have hO := hO.sel [] (by decide)
                    exact hQ _ _ _ _ _ (resvs_t (resvs_c rfl (hV1) (resvs_t rfl))) hO hL ⟨_, _, _, rfl, rfl, (RdT.nil _ _), (RdT.nil _ _), (RdT.nil _ _)⟩
                  · refine wpn_cF (congrArg Value.bool hb669) ?_
                    refine wpn_sk ?_
                    refine wpn_plast ?_
                    refine wpn_q hO 9 [3, 6, 3, 6] [(5, .pointer (some ⟨b4, 0, none⟩)), (7, .pointer (some ⟨b5, 0, none⟩)), (9, .pointer (some ⟨b22, 0, none⟩)), (12, .int .i64 c44.1), (14, .pointer (some ⟨b71, 0, none⟩)), (93, .slice A30 c24.1.Regs.length c31), (94, .int .i64 (c24.1.Regs.length : Int)), (95, .int .i64 x622), (113, .slice A614 x617.length c615), (115, .int .i64 y659.Reg), (116, .pointer (some ⟨b71, 0, none⟩)), (117, .slice A607 x610.length c608), (118, .pointer (some ⟨b664, 0, none⟩)), (119, .int .i64 y659.Reg), (120, .int .i64 c665.1)] (And.intro (And.intro rfl rfl) (And.intro (And.intro rfl rfl) (And.intro (And.intro rfl rfl) (And.intro (And.intro rfl rfl) (And.intro rfl (And.intro rfl (And.intro rfl (And.intro rfl (And.intro rfl (And.intro rfl (And.intro rfl (And.intro rfl (And.intro rfl (And.intro rfl (And.intro rfl (And.intro rfl (And.intro rfl (And.intro rfl (And.intro rfl trivial))))))))))))))))))) fun j => ?_
                    obtain ⟨y670, g671, hF⟩ := bind_some hF
                    refine wpn_ido (T := (Ty.int .i64)) hO w619 (i := 5) rfl rfl rfl g671 (by decide) fun a672 _ k673 m674 i675 => ?_
                    have k676 := k673
                    obtain rfl : _ = ([.int .i64 y670] : List Value) := k676
                    refine wpn_late ?_
                    refine wpn_sto (T := (Ty.int .i64)) (off := 0) (vs := [.int .i64 c665.1]) hO w619 (i := 5) rfl (by rw [add_zero]; rfl) i675 g671 k673 m674 rfl rfl rfl rfl (by decide) (show _ = _ from rfl) fun σ o677 w678 hO => ?_
                    have hO : Obs _ _ [_, _, _, _, _, _, _] := hO
                    refine wpn_nil ?_
                    refine wpn_ag ⟨again_ld rfl (hO.lookV1 (i := 6) rfl rfl) rfl, again_ld rfl (hO.lookV1 (i := 3) rfl rfl) rfl, trivial⟩ ?_
                    obtain ⟨y679, g680, hF⟩ := bind_some hF
                    refine wpn_ido (T := Ty.bool) hO w612 (i := 4) rfl rfl rfl g680 (by decide) fun a681 _ k682 m683 i684 => ?_
                    have k685 := k682
                    obtain rfl : _ = ([.bool y679] : List Value) := k685
                    refine wpn_sto (T := Ty.bool) (off := 0) (vs := [.bool true]) hO w612 (i := 4) rfl (by rw [add_zero]; rfl) i684 g680 k682 m683 rfl rfl rfl rfl (by decide) (show _ = _ from rfl) fun σ o686 w687 hO => ?_
                    have hO : Obs _ _ [_, _, _, _, _, _, _] := hO
                    refine wpn_nil ?_
                    refine wpn_end ?_
                    refine inb_i ?_
                    refine thn_i ?_
                    refine wpn_rlast ?_
                    refine wpn_qa hO [] [(5, .pointer (some ⟨b4, 0, none⟩)), (7, .pointer (some ⟨b5, 0, none⟩)), (9, .pointer (some ⟨b22, 0, none⟩)), (12, .int .i64 c44.1), (14, .pointer (some ⟨b71, 0, none⟩)), (93, .slice A30 c24.1.Regs.length c31), (94, .int .i64 (c24.1.Regs.length : Int)), (95, .int .i64 (IntKind.i64.wrap (x622 + 1)))] (And.intro rfl (And.intro rfl (And.intro rfl (And.intro rfl (And.intro rfl (And.intro rfl (And.intro rfl (And.intro rfl trivial)))))))) fun j => ?_
                    refine wpn_end ?_
                    refine thn_i ?_
                    have hO := hO.sel [0, 1, 2, 3, 4, 5] (by decide)
                    exact ⟨n657, Nat.lt_succ_self _, x610.length, A607, c608, o686, (x610.set (Int.toNat y659.Reg) true), x617.length, A614, c615, o677, (x617.set (Int.toNat y659.Reg) c665.1), (IntKind.i64.wrap (x622 + 1)), _, And.intro rfl (And.intro rfl (And.intro rfl (And.intro rfl (And.intro rfl (And.intro rfl (And.intro rfl (And.intro rfl trivial))))))), hO, hL, r600, r601, r602, r603, r604, r605, w687.len, w687, w678.len, w678, r620, r621, hF⟩
                · refine wpn_cF (congrArg Value.bool hb658) ?_
                  refine wpn_ex ?_
                  refine thn_x ?_
                  refine inb_x ?_
                  refine thn_i ?_
                  refine wpn_p2r ?_
                  refine wpn_q hO 3 [3] [(6, .int .i64 c44.1), (7, .pointer (some ⟨b5, 0, none⟩)), (125, .agg #[(.slice A607 x610.length c608), (.slice A614 x617.length c615), (.int .i64 0), (.slice A20 c6.1.Words.length c21)])] (And.intro (And.intro rfl rfl) (And.intro rfl (And.intro rfl (And.intro rfl trivial)))) fun j => ?_
                  refine wpn_st hO (i := 1) rfl (off := 0) rfl rfl rfl rfl (Nat.le_of_ble_eq_true rfl) rfl fun σ hO => ?_
                  have hO : Obs _ _ [_, _, _, _, _, _] := hO
                  refine wpn_qa hO [] [(6, .int .i64 c44.1), (7, .pointer (some ⟨b5, 0, none⟩)), (8, .int .i64 0)] (And.intro rfl (And.intro rfl (And.intro rfl trivial))) fun j => ?_
                  refine wpn_r1 ?_
                  obtain ⟨_, h689, r688, hO⟩ := w612.share hO (i := 4) rfl
                  have hL := hL.trans h689
                  have r600 := r600.le h689
                  have r601 := r601.le h689
                  have r602 := r602.le h689
                  have w619 := w619.le h689
                  have r620 := r620.le h689
                  have r603 := r603.le h689
                  have r604 := r604.le h689
                  have r605 := r605.le h689
                  have hO : Obs _ _ [_, _, _, _, _, _] := hO
                  obtain ⟨_, h691, r690, hO⟩ := w619.share hO (i := 5) rfl
                  have hL := hL.trans h691
                  have r600 := r600.le h691
                  have r601 := r601.le h691
                  have r602 := r602.le h691
                  have r688 := r688.le h691
                  have r620 := r620.le h691
                  have r603 := r603.le h691
                  have r604 := r604.le h691
                  have r605 := r605.le h691
                  have hO : Obs _ _ [_, _, _, _, _, _] := hO
                  injection hF with hF
                  subst hF
                  have hV1 := hO.val (i := 1) rfl (off := 0) (agg := true) (n := 4) rfl
                  have hO := hO.sel [] (by decide)
                  exact hQ _ _ _ _ _ (resvs_t (resvs_c rfl (hV1) (resvs_t rfl))) hO hL ⟨_, _, _, rfl, rfl, r688, r690, r620⟩
theorem w_law08_plain {τ : Hp} {p0 : Int} {p1 : Int}  {rr : S_api_View} (hF : F_law08_plain p0 p1 = some rr) :
    Ctr Try.prog 24 #[.int .i64 p0, .int .i64 p1] τ [] (fun v τ' vs' => ∃ (v0_0 : Value) (v0_1 : Value) (v0_3 : Value), v = .agg #[v0_0, v0_1, .int .i64 rr.Base, v0_3] ∧ vs' = [] ∧ RdT Ty.bool τ' v0_0 rr.Known ∧ RdT (Ty.int .i64) τ' v0_1 rr.Regs ∧ RdT (Ty.int .i64) τ' v0_3 rr.Words) := by
  refine ctr_of (args := [.int .i64 p0, .int .i64 p1]) hm Try.func24 s24 rfl fun w0 σ hO Q hQ => ?_
  unfold F_law08_plain at hF
  have hL := Hp.le.refl τ
  show wpn _ _ a24.body _ _ _
  unfold a24
  dsimp only
  refine wpn_al hO fun b3 σ hO => ?_
  have hO : Obs _ _ [_] := hO
  refine wpn_nil ?_
  refine wpn_cut (fun e' σ' => ∃ (b19 : Nat) (A20 : Option Addr) (c21 : Nat) (o22 : Ob) (x23 : List Bool) (A25 : Option Addr) (c26 : Nat) (o27 : Ob) (x28 : List Int) (τ' : Hp), agr [(0, .int .i64 p0), (1, .int .i64 p1), (4, .pointer (some ⟨b3, 0, none⟩)), (5, .pointer (some ⟨b19, 0, none⟩))] e' ∧ Obs τ' σ' [some (b3, ⟨[.slice none 0 0, .slice none 0 0, .int .i64 0, .slice none 0 0], 28, 4, true⟩), some (b19, ⟨[.slice A20 x23.length c21, .slice A25 x28.length c26, .int .i64 0, .slice none 0 0], 28, 4, true⟩), o22, o27] ∧ Hp.le τ τ' ∧ OwnO Ty.bool 4 τ' (.slice A20 x23.length c21) x23 o22 ∧ OwnO (Ty.int .i64) 2 τ' (.slice A25 x28.length c26) x28 o27 ∧ F_law08_plain_k11 p0 p1 x23 x28 = some rr) ?_ ?_
  · refine wpn_ptl ?_
    obtain ⟨y351, g352, hF⟩ := bind_some hF
    obtain ⟨y358, g359, hF⟩ := bind_some hF
    refine wpn_pb ?_ ?_
    · refine wpn_pe ?_
      refine wpn_mkb (T := Ty.bool) hO rfl rfl g352 (show _ = _ from rfl) (by decide) fun b357 c354 σ o355 w356 hO => ?_
      have hO : Obs _ _ [_, _] := hO
      refine wpn_nil ?_
      refine wpn_pb ?_ ?_
      · refine wpn_pe ?_
        refine wpn_mkb (T := (Ty.int .i64)) hO rfl rfl g359 (show _ = _ from rfl) (by decide) fun b364 c361 σ o362 w363 hO => ?_
        have hO : Obs _ _ [_, _, _] := hO
        refine wpn_nil ?_
        refine wpn_pq ?_
        refine wpn_qa hO [] [(0, .int .i64 p0), (1, .int .i64 p1), (4, .pointer (some ⟨b3, 0, none⟩)), (10, .agg #[(.slice (some ⟨b357, 0, none⟩) y351.length c354), (.slice (some ⟨b364, 0, none⟩) y358.length c361), (.int .i64 0), (.slice none 0 0)])] (And.intro rfl (And.intro rfl (And.intro rfl (And.intro rfl trivial)))) fun j => ?_
        refine wpn_pe ?_
        refine wpn_al hO fun b365 σ hO => ?_
        have hO : Obs _ _ [_, _, _, _] := hO
        refine wpn_nil ?_
        refine wpn_pe ?_
        refine wpn_st hO (i := 3) rfl (off := 0) rfl rfl rfl rfl (Nat.le_of_ble_eq_true rfl) rfl fun σ hO => ?_
        have hO : Obs _ _ [_, _, _, _] := hO
        refine wpn_nil ?_
        refine wpn_pd ?_
        refine wpn_end ?_
        refine thn_i ?_
        have hO := hO.sel [0, 3, 1, 2] (by decide)
        exact ⟨b365, (some ⟨b357, 0, none⟩), c354, o355, y351, (some ⟨b364, 0, none⟩), c361, o362, y358, _, And.intro rfl (And.intro rfl (And.intro rfl (And.intro rfl trivial))), hO, hL, w356, w363, hF⟩
      · refine wpn_pe ?_
        refine wpn_al hO fun b365 σ hO => ?_
        have hO : Obs _ _ [_, _, _] := hO
        refine wpn_nil ?_
        refine wpn_pe ?_
        refine wpn_mkb (T := (Ty.int .i64)) hO rfl rfl g359 (show _ = _ from rfl) (by decide) fun b364 c361 σ o362 w363 hO => ?_
        have hO : Obs _ _ [_, _, _, _] := hO
        refine wpn_nil ?_
        refine wpn_pq ?_
        refine wpn_qa hO [] [(0, .int .i64 p0), (1, .int .i64 p1), (4, .pointer (some ⟨b3, 0, none⟩)), (5, .pointer (some ⟨b365, 0, none⟩)), (10, .agg #[(.slice (some ⟨b357, 0, none⟩) y351.length c354), (.slice (some ⟨b364, 0, none⟩) y358.length c361), (.int .i64 0), (.slice none 0 0)])] (And.intro rfl (And.intro rfl (And.intro rfl (And.intro rfl (And.intro rfl trivial))))) fun j => ?_
        refine wpn_pe ?_
        refine wpn_st hO (i := 2) rfl (off := 0) rfl rfl rfl rfl (Nat.le_of_ble_eq_true rfl) rfl fun σ hO => ?_
        have hO : Obs _ _ [_, _, _, _] := hO
        refine wpn_nil ?_
        refine wpn_pd ?_
        refine wpn_end ?_
        refine thn_i ?_
        have hO := hO.sel [0, 2, 1, 3] (by decide)
        exact ⟨b365, (some ⟨b357, 0, none⟩), c354, o355, y351, (some ⟨b364, 0, none⟩), c361, o362, y358, _, And.intro rfl (And.intro rfl (And.intro rfl (And.intro rfl trivial))), hO, hL, w356, w363, hF⟩
    · refine wpn_pb ?_ ?_
      · refine wpn_pe ?_
        refine wpn_mkb (T := (Ty.int .i64)) hO rfl rfl g359 (show _ = _ from rfl) (by decide) fun b364 c361 σ o362 w363 hO => ?_
        have hO : Obs _ _ [_, _] := hO
        refine wpn_nil ?_
        refine wpn_pb ?_ ?_
        · refine wpn_pe ?_
          refine wpn_mkb (T := Ty.bool) hO rfl rfl g352 (show _ = _ from rfl) (by decide) fun b357 c354 σ o355 w356 hO => ?_
          have hO : Obs _ _ [_, _, _] := hO
          refine wpn_nil ?_
          refine wpn_pq ?_
          refine wpn_qa hO [] [(0, .int .i64 p0), (1, .int .i64 p1), (4, .pointer (some ⟨b3, 0, none⟩)), (10, .agg #[(.slice (some ⟨b357, 0, none⟩) y351.length c354), (.slice (some ⟨b364, 0, none⟩) y358.length c361), (.int .i64 0), (.slice none 0 0)])] (And.intro rfl (And.intro rfl (And.intro rfl (And.intro rfl trivial)))) fun j => ?_
          refine wpn_pe ?_
          refine wpn_al hO fun b365 σ hO => ?_
          have hO : Obs _ _ [_, _, _, _] := hO
          refine wpn_nil ?_
          refine wpn_pe ?_
          refine wpn_st hO (i := 3) rfl (off := 0) rfl rfl rfl rfl (Nat.le_of_ble_eq_true rfl) rfl fun σ hO => ?_
          have hO : Obs _ _ [_, _, _, _] := hO
          refine wpn_nil ?_
          refine wpn_pd ?_
          refine wpn_end ?_
          refine thn_i ?_
          have hO := hO.sel [0, 3, 2, 1] (by decide)
          exact ⟨b365, (some ⟨b357, 0, none⟩), c354, o355, y351, (some ⟨b364, 0, none⟩), c361, o362, y358, _, And.intro rfl (And.intro rfl (And.intro rfl (And.intro rfl trivial))), hO, hL, w356, w363, hF⟩
        · refine wpn_pe ?_
          refine wpn_al hO fun b365 σ hO => ?_
          have hO : Obs _ _ [_, _, _] := hO
          refine wpn_nil ?_
          refine wpn_pe ?_
          refine wpn_mkb (T := Ty.bool) hO rfl rfl g352 (show _ = _ from rfl) (by decide) fun b357 c354 σ o355 w356 hO => ?_
          have hO : Obs _ _ [_, _, _, _] := hO
          refine wpn_nil ?_
          refine wpn_pq ?_
          refine wpn_qa hO [] [(0, .int .i64 p0), (1, .int .i64 p1), (4, .pointer (some ⟨b3, 0, none⟩)), (5, .pointer (some ⟨b365, 0, none⟩)), (10, .agg #[(.slice (some ⟨b357, 0, none⟩) y351.length c354), (.slice (some ⟨b364, 0, none⟩) y358.length c361), (.int .i64 0), (.slice none 0 0)])] (And.intro rfl (And.intro rfl (And.intro rfl (And.intro rfl (And.intro rfl trivial))))) fun j => ?_
          refine wpn_pe ?_
          refine wpn_st hO (i := 2) rfl (off := 0) rfl rfl rfl rfl (Nat.le_of_ble_eq_true rfl) rfl fun σ hO => ?_
          have hO : Obs _ _ [_, _, _, _] := hO
          refine wpn_nil ?_
          refine wpn_pd ?_
          refine wpn_end ?_
          refine thn_i ?_
          have hO := hO.sel [0, 2, 3, 1] (by decide)
          exact ⟨b365, (some ⟨b357, 0, none⟩), c354, o355, y351, (some ⟨b364, 0, none⟩), c361, o362, y358, _, And.intro rfl (And.intro rfl (And.intro rfl (And.intro rfl trivial))), hO, hL, w356, w363, hF⟩
      · refine wpn_pe ?_
        refine wpn_al hO fun b365 σ hO => ?_
        have hO : Obs _ _ [_, _] := hO
        refine wpn_nil ?_
        refine wpn_pb ?_ ?_
        · refine wpn_pe ?_
          refine wpn_mkb (T := Ty.bool) hO rfl rfl g352 (show _ = _ from rfl) (by decide) fun b357 c354 σ o355 w356 hO => ?_
          have hO : Obs _ _ [_, _, _] := hO
          refine wpn_nil ?_
          refine wpn_pe ?_
          refine wpn_mkb (T := (Ty.int .i64)) hO rfl rfl g359 (show _ = _ from rfl) (by decide) fun b364 c361 σ o362 w363 hO => ?_
          have hO : Obs _ _ [_, _, _, _] := hO
          refine wpn_nil ?_
          refine wpn_pq ?_
          refine wpn_qa hO [] [(0, .int .i64 p0), (1, .int .i64 p1), (4, .pointer (some ⟨b3, 0, none⟩)), (5, .pointer (some ⟨b365, 0, none⟩)), (10, .agg #[(.slice (some ⟨b357, 0, none⟩) y351.length c354), (.slice (some ⟨b364, 0, none⟩) y358.length c361), (.int .i64 0), (.slice none 0 0)])] (And.intro rfl (And.intro rfl (And.intro rfl (And.intro rfl (And.intro rfl trivial))))) fun j => ?_
          refine wpn_pe ?_
          refine wpn_st hO (i := 1) rfl (off := 0) rfl rfl rfl rfl (Nat.le_of_ble_eq_true rfl) rfl fun σ hO => ?_
          have hO : Obs _ _ [_, _, _, _] := hO
          refine wpn_nil ?_
          refine wpn_pd ?_
          refine wpn_end ?_
          refine thn_i ?_
          exact ⟨b365, (some ⟨b357, 0, none⟩), c354, o355, y351, (some ⟨b364, 0, none⟩), c361, o362, y358, _, And.intro rfl (And.intro rfl (And.intro rfl (And.intro rfl trivial))), hO, hL, w356, w363, hF⟩
        · refine wpn_pe ?_
          refine wpn_mkb (T := (Ty.int .i64)) hO rfl rfl g359 (show _ = _ from rfl) (by decide) fun b364 c361 σ o362 w363 hO => ?_
          have hO : Obs _ _ [_, _, _] := hO
          refine wpn_nil ?_
          refine wpn_pe ?_
          refine wpn_mkb (T := Ty.bool) hO rfl rfl g352 (show _ = _ from rfl) (by decide) fun b357 c354 σ o355 w356 hO => ?_
          have hO : Obs _ _ [_, _, _, _] := hO
          refine wpn_nil ?_
          refine wpn_pq ?_
          refine wpn_qa hO [] [(0, .int .i64 p0), (1, .int .i64 p1), (4, .pointer (some ⟨b3, 0, none⟩)), (5, .pointer (some ⟨b365, 0, none⟩)), (10, .agg #[(.slice (some ⟨b357, 0, none⟩) y351.length c354), (.slice (some ⟨b364, 0, none⟩) y358.length c361), (.int .i64 0), (.slice none 0 0)])] (And.intro rfl (And.intro rfl (And.intro rfl (And.intro rfl (And.intro rfl trivial))))) fun j => ?_
          refine wpn_pe ?_
          refine wpn_st hO (i := 1) rfl (off := 0) rfl rfl rfl rfl (Nat.le_of_ble_eq_true rfl) rfl fun σ hO => ?_
          have hO : Obs _ _ [_, _, _, _] := hO
          refine wpn_nil ?_
          refine wpn_pd ?_
          refine wpn_end ?_
          refine thn_i ?_
          have hO := hO.sel [0, 1, 3, 2] (by decide)
          exact ⟨b365, (some ⟨b357, 0, none⟩), c354, o355, y351, (some ⟨b364, 0, none⟩), c361, o362, y358, _, And.intro rfl (And.intro rfl (And.intro rfl (And.intro rfl trivial))), hO, hL, w356, w363, hF⟩
  · rintro e σ ⟨b19, A20, c21, o22, x23, A25, c26, o27, x28, _, hA, hO, hL, w24, w29, hF⟩
    rw [← sets_agr _ _ hA]
    unfold F_law08_plain_k11 at hF
    refine wpn_assoc ?_
    refine wpn_qa hO [] [(0, .int .i64 p0), (1, .int .i64 p1), (4, .pointer (some ⟨b3, 0, none⟩)), (5, .pointer (some ⟨b19, 0, none⟩)), (6, .int .i64 0)] (And.intro rfl (And.intro rfl (And.intro rfl (And.intro rfl (And.intro rfl trivial))))) fun j => ?_
    refine wpn_bl ?_
    refine wpn_lp (fun (n : Nat) e' σ' => ∃ (k139 : Nat) (A140 : Option Addr) (c141 : Nat) (o142 : Ob) (x143 : List Bool) (A146 : Option Addr) (c147 : Nat) (o148 : Ob) (x149 : List Int) (x151 : Int) (τ' : Hp), agr [(0, .int .i64 p0), (1, .int .i64 p1), (4, .pointer (some ⟨b3, 0, none⟩)), (5, .pointer (some ⟨b19, 0, none⟩)), (6, .int .i64 x151)] e' ∧ Obs τ' σ' [some (b3, ⟨[.slice none 0 0, .slice none 0 0, .int .i64 0, .slice none 0 0], 28, 4, true⟩), some (b19, ⟨[.slice A140 k139 c141, .slice A146 x149.length c147, .int .i64 0, .slice none 0 0], 28, 4, true⟩), o142, o148] ∧ Hp.le τ τ' ∧ k139 = x143.length ∧ OwnO Ty.bool 4 τ' (.slice A140 k139 c141) x143 o142 ∧ OwnO (Ty.int .i64) 2 τ' (.slice A146 x149.length c147) x149 o148 ∧ F_law08_plain_l15 p0 p1 n x143 x149 x151 = some rr) big ⟨x23.length, A20, c21, o22, x23, A25, c26, o27, x28, 0, _, And.intro rfl (And.intro rfl (And.intro rfl (And.intro rfl (And.intro rfl trivial)))), hO, hL, w24.len, w24, w29, hF⟩ ?_
    clear hF hO hL
    rintro n251 e σ ⟨k139, A140, c141, o142, x143, A146, c147, o148, x149, x151, _, hA, hO, hL, hk144, w145, w150, hF⟩
    rw [← sets_agr _ _ hA]
    cases n251 with
    | zero => exact nomatch (show none = some rr from hF)
    | succ n251 =>
      replace hF : F_law08_plain_l15B (F_law08_plain_l15 p0 p1 n251) p0 p1 x143 x149 x151 = some rr := hF
      unfold F_law08_plain_l15B at hF
      subst hk144
      refine wpn_assoc ?_
      refine wpn_qa hO [] [(0, .int .i64 p0), (1, .int .i64 p1), (4, .pointer (some ⟨b3, 0, none⟩)), (5, .pointer (some ⟨b19, 0, none⟩)), (6, .int .i64 x151), (12, .bool (decide (x151 < 16)))] (And.intro rfl (And.intro rfl (And.intro rfl (And.intro rfl (And.intro rfl (And.intro rfl trivial)))))) fun j => ?_
      rcases ite_some hF with ⟨hb252, hF⟩ | ⟨hb252, hF⟩
      · refine wpn_cT (congrArg Value.bool hb252) ?_
        refine wpn_sk ?_
        refine wpn_bl ?_
        refine wpn_rlast ?_
        refine wpn_q hO 3 [1] [(0, .int .i64 p0), (1, .int .i64 p1), (4, .pointer (some ⟨b3, 0, none⟩)), (5, .pointer (some ⟨b19, 0, none⟩)), (6, .int .i64 x151), (16, .slice A140 x143.length c141), (17, .int .i64 x151)] (And.intro (And.intro rfl rfl) (And.intro rfl (And.intro rfl (And.intro rfl (And.intro rfl (And.intro rfl (And.intro rfl (And.intro rfl trivial)))))))) fun j => ?_
        obtain ⟨y253, g254, hF⟩ := bind_some hF
        refine wpn_ido (T := Ty.bool) hO w145 (i := 2) rfl rfl rfl g254 (by decide) fun a255 _ k256 m257 i258 => ?_
        have k259 := k256
        obtain rfl : _ = ([.bool y253] : List Value) := k259
        refine wpn_sto (T := Ty.bool) (off := 0) (vs := [.bool true]) hO w145 (i := 2) rfl (by rw [add_zero]; rfl) i258 g254 k256 m257 rfl rfl rfl rfl (by decide) (show _ = _ from rfl) fun σ o260 w261 hO => ?_
        have hO : Obs _ _ [_, _, _, _] := hO
        refine wpn_nil ?_
        refine wpn_end ?_
        refine inb_i ?_
        refine thn_i ?_
        refine wpn_rlast ?_
        refine wpn_qa hO [] [(0, .int .i64 p0), (1, .int .i64 p1), (4, .pointer (some ⟨b3, 0, none⟩)), (5, .pointer (some ⟨b19, 0, none⟩)), (6, .int .i64 (IntKind.i64.wrap (x151 + 1)))] (And.intro rfl (And.intro rfl (And.intro rfl (And.intro rfl (And.intro rfl trivial))))) fun j => ?_
        refine wpn_end ?_
        refine thn_i ?_
        exact ⟨n251, Nat.lt_succ_self _, x143.length, A140, c141, o260, (x143.set (Int.toNat x151) true), A146, c147, o148, x149, (IntKind.i64.wrap (x151 + 1)), _, And.intro rfl (And.intro rfl (And.intro rfl (And.intro rfl (And.intro rfl trivial)))), hO, hL, w261.len, w261, w150, hF⟩
      · refine wpn_cF (congrArg Value.bool hb252) ?_
        refine wpn_ex ?_
        refine thn_x ?_
        refine inb_x ?_
        refine thn_i ?_
        refine wpn_assoc ?_
        refine wpn_qa hO [] [(0, .int .i64 p0), (1, .int .i64 p1), (4, .pointer (some ⟨b3, 0, none⟩)), (5, .pointer (some ⟨b19, 0, none⟩)), (7, .int .i64 0)] (And.intro rfl (And.intro rfl (And.intro rfl (And.intro rfl (And.intro rfl trivial))))) fun j => ?_
        refine wpn_bl ?_
        have hO := hO.no
        have hO : Obs _ _ [_, _, _, _, _] := hO
        refine wpn_lp (fun (n : Nat) e' σ' => ∃ (A292 : Option Addr) (c293 : Nat) (o294 : Ob) (x295 : List Bool) (A297 : Option Addr) (c298 : Nat) (o299 : Ob) (x300 : List Int) (A302 : Option Addr) (c303 : Nat) (o304 : Ob) (x305 : List Int) (x307 : Int) (τ' : Hp), agr [(0, .int .i64 p0), (1, .int .i64 p1), (4, .pointer (some ⟨b3, 0, none⟩)), (5, .pointer (some ⟨b19, 0, none⟩)), (7, .int .i64 x307)] e' ∧ Obs τ' σ' [some (b3, ⟨[.slice none 0 0, .slice none 0 0, .int .i64 0, .slice none 0 0], 28, 4, true⟩), some (b19, ⟨[.slice A292 x295.length c293, .slice A297 x300.length c298, .int .i64 0, .slice A302 x305.length c303], 28, 4, true⟩), o294, o299, o304] ∧ Hp.le τ τ' ∧ OwnO Ty.bool 4 τ' (.slice A292 x295.length c293) x295 o294 ∧ OwnO (Ty.int .i64) 2 τ' (.slice A297 x300.length c298) x300 o299 ∧ OwnO (Ty.int .i64) 2 τ' (.slice A302 x305.length c303) x305 o304 ∧ F_law08_plain_l17 p0 p1 n x295 x300 x305 x307 = some rr) big ⟨A140, c141, o142, x143, A146, c147, o148, x149, none, 0, none, [], 0, _, And.intro rfl (And.intro rfl (And.intro rfl (And.intro rfl (And.intro rfl trivial)))), hO, hL, w145, w150, OwnO.nil _ _ _, hF⟩ ?_
        clear hF hO hL
        rintro n329 e σ ⟨A292, c293, o294, x295, A297, c298, o299, x300, A302, c303, o304, x305, x307, _, hA, hO, hL, w296, w301, w306, hF⟩
        rw [← sets_agr _ _ hA]
        cases n329 with
        | zero => exact nomatch (show none = some rr from hF)
        | succ n329 =>
          replace hF : F_law08_plain_l17B (F_law08_plain_l17 p0 p1 n329) p0 p1 x295 x300 x305 x307 = some rr := hF
          unfold F_law08_plain_l17B at hF
          refine wpn_assoc ?_
          refine wpn_qa hO [] [(0, .int .i64 p0), (1, .int .i64 p1), (4, .pointer (some ⟨b3, 0, none⟩)), (5, .pointer (some ⟨b19, 0, none⟩)), (7, .int .i64 x307), (21, .bool (decide (x307 < p0)))] (And.intro rfl (And.intro rfl (And.intro rfl (And.intro rfl (And.intro rfl (And.intro rfl trivial)))))) fun j => ?_
          rcases ite_some hF with ⟨hb330, hF⟩ | ⟨hb330, hF⟩
          · refine wpn_cT (congrArg Value.bool hb330) ?_
            refine wpn_sk ?_
            refine wpn_bl ?_
            refine wpn_rlast ?_
            refine wpn_q hO 3 [1] [(0, .int .i64 p0), (1, .int .i64 p1), (4, .pointer (some ⟨b3, 0, none⟩)), (5, .pointer (some ⟨b19, 0, none⟩)), (7, .int .i64 x307), (25, .slice A302 x305.length c303), (26, .int .i64 x307)] (And.intro (And.intro rfl rfl) (And.intro rfl (And.intro rfl (And.intro rfl (And.intro rfl (And.intro rfl (And.intro rfl (And.intro rfl trivial)))))))) fun j => ?_
            obtain ⟨_, hr, hF⟩ := bind_some hF
            refine wpn_ap1 (T := (Ty.int .i64)) (y := x307) hO w306 (i := 4) rfl rfl (fun _ => rfl) rfl rfl rfl hr (by decide) fun u _ σ o333 w334 hO => ?_
            obtain ⟨A331, c332, rfl, -⟩ := w334.form
            have hO : Obs _ _ [_, _, _, _, _] := hO
            refine wpn_q hO 1 [] [(0, .int .i64 p0), (1, .int .i64 p1), (4, .pointer (some ⟨b3, 0, none⟩)), (5, .pointer (some ⟨b19, 0, none⟩)), (7, .int .i64 x307), (28, .slice A331 (x305 ++ [x307]).length c332), (29, .pointer (some ⟨b19, 3, none⟩))] (And.intro rfl (And.intro rfl (And.intro rfl (And.intro rfl (And.intro rfl (And.intro rfl (And.intro rfl trivial))))))) fun j => ?_
            refine wpn_st hO (i := 1) rfl (off := 3) rfl rfl rfl rfl (Nat.le_of_ble_eq_true rfl) rfl fun σ hO => ?_
            have hO : Obs _ _ [_, _, _, _, _] := hO
            refine wpn_nil ?_
            refine wpn_end ?_
            refine inb_i ?_
            refine thn_i ?_
            refine wpn_rlast ?_
            refine wpn_qa hO [] [(0, .int .i64 p0), (1, .int .i64 p1), (4, .pointer (some ⟨b3, 0, none⟩)), (5, .pointer (some ⟨b19, 0, none⟩)), (7, .int .i64 (IntKind.i64.wrap (x307 + 1)))] (And.intro rfl (And.intro rfl (And.intro rfl (And.intro rfl (And.intro rfl trivial))))) fun j => ?_
            refine wpn_end ?_
            refine thn_i ?_
            exact ⟨n329, Nat.lt_succ_self _, A292, c293, o294, x295, A297, c298, o299, x300, A331, c332, o333, (x305 ++ [x307]), (IntKind.i64.wrap (x307 + 1)), _, And.intro rfl (And.intro rfl (And.intro rfl (And.intro rfl (And.intro rfl trivial)))), hO, hL, w296, w301, w334, hF⟩
          · refine wpn_cF (congrArg Value.bool hb330) ?_
            refine wpn_ex ?_
            refine thn_x ?_
            refine inb_x ?_
            refine thn_i ?_
            refine wpn_q hO 3 [1] [(4, .pointer (some ⟨b3, 0, none⟩)), (5, .pointer (some ⟨b19, 0, none⟩)), (31, .slice A297 x300.length c298), (32, .int .i64 p1)] (And.intro (And.intro rfl rfl) (And.intro rfl (And.intro rfl (And.intro rfl (And.intro rfl trivial))))) fun j => ?_
            obtain ⟨y335, g336, hF⟩ := bind_some hF
            refine wpn_ido (T := (Ty.int .i64)) hO w301 (i := 3) rfl rfl rfl g336 (by decide) fun a337 _ k338 m339 i340 => ?_
            have k341 := k338
            obtain rfl : _ = ([.int .i64 y335] : List Value) := k341
            refine wpn_sto (T := (Ty.int .i64)) (off := 0) (vs := [.int .i64 p1]) hO w301 (i := 3) rfl (by rw [add_zero]; rfl) i340 g336 k338 m339 rfl rfl rfl rfl (by decide) (show _ = _ from rfl) fun σ o342 w343 hO => ?_
            have hO : Obs _ _ [_, _, _, _, _] := hO
            refine wpn_nil ?_
            refine wpn_q hO 1 [1] [(4, .pointer (some ⟨b3, 0, none⟩)), (34, .agg #[(.slice A292 x295.length c293), (.slice A297 x300.length c298), (.int .i64 0), (.slice A302 x305.length c303)])] (And.intro (And.intro rfl rfl) (And.intro rfl (And.intro rfl trivial))) fun j => ?_
            refine wpn_st hO (i := 0) rfl (off := 0) rfl rfl rfl rfl (Nat.le_of_ble_eq_true rfl) rfl fun σ hO => ?_
            have hO : Obs _ _ [_, _, _, _, _] := hO
            refine wpn_nil ?_
            refine wpn_r1 ?_
            obtain ⟨_, h345, r344, hO⟩ := w296.share hO (i := 2) rfl
            have hL := hL.trans h345
            have w343 := w343.le h345
            have w306 := w306.le h345
            have hO : Obs _ _ [_, _, _, _, _] := hO
            have l348 : x300.length = (x300.set (Int.toNat 15) p1).length := w343.len
            obtain ⟨_, h347, r346, hO⟩ := w343.share hO (i := 3) rfl
            have hL := hL.trans h347
            have r344 := r344.le h347
            have w306 := w306.le h347
            have hO : Obs _ _ [_, _, _, _, _] := hO
            obtain ⟨_, h350, r349, hO⟩ := w306.share hO (i := 4) rfl
            have hL := hL.trans h350
            have r344 := r344.le h350
            have r346 := r346.le h350
            have hO : Obs _ _ [_, _, _, _, _] := hO
            injection hF with hF
            subst hF
            have hV0 := hO.val (i := 0) rfl (off := 0) (agg := true) (n := 4) rfl
            have hO := hO.sel [] (by decide)
            exact hQ _ _ _ _ _ (resvs_c rfl (hV0) rfl) hO hL ⟨_, _, _, rfl, rfl, r344, r346, r349⟩
theorem w_law08_works {τ : Hp}   {rr : Bool} (hF : F_law08_works  = some rr) :
    Ctr Try.prog 8 #[] τ [] (fun v τ' vs' => v = .bool rr ∧ vs' = []) := by
  refine ctr_of (args := []) hm Try.func8 s8 rfl fun w0 σ hO Q hQ => ?_
  unfold F_law08_works at hF
  have hL := Hp.le.refl τ
  show wpn _ _ a8.body _ _ _
  unfold a8
  dsimp only
  refine wpn_qa hO [] [] (trivial) fun j => ?_
  refine wpn_q hO 1 [] [(10, .agg #[(.int .i64 7), (.int .i64 (-2))])] (And.intro rfl trivial) fun j => ?_
  refine wpn_lit (T := TyS_api_Saved) (l := ([(⟨7, (-2)⟩ : S_api_Saved)] : List S_api_Saved)) (cs := [.int .i64 7, .int .i64 (-2)]) hO rfl ⟨[.int .i64 7, .int .i64 (-2)], _, rfl, rfl, rfl⟩ rfl (by decide) fun _ σ o3 w4 hO => ?_
  obtain ⟨A1, c2, rfl, -⟩ := w4.form
  have hO : Obs _ _ [_] := hO
  refine wpn_q hO 1 [] [(12, .agg #[(.int .i64 10), (.int .i64 20), (.int .i64 3), (.slice A1 ([(⟨7, (-2)⟩ : S_api_Saved)] : List S_api_Saved).length c2)])] (And.intro rfl trivial) fun j => ?_
  obtain ⟨_, h6, r5, hO⟩ := w4.share hO (i := 0) rfl
  have hL := hL.trans h6
  have hO : Obs _ _ [_] := hO
  refine wpn_lit (T := TyS_api_Unwind) (l := ([(⟨10, 20, 3, ([(⟨7, (-2)⟩ : S_api_Saved)] : List S_api_Saved)⟩ : S_api_Unwind)] : List S_api_Unwind)) (cs := [.int .i64 10, .int .i64 20, .int .i64 3, .slice A1 ([(⟨7, (-2)⟩ : S_api_Saved)] : List S_api_Saved).length c2]) hO rfl ⟨[.int .i64 10, .int .i64 20, .int .i64 3, .slice A1 ([(⟨7, (-2)⟩ : S_api_Saved)] : List S_api_Saved).length c2], _, rfl, ⟨_, rfl, r5⟩, rfl⟩ rfl (by decide) fun _ σ o9 w10 hO => ?_
  obtain ⟨A7, c8, rfl, -⟩ := w10.form
  have hO : Obs _ _ [_, _] := hO
  refine wpn_qa hO [] [(1, .slice A7 ([(⟨10, 20, 3, ([(⟨7, (-2)⟩ : S_api_Saved)] : List S_api_Saved)⟩ : S_api_Unwind)] : List S_api_Unwind).length c8)] (And.intro rfl trivial) fun j => ?_
  refine wpn_q hO 1 [] [(1, .slice A7 ([(⟨10, 20, 3, ([(⟨7, (-2)⟩ : S_api_Saved)] : List S_api_Saved)⟩ : S_api_Unwind)] : List S_api_Unwind).length c8), (15, .slice A7 ([(⟨10, 20, 3, ([(⟨7, (-2)⟩ : S_api_Saved)] : List S_api_Saved)⟩ : S_api_Unwind)] : List S_api_Unwind).length c8)] (And.intro rfl (And.intro rfl trivial)) fun j => ?_
  obtain ⟨_, h12, r11, hO⟩ := w10.share hO (i := 1) rfl
  have hL := hL.trans h12
  have hO : Obs _ _ [_, _] := hO
  obtain ⟨c13, h14, hF⟩ := bind_some hF
  refine wpn_c0 hO (w_unwind_Put (RdT.nil Ty.u8 _) r11 h14) rfl fun _ σ _ _ hO h15 h16 => ?_
  have hL := hL.trans h15
  have r11 := r11.le h15
  obtain ⟨v17, o20, rfl, rfl, w21⟩ := h16
  obtain ⟨A18, c19, rfl, -⟩ := w21.form
  have hO : Obs _ _ [_, _, _] := hO
  refine wpn_qa hO [] [(1, .slice A7 ([(⟨10, 20, 3, ([(⟨7, (-2)⟩ : S_api_Saved)] : List S_api_Saved)⟩ : S_api_Unwind)] : List S_api_Unwind).length c8), (2, .slice A18 c13.1.length c19), (3, .int .i64 c13.2)] (And.intro rfl (And.intro rfl (And.intro rfl trivial))) fun j => ?_
  refine wpn_q hO 1 [] [(1, .slice A7 ([(⟨10, 20, 3, ([(⟨7, (-2)⟩ : S_api_Saved)] : List S_api_Saved)⟩ : S_api_Unwind)] : List S_api_Unwind).length c8), (2, .slice A18 c13.1.length c19), (3, .int .i64 c13.2), (20, .slice A18 c13.1.length c19)] (And.intro rfl (And.intro rfl (And.intro rfl (And.intro rfl trivial)))) fun j => ?_
  obtain ⟨_, h23, r22, hO⟩ := w21.share hO (i := 2) rfl
  have hL := hL.trans h23
  have r11 := r11.le h23
  have hO : Obs _ _ [_, _, _] := hO
  obtain ⟨c24, h25, hF⟩ := bind_some hF
  refine wpn_c0 hO (w_unwind_Get r22 h25) rfl fun _ σ _ _ hO h26 h27 => ?_
  have hL := hL.trans h26
  have r11 := r11.le h26
  have r22 := r22.le h26
  obtain ⟨v28, rfl, rfl, r31⟩ := h27
  obtain ⟨A29, c30, rfl, -⟩ := r31.form
  have hO : Obs _ _ [_, _, _] := hO
  refine wpn_qa hO [] [(1, .slice A7 ([(⟨10, 20, 3, ([(⟨7, (-2)⟩ : S_api_Saved)] : List S_api_Saved)⟩ : S_api_Unwind)] : List S_api_Unwind).length c8), (2, .slice A18 c13.1.length c19), (3, .int .i64 c13.2), (4, .slice A29 c24.1.length c30), (5, .int .i64 c24.2.1), (6, .int .i64 c24.2.2)] (And.intro rfl (And.intro rfl (And.intro rfl (And.intro rfl (And.intro rfl (And.intro rfl trivial)))))) fun j => ?_
  refine wpn_q hO 1 [] [(1, .slice A7 ([(⟨10, 20, 3, ([(⟨7, (-2)⟩ : S_api_Saved)] : List S_api_Saved)⟩ : S_api_Unwind)] : List S_api_Unwind).length c8), (2, .slice A18 c13.1.length c19), (3, .int .i64 c13.2), (4, .slice A29 c24.1.length c30), (5, .int .i64 c24.2.1), (6, .int .i64 c24.2.2), (26, .slice A29 c24.1.length c30)] (And.intro rfl (And.intro rfl (And.intro rfl (And.intro rfl (And.intro rfl (And.intro rfl (And.intro rfl trivial))))))) fun j => ?_
  obtain ⟨c32, h33, hF⟩ := bind_some hF
  refine wpn_c0 hO (w_law08_plain h33) rfl fun _ σ _ _ hO h34 h35 => ?_
  have hL := hL.trans h34
  have r11 := r11.le h34
  have r22 := r22.le h34
  have r31 := r31.le h34
  obtain ⟨v36, v40, v44, rfl, rfl, r37, r41, r45⟩ := h35
  obtain ⟨A38, c39, rfl, -⟩ := r37.form
  obtain ⟨A42, c43, rfl, -⟩ := r41.form
  obtain ⟨A46, c47, rfl, -⟩ := r45.form
  have hO : Obs _ _ [_, _, _] := hO
  obtain ⟨c48, h49, hF⟩ := bind_some hF
  refine wpn_c0 hO (w_unwind_Up r31 r37 r41 r45 h49) rfl fun _ σ _ _ hO h50 h51 => ?_
  have hL := hL.trans h50
  have r11 := r11.le h50
  have r22 := r22.le h50
  have r31 := r31.le h50
  have r37 := r37.le h50
  have r41 := r41.le h50
  have r45 := r45.le h50
  obtain ⟨v52, v56, v60, rfl, rfl, r53, r57, r61⟩ := h51
  obtain ⟨A54, c55, rfl, -⟩ := r53.form
  obtain ⟨A58, c59, rfl, -⟩ := r57.form
  obtain ⟨A62, c63, rfl, -⟩ := r61.form
  have hO : Obs _ _ [_, _, _] := hO
  refine wpn_q hO 4 [] [(1, .slice A7 ([(⟨10, 20, 3, ([(⟨7, (-2)⟩ : S_api_Saved)] : List S_api_Saved)⟩ : S_api_Unwind)] : List S_api_Unwind).length c8), (2, .slice A18 c13.1.length c19), (3, .int .i64 c13.2), (4, .slice A29 c24.1.length c30), (5, .int .i64 c24.2.1), (6, .int .i64 c24.2.2), (29, .int .i64 c48.1), (30, .agg #[(.slice A54 c48.2.1.Known.length c55), (.slice A58 c48.2.1.Regs.length c59), (.int .i64 c48.2.1.Base), (.slice A62 c48.2.1.Words.length c63)]), (31, .int .i64 c48.2.2)] (And.intro rfl (And.intro rfl (And.intro rfl (And.intro rfl (And.intro rfl (And.intro rfl (And.intro rfl (And.intro rfl (And.intro rfl trivial))))))))) fun j => ?_
  refine wpn_al hO fun b64 σ hO => ?_
  have hO : Obs _ _ [_, _, _, _] := hO
  refine wpn_q hO 1 [] [(1, .slice A7 ([(⟨10, 20, 3, ([(⟨7, (-2)⟩ : S_api_Saved)] : List S_api_Saved)⟩ : S_api_Unwind)] : List S_api_Unwind).length c8), (2, .slice A18 c13.1.length c19), (3, .int .i64 c13.2), (4, .slice A29 c24.1.length c30), (5, .int .i64 c24.2.1), (6, .int .i64 c24.2.2), (7, .int .i64 c48.1), (8, .pointer (some ⟨b64, 0, none⟩)), (30, .agg #[(.slice A54 c48.2.1.Known.length c55), (.slice A58 c48.2.1.Regs.length c59), (.int .i64 c48.2.1.Base), (.slice A62 c48.2.1.Words.length c63)]), (31, .int .i64 c48.2.2)] (And.intro rfl (And.intro rfl (And.intro rfl (And.intro rfl (And.intro rfl (And.intro rfl (And.intro rfl (And.intro rfl (And.intro rfl (And.intro rfl trivial)))))))))) fun j => ?_
  refine wpn_st hO (i := 3) rfl (off := 0) rfl rfl rfl rfl (Nat.le_of_ble_eq_true rfl) rfl fun σ hO => ?_
  have hO : Obs _ _ [_, _, _, _] := hO
  refine wpn_qa hO [] [(1, .slice A7 ([(⟨10, 20, 3, ([(⟨7, (-2)⟩ : S_api_Saved)] : List S_api_Saved)⟩ : S_api_Unwind)] : List S_api_Unwind).length c8), (2, .slice A18 c13.1.length c19), (3, .int .i64 c13.2), (4, .slice A29 c24.1.length c30), (5, .int .i64 c24.2.1), (6, .int .i64 c24.2.2), (7, .int .i64 c48.1), (8, .pointer (some ⟨b64, 0, none⟩)), (9, .int .i64 c48.2.2)] (And.intro rfl (And.intro rfl (And.intro rfl (And.intro rfl (And.intro rfl (And.intro rfl (And.intro rfl (And.intro rfl (And.intro rfl trivial))))))))) fun j => ?_
  refine wpn_q hO 12 [] [(1, .slice A7 ([(⟨10, 20, 3, ([(⟨7, (-2)⟩ : S_api_Saved)] : List S_api_Saved)⟩ : S_api_Unwind)] : List S_api_Unwind).length c8), (4, .slice A29 c24.1.length c30), (7, .int .i64 c48.1), (8, .pointer (some ⟨b64, 0, none⟩)), (9, .int .i64 c48.2.2), (47, .bool ((((c13.2 == 0) && ((c13.1.length : Int) == 7)) && (c24.2.2 == 0)) && (c24.2.1 == 7)))] (And.intro (And.intro rfl rfl) (fun _ => And.intro (And.intro rfl rfl) (fun _ => And.intro (And.intro rfl rfl) (fun _ => And.intro rfl (And.intro rfl (And.intro rfl (And.intro rfl (And.intro rfl (And.intro rfl trivial))))))))) fun j => ?_
  have hO := hO.sel [3] (by decide)
  have hO : Obs _ _ [_] := hO
  obtain ⟨c65, h66, hF⟩ := bind_some hF
  refine wpn_mid 2 (fun e' σ' => ∃ (τ' : Hp), agr [(51, .bool c65), (7, .int .i64 c48.1), (8, .pointer (some ⟨b64, 0, none⟩)), (9, .int .i64 c48.2.2)] e' ∧ Obs τ' σ' [some (b64, ⟨[.slice A54 c48.2.1.Known.length c55, .slice A58 c48.2.1.Regs.length c59, .int .i64 c48.2.1.Base, .slice A62 c48.2.1.Words.length c63], 28, 4, true⟩)] ∧ Hp.le τ τ' ∧ RdT Ty.bool τ' (.slice A54 c48.2.1.Known.length c55) c48.2.1.Known ∧ RdT (Ty.int .i64) τ' (.slice A58 c48.2.1.Regs.length c59) c48.2.1.Regs ∧ RdT (Ty.int .i64) τ' (.slice A62 c48.2.1.Words.length c63) c48.2.1.Words) ?_ ?_
  · have hF := h66
    rcases ite_some hF with ⟨hb67, hF⟩ | ⟨hb67, hF⟩
    · refine wpn_gT (congrArg (fun x => isB (.bool x) true) hb67) ?_
      refine wpn_q hO 2 [] [(7, .int .i64 c48.1), (8, .pointer (some ⟨b64, 0, none⟩)), (9, .int .i64 c48.2.2), (47, .bool ((((c13.2 == 0) && ((c13.1.length : Int) == 7)) && (c24.2.2 == 0)) && (c24.2.1 == 7))), (48, .slice A7 ([(⟨10, 20, 3, ([(⟨7, (-2)⟩ : S_api_Saved)] : List S_api_Saved)⟩ : S_api_Unwind)] : List S_api_Unwind).length c8), (49, .slice A29 c24.1.length c30)] (And.intro rfl (And.intro rfl (And.intro rfl (And.intro rfl (And.intro rfl (And.intro rfl trivial)))))) fun j => ?_
      obtain ⟨c68, h69, hF⟩ := bind_some hF
      refine wpn_c0 hO (w_ref08_Same r11 r31 h69) rfl fun _ σ _ _ hO h70 h71 => ?_
      have hL := hL.trans h70
      have r11 := r11.le h70
      have r31 := r31.le h70
      have r53 := r53.le h70
      have r57 := r57.le h70
      have r61 := r61.le h70
      obtain ⟨rfl, rfl⟩ := h71
      have hO : Obs _ _ [_] := hO
      refine wpn_pk (congrArg Value.bool hb67) ?_
      refine wpn_nil ?_
      injection hF with hF
      subst hF
      refine wpn_end ?_
      exact ⟨rfl, _, And.intro rfl (And.intro rfl (And.intro rfl (And.intro rfl trivial))), hO, hL, r53, r57, r61⟩
    · refine wpn_gF (congrArg (fun x => isB (.bool x) true) hb67) ?_
      refine wpn_pk (congrArg Value.bool hb67) ?_
      refine wpn_nil ?_
      injection hF with hF
      subst hF
      refine wpn_end ?_
      exact ⟨rfl, _, And.intro rfl (And.intro rfl (And.intro rfl (And.intro rfl trivial))), hO, hL, r53, r57, r61⟩
  · rintro e σ ⟨_, hA, hO, hL, r53, r57, r61⟩
    rw [← sets_agr _ _ hA]
    refine wpn_q hO 10 [0] [(8, .pointer (some ⟨b64, 0, none⟩)), (66, .bool (((c65 && (c48.2.2 == 0)) && (c48.1 == 7)) && ((c48.2.1.Regs.length : Int) == 16)))] (And.intro (And.intro rfl rfl) (fun _ => And.intro (And.intro rfl rfl) (fun _ => And.intro (And.intro rfl rfl) (And.intro (And.intro rfl rfl) (fun _ => And.intro rfl (And.intro rfl trivial)))))) fun j => ?_
    obtain ⟨c72, h73, hF⟩ := bind_some hF
    refine wpn_midq 2 [(72, .bool c72), (8, .pointer (some ⟨b64, 0, none⟩))] (fun Q hQ => ?_) fun j => ?_
    · have hF := h73
      rcases ite_some hF with ⟨hb74, hF⟩ | ⟨hb74, hF⟩
      · refine wpn_gT (congrArg (fun x => isB (.bool x) true) hb74) ?_
        refine wpn_q hO 2 [0] [(8, .pointer (some ⟨b64, 0, none⟩)), (66, .bool (((c65 && (c48.2.2 == 0)) && (c48.1 == 7)) && ((c48.2.1.Regs.length : Int) == 16))), (68, .slice A58 c48.2.1.Regs.length c59)] (And.intro (And.intro rfl rfl) (And.intro rfl (And.intro rfl (And.intro rfl trivial)))) fun j => ?_
        obtain ⟨y75, g76, hF⟩ := bind_some hF
        refine wpn_idx (T := (Ty.int .i64)) r57 hO.base rfl rfl g76 (by decide) fun a77 _ k78 m79 => ?_
        obtain rfl : _ = ([.int .i64 y75] : List Value) := k78
        refine wpn_ld rfl (m79.le hO.base).fst ?_
        refine wpn_q hO 1 [] [(8, .pointer (some ⟨b64, 0, none⟩)), (66, .bool (((c65 && (c48.2.2 == 0)) && (c48.1 == 7)) && ((c48.2.1.Regs.length : Int) == 16))), (71, .bool (y75 == 8))] (And.intro rfl (And.intro rfl (And.intro rfl trivial))) fun j => ?_
        refine wpn_pk (congrArg Value.bool hb74) ?_
        refine wpn_nil ?_
        injection hF with hF
        subst hF
        refine wpn_end ?_
        exact hQ _ (And.intro rfl (And.intro rfl trivial))
      · refine wpn_gF (congrArg (fun x => isB (.bool x) true) hb74) ?_
        refine wpn_pk (congrArg Value.bool hb74) ?_
        refine wpn_nil ?_
        injection hF with hF
        subst hF
        refine wpn_end ?_
        exact hQ _ (And.intro rfl (And.intro rfl trivial))
    · refine wpn_q hO 1 [] [(8, .pointer (some ⟨b64, 0, none⟩)), (73, .bool c72)] (And.intro rfl (And.intro rfl trivial)) fun j => ?_
      obtain ⟨c80, h81, hF⟩ := bind_some hF
      refine wpn_midq 2 [(79, .bool c80), (8, .pointer (some ⟨b64, 0, none⟩))] (fun Q hQ => ?_) fun j => ?_
      · have hF := h81
        rcases ite_some hF with ⟨hb82, hF⟩ | ⟨hb82, hF⟩
        · refine wpn_gT (congrArg (fun x => isB (.bool x) true) hb82) ?_
          refine wpn_q hO 2 [0] [(8, .pointer (some ⟨b64, 0, none⟩)), (73, .bool c72), (75, .slice A58 c48.2.1.Regs.length c59)] (And.intro (And.intro rfl rfl) (And.intro rfl (And.intro rfl (And.intro rfl trivial)))) fun j => ?_
          obtain ⟨y83, g84, hF⟩ := bind_some hF
          refine wpn_idx (T := (Ty.int .i64)) r57 hO.base rfl rfl g84 (by decide) fun a85 _ k86 m87 => ?_
          obtain rfl : _ = ([.int .i64 y83] : List Value) := k86
          refine wpn_ld rfl (m87.le hO.base).fst ?_
          refine wpn_q hO 1 [] [(8, .pointer (some ⟨b64, 0, none⟩)), (73, .bool c72), (78, .bool (y83 == 6))] (And.intro rfl (And.intro rfl (And.intro rfl trivial))) fun j => ?_
          refine wpn_pk (congrArg Value.bool hb82) ?_
          refine wpn_nil ?_
          injection hF with hF
          subst hF
          refine wpn_end ?_
          exact hQ _ (And.intro rfl (And.intro rfl trivial))
        · refine wpn_gF (congrArg (fun x => isB (.bool x) true) hb82) ?_
          refine wpn_pk (congrArg Value.bool hb82) ?_
          refine wpn_nil ?_
          injection hF with hF
          subst hF
          refine wpn_end ?_
          exact hQ _ (And.intro rfl (And.intro rfl trivial))
      · refine wpn_q hO 4 [0] [(8, .pointer (some ⟨b64, 0, none⟩)), (86, .bool (c80 && ((c48.2.1.Known.length : Int) == 16)))] (And.intro (And.intro rfl rfl) (And.intro (And.intro rfl rfl) (fun _ => And.intro rfl (And.intro rfl trivial)))) fun j => ?_
        obtain ⟨c88, h89, hF⟩ := bind_some hF
        refine wpn_midq 2 [(91, .bool c88), (8, .pointer (some ⟨b64, 0, none⟩))] (fun Q hQ => ?_) fun j => ?_
        · have hF := h89
          rcases ite_some hF with ⟨hb90, hF⟩ | ⟨hb90, hF⟩
          · refine wpn_gT (congrArg (fun x => isB (.bool x) true) hb90) ?_
            refine wpn_q hO 2 [0] [(8, .pointer (some ⟨b64, 0, none⟩)), (86, .bool (c80 && ((c48.2.1.Known.length : Int) == 16))), (88, .slice A54 c48.2.1.Known.length c55)] (And.intro (And.intro rfl rfl) (And.intro rfl (And.intro rfl (And.intro rfl trivial)))) fun j => ?_
            obtain ⟨y91, g92, hF⟩ := bind_some hF
            refine wpn_idx (T := Ty.bool) r53 hO.base rfl rfl g92 (by decide) fun a93 _ k94 m95 => ?_
            obtain rfl : _ = ([.bool y91] : List Value) := k94
            refine wpn_ld rfl (m95.le hO.base).fst ?_
            refine wpn_pk (congrArg Value.bool hb90) ?_
            refine wpn_nil ?_
            injection hF with hF
            subst hF
            refine wpn_end ?_
            exact hQ _ (And.intro rfl (And.intro rfl trivial))
          · refine wpn_gF (congrArg (fun x => isB (.bool x) true) hb90) ?_
            refine wpn_pk (congrArg Value.bool hb90) ?_
            refine wpn_nil ?_
            injection hF with hF
            subst hF
            refine wpn_end ?_
            exact hQ _ (And.intro rfl (And.intro rfl trivial))
        · refine wpn_q hO 1 [] [(8, .pointer (some ⟨b64, 0, none⟩)), (92, .bool c88)] (And.intro rfl (And.intro rfl trivial)) fun j => ?_
          obtain ⟨c96, h97, hF⟩ := bind_some hF
          refine wpn_midq 2 [(98, .bool c96)] (fun Q hQ => ?_) fun j => ?_
          · have hF := h97
            rcases ite_some hF with ⟨hb98, hF⟩ | ⟨hb98, hF⟩
            · refine wpn_gT (congrArg (fun x => isB (.bool x) true) hb98) ?_
              refine wpn_q hO 2 [0] [(92, .bool c88), (94, .slice A54 c48.2.1.Known.length c55)] (And.intro (And.intro rfl rfl) (And.intro rfl (And.intro rfl trivial))) fun j => ?_
              obtain ⟨y99, g100, hF⟩ := bind_some hF
              refine wpn_idx (T := Ty.bool) r53 hO.base rfl rfl g100 (by decide) fun a101 _ k102 m103 => ?_
              obtain rfl : _ = ([.bool y99] : List Value) := k102
              refine wpn_ld rfl (m103.le hO.base).fst ?_
              refine wpn_q hO 1 [] [(92, .bool c88), (97, .bool (!y99))] (And.intro rfl (And.intro rfl trivial)) fun j => ?_
              refine wpn_pk (congrArg Value.bool hb98) ?_
              refine wpn_nil ?_
              injection hF with hF
              subst hF
              refine wpn_end ?_
              exact hQ _ (And.intro rfl (trivial))
            · refine wpn_gF (congrArg (fun x => isB (.bool x) true) hb98) ?_
              refine wpn_pk (congrArg Value.bool hb98) ?_
              refine wpn_nil ?_
              injection hF with hF
              subst hF
              refine wpn_end ?_
              exact hQ _ (And.intro rfl (trivial))
          · refine wpn_qa hO [] [(0, .bool c96)] (And.intro rfl trivial) fun j => ?_
            refine wpn_r1 ?_
            injection hF with hF
            subst hF
            have hO := hO.sel [] (by decide)
            exact hQ _ _ _ _ _ rfl hO hL ⟨rfl, rfl⟩
theorem w_ref08_Right {τ : Hp} {v0 : Value} {p0 : (List S_api_Unwind)} (r0 : RdT TyS_api_Unwind τ v0 p0) {rr : Bool} (hF : F_ref08_Right p0 = some rr) :
    Ctr Try.prog 17 #[v0] τ [] (fun v τ' vs' => v = .bool rr ∧ vs' = []) := by
  obtain ⟨A0, c0, rfl, -⟩ := r0.form
  refine ctr_of (args := [.slice A0 p0.length c0]) hm Try.func17 s17 rfl fun w0 σ hO Q hQ => ?_
  unfold F_ref08_Right at hF
  have hL := Hp.le.refl τ
  show wpn _ _ a17.body _ _ _
  unfold a17
  dsimp only
  refine wpn_qa hO [] [(0, .slice A0 p0.length c0)] (And.intro rfl trivial) fun j => ?_
  refine wpn_qa hO [] [(0, .slice A0 p0.length c0), (3, .int .i64 0)] (And.intro rfl (And.intro rfl trivial)) fun j => ?_
  refine wpn_assoc ?_
  refine wpn_qa hO [] [(0, .slice A0 p0.length c0), (3, .int .i64 0), (4, .int .i64 0)] (And.intro rfl (And.intro rfl (And.intro rfl trivial))) fun j => ?_
  refine wpn_bl ?_
  refine wpn_lp (fun (n : Nat) e' σ' => ∃ (x131 : Int) (x132 : Int) (τ' : Hp), agr [(0, .slice A0 p0.length c0), (3, .int .i64 x131), (4, .int .i64 x132)] e' ∧ Obs τ' σ' [] ∧ Hp.le τ τ' ∧ RdT TyS_api_Unwind τ' (.slice A0 p0.length c0) p0 ∧ F_ref08_Right_l13 p0 n x131 x132 = some rr) big ⟨0, 0, _, And.intro rfl (And.intro rfl (And.intro rfl trivial)), hO, hL, r0, hF⟩ ?_
  clear hF hO hL
  rintro n260 e σ ⟨x131, x132, _, hA, hO, hL, r130, hF⟩
  rw [← sets_agr _ _ hA]
  cases n260 with
  | zero => exact nomatch (show none = some rr from hF)
  | succ n260 =>
    replace hF : F_ref08_Right_l13B (F_ref08_Right_l13 p0 n260) p0 x131 x132 = some rr := hF
    unfold F_ref08_Right_l13B at hF
    refine wpn_assoc ?_
    refine wpn_qa hO [] [(0, .slice A0 p0.length c0), (3, .int .i64 x131), (4, .int .i64 x132), (11, .bool (decide (x132 < (p0.length : Int))))] (And.intro rfl (And.intro rfl (And.intro rfl (And.intro rfl trivial)))) fun j => ?_
    rcases ite_some hF with ⟨hb261, hF⟩ | ⟨hb261, hF⟩
    · refine wpn_cT (congrArg Value.bool hb261) ?_
      refine wpn_sk ?_
      refine wpn_bl ?_
      refine wpn_q hO 2 [] [(0, .slice A0 p0.length c0), (3, .int .i64 x131), (4, .int .i64 x132), (14, .slice A0 p0.length c0), (15, .int .i64 x132)] (And.intro rfl (And.intro rfl (And.intro rfl (And.intro rfl (And.intro rfl trivial))))) fun j => ?_
      obtain ⟨y262, g263, hF⟩ := bind_some hF
      refine wpn_idx (T := TyS_api_Unwind) r130 hO.base rfl rfl g263 (by decide) fun a264 _ k265 m266 => ?_
      obtain ⟨v267, rfl, r268⟩ := k265
      obtain ⟨A269, c270, rfl, -⟩ := r268.form
      refine wpn_ld rfl ((m266.le hO.base).all rfl) ?_
      refine wpn_al hO fun b271 σ hO => ?_
      have hO : Obs _ _ [_] := hO
      refine wpn_st hO (i := 0) rfl (off := 0) rfl rfl rfl rfl (Nat.le_of_ble_eq_true rfl) rfl fun σ hO => ?_
      have hO : Obs _ _ [_] := hO
      refine wpn_nil ?_
      refine wpn_assoc ?_
      refine wpn_qa hO [0, 0, 0, 0, 0, 0] [(0, .slice A0 p0.length c0), (4, .int .i64 x132), (5, .pointer (some ⟨b271, 0, none⟩)), (43, .bool (((((decide (y262.From < x131)) || (decide (y262.To ≤ y262.From))) || (decide (y262.To > 16777216))) || (decide (y262.Up < 0))) || (decide (y262.Up > 65536))))] (And.intro (And.intro rfl rfl) (And.intro (And.intro rfl rfl) (And.intro (And.intro rfl rfl) (And.intro (And.intro rfl rfl) (fun _ => And.intro (And.intro rfl rfl) (And.intro (And.intro rfl rfl) (fun _ => And.intro (And.intro rfl rfl) (And.intro (And.intro rfl rfl) (fun _ => And.intro (And.intro rfl rfl) (And.intro (And.intro rfl rfl) (fun _ => And.intro rfl (And.intro rfl (And.intro rfl (And.intro rfl trivial)))))))))))))) fun j => ?_
      rcases ite_some hF with ⟨hb272, hF⟩ | ⟨hb272, hF⟩
      · refine wpn_cT (congrArg Value.bool hb272) ?_
        refine wpn_assoc ?_
        refine wpn_qa hO [] [(2, .bool false)] (And.intro rfl trivial) fun j => ?_
        refine wpn_rt ?_
        refine inb_r1 ?_
        refine thn_r1 ?_
        refine thn_r1 ?_
        refine inb_r1 ?_
        refine thn_r1 ?_
        injection hF with hF
        subst hF
        have hO := hO.sel [] (by decide)
        exact hQ _ _ _ _ _ rfl hO hL ⟨rfl, rfl⟩
      · refine wpn_cF (congrArg Value.bool hb272) ?_
        refine wpn_sk ?_
        refine wpn_qa hO [] [(0, .slice A0 p0.length c0), (4, .int .i64 x132), (5, .pointer (some ⟨b271, 0, none⟩)), (6, .int .i64 5)] (And.intro rfl (And.intro rfl (And.intro rfl (And.intro rfl trivial)))) fun j => ?_
        refine wpn_assoc ?_
        refine wpn_qa hO [] [(0, .slice A0 p0.length c0), (4, .int .i64 x132), (5, .pointer (some ⟨b271, 0, none⟩)), (6, .int .i64 5), (7, .int .i64 0)] (And.intro rfl (And.intro rfl (And.intro rfl (And.intro rfl (And.intro rfl trivial))))) fun j => ?_
        refine wpn_bl ?_
        refine wpn_lp (fun (n : Nat) e' σ' => ∃ (x313 : Int) (x314 : Int) (τ' : Hp), agr [(0, .slice A0 p0.length c0), (4, .int .i64 x132), (5, .pointer (some ⟨b271, 0, none⟩)), (6, .int .i64 x313), (7, .int .i64 x314)] e' ∧ Obs τ' σ' [some (b271, ⟨[.int .i64 y262.From, .int .i64 y262.To, .int .i64 y262.Up, .slice A269 y262.Regs.length c270], 48, 4, true⟩)] ∧ Hp.le τ τ' ∧ RdT TyS_api_Unwind τ' (.slice A0 p0.length c0) p0 ∧ RdT TyS_api_Saved τ' (.slice A269 y262.Regs.length c270) y262.Regs ∧ F_ref08_Right_l15 (F_ref08_Right_l13 p0 n260) x132 y262 n x313 x314 = some rr) big ⟨5, 0, _, And.intro rfl (And.intro rfl (And.intro rfl (And.intro rfl (And.intro rfl trivial)))), hO, hL, r130, r268, hF⟩ ?_
        clear hF hO hL
        rintro n351 e σ ⟨x313, x314, _, hA, hO, hL, r311, r312, hF⟩
        rw [← sets_agr _ _ hA]
        cases n351 with
        | zero => exact nomatch (show none = some rr from hF)
        | succ n351 =>
          replace hF : F_ref08_Right_l15B (F_ref08_Right_l15 (F_ref08_Right_l13 p0 n260) x132 y262 n351) (F_ref08_Right_l13 p0 n260) x132 y262 x313 x314 = some rr := hF
          unfold F_ref08_Right_l15B at hF
          refine wpn_assoc ?_
          refine wpn_qa hO [0] [(0, .slice A0 p0.length c0), (4, .int .i64 x132), (5, .pointer (some ⟨b271, 0, none⟩)), (6, .int .i64 x313), (7, .int .i64 x314), (48, .bool (decide (x314 < (y262.Regs.length : Int))))] (And.intro (And.intro rfl rfl) (And.intro rfl (And.intro rfl (And.intro rfl (And.intro rfl (And.intro rfl (And.intro rfl trivial))))))) fun j => ?_
          rcases ite_some hF with ⟨hb352, hF⟩ | ⟨hb352, hF⟩
          · refine wpn_cT (congrArg Value.bool hb352) ?_
            refine wpn_sk ?_
            refine wpn_bl ?_
            refine wpn_assoc ?_
            refine wpn_q hO 3 [0] [(0, .slice A0 p0.length c0), (4, .int .i64 x132), (5, .pointer (some ⟨b271, 0, none⟩)), (6, .int .i64 x313), (7, .int .i64 x314), (52, .slice A269 y262.Regs.length c270), (53, .int .i64 x314)] (And.intro (And.intro rfl rfl) (And.intro rfl (And.intro rfl (And.intro rfl (And.intro rfl (And.intro rfl (And.intro rfl (And.intro rfl trivial)))))))) fun j => ?_
            obtain ⟨y353, g354, hF⟩ := bind_some hF
            refine wpn_idx (T := TyS_api_Saved) r312 hO.base rfl rfl g354 (by decide) fun a355 _ k356 m357 => ?_
            obtain rfl : _ = ([.int .i64 y353.Reg, .int .i64 y353.At] : List Value) := k356
            refine wpn_q hO 1 [] [(0, .slice A0 p0.length c0), (4, .int .i64 x132), (5, .pointer (some ⟨b271, 0, none⟩)), (6, .int .i64 x313), (7, .int .i64 x314), (55, .pointer (some a355))] (And.intro rfl (And.intro rfl (And.intro rfl (And.intro rfl (And.intro rfl (And.intro rfl trivial)))))) fun j => ?_
            refine wpn_ld rfl (m357.le hO.base).fst ?_
            refine wpn_q hO 3 [] [(0, .slice A0 p0.length c0), (4, .int .i64 x132), (5, .pointer (some ⟨b271, 0, none⟩)), (7, .int .i64 x314), (59, .bool (decide (y353.Reg ≤ x313)))] (And.intro rfl (And.intro rfl (And.intro rfl (And.intro rfl (And.intro rfl trivial))))) fun j => ?_
            obtain ⟨c358, h359, hF⟩ := bind_some hF
            refine wpn_midq 2 [(67, .bool c358), (0, .slice A0 p0.length c0), (4, .int .i64 x132), (5, .pointer (some ⟨b271, 0, none⟩)), (7, .int .i64 x314)] (fun Q hQ => ?_) fun j => ?_
            · have hF := h359
              rcases ite_some hF with ⟨hb360, hF⟩ | ⟨hb360, hF⟩
              · refine wpn_gF (congrArg (fun x => isB (.bool x) false) hb360) ?_
                refine wpn_pk (congrArg Value.bool hb360) ?_
                refine wpn_nil ?_
                injection hF with hF
                subst hF
                refine wpn_end ?_
                exact hQ _ (And.intro rfl (And.intro rfl (And.intro rfl (And.intro rfl (And.intro rfl trivial)))))
              · refine wpn_gT (congrArg (fun x => isB (.bool x) false) hb360) ?_
                refine wpn_q hO 3 [0] [(0, .slice A0 p0.length c0), (4, .int .i64 x132), (5, .pointer (some ⟨b271, 0, none⟩)), (7, .int .i64 x314), (59, .bool (decide (y353.Reg ≤ x313))), (61, .slice A269 y262.Regs.length c270), (62, .int .i64 x314)] (And.intro (And.intro rfl rfl) (And.intro rfl (And.intro rfl (And.intro rfl (And.intro rfl (And.intro rfl (And.intro rfl (And.intro rfl trivial)))))))) fun j => ?_
                obtain ⟨y361, g362, hF⟩ := bind_some hF
                refine wpn_idx (T := TyS_api_Saved) r312 hO.base rfl rfl g362 (by decide) fun a363 _ k364 m365 => ?_
                obtain rfl : _ = ([.int .i64 y361.Reg, .int .i64 y361.At] : List Value) := k364
                refine wpn_q hO 1 [] [(0, .slice A0 p0.length c0), (4, .int .i64 x132), (5, .pointer (some ⟨b271, 0, none⟩)), (7, .int .i64 x314), (59, .bool (decide (y353.Reg ≤ x313))), (64, .pointer (some a363))] (And.intro rfl (And.intro rfl (And.intro rfl (And.intro rfl (And.intro rfl (And.intro rfl trivial)))))) fun j => ?_
                refine wpn_ld rfl (m365.le hO.base).fst ?_
                refine wpn_q hO 1 [] [(0, .slice A0 p0.length c0), (4, .int .i64 x132), (5, .pointer (some ⟨b271, 0, none⟩)), (7, .int .i64 x314), (59, .bool (decide (y353.Reg ≤ x313))), (66, .bool (decide (y361.Reg > 11)))] (And.intro rfl (And.intro rfl (And.intro rfl (And.intro rfl (And.intro rfl (And.intro rfl trivial)))))) fun j => ?_
                refine wpn_pk (congrArg Value.bool hb360) ?_
                refine wpn_nil ?_
                injection hF with hF
                subst hF
                refine wpn_end ?_
                exact hQ _ (And.intro rfl (And.intro rfl (And.intro rfl (And.intro rfl (And.intro rfl trivial)))))
            · refine wpn_q hO 1 [] [(0, .slice A0 p0.length c0), (4, .int .i64 x132), (5, .pointer (some ⟨b271, 0, none⟩)), (7, .int .i64 x314), (68, .bool c358)] (And.intro rfl (And.intro rfl (And.intro rfl (And.intro rfl (And.intro rfl trivial))))) fun j => ?_
              obtain ⟨c366, h367, hF⟩ := bind_some hF
              refine wpn_midq 2 [(76, .bool c366), (0, .slice A0 p0.length c0), (4, .int .i64 x132), (5, .pointer (some ⟨b271, 0, none⟩)), (7, .int .i64 x314)] (fun Q hQ => ?_) fun j => ?_
              · have hF := h367
                rcases ite_some hF with ⟨hb368, hF⟩ | ⟨hb368, hF⟩
                · refine wpn_gF (congrArg (fun x => isB (.bool x) false) hb368) ?_
                  refine wpn_pk (congrArg Value.bool hb368) ?_
                  refine wpn_nil ?_
                  injection hF with hF
                  subst hF
                  refine wpn_end ?_
                  exact hQ _ (And.intro rfl (And.intro rfl (And.intro rfl (And.intro rfl (And.intro rfl trivial)))))
                · refine wpn_gT (congrArg (fun x => isB (.bool x) false) hb368) ?_
                  refine wpn_q hO 3 [0] [(0, .slice A0 p0.length c0), (4, .int .i64 x132), (5, .pointer (some ⟨b271, 0, none⟩)), (7, .int .i64 x314), (68, .bool c358), (70, .slice A269 y262.Regs.length c270), (71, .int .i64 x314)] (And.intro (And.intro rfl rfl) (And.intro rfl (And.intro rfl (And.intro rfl (And.intro rfl (And.intro rfl (And.intro rfl (And.intro rfl trivial)))))))) fun j => ?_
                  obtain ⟨y369, g370, hF⟩ := bind_some hF
                  refine wpn_idx (T := TyS_api_Saved) r312 hO.base rfl rfl g370 (by decide) fun a371 _ k372 m373 => ?_
                  obtain rfl : _ = ([.int .i64 y369.Reg, .int .i64 y369.At] : List Value) := k372
                  refine wpn_q hO 1 [] [(0, .slice A0 p0.length c0), (4, .int .i64 x132), (5, .pointer (some ⟨b271, 0, none⟩)), (7, .int .i64 x314), (68, .bool c358), (73, .pointer (some (a371.add 1)))] (And.intro rfl (And.intro rfl (And.intro rfl (And.intro rfl (And.intro rfl (And.intro rfl trivial)))))) fun j => ?_
                  refine wpn_ld rfl ((m373.le hO.base).one 1 rfl) ?_
                  refine wpn_q hO 1 [] [(0, .slice A0 p0.length c0), (4, .int .i64 x132), (5, .pointer (some ⟨b271, 0, none⟩)), (7, .int .i64 x314), (68, .bool c358), (75, .bool (decide (y369.At > (-2))))] (And.intro rfl (And.intro rfl (And.intro rfl (And.intro rfl (And.intro rfl (And.intro rfl trivial)))))) fun j => ?_
                  refine wpn_pk (congrArg Value.bool hb368) ?_
                  refine wpn_nil ?_
                  injection hF with hF
                  subst hF
                  refine wpn_end ?_
                  exact hQ _ (And.intro rfl (And.intro rfl (And.intro rfl (And.intro rfl (And.intro rfl trivial)))))
              · refine wpn_q hO 1 [] [(0, .slice A0 p0.length c0), (4, .int .i64 x132), (5, .pointer (some ⟨b271, 0, none⟩)), (7, .int .i64 x314), (77, .bool c366)] (And.intro rfl (And.intro rfl (And.intro rfl (And.intro rfl (And.intro rfl trivial))))) fun j => ?_
                obtain ⟨c374, h375, hF⟩ := bind_some hF
                refine wpn_midq 2 [(85, .bool c374), (0, .slice A0 p0.length c0), (4, .int .i64 x132), (5, .pointer (some ⟨b271, 0, none⟩)), (7, .int .i64 x314)] (fun Q hQ => ?_) fun j => ?_
                · have hF := h375
                  rcases ite_some hF with ⟨hb376, hF⟩ | ⟨hb376, hF⟩
                  · refine wpn_gF (congrArg (fun x => isB (.bool x) false) hb376) ?_
                    refine wpn_pk (congrArg Value.bool hb376) ?_
                    refine wpn_nil ?_
                    injection hF with hF
                    subst hF
                    refine wpn_end ?_
                    exact hQ _ (And.intro rfl (And.intro rfl (And.intro rfl (And.intro rfl (And.intro rfl trivial)))))
                  · refine wpn_gT (congrArg (fun x => isB (.bool x) false) hb376) ?_
                    refine wpn_q hO 3 [0] [(0, .slice A0 p0.length c0), (4, .int .i64 x132), (5, .pointer (some ⟨b271, 0, none⟩)), (7, .int .i64 x314), (77, .bool c366), (79, .slice A269 y262.Regs.length c270), (80, .int .i64 x314)] (And.intro (And.intro rfl rfl) (And.intro rfl (And.intro rfl (And.intro rfl (And.intro rfl (And.intro rfl (And.intro rfl (And.intro rfl trivial)))))))) fun j => ?_
                    obtain ⟨y377, g378, hF⟩ := bind_some hF
                    refine wpn_idx (T := TyS_api_Saved) r312 hO.base rfl rfl g378 (by decide) fun a379 _ k380 m381 => ?_
                    obtain rfl : _ = ([.int .i64 y377.Reg, .int .i64 y377.At] : List Value) := k380
                    refine wpn_q hO 1 [] [(0, .slice A0 p0.length c0), (4, .int .i64 x132), (5, .pointer (some ⟨b271, 0, none⟩)), (7, .int .i64 x314), (77, .bool c366), (82, .pointer (some (a379.add 1)))] (And.intro rfl (And.intro rfl (And.intro rfl (And.intro rfl (And.intro rfl (And.intro rfl trivial)))))) fun j => ?_
                    refine wpn_ld rfl ((m381.le hO.base).one 1 rfl) ?_
                    refine wpn_q hO 1 [] [(0, .slice A0 p0.length c0), (4, .int .i64 x132), (5, .pointer (some ⟨b271, 0, none⟩)), (7, .int .i64 x314), (77, .bool c366), (84, .bool (decide (y377.At < (-65536))))] (And.intro rfl (And.intro rfl (And.intro rfl (And.intro rfl (And.intro rfl (And.intro rfl trivial)))))) fun j => ?_
                    refine wpn_pk (congrArg Value.bool hb376) ?_
                    refine wpn_nil ?_
                    injection hF with hF
                    subst hF
                    refine wpn_end ?_
                    exact hQ _ (And.intro rfl (And.intro rfl (And.intro rfl (And.intro rfl (And.intro rfl trivial)))))
                · refine wpn_nil ?_
                  rcases ite_some hF with ⟨hb382, hF⟩ | ⟨hb382, hF⟩
                  · refine wpn_cT (congrArg Value.bool hb382) ?_
                    refine wpn_assoc ?_
                    refine wpn_qa hO [] [(2, .bool false)] (And.intro rfl trivial) fun j => ?_
                    refine wpn_rt ?_
                    refine inb_r1 ?_
                    refine thn_r1 ?_
                    refine thn_r1 ?_
                    refine inb_r1 ?_
                    refine thn_r1 ?_
                    refine inb_r1 ?_
                    refine thn_r1 ?_
                    refine thn_r1 ?_
                    refine inb_r1 ?_
                    refine thn_r1 ?_
                    injection hF with hF
                    subst hF
                    have hO := hO.sel [] (by decide)
                    exact hQ _ _ _ _ _ rfl hO hL ⟨rfl, rfl⟩
                  · refine wpn_cF (congrArg Value.bool hb382) ?_
                    refine wpn_sk ?_
                    refine wpn_rlast ?_
                    refine wpn_q hO 3 [0] [(0, .slice A0 p0.length c0), (4, .int .i64 x132), (5, .pointer (some ⟨b271, 0, none⟩)), (7, .int .i64 x314), (87, .slice A269 y262.Regs.length c270), (88, .int .i64 x314)] (And.intro (And.intro rfl rfl) (And.intro rfl (And.intro rfl (And.intro rfl (And.intro rfl (And.intro rfl (And.intro rfl trivial))))))) fun j => ?_
                    obtain ⟨y383, g384, hF⟩ := bind_some hF
                    refine wpn_idx (T := TyS_api_Saved) r312 hO.base rfl rfl g384 (by decide) fun a385 _ k386 m387 => ?_
                    obtain rfl : _ = ([.int .i64 y383.Reg, .int .i64 y383.At] : List Value) := k386
                    refine wpn_q hO 1 [] [(0, .slice A0 p0.length c0), (4, .int .i64 x132), (5, .pointer (some ⟨b271, 0, none⟩)), (7, .int .i64 x314), (90, .pointer (some a385))] (And.intro rfl (And.intro rfl (And.intro rfl (And.intro rfl (And.intro rfl trivial))))) fun j => ?_
                    refine wpn_ld rfl (m387.le hO.base).fst ?_
                    refine wpn_qa hO [] [(0, .slice A0 p0.length c0), (4, .int .i64 x132), (5, .pointer (some ⟨b271, 0, none⟩)), (6, .int .i64 y383.Reg), (7, .int .i64 x314)] (And.intro rfl (And.intro rfl (And.intro rfl (And.intro rfl (And.intro rfl trivial))))) fun j => ?_
                    refine wpn_end ?_
                    refine inb_i ?_
                    refine thn_i ?_
                    refine wpn_rlast ?_
                    refine wpn_qa hO [] [(0, .slice A0 p0.length c0), (4, .int .i64 x132), (5, .pointer (some ⟨b271, 0, none⟩)), (6, .int .i64 y383.Reg), (7, .int .i64 (IntKind.i64.wrap (x314 + 1)))] (And.intro rfl (And.intro rfl (And.intro rfl (And.intro rfl (And.intro rfl trivial))))) fun j => ?_
                    refine wpn_end ?_
                    refine thn_i ?_
                    exact ⟨n351, Nat.lt_succ_self _, y383.Reg, (IntKind.i64.wrap (x314 + 1)), _, And.intro rfl (And.intro rfl (And.intro rfl (And.intro rfl (And.intro rfl trivial)))), hO, hL, r311, r312, hF⟩
          · refine wpn_cF (congrArg Value.bool hb352) ?_
            refine wpn_ex ?_
            refine thn_x ?_
            refine inb_x ?_
            refine thn_i ?_
            refine wpn_rlast ?_
            refine wpn_qa hO [0] [(0, .slice A0 p0.length c0), (3, .int .i64 y262.To), (4, .int .i64 x132)] (And.intro (And.intro rfl rfl) (And.intro rfl (And.intro rfl (And.intro rfl trivial)))) fun j => ?_
            refine wpn_end ?_
            refine inb_i ?_
            refine thn_i ?_
            refine wpn_rlast ?_
            refine wpn_qa hO [] [(0, .slice A0 p0.length c0), (3, .int .i64 y262.To), (4, .int .i64 (IntKind.i64.wrap (x132 + 1)))] (And.intro rfl (And.intro rfl (And.intro rfl trivial))) fun j => ?_
            refine wpn_end ?_
            refine thn_i ?_
            have hO := hO.sel [] (by decide)
            exact ⟨n260, Nat.lt_succ_self _, y262.To, (IntKind.i64.wrap (x132 + 1)), _, And.intro rfl (And.intro rfl (And.intro rfl trivial)), hO, hL, r311, hF⟩
    · refine wpn_cF (congrArg Value.bool hb261) ?_
      refine wpn_ex ?_
      refine thn_x ?_
      refine inb_x ?_
      refine thn_i ?_
      refine wpn_qa hO [] [(2, .bool (decide ((p0.length : Int) ≤ 4000)))] (And.intro rfl trivial) fun j => ?_
      refine wpn_r1 ?_
      injection hF with hF
      subst hF
      exact hQ _ _ _ _ _ rfl hO hL ⟨rfl, rfl⟩
theorem w_ref00_Kept {τ : Hp} {v0 : Value} {p0 : (List UInt8)} {q0 : (List UInt8)} {v1 : Value} {p1 : (List UInt8)} (r0 : RdT Ty.u8 τ v0 p0) (f0 : Full Ty.u8 τ v0 q0) (r1 : RdT Ty.u8 τ v1 p1) {rr : Bool} (hF : F_ref00_Kept p0 q0 p1 = some rr) :
    Ctr Try.prog 14 #[v0, v1] τ [] (fun v τ' vs' => v = .bool rr ∧ vs' = []) := by
  obtain ⟨A0, n0, rfl, f0⟩ := f0
  obtain ⟨_, _, hv0, -⟩ := r0.form
  injection hv0 with _ hv0 _
  subst hv0
  have f0 : Full Ty.u8 τ (.slice A0 p0.length q0.length) q0 := ⟨_, _, rfl, f0⟩
  obtain ⟨A1, c1, rfl, -⟩ := r1.form
  refine ctr_of (args := [.slice A0 p0.length q0.length, .slice A1 p1.length c1]) hm Try.func14 s14 rfl fun w0 σ hO Q hQ => ?_
  unfold F_ref00_Kept at hF
  have hL := Hp.le.refl τ
  show wpn _ _ a14.body _ _ _
  unfold a14
  dsimp only
  refine wpn_qa hO [] [(0, .slice A0 p0.length q0.length), (1, .slice A1 p1.length c1)] (And.intro rfl (And.intro rfl trivial)) fun j => ?_
  refine wpn_assoc ?_
  refine wpn_qa hO [] [(0, .slice A0 p0.length q0.length), (1, .slice A1 p1.length c1), (20, .bool (((p0.length : Int) != (p1.length : Int)) || (decide ((q0.length : Int) < (IntKind.i64.wrap ((p0.length : Int) + 8))))))] (And.intro (And.intro rfl rfl) (fun _ => And.intro rfl (And.intro rfl (And.intro rfl trivial)))) fun j => ?_
  rcases ite_some hF with ⟨hb3, hF⟩ | ⟨hb3, hF⟩
  · refine wpn_cT (congrArg Value.bool hb3) ?_
    refine wpn_assoc ?_
    refine wpn_qa hO [] [(4, .bool false)] (And.intro rfl trivial) fun j => ?_
    refine wpn_rt ?_
    injection hF with hF
    subst hF
    exact hQ _ _ _ _ _ rfl hO hL ⟨rfl, rfl⟩
  · refine wpn_cF (congrArg Value.bool hb3) ?_
    refine wpn_sk ?_
    refine wpn_assoc ?_
    refine wpn_q hO 4 [] [(1, .slice A1 p1.length c1), (21, .slice A0 p0.length q0.length), (24, .int .i64 (IntKind.i64.wrap ((p0.length : Int) + 8)))] (And.intro rfl (And.intro rfl (And.intro rfl trivial))) fun j => ?_
    obtain ⟨y4, g5, hF⟩ := bind_some hF
    refine wpn_slf (T := Ty.u8) f0 rfl rfl g5 fun _ r6 => ?_
    obtain ⟨A7, c8, rfl, -⟩ := r6.form
    refine wpn_qa hO [] [(1, .slice A1 p1.length c1), (25, .slice A7 y4.length c8), (26, .int .i64 (y4.length : Int)), (27, .int .i64 0)] (And.intro rfl (And.intro rfl (And.intro rfl (And.intro rfl trivial)))) fun j => ?_
    refine wpn_bl ?_
    refine wpn_lp (fun (n : Nat) e' σ' => ∃ (x27 : Int) (τ' : Hp), agr [(1, .slice A1 p1.length c1), (25, .slice A7 y4.length c8), (26, .int .i64 (y4.length : Int)), (27, .int .i64 x27)] e' ∧ Obs τ' σ' [] ∧ Hp.le τ τ' ∧ RdT Ty.u8 τ' (.slice A1 p1.length c1) p1 ∧ RdT Ty.u8 τ' (.slice A7 y4.length c8) y4 ∧ F_ref00_Kept_l3 p1 y4 n x27 = some rr) big ⟨0, _, And.intro rfl (And.intro rfl (And.intro rfl (And.intro rfl trivial))), hO, hL, r1, r6, hF⟩ ?_
    clear hF hO hL
    rintro n42 e σ ⟨x27, _, hA, hO, hL, r25, r26, hF⟩
    rw [← sets_agr _ _ hA]
    cases n42 with
    | zero => exact nomatch (show none = some rr from hF)
    | succ n42 =>
      replace hF : F_ref00_Kept_l3B (F_ref00_Kept_l3 p1 y4 n42) p1 y4 x27 = some rr := hF
      unfold F_ref00_Kept_l3B at hF
      refine wpn_qa hO [] [(1, .slice A1 p1.length c1), (25, .slice A7 y4.length c8), (26, .int .i64 (y4.length : Int)), (27, .int .i64 x27), (28, .bool (decide (x27 < (y4.length : Int))))] (And.intro rfl (And.intro rfl (And.intro rfl (And.intro rfl (And.intro rfl trivial))))) fun j => ?_
      rcases ite_some hF with ⟨hb43, hF⟩ | ⟨hb43, hF⟩
      · refine wpn_cT (congrArg Value.bool hb43) ?_
        refine wpn_sk ?_
        refine wpn_bl ?_
        refine wpn_q hO 1 [] [(1, .slice A1 p1.length c1), (25, .slice A7 y4.length c8), (26, .int .i64 (y4.length : Int)), (27, .int .i64 x27), (29, .int .i64 x27)] (And.intro rfl (And.intro rfl (And.intro rfl (And.intro rfl (And.intro rfl trivial))))) fun j => ?_
        obtain ⟨y44, g45, hF⟩ := bind_some hF
        refine wpn_idx (T := Ty.u8) r26 hO.base rfl rfl g45 (by decide) fun a46 _ k47 m48 => ?_
        obtain rfl : _ = ([.int .u8 y44.toNat] : List Value) := k47
        refine wpn_ld rfl (m48.le hO.base).fst ?_
        refine wpn_qa hO [] [(1, .slice A1 p1.length c1), (5, .int .i64 x27), (6, .int .u8 (y44.toNat : Int)), (25, .slice A7 y4.length c8), (26, .int .i64 (y4.length : Int)), (27, .int .i64 x27)] (And.intro rfl (And.intro rfl (And.intro rfl (And.intro rfl (And.intro rfl (And.intro rfl trivial)))))) fun j => ?_
        refine wpn_qa hO [] [(1, .slice A1 p1.length c1), (5, .int .i64 x27), (6, .int .u8 (y44.toNat : Int)), (7, .int .u8 (IntKind.u8.wrap (IntKind.i64.wrap ((IntKind.i64.wrap (8 + (p1.length : Int))) - x27)))), (25, .slice A7 y4.length c8), (26, .int .i64 (y4.length : Int)), (27, .int .i64 x27)] (And.intro rfl (And.intro rfl (And.intro rfl (And.intro rfl (And.intro rfl (And.intro rfl (And.intro rfl trivial))))))) fun j => ?_
        refine wpn_assoc ?_
        refine wpn_qa hO [] [(1, .slice A1 p1.length c1), (5, .int .i64 x27), (6, .int .u8 (y44.toNat : Int)), (7, .int .u8 (IntKind.u8.wrap (IntKind.i64.wrap ((IntKind.i64.wrap (8 + (p1.length : Int))) - x27)))), (25, .slice A7 y4.length c8), (26, .int .i64 (y4.length : Int)), (27, .int .i64 x27), (41, .bool (decide (x27 < (p1.length : Int))))] (And.intro rfl (And.intro rfl (And.intro rfl (And.intro rfl (And.intro rfl (And.intro rfl (And.intro rfl (And.intro rfl trivial)))))))) fun j => ?_
        rcases ite_some hF with ⟨hb49, hF⟩ | ⟨hb49, hF⟩
        · refine wpn_cT (congrArg Value.bool hb49) ?_
          refine wpn_q hO 2 [] [(1, .slice A1 p1.length c1), (6, .int .u8 (y44.toNat : Int)), (25, .slice A7 y4.length c8), (26, .int .i64 (y4.length : Int)), (27, .int .i64 x27), (42, .slice A1 p1.length c1), (43, .int .i64 x27)] (And.intro rfl (And.intro rfl (And.intro rfl (And.intro rfl (And.intro rfl (And.intro rfl (And.intro rfl trivial))))))) fun j => ?_
          obtain ⟨y50, g51, hF⟩ := bind_some hF
          refine wpn_idx (T := Ty.u8) r25 hO.base rfl rfl g51 (by decide) fun a52 _ k53 m54 => ?_
          obtain rfl : _ = ([.int .u8 y50.toNat] : List Value) := k53
          refine wpn_ld rfl (m54.le hO.base).fst ?_
          refine wpn_qa hO [] [(1, .slice A1 p1.length c1), (6, .int .u8 (y44.toNat : Int)), (7, .int .u8 (y50.toNat : Int)), (25, .slice A7 y4.length c8), (26, .int .i64 (y4.length : Int)), (27, .int .i64 x27)] (And.intro rfl (And.intro rfl (And.intro rfl (And.intro rfl (And.intro rfl (And.intro rfl trivial)))))) fun j => ?_
          refine wpn_qa hO [] [(1, .slice A1 p1.length c1), (25, .slice A7 y4.length c8), (26, .int .i64 (y4.length : Int)), (27, .int .i64 x27), (48, .bool ((y44.toNat : Int) != (y50.toNat : Int)))] (And.intro rfl (And.intro rfl (And.intro rfl (And.intro rfl (And.intro rfl trivial))))) fun j => ?_
          refine wpn_clast ?_
          rcases ite_some hF with ⟨hb55, hF⟩ | ⟨hb55, hF⟩
          · refine wpn_cT (congrArg Value.bool hb55) ?_
            refine wpn_assoc ?_
            refine wpn_qa hO [] [(4, .bool false)] (And.intro rfl trivial) fun j => ?_
            refine wpn_rt ?_
            refine inb_r1 ?_
            refine thn_r1 ?_
            refine thn_r1 ?_
            refine inb_r1 ?_
            refine thn_r1 ?_
            injection hF with hF
            subst hF
            exact hQ _ _ _ _ _ rfl hO hL ⟨rfl, rfl⟩
          · refine wpn_cF (congrArg Value.bool hb55) ?_
            refine wpn_sk ?_
            refine wpn_end ?_
            refine inb_i ?_
            refine thn_i ?_
            refine wpn_rlast ?_
            refine wpn_qa hO [] [(1, .slice A1 p1.length c1), (25, .slice A7 y4.length c8), (26, .int .i64 (y4.length : Int)), (27, .int .i64 (IntKind.i64.wrap (x27 + 1)))] (And.intro rfl (And.intro rfl (And.intro rfl (And.intro rfl trivial)))) fun j => ?_
            refine wpn_end ?_
            refine thn_i ?_
            exact ⟨n42, Nat.lt_succ_self _, (IntKind.i64.wrap (x27 + 1)), _, And.intro rfl (And.intro rfl (And.intro rfl (And.intro rfl trivial))), hO, hL, r25, r26, hF⟩
        · refine wpn_cF (congrArg Value.bool hb49) ?_
          refine wpn_sk ?_
          refine wpn_qa hO [] [(1, .slice A1 p1.length c1), (25, .slice A7 y4.length c8), (26, .int .i64 (y4.length : Int)), (27, .int .i64 x27), (48, .bool ((y44.toNat : Int) != (IntKind.u8.wrap (IntKind.i64.wrap ((IntKind.i64.wrap (8 + (p1.length : Int))) - x27)))))] (And.intro rfl (And.intro rfl (And.intro rfl (And.intro rfl (And.intro rfl trivial))))) fun j => ?_
          refine wpn_clast ?_
          rcases ite_some hF with ⟨hb56, hF⟩ | ⟨hb56, hF⟩
          · refine wpn_cT (congrArg Value.bool hb56) ?_
            refine wpn_assoc ?_
            refine wpn_qa hO [] [(4, .bool false)] (And.intro rfl trivial) fun j => ?_
            refine wpn_rt ?_
            refine inb_r1 ?_
            refine thn_r1 ?_
            refine thn_r1 ?_
            refine inb_r1 ?_
            refine thn_r1 ?_
            injection hF with hF
            subst hF
            exact hQ _ _ _ _ _ rfl hO hL ⟨rfl, rfl⟩
          · refine wpn_cF (congrArg Value.bool hb56) ?_
            refine wpn_sk ?_
            refine wpn_end ?_
            refine inb_i ?_
            refine thn_i ?_
            refine wpn_rlast ?_
            refine wpn_qa hO [] [(1, .slice A1 p1.length c1), (25, .slice A7 y4.length c8), (26, .int .i64 (y4.length : Int)), (27, .int .i64 (IntKind.i64.wrap (x27 + 1)))] (And.intro rfl (And.intro rfl (And.intro rfl (And.intro rfl trivial)))) fun j => ?_
            refine wpn_end ?_
            refine thn_i ?_
            exact ⟨n42, Nat.lt_succ_self _, (IntKind.i64.wrap (x27 + 1)), _, And.intro rfl (And.intro rfl (And.intro rfl (And.intro rfl trivial))), hO, hL, r25, r26, hF⟩
      · refine wpn_cF (congrArg Value.bool hb43) ?_
        refine wpn_ex ?_
        refine thn_x ?_
        refine inb_x ?_
        refine thn_i ?_
        refine wpn_qa hO [] [(4, .bool true)] (And.intro rfl trivial) fun j => ?_
        refine wpn_r1 ?_
        injection hF with hF
        subst hF
        exact hQ _ _ _ _ _ rfl hO hL ⟨rfl, rfl⟩
theorem w_ref08_numbers {τ : Hp} {v0 : Value} {p0 : (List UInt8)} {p1 : Int} {p2 : Int} (r0 : RdT Ty.u8 τ v0 p0) {rr : (List Int) × Int × Bool} (hF : F_ref08_numbers p0 p1 p2 = some rr) :
    Ctr Try.prog 32 #[v0, .int .i64 p1, .int .i64 p2] τ [] (fun v τ' vs' => ∃ (v0 : Value) (o0 : Ob), v = .tuple #[v0, .int .i64 rr.2.1, .bool rr.2.2] ∧ vs' = [o0] ∧ OwnO (Ty.int .i64) 3 τ' v0 rr.1 o0) := by
  obtain ⟨A0, c0, rfl, -⟩ := r0.form
  refine ctr_of (args := [.slice A0 p0.length c0, .int .i64 p1, .int .i64 p2]) hm Try.func32 s32 rfl fun w0 σ hO Q hQ => ?_
  unfold F_ref08_numbers at hF
  have hL := Hp.le.refl τ
  show wpn _ _ a32.body _ _ _
  unfold a32
  dsimp only
  refine wpn_qa hO [] [(0, .slice A0 p0.length c0), (1, .int .i64 p1), (2, .int .i64 p2)] (And.intro rfl (And.intro rfl (And.intro rfl trivial))) fun j => ?_
  refine wpn_qa hO [] [(0, .slice A0 p0.length c0), (1, .int .i64 p1), (2, .int .i64 p2), (9, .slice none 0 0)] (And.intro rfl (And.intro rfl (And.intro rfl (And.intro rfl trivial)))) fun j => ?_
  refine wpn_assoc ?_
  refine wpn_qa hO [] [(0, .slice A0 p0.length c0), (1, .int .i64 p1), (2, .int .i64 p2), (9, .slice none 0 0), (10, .int .i64 0)] (And.intro rfl (And.intro rfl (And.intro rfl (And.intro rfl (And.intro rfl trivial))))) fun j => ?_
  refine wpn_bl ?_
  have hO := hO.no
  have hO : Obs _ _ [_] := hO
  refine wpn_lp (fun (n : Nat) e' σ' => ∃ (x17 : Int) (A18 : Option Addr) (c19 : Nat) (o20 : Ob) (x21 : List Int) (x23 : Int) (τ' : Hp), agr [(0, .slice A0 p0.length c0), (1, .int .i64 x17), (2, .int .i64 p2), (9, .slice A18 x21.length c19), (10, .int .i64 x23)] e' ∧ Obs τ' σ' [o20] ∧ Hp.le τ τ' ∧ RdT Ty.u8 τ' (.slice A0 p0.length c0) p0 ∧ OwnO (Ty.int .i64) 3 τ' (.slice A18 x21.length c19) x21 o20 ∧ F_ref08_numbers_l3 p0 p2 n x17 x21 x23 = some rr) big ⟨p1, none, 0, none, [], 0, _, And.intro rfl (And.intro rfl (And.intro rfl (And.intro rfl (And.intro rfl trivial)))), hO, hL, r0, OwnO.nil _ _ _, hF⟩ ?_
  clear hF hO hL
  rintro n34 e σ ⟨x17, A18, c19, o20, x21, x23, _, hA, hO, hL, r16, w22, hF⟩
  rw [← sets_agr _ _ hA]
  cases n34 with
  | zero => exact nomatch (show none = some rr from hF)
  | succ n34 =>
    replace hF : F_ref08_numbers_l3B (F_ref08_numbers_l3 p0 p2 n34) p0 p2 x17 x21 x23 = some rr := hF
    unfold F_ref08_numbers_l3B at hF
    refine wpn_assoc ?_
    refine wpn_qa hO [] [(0, .slice A0 p0.length c0), (1, .int .i64 x17), (2, .int .i64 p2), (9, .slice A18 x21.length c19), (10, .int .i64 x23), (16, .bool (decide (x23 < p2)))] (And.intro rfl (And.intro rfl (And.intro rfl (And.intro rfl (And.intro rfl (And.intro rfl trivial)))))) fun j => ?_
    rcases ite_some hF with ⟨hb35, hF⟩ | ⟨hb35, hF⟩
    · refine wpn_cT (congrArg Value.bool hb35) ?_
      refine wpn_sk ?_
      refine wpn_bl ?_
      refine wpn_q hO 2 [] [(0, .slice A0 p0.length c0), (2, .int .i64 p2), (9, .slice A18 x21.length c19), (10, .int .i64 x23), (20, .slice A0 p0.length c0), (21, .int .i64 x17)] (And.intro rfl (And.intro rfl (And.intro rfl (And.intro rfl (And.intro rfl (And.intro rfl trivial)))))) fun j => ?_
      obtain ⟨c36, h37, hF⟩ := bind_some hF
      refine wpn_c0 hO (w_ref02_U r16 h37) rfl fun _ σ _ _ hO h38 h39 => ?_
      have hL := hL.trans h38
      have r16 := r16.le h38
      have w22 := w22.le h38
      obtain ⟨rfl, rfl⟩ := h39
      have hO : Obs _ _ [_] := hO
      refine wpn_qa hO [] [(0, .slice A0 p0.length c0), (2, .int .i64 p2), (9, .slice A18 x21.length c19), (10, .int .i64 x23), (11, .int .u64 c36.1), (12, .int .i64 c36.2.1), (13, .int .i64 c36.2.2)] (And.intro rfl (And.intro rfl (And.intro rfl (And.intro rfl (And.intro rfl (And.intro rfl (And.intro rfl trivial))))))) fun j => ?_
      refine wpn_assoc ?_
      refine wpn_qa hO [] [(0, .slice A0 p0.length c0), (2, .int .i64 p2), (9, .slice A18 x21.length c19), (10, .int .i64 x23), (11, .int .u64 c36.1), (12, .int .i64 c36.2.1), (31, .bool ((c36.2.2 != 0) || (decide (c36.1 > 16777216))))] (And.intro (And.intro rfl rfl) (fun _ => And.intro rfl (And.intro rfl (And.intro rfl (And.intro rfl (And.intro rfl (And.intro rfl (And.intro rfl trivial)))))))) fun j => ?_
      rcases ite_some hF with ⟨hb40, hF⟩ | ⟨hb40, hF⟩
      · refine wpn_cT (congrArg Value.bool hb40) ?_
        refine wpn_assoc ?_
        refine wpn_qa hO [] [(6, .slice none 0 0), (7, .int .i64 0), (8, .bool false)] (And.intro rfl (And.intro rfl (And.intro rfl trivial))) fun j => ?_
        refine wpn_rt ?_
        refine inb_r1 ?_
        refine thn_r1 ?_
        refine thn_r1 ?_
        refine inb_r1 ?_
        refine thn_r1 ?_
        have hO := hO.no
        have hO : Obs _ _ [_, _] := hO
        injection hF with hF
        subst hF
        have hO := hO.sel [1] (by decide)
        exact hQ _ _ _ _ _ rfl hO hL ⟨_, _, rfl, rfl, (OwnO.nil _ _ _)⟩
      · refine wpn_cF (congrArg Value.bool hb40) ?_
        refine wpn_sk ?_
        refine wpn_q hO 3 [] [(0, .slice A0 p0.length c0), (2, .int .i64 p2), (10, .int .i64 x23), (12, .int .i64 c36.2.1), (32, .slice A18 x21.length c19), (34, .int .i64 (IntKind.i64.wrap c36.1))] (And.intro rfl (And.intro rfl (And.intro rfl (And.intro rfl (And.intro rfl (And.intro rfl trivial)))))) fun j => ?_
        obtain ⟨_, hr, hF⟩ := bind_some hF
        refine wpn_ap1 (T := (Ty.int .i64)) (y := (IntKind.i64.wrap c36.1)) hO w22 (i := 0) rfl rfl (fun _ => rfl) rfl rfl rfl hr (by decide) fun u _ σ o43 w44 hO => ?_
        obtain ⟨A41, c42, rfl, -⟩ := w44.form
        have hO : Obs _ _ [_] := hO
        refine wpn_qa hO [] [(0, .slice A0 p0.length c0), (2, .int .i64 p2), (9, .slice A41 (x21 ++ [(IntKind.i64.wrap c36.1)]).length c42), (10, .int .i64 x23), (12, .int .i64 c36.2.1)] (And.intro rfl (And.intro rfl (And.intro rfl (And.intro rfl (And.intro rfl trivial))))) fun j => ?_
        refine wpn_rlast ?_
        refine wpn_qa hO [] [(0, .slice A0 p0.length c0), (1, .int .i64 c36.2.1), (2, .int .i64 p2), (9, .slice A41 (x21 ++ [(IntKind.i64.wrap c36.1)]).length c42), (10, .int .i64 x23)] (And.intro rfl (And.intro rfl (And.intro rfl (And.intro rfl (And.intro rfl trivial))))) fun j => ?_
        refine wpn_end ?_
        refine inb_i ?_
        refine thn_i ?_
        refine wpn_rlast ?_
        refine wpn_qa hO [] [(0, .slice A0 p0.length c0), (1, .int .i64 c36.2.1), (2, .int .i64 p2), (9, .slice A41 (x21 ++ [(IntKind.i64.wrap c36.1)]).length c42), (10, .int .i64 (IntKind.i64.wrap (x23 + 1)))] (And.intro rfl (And.intro rfl (And.intro rfl (And.intro rfl (And.intro rfl trivial))))) fun j => ?_
        refine wpn_end ?_
        refine thn_i ?_
        exact ⟨n34, Nat.lt_succ_self _, c36.2.1, A41, c42, o43, (x21 ++ [(IntKind.i64.wrap c36.1)]), (IntKind.i64.wrap (x23 + 1)), _, And.intro rfl (And.intro rfl (And.intro rfl (And.intro rfl (And.intro rfl trivial)))), hO, hL, r16, w44, hF⟩
    · refine wpn_cF (congrArg Value.bool hb35) ?_
      refine wpn_ex ?_
      refine thn_x ?_
      refine inb_x ?_
      refine thn_i ?_
      refine wpn_qa hO [] [(6, .slice A18 x21.length c19), (7, .int .i64 x17), (8, .bool true)] (And.intro rfl (And.intro rfl (And.intro rfl trivial))) fun j => ?_
      refine wpn_r1 ?_
      injection hF with hF
      subst hF
      exact hQ _ _ _ _ _ rfl hO hL ⟨_, _, rfl, rfl, w22⟩
end Go.Proofs.Ytneonhnackjdjaa
