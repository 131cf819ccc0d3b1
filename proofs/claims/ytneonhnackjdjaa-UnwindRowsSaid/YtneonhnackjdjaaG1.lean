import Derived.Test.YtneonhnackjdjaaF
import Derived.Test.YtneonhnackjdjaaAc0
import Derived.Test.YtneonhnackjdjaaM00
import Derived.Test.YtneonhnackjdjaaM01
import Derived.Test.YtneonhnackjdjaaG0
namespace Go.Proofs.Ytneonhnackjdjaa
open Go.Ab Go.RowKit
set_option linter.unusedVariables false
set_option linter.unusedSimpArgs false
set_option maxRecDepth 10000
theorem zbF {τ : Hp} {v0 : Value} {p0 : (List za)} {p1 : Int} {p2 : zc} {v2_0 : Value} {v2_1 : Value} {v2_3 : Value} (r0 : RdT zd τ v0 p0) (r2_0 : RdT Ty.bool τ v2_0 p2.Known) (r2_1 : RdT (Ty.int .i64) τ v2_1 p2.Regs) (r2_3 : RdT (Ty.int .i64) τ v2_3 p2.Words) {rr : Int × zc × Int} (hF : zk p0 p1 p2 = some rr) :
    Ctr Try.prog 23 #[v0, .int .i64 p1, .agg #[v2_0, v2_1, .int .i64 p2.Base, v2_3]] τ [] (fun v τ' vs' => ∃ (v1_0 : Value) (v1_1 : Value) (v1_3 : Value), v = .tuple #[.int .i64 rr.1, .agg #[v1_0, v1_1, .int .i64 rr.2.1.Base, v1_3], .int .i64 rr.2.2] ∧ vs' = [] ∧ RdT Ty.bool τ' v1_0 rr.2.1.Known ∧ RdT (Ty.int .i64) τ' v1_1 rr.2.1.Regs ∧ RdT (Ty.int .i64) τ' v1_3 rr.2.1.Words) := by
  obtain ⟨A0, c0, rfl, -⟩ := r0.form
  obtain ⟨A2_0, c2_0, rfl, -⟩ := r2_0.form
  obtain ⟨A2_1, c2_1, rfl, -⟩ := r2_1.form
  obtain ⟨A2_3, c2_3, rfl, -⟩ := r2_3.form
  refine ctr_of (args := [.slice A0 p0.length c0, .int .i64 p1, .agg #[(.slice A2_0 p2.Known.length c2_0), (.slice A2_1 p2.Regs.length c2_1), .int .i64 p2.Base, (.slice A2_3 p2.Words.length c2_3)]]) hm Try.func23 s23 rfl fun w0 σ hO Q hQ => ?_
  unfold zk at hF
  have hL := Hp.le.refl τ
  show wpn _ _ a23.body _ _ _
  unfold a23
  dsimp only
  refine wpn_bx (n := 4) hO rfl rfl fun b4 σ hO => ?_
  have hO : Obs _ _ [_] := hO
  refine wpn_q hO 1 [] [(0, .slice A0 p0.length c0), (1, .int .i64 p1), (5, .pointer (some ⟨b4, 0, none⟩))] (ar (ar (ar trivial))) fun j => ?_
  refine wpn_al hO fun b5 σ hO => ?_
  have hO : Obs _ _ [_, _] := hO
  refine wpn_qa hO [] [(0, .slice A0 p0.length c0), (1, .int .i64 p1), (5, .pointer (some ⟨b4, 0, none⟩)), (7, .pointer (some ⟨b5, 0, none⟩))] (ar (ar (ar (ar trivial)))) fun j => ?_
  refine wpn_q hO 3 [0] [(0, .slice A0 p0.length c0), (1, .int .i64 p1), (5, .pointer (some ⟨b4, 0, none⟩)), (7, .pointer (some ⟨b5, 0, none⟩)), (21, .slice A0 p0.length c0), (22, .int .i64 p1), (23, .agg #[(.slice A2_0 p2.Known.length c2_0), (.slice A2_1 p2.Regs.length c2_1), (.int .i64 p2.Base), (.slice A2_3 p2.Words.length c2_3)])] (And.intro (And.intro rfl rfl) (ar (ar (ar (ar (ar (ar (ar trivial)))))))) fun j => ?_
  obtain ⟨c6, h7, hF⟩ := bind_some hF
  refine wpn_c0 hO (zbL r0 r2_0 r2_1 r2_3 h7) rfl fun _ σ _ _ hO h8 h9 => ?_
  have hL := hL.trans h8
  have r0 := r0.le h8
  have r2_0 := r2_0.le h8
  have r2_1 := r2_1.le h8
  have r2_3 := r2_3.le h8
  obtain ⟨v10, v14, v18, rfl, rfl, r11, r15, r19⟩ := h9
  obtain ⟨A12, c13, rfl, -⟩ := r11.form
  obtain ⟨A16, c17, rfl, -⟩ := r15.form
  obtain ⟨A20, c21, rfl, -⟩ := r19.form
  have hO : Obs _ _ [_, _] := hO
  refine wpn_q hO 3 [] [(0, .slice A0 p0.length c0), (1, .int .i64 p1), (5, .pointer (some ⟨b4, 0, none⟩)), (7, .pointer (some ⟨b5, 0, none⟩)), (25, .agg #[(.slice A12 c6.1.Known.length c13), (.slice A16 c6.1.Regs.length c17), (.int .i64 c6.1.Base), (.slice A20 c6.1.Words.length c21)]), (26, .int .i64 c6.2)] (ar (ar (ar (ar (ar (ar trivial)))))) fun j => ?_
  refine wpn_al hO fun b22 σ hO => ?_
  have hO : Obs _ _ [_, _, _] := hO
  refine wpn_st hO (i := 2) rfl (off := 0) rfl rfl rfl rfl (Nat.le_of_ble_eq_true rfl) rfl fun σ hO => ?_
  have hO : Obs _ _ [_, _, _] := hO
  refine wpn_qa hO [] [(0, .slice A0 p0.length c0), (1, .int .i64 p1), (5, .pointer (some ⟨b4, 0, none⟩)), (7, .pointer (some ⟨b5, 0, none⟩)), (8, .int .i64 c6.2), (9, .pointer (some ⟨b22, 0, none⟩))] (ar (ar (ar (ar (ar (ar trivial)))))) fun j => ?_
  refine wpn_assoc ?_
  refine wpn_qa hO [] [(0, .slice A0 p0.length c0), (1, .int .i64 p1), (5, .pointer (some ⟨b4, 0, none⟩)), (7, .pointer (some ⟨b5, 0, none⟩)), (8, .int .i64 c6.2), (9, .pointer (some ⟨b22, 0, none⟩)), (28, .bool (c6.2 != 0))] (ar (ar (ar (ar (ar (ar (ar trivial))))))) fun j => ?_
  rcases ite_some hF with ⟨hb23, hF⟩ | ⟨hb23, hF⟩
  · refine wpn_cT (congrArg Value.bool hb23) ?_
    refine wpn_assoc ?_
    refine wpn_p2r ?_
    refine wpn_q hO 3 [1] [(6, .int .i64 0), (7, .pointer (some ⟨b5, 0, none⟩)), (29, .agg #[(.slice none 0 0), (.slice none 0 0), (.int .i64 0), (.slice none 0 0)]), (30, .int .i64 c6.2)] (And.intro (And.intro rfl rfl) (ar (ar (ar (ar trivial))))) fun j => ?_
    refine wpn_st hO (i := 1) rfl (off := 0) rfl rfl rfl rfl (Nat.le_of_ble_eq_true rfl) rfl fun σ hO => ?_
    have hO : Obs _ _ [_, _, _] := hO
    refine wpn_qa hO [] [(6, .int .i64 0), (7, .pointer (some ⟨b5, 0, none⟩)), (8, .int .i64 c6.2)] (ar (ar (ar trivial))) fun j => ?_
    refine wpn_rt ?_
    injection hF with hF
    subst hF
    have hV1 := hO.val (i := 1) rfl (off := 0) (agg := true) (n := 4) rfl
    have hO := hO.sel [] (by decide)
    exact hQ _ _ _ _ _ (resvs_t (resvs_c rfl (hV1) (resvs_t rfl))) hO hL ⟨_, _, _, rfl, rfl, (RdT.nil _ _), (RdT.nil _ _), (RdT.nil _ _)⟩
  · refine wpn_cF (congrArg Value.bool hb23) ?_
    refine wpn_sk ?_
    refine wpn_q hO 2 [] [(5, .pointer (some ⟨b4, 0, none⟩)), (7, .pointer (some ⟨b5, 0, none⟩)), (9, .pointer (some ⟨b22, 0, none⟩)), (32, .slice A0 p0.length c0), (33, .int .i64 p1)] (ar (ar (ar (ar (ar trivial))))) fun j => ?_
    obtain ⟨c24, h25, hF⟩ := bind_some hF
    refine wpn_c0 hO (zbI r0 h25) rfl fun _ σ _ _ hO h26 h27 => ?_
    have hL := hL.trans h26
    have r0 := r0.le h26
    have r2_0 := r2_0.le h26
    have r2_1 := r2_1.le h26
    have r2_3 := r2_3.le h26
    have r11 := r11.le h26
    have r15 := r15.le h26
    have r19 := r19.le h26
    obtain ⟨v28, rfl, rfl, r29⟩ := h27
    obtain ⟨A30, c31, rfl, -⟩ := r29.form
    have hO : Obs _ _ [_, _, _] := hO
    refine wpn_q hO 3 [] [(5, .pointer (some ⟨b4, 0, none⟩)), (7, .pointer (some ⟨b5, 0, none⟩)), (9, .pointer (some ⟨b22, 0, none⟩)), (35, .agg #[(.int .i64 c24.1.From), (.int .i64 c24.1.To), (.int .i64 c24.1.Up), (.slice A30 c24.1.Regs.length c31)]), (36, .bool c24.2)] (ar (ar (ar (ar (ar trivial))))) fun j => ?_
    refine wpn_al hO fun b32 σ hO => ?_
    have hO : Obs _ _ [_, _, _, _] := hO
    refine wpn_st hO (i := 3) rfl (off := 0) rfl rfl rfl rfl (Nat.le_of_ble_eq_true rfl) rfl fun σ hO => ?_
    have hO : Obs _ _ [_, _, _, _] := hO
    refine wpn_qa hO [] [(5, .pointer (some ⟨b4, 0, none⟩)), (7, .pointer (some ⟨b5, 0, none⟩)), (9, .pointer (some ⟨b22, 0, none⟩)), (10, .pointer (some ⟨b32, 0, none⟩))] (ar (ar (ar (ar trivial)))) fun j => ?_
    refine wpn_assoc ?_
    refine wpn_q hO 1 [3] [(5, .pointer (some ⟨b4, 0, none⟩)), (7, .pointer (some ⟨b5, 0, none⟩)), (9, .pointer (some ⟨b22, 0, none⟩)), (10, .pointer (some ⟨b32, 0, none⟩)), (37, .agg #[(.int .i64 c24.1.From), (.int .i64 c24.1.To), (.int .i64 c24.1.Up), (.slice A30 c24.1.Regs.length c31)])] (And.intro (And.intro rfl rfl) (ar (ar (ar (ar (ar trivial)))))) fun j => ?_
    refine wpn_lit (T := zd) (l := ([(⟨c24.1.From, c24.1.To, c24.1.Up, c24.1.Regs⟩ : za)] : List za)) (cs := [.int .i64 c24.1.From, .int .i64 c24.1.To, .int .i64 c24.1.Up, .slice A30 c24.1.Regs.length c31]) hO rfl ⟨[.int .i64 c24.1.From, .int .i64 c24.1.To, .int .i64 c24.1.Up, .slice A30 c24.1.Regs.length c31], _, rfl, ⟨_, rfl, r29⟩, rfl⟩ rfl (by decide) fun _ σ o35 w36 hO => ?_
    obtain ⟨A33, c34, rfl, -⟩ := w36.form
    have hO : Obs _ _ [_, _, _, _, _] := hO
    obtain ⟨_, h38, r37, hO⟩ := w36.share hO (i := 4) rfl
    have hL := hL.trans h38
    have r29 := r29.le h38
    have r2_0 := r2_0.le h38
    have r2_1 := r2_1.le h38
    have r2_3 := r2_3.le h38
    have r11 := r11.le h38
    have r15 := r15.le h38
    have r19 := r19.le h38
    have hO : Obs _ _ [_, _, _, _, _] := hO
    obtain ⟨c39, h40, hF⟩ := bind_some hF
    refine wpn_c0 hO (zbA r37 h40) rfl fun _ σ _ _ hO h41 h42 => ?_
    have hL := hL.trans h41
    have r29 := r29.le h41
    have r37 := r37.le h41
    have r2_0 := r2_0.le h41
    have r2_1 := r2_1.le h41
    have r2_3 := r2_3.le h41
    have r11 := r11.le h41
    have r15 := r15.le h41
    have r19 := r19.le h41
    obtain ⟨rfl, rfl⟩ := h42
    have hO : Obs _ _ [_, _, _, _, _] := hO
    refine wpn_qa hO [] [(5, .pointer (some ⟨b4, 0, none⟩)), (7, .pointer (some ⟨b5, 0, none⟩)), (9, .pointer (some ⟨b22, 0, none⟩)), (10, .pointer (some ⟨b32, 0, none⟩)), (40, .bool (!c39))] (ar (ar (ar (ar (ar trivial))))) fun j => ?_
    rcases ite_some hF with ⟨hb43, hF⟩ | ⟨hb43, hF⟩
    · refine wpn_cT (congrArg Value.bool hb43) ?_
      refine wpn_assoc ?_
      refine wpn_p2r ?_
      refine wpn_q hO 2 [1] [(6, .int .i64 0), (7, .pointer (some ⟨b5, 0, none⟩)), (41, .agg #[(.slice none 0 0), (.slice none 0 0), (.int .i64 0), (.slice none 0 0)])] (And.intro (And.intro rfl rfl) (ar (ar (ar trivial)))) fun j => ?_
      refine wpn_st hO (i := 1) rfl (off := 0) rfl rfl rfl rfl (Nat.le_of_ble_eq_true rfl) rfl fun σ hO => ?_
      have hO : Obs _ _ [_, _, _, _, _] := hO
      refine wpn_qa hO [] [(6, .int .i64 0), (7, .pointer (some ⟨b5, 0, none⟩)), (8, .int .i64 1)] (ar (ar (ar trivial))) fun j => ?_
      refine wpn_rt ?_
      injection hF with hF
      subst hF
      have hV1 := hO.val (i := 1) rfl (off := 0) (agg := true) (n := 4) rfl
      have hO := hO.sel [] (by decide)
      exact hQ _ _ _ _ _ (resvs_t (resvs_c rfl (hV1) (resvs_t rfl))) hO hL ⟨_, _, _, rfl, rfl, (RdT.nil _ _), (RdT.nil _ _), (RdT.nil _ _)⟩
    · refine wpn_cF (congrArg Value.bool hb43) ?_
      refine wpn_sk ?_
      refine wpn_q hO 4 [0, 2] [(5, .pointer (some ⟨b4, 0, none⟩)), (7, .pointer (some ⟨b5, 0, none⟩)), (9, .pointer (some ⟨b22, 0, none⟩)), (10, .pointer (some ⟨b32, 0, none⟩)), (43, .agg #[(.slice A2_0 p2.Known.length c2_0), (.slice A2_1 p2.Regs.length c2_1), (.int .i64 p2.Base), (.slice A2_3 p2.Words.length c2_3)]), (46, .int .i64 (IntKind.i64.wrap (c6.1.Base - 1)))] (And.intro (And.intro rfl rfl) (And.intro (And.intro rfl rfl) (ar (ar (ar (ar (ar (ar trivial)))))))) fun j => ?_
      obtain ⟨c44, h45, hF⟩ := bind_some hF
      refine wpn_c0 hO (zbH r2_0 r2_1 r2_3 h45) rfl fun _ σ _ _ hO h46 h47 => ?_
      have hL := hL.trans h46
      have r2_0 := r2_0.le h46
      have r2_1 := r2_1.le h46
      have r2_3 := r2_3.le h46
      have r11 := r11.le h46
      have r15 := r15.le h46
      have r19 := r19.le h46
      have r29 := r29.le h46
      obtain ⟨rfl, rfl⟩ := h47
      have hO : Obs _ _ [_, _, _, _, _] := hO
      refine wpn_qa hO [] [(5, .pointer (some ⟨b4, 0, none⟩)), (7, .pointer (some ⟨b5, 0, none⟩)), (9, .pointer (some ⟨b22, 0, none⟩)), (10, .pointer (some ⟨b32, 0, none⟩)), (12, .int .i64 c44.1), (13, .bool c44.2)] (ar (ar (ar (ar (ar (ar trivial)))))) fun j => ?_
      refine wpn_assoc ?_
      refine wpn_qa hO [] [(5, .pointer (some ⟨b4, 0, none⟩)), (7, .pointer (some ⟨b5, 0, none⟩)), (9, .pointer (some ⟨b22, 0, none⟩)), (10, .pointer (some ⟨b32, 0, none⟩)), (12, .int .i64 c44.1), (59, .bool (((!c44.2) || (decide (c44.1 < 0))) || (decide (c44.1 ≥ 16777216))))] (And.intro (And.intro rfl rfl) (fun _ => And.intro (And.intro rfl rfl) (fun _ => ar (ar (ar (ar (ar (ar trivial)))))))) fun j => ?_
      rcases ite_some hF with ⟨hb48, hF⟩ | ⟨hb48, hF⟩
      · refine wpn_cT (congrArg Value.bool hb48) ?_
        refine wpn_assoc ?_
        refine wpn_p2r ?_
        refine wpn_q hO 2 [1] [(6, .int .i64 0), (7, .pointer (some ⟨b5, 0, none⟩)), (60, .agg #[(.slice none 0 0), (.slice none 0 0), (.int .i64 0), (.slice none 0 0)])] (And.intro (And.intro rfl rfl) (ar (ar (ar trivial)))) fun j => ?_
        refine wpn_st hO (i := 1) rfl (off := 0) rfl rfl rfl rfl (Nat.le_of_ble_eq_true rfl) rfl fun σ hO => ?_
        have hO : Obs _ _ [_, _, _, _, _] := hO
        refine wpn_qa hO [] [(6, .int .i64 0), (7, .pointer (some ⟨b5, 0, none⟩)), (8, .int .i64 4)] (ar (ar (ar trivial))) fun j => ?_
        refine wpn_rt ?_
        injection hF with hF
        subst hF
        have hV1 := hO.val (i := 1) rfl (off := 0) (agg := true) (n := 4) rfl
        have hO := hO.sel [] (by decide)
        exact hQ _ _ _ _ _ (resvs_t (resvs_c rfl (hV1) (resvs_t rfl))) hO hL ⟨_, _, _, rfl, rfl, (RdT.nil _ _), (RdT.nil _ _), (RdT.nil _ _)⟩
      · refine wpn_cF (congrArg Value.bool hb48) ?_
        refine wpn_sk ?_
        refine wpn_pq ?_
        refine wpn_qa hO [] [(5, .pointer (some ⟨b4, 0, none⟩)), (7, .pointer (some ⟨b5, 0, none⟩)), (9, .pointer (some ⟨b22, 0, none⟩)), (10, .pointer (some ⟨b32, 0, none⟩)), (12, .int .i64 c44.1), (63, .pointer (some ⟨b22, 3, none⟩))] (ar (ar (ar (ar (ar (ar trivial)))))) fun j => ?_
        refine wpn_pq ?_
        refine wpn_qa hO [2] [(5, .pointer (some ⟨b4, 0, none⟩)), (7, .pointer (some ⟨b5, 0, none⟩)), (9, .pointer (some ⟨b22, 0, none⟩)), (10, .pointer (some ⟨b32, 0, none⟩)), (12, .int .i64 c44.1), (63, .pointer (some ⟨b22, 3, none⟩)), (64, .slice A20 c6.1.Words.length c21)] (And.intro (And.intro rfl rfl) (ar (ar (ar (ar (ar (ar (ar trivial)))))))) fun j => ?_
        refine wpn_cut (fun e' σ' => ∃ (b71 : Nat) (A72 : Option Addr) (c73 : Nat) (o74 : Ob) (x75 : List Bool) (A77 : Option Addr) (c78 : Nat) (o79 : Ob) (x80 : List Int) (τ' : Hp), agr [(5, .pointer (some ⟨b4, 0, none⟩)), (7, .pointer (some ⟨b5, 0, none⟩)), (9, .pointer (some ⟨b22, 0, none⟩)), (10, .pointer (some ⟨b32, 0, none⟩)), (12, .int .i64 c44.1), (14, .pointer (some ⟨b71, 0, none⟩))] e' ∧ Obs τ' σ' [some (b4, ⟨[.slice A2_0 p2.Known.length c2_0, .slice A2_1 p2.Regs.length c2_1, .int .i64 p2.Base, .slice A2_3 p2.Words.length c2_3], 28, 4, true⟩), some (b5, ⟨[.slice none 0 0, .slice none 0 0, .int .i64 0, .slice none 0 0], 28, 4, true⟩), some (b22, ⟨[.slice A12 c6.1.Known.length c13, .slice A16 c6.1.Regs.length c17, .int .i64 c6.1.Base, .slice A20 c6.1.Words.length c21], 28, 4, true⟩), some (b32, ⟨[.int .i64 c24.1.From, .int .i64 c24.1.To, .int .i64 c24.1.Up, .slice A30 c24.1.Regs.length c31], 48, 4, true⟩), some (b71, ⟨[.slice A72 x75.length c73, .slice A77 x80.length c78, .int .i64 0, .slice A20 c6.1.Words.length c21], 28, 4, true⟩), o74, o79] ∧ Hp.le τ τ' ∧ RdT Ty.bool τ' (.slice A2_0 p2.Known.length c2_0) p2.Known ∧ RdT (Ty.int .i64) τ' (.slice A2_1 p2.Regs.length c2_1) p2.Regs ∧ RdT (Ty.int .i64) τ' (.slice A2_3 p2.Words.length c2_3) p2.Words ∧ RdT Ty.bool τ' (.slice A12 c6.1.Known.length c13) c6.1.Known ∧ RdT (Ty.int .i64) τ' (.slice A16 c6.1.Regs.length c17) c6.1.Regs ∧ RdT (Ty.int .i64) τ' (.slice A20 c6.1.Words.length c21) c6.1.Words ∧ RdT zf τ' (.slice A30 c24.1.Regs.length c31) c24.1.Regs ∧ OwnO Ty.bool 4 τ' (.slice A72 x75.length c73) x75 o74 ∧ OwnO (Ty.int .i64) 2 τ' (.slice A77 x80.length c78) x80 o79 ∧ RdT (Ty.int .i64) τ' (.slice A20 c6.1.Words.length c21) c6.1.Words ∧ zbw p2 c6 c24 c44 x75 x80 = some rr) ?_ ?_
        · refine wpn_ptl ?_
          obtain ⟨y692, g693, hF⟩ := bind_some hF
          obtain ⟨y699, g700, hF⟩ := bind_some hF
          refine wpn_pb ?_ ?_
          · refine wpn_pe ?_
            refine wpn_late ?_
            refine wpn_mkb (T := Ty.bool) hO rfl rfl g693 (show _ = _ from rfl) (by decide) fun b698 c695 σ o696 w697 hO => ?_
            have hO : Obs _ _ [_, _, _, _, _, _] := hO
            refine wpn_nil ?_
            refine wpn_ag ⟨(again_ld rfl (hO.val (i := 2) (off := 3) (agg := false) (n := 1) rfl rfl) rfl), trivial⟩ ?_
            refine wpn_nil ?_
            refine wpn_pb ?_ ?_
            · refine wpn_pe ?_
              refine wpn_late ?_
              refine wpn_mkb (T := (Ty.int .i64)) hO rfl rfl g700 (show _ = _ from rfl) (by decide) fun b705 c702 σ o703 w704 hO => ?_
              have hO : Obs _ _ [_, _, _, _, _, _, _] := hO
              refine wpn_nil ?_
              refine wpn_ag ⟨(again_ld rfl (hO.val (i := 2) (off := 3) (agg := false) (n := 1) rfl rfl) rfl), trivial⟩ ?_
              refine wpn_nil ?_
              refine wpn_pq ?_
              refine wpn_qa hO [] [(5, .pointer (some ⟨b4, 0, none⟩)), (7, .pointer (some ⟨b5, 0, none⟩)), (9, .pointer (some ⟨b22, 0, none⟩)), (10, .pointer (some ⟨b32, 0, none⟩)), (12, .int .i64 c44.1), (63, .pointer (some ⟨b22, 3, none⟩)), (64, .slice A20 c6.1.Words.length c21), (65, .agg #[(.slice (some ⟨b698, 0, none⟩) y692.length c695), (.slice (some ⟨b705, 0, none⟩) y699.length c702), (.int .i64 0), (.slice A20 c6.1.Words.length c21)])] (ar (ar (ar (ar (ar (ar (ar (ar trivial)))))))) fun j => ?_
              refine wpn_pe ?_
              refine wpn_late ?_
              refine wpn_al hO fun b706 σ hO => ?_
              have hO : Obs _ _ [_, _, _, _, _, _, _, _] := hO
              refine wpn_nil ?_
              refine wpn_ag ⟨(again_ld rfl (hO.val (i := 2) (off := 3) (agg := false) (n := 1) rfl rfl) rfl), trivial⟩ ?_
              refine wpn_nil ?_
              refine wpn_pe ?_
              refine wpn_st hO (i := 7) rfl (off := 0) rfl rfl rfl rfl (Nat.le_of_ble_eq_true rfl) rfl fun σ hO => ?_
              have hO : Obs _ _ [_, _, _, _, _, _, _, _] := hO
              refine wpn_nil ?_
              refine wpn_pd ?_
              refine wpn_end ?_
              refine thn_i ?_
              have hO := hO.sel [0, 1, 2, 3, 7, 5, 6] (by decide)
              exact ⟨b706, (some ⟨b698, 0, none⟩), c695, o696, y692, (some ⟨b705, 0, none⟩), c702, o703, y699, _, ar (ar (ar (ar (ar (ar trivial))))), hO, hL, r2_0, r2_1, r2_3, r11, r15, r19, r29, w697, w704, r19, hF⟩
            · refine wpn_pe ?_
              refine wpn_late ?_
              refine wpn_al hO fun b706 σ hO => ?_
              have hO : Obs _ _ [_, _, _, _, _, _, _] := hO
              refine wpn_nil ?_
              refine wpn_ag ⟨(again_ld rfl (hO.val (i := 2) (off := 3) (agg := false) (n := 1) rfl rfl) rfl), trivial⟩ ?_
              refine wpn_nil ?_
              refine wpn_pe ?_
              refine wpn_late ?_
              refine wpn_mkb (T := (Ty.int .i64)) hO rfl rfl g700 (show _ = _ from rfl) (by decide) fun b705 c702 σ o703 w704 hO => ?_
              have hO : Obs _ _ [_, _, _, _, _, _, _, _] := hO
              refine wpn_nil ?_
              refine wpn_ag ⟨(again_ld rfl (hO.val (i := 2) (off := 3) (agg := false) (n := 1) rfl rfl) rfl), trivial⟩ ?_
              refine wpn_nil ?_
              refine wpn_pq ?_
              refine wpn_qa hO [] [(5, .pointer (some ⟨b4, 0, none⟩)), (7, .pointer (some ⟨b5, 0, none⟩)), (9, .pointer (some ⟨b22, 0, none⟩)), (10, .pointer (some ⟨b32, 0, none⟩)), (12, .int .i64 c44.1), (14, .pointer (some ⟨b706, 0, none⟩)), (65, .agg #[(.slice (some ⟨b698, 0, none⟩) y692.length c695), (.slice (some ⟨b705, 0, none⟩) y699.length c702), (.int .i64 0), (.slice A20 c6.1.Words.length c21)])] (ar (ar (ar (ar (ar (ar (ar trivial))))))) fun j => ?_
              refine wpn_pe ?_
              refine wpn_st hO (i := 6) rfl (off := 0) rfl rfl rfl rfl (Nat.le_of_ble_eq_true rfl) rfl fun σ hO => ?_
              have hO : Obs _ _ [_, _, _, _, _, _, _, _] := hO
              refine wpn_nil ?_
              refine wpn_pd ?_
              refine wpn_end ?_
              refine thn_i ?_
              have hO := hO.sel [0, 1, 2, 3, 6, 5, 7] (by decide)
              exact ⟨b706, (some ⟨b698, 0, none⟩), c695, o696, y692, (some ⟨b705, 0, none⟩), c702, o703, y699, _, ar (ar (ar (ar (ar (ar trivial))))), hO, hL, r2_0, r2_1, r2_3, r11, r15, r19, r29, w697, w704, r19, hF⟩
          · refine wpn_pb ?_ ?_
            · refine wpn_pe ?_
              refine wpn_late ?_
              refine wpn_mkb (T := (Ty.int .i64)) hO rfl rfl g700 (show _ = _ from rfl) (by decide) fun b705 c702 σ o703 w704 hO => ?_
              have hO : Obs _ _ [_, _, _, _, _, _] := hO
              refine wpn_nil ?_
              refine wpn_ag ⟨(again_ld rfl (hO.val (i := 2) (off := 3) (agg := false) (n := 1) rfl rfl) rfl), trivial⟩ ?_
              refine wpn_nil ?_
              refine wpn_pb ?_ ?_
              · refine wpn_pe ?_
                refine wpn_late ?_
                refine wpn_mkb (T := Ty.bool) hO rfl rfl g693 (show _ = _ from rfl) (by decide) fun b698 c695 σ o696 w697 hO => ?_
                have hO : Obs _ _ [_, _, _, _, _, _, _] := hO
                refine wpn_nil ?_
                refine wpn_ag ⟨(again_ld rfl (hO.val (i := 2) (off := 3) (agg := false) (n := 1) rfl rfl) rfl), trivial⟩ ?_
                refine wpn_nil ?_
                refine wpn_pq ?_
                refine wpn_qa hO [] [(5, .pointer (some ⟨b4, 0, none⟩)), (7, .pointer (some ⟨b5, 0, none⟩)), (9, .pointer (some ⟨b22, 0, none⟩)), (10, .pointer (some ⟨b32, 0, none⟩)), (12, .int .i64 c44.1), (63, .pointer (some ⟨b22, 3, none⟩)), (64, .slice A20 c6.1.Words.length c21), (65, .agg #[(.slice (some ⟨b698, 0, none⟩) y692.length c695), (.slice (some ⟨b705, 0, none⟩) y699.length c702), (.int .i64 0), (.slice A20 c6.1.Words.length c21)])] (ar (ar (ar (ar (ar (ar (ar (ar trivial)))))))) fun j => ?_
                refine wpn_pe ?_
                refine wpn_late ?_
                refine wpn_al hO fun b706 σ hO => ?_
                have hO : Obs _ _ [_, _, _, _, _, _, _, _] := hO
                refine wpn_nil ?_
                refine wpn_ag ⟨(again_ld rfl (hO.val (i := 2) (off := 3) (agg := false) (n := 1) rfl rfl) rfl), trivial⟩ ?_
                refine wpn_nil ?_
                refine wpn_pe ?_
                refine wpn_st hO (i := 7) rfl (off := 0) rfl rfl rfl rfl (Nat.le_of_ble_eq_true rfl) rfl fun σ hO => ?_
                have hO : Obs _ _ [_, _, _, _, _, _, _, _] := hO
                refine wpn_nil ?_
                refine wpn_pd ?_
                refine wpn_end ?_
                refine thn_i ?_
                have hO := hO.sel [0, 1, 2, 3, 7, 6, 5] (by decide)
                exact ⟨b706, (some ⟨b698, 0, none⟩), c695, o696, y692, (some ⟨b705, 0, none⟩), c702, o703, y699, _, ar (ar (ar (ar (ar (ar trivial))))), hO, hL, r2_0, r2_1, r2_3, r11, r15, r19, r29, w697, w704, r19, hF⟩
              · refine wpn_pe ?_
                refine wpn_late ?_
                refine wpn_al hO fun b706 σ hO => ?_
                have hO : Obs _ _ [_, _, _, _, _, _, _] := hO
                refine wpn_nil ?_
                refine wpn_ag ⟨(again_ld rfl (hO.val (i := 2) (off := 3) (agg := false) (n := 1) rfl rfl) rfl), trivial⟩ ?_
                refine wpn_nil ?_
                refine wpn_pe ?_
                refine wpn_late ?_
                refine wpn_mkb (T := Ty.bool) hO rfl rfl g693 (show _ = _ from rfl) (by decide) fun b698 c695 σ o696 w697 hO => ?_
                have hO : Obs _ _ [_, _, _, _, _, _, _, _] := hO
                refine wpn_nil ?_
                refine wpn_ag ⟨(again_ld rfl (hO.val (i := 2) (off := 3) (agg := false) (n := 1) rfl rfl) rfl), trivial⟩ ?_
                refine wpn_nil ?_
                refine wpn_pq ?_
                refine wpn_qa hO [] [(5, .pointer (some ⟨b4, 0, none⟩)), (7, .pointer (some ⟨b5, 0, none⟩)), (9, .pointer (some ⟨b22, 0, none⟩)), (10, .pointer (some ⟨b32, 0, none⟩)), (12, .int .i64 c44.1), (14, .pointer (some ⟨b706, 0, none⟩)), (65, .agg #[(.slice (some ⟨b698, 0, none⟩) y692.length c695), (.slice (some ⟨b705, 0, none⟩) y699.length c702), (.int .i64 0), (.slice A20 c6.1.Words.length c21)])] (ar (ar (ar (ar (ar (ar (ar trivial))))))) fun j => ?_
                refine wpn_pe ?_
                refine wpn_st hO (i := 6) rfl (off := 0) rfl rfl rfl rfl (Nat.le_of_ble_eq_true rfl) rfl fun σ hO => ?_
                have hO : Obs _ _ [_, _, _, _, _, _, _, _] := hO
                refine wpn_nil ?_
                refine wpn_pd ?_
                refine wpn_end ?_
                refine thn_i ?_
                have hO := hO.sel [0, 1, 2, 3, 6, 7, 5] (by decide)
                exact ⟨b706, (some ⟨b698, 0, none⟩), c695, o696, y692, (some ⟨b705, 0, none⟩), c702, o703, y699, _, ar (ar (ar (ar (ar (ar trivial))))), hO, hL, r2_0, r2_1, r2_3, r11, r15, r19, r29, w697, w704, r19, hF⟩
            · refine wpn_pe ?_
              refine wpn_late ?_
              refine wpn_al hO fun b706 σ hO => ?_
              have hO : Obs _ _ [_, _, _, _, _, _] := hO
              refine wpn_nil ?_
              refine wpn_ag ⟨(again_ld rfl (hO.val (i := 2) (off := 3) (agg := false) (n := 1) rfl rfl) rfl), trivial⟩ ?_
              refine wpn_nil ?_
              refine wpn_pb ?_ ?_
              · refine wpn_pe ?_
                refine wpn_late ?_
                refine wpn_mkb (T := Ty.bool) hO rfl rfl g693 (show _ = _ from rfl) (by decide) fun b698 c695 σ o696 w697 hO => ?_
                have hO : Obs _ _ [_, _, _, _, _, _, _] := hO
                refine wpn_nil ?_
                refine wpn_ag ⟨(again_ld rfl (hO.val (i := 2) (off := 3) (agg := false) (n := 1) rfl rfl) rfl), trivial⟩ ?_
                refine wpn_nil ?_
                refine wpn_pe ?_
                refine wpn_late ?_
                refine wpn_mkb (T := (Ty.int .i64)) hO rfl rfl g700 (show _ = _ from rfl) (by decide) fun b705 c702 σ o703 w704 hO => ?_
                have hO : Obs _ _ [_, _, _, _, _, _, _, _] := hO
                refine wpn_nil ?_
                refine wpn_ag ⟨(again_ld rfl (hO.val (i := 2) (off := 3) (agg := false) (n := 1) rfl rfl) rfl), trivial⟩ ?_
                refine wpn_nil ?_
                refine wpn_pq ?_
                refine wpn_qa hO [] [(5, .pointer (some ⟨b4, 0, none⟩)), (7, .pointer (some ⟨b5, 0, none⟩)), (9, .pointer (some ⟨b22, 0, none⟩)), (10, .pointer (some ⟨b32, 0, none⟩)), (12, .int .i64 c44.1), (14, .pointer (some ⟨b706, 0, none⟩)), (65, .agg #[(.slice (some ⟨b698, 0, none⟩) y692.length c695), (.slice (some ⟨b705, 0, none⟩) y699.length c702), (.int .i64 0), (.slice A20 c6.1.Words.length c21)])] (ar (ar (ar (ar (ar (ar (ar trivial))))))) fun j => ?_
                refine wpn_pe ?_
                refine wpn_st hO (i := 5) rfl (off := 0) rfl rfl rfl rfl (Nat.le_of_ble_eq_true rfl) rfl fun σ hO => ?_
                have hO : Obs _ _ [_, _, _, _, _, _, _, _] := hO
                refine wpn_nil ?_
                refine wpn_pd ?_
                refine wpn_end ?_
                refine thn_i ?_
                have hO := hO.sel [0, 1, 2, 3, 5, 6, 7] (by decide)
                exact ⟨b706, (some ⟨b698, 0, none⟩), c695, o696, y692, (some ⟨b705, 0, none⟩), c702, o703, y699, _, ar (ar (ar (ar (ar (ar trivial))))), hO, hL, r2_0, r2_1, r2_3, r11, r15, r19, r29, w697, w704, r19, hF⟩
              · refine wpn_pe ?_
                refine wpn_late ?_
                refine wpn_mkb (T := (Ty.int .i64)) hO rfl rfl g700 (show _ = _ from rfl) (by decide) fun b705 c702 σ o703 w704 hO => ?_
                have hO : Obs _ _ [_, _, _, _, _, _, _] := hO
                refine wpn_nil ?_
                refine wpn_ag ⟨(again_ld rfl (hO.val (i := 2) (off := 3) (agg := false) (n := 1) rfl rfl) rfl), trivial⟩ ?_
                refine wpn_nil ?_
                refine wpn_pe ?_
                refine wpn_late ?_
                refine wpn_mkb (T := Ty.bool) hO rfl rfl g693 (show _ = _ from rfl) (by decide) fun b698 c695 σ o696 w697 hO => ?_
                have hO : Obs _ _ [_, _, _, _, _, _, _, _] := hO
                refine wpn_nil ?_
                refine wpn_ag ⟨(again_ld rfl (hO.val (i := 2) (off := 3) (agg := false) (n := 1) rfl rfl) rfl), trivial⟩ ?_
                refine wpn_nil ?_
                refine wpn_pq ?_
                refine wpn_qa hO [] [(5, .pointer (some ⟨b4, 0, none⟩)), (7, .pointer (some ⟨b5, 0, none⟩)), (9, .pointer (some ⟨b22, 0, none⟩)), (10, .pointer (some ⟨b32, 0, none⟩)), (12, .int .i64 c44.1), (14, .pointer (some ⟨b706, 0, none⟩)), (65, .agg #[(.slice (some ⟨b698, 0, none⟩) y692.length c695), (.slice (some ⟨b705, 0, none⟩) y699.length c702), (.int .i64 0), (.slice A20 c6.1.Words.length c21)])] (ar (ar (ar (ar (ar (ar (ar trivial))))))) fun j => ?_
                refine wpn_pe ?_
                refine wpn_st hO (i := 5) rfl (off := 0) rfl rfl rfl rfl (Nat.le_of_ble_eq_true rfl) rfl fun σ hO => ?_
                have hO : Obs _ _ [_, _, _, _, _, _, _, _] := hO
                refine wpn_nil ?_
                refine wpn_pd ?_
                refine wpn_end ?_
                refine thn_i ?_
                have hO := hO.sel [0, 1, 2, 3, 5, 7, 6] (by decide)
                exact ⟨b706, (some ⟨b698, 0, none⟩), c695, o696, y692, (some ⟨b705, 0, none⟩), c702, o703, y699, _, ar (ar (ar (ar (ar (ar trivial))))), hO, hL, r2_0, r2_1, r2_3, r11, r15, r19, r29, w697, w704, r19, hF⟩
        · rintro e σ ⟨b71, A72, c73, o74, x75, A77, c78, o79, x80, _, hA, hO, hL, r64, r65, r66, r67, r68, r69, r70, w76, w81, r82, hF⟩
          rw [← sets_agr _ _ hA]
          unfold zbw at hF
          refine wpn_assoc ?_
          refine wpn_qa hO [] [(5, .pointer (some ⟨b4, 0, none⟩)), (7, .pointer (some ⟨b5, 0, none⟩)), (9, .pointer (some ⟨b22, 0, none⟩)), (10, .pointer (some ⟨b32, 0, none⟩)), (12, .int .i64 c44.1), (14, .pointer (some ⟨b71, 0, none⟩)), (15, .int .i64 6)] (ar (ar (ar (ar (ar (ar (ar trivial))))))) fun j => ?_
          refine wpn_bl ?_
          refine wpn_lp (fun (n : Nat) e' σ' => ∃ (k297 : Nat) (A298 : Option Addr) (c299 : Nat) (o300 : Ob) (x301 : List Bool) (k304 : Nat) (A305 : Option Addr) (c306 : Nat) (o307 : Ob) (x308 : List Int) (x312 : Int) (τ' : Hp), agr [(5, .pointer (some ⟨b4, 0, none⟩)), (7, .pointer (some ⟨b5, 0, none⟩)), (9, .pointer (some ⟨b22, 0, none⟩)), (10, .pointer (some ⟨b32, 0, none⟩)), (12, .int .i64 c44.1), (14, .pointer (some ⟨b71, 0, none⟩)), (15, .int .i64 x312)] e' ∧ Obs τ' σ' [some (b4, ⟨[.slice A2_0 p2.Known.length c2_0, .slice A2_1 p2.Regs.length c2_1, .int .i64 p2.Base, .slice A2_3 p2.Words.length c2_3], 28, 4, true⟩), some (b5, ⟨[.slice none 0 0, .slice none 0 0, .int .i64 0, .slice none 0 0], 28, 4, true⟩), some (b22, ⟨[.slice A12 c6.1.Known.length c13, .slice A16 c6.1.Regs.length c17, .int .i64 c6.1.Base, .slice A20 c6.1.Words.length c21], 28, 4, true⟩), some (b32, ⟨[.int .i64 c24.1.From, .int .i64 c24.1.To, .int .i64 c24.1.Up, .slice A30 c24.1.Regs.length c31], 48, 4, true⟩), some (b71, ⟨[.slice A298 k297 c299, .slice A305 k304 c306, .int .i64 0, .slice A20 c6.1.Words.length c21], 28, 4, true⟩), o300, o307] ∧ Hp.le τ τ' ∧ RdT Ty.bool τ' (.slice A2_0 p2.Known.length c2_0) p2.Known ∧ RdT (Ty.int .i64) τ' (.slice A2_1 p2.Regs.length c2_1) p2.Regs ∧ RdT (Ty.int .i64) τ' (.slice A2_3 p2.Words.length c2_3) p2.Words ∧ RdT Ty.bool τ' (.slice A12 c6.1.Known.length c13) c6.1.Known ∧ RdT (Ty.int .i64) τ' (.slice A16 c6.1.Regs.length c17) c6.1.Regs ∧ RdT (Ty.int .i64) τ' (.slice A20 c6.1.Words.length c21) c6.1.Words ∧ RdT zf τ' (.slice A30 c24.1.Regs.length c31) c24.1.Regs ∧ k297 = x301.length ∧ OwnO Ty.bool 4 τ' (.slice A298 k297 c299) x301 o300 ∧ k304 = x308.length ∧ OwnO (Ty.int .i64) 2 τ' (.slice A305 k304 c306) x308 o307 ∧ RdT (Ty.int .i64) τ' (.slice A20 c6.1.Words.length c21) c6.1.Words ∧ zJ p2 c6 c24 c44 n x301 x308 x312 = some rr) big ⟨x75.length, A72, c73, o74, x75, x80.length, A77, c78, o79, x80, 6, _, ar (ar (ar (ar (ar (ar (ar trivial)))))), hO, hL, r64, r65, r66, r67, r68, r69, r70, w76.len, w76, w81.len, w81, r82, hF⟩ ?_
          clear hF hO hL
          rintro n502 e σ ⟨k297, A298, c299, o300, x301, k304, A305, c306, o307, x308, x312, _, hA, hO, hL, r290, r291, r292, r293, r294, r295, r296, hk302, w303, hk309, w310, r311, hF⟩
          rw [← sets_agr _ _ hA]
          cases n502 with
          | zero => exact nomatch (show none = some rr from hF)
          | succ n502 =>
            replace hF : zT (zJ p2 c6 c24 c44 n502) p2 c6 c24 c44 x301 x308 x312 = some rr := hF
            unfold zT at hF
            subst hk302
            subst hk309
            refine wpn_assoc ?_
            refine wpn_qa hO [] [(5, .pointer (some ⟨b4, 0, none⟩)), (7, .pointer (some ⟨b5, 0, none⟩)), (9, .pointer (some ⟨b22, 0, none⟩)), (10, .pointer (some ⟨b32, 0, none⟩)), (12, .int .i64 c44.1), (14, .pointer (some ⟨b71, 0, none⟩)), (15, .int .i64 x312), (67, .bool (decide (x312 ≤ 11)))] (ar (ar (ar (ar (ar (ar (ar (ar trivial)))))))) fun j => ?_
            rcases ite_some hF with ⟨hb503, hF⟩ | ⟨hb503, hF⟩
            · refine wpn_cT (congrArg Value.bool hb503) ?_
              refine wpn_sk ?_
              refine wpn_bl ?_
              refine wpn_plast ?_
              refine wpn_q hO 8 [4, 4, 0] [(5, .pointer (some ⟨b4, 0, none⟩)), (7, .pointer (some ⟨b5, 0, none⟩)), (9, .pointer (some ⟨b22, 0, none⟩)), (10, .pointer (some ⟨b32, 0, none⟩)), (12, .int .i64 c44.1), (14, .pointer (some ⟨b71, 0, none⟩)), (15, .int .i64 x312), (71, .pointer (some ⟨b71, 1, none⟩)), (72, .slice A305 x308.length c306), (73, .int .i64 x312), (74, .pointer (some ⟨b71, 0, none⟩)), (75, .slice A298 x301.length c299), (76, .int .i64 x312), (77, .agg #[(.slice A2_0 p2.Known.length c2_0), (.slice A2_1 p2.Regs.length c2_1), (.int .i64 p2.Base), (.slice A2_3 p2.Words.length c2_3)]), (78, .int .i64 x312)] (And.intro (And.intro rfl rfl) (And.intro (And.intro rfl rfl) (And.intro (And.intro rfl rfl) (ar (ar (ar (ar (ar (ar (ar (ar (ar (ar (ar (ar (ar (ar (ar trivial)))))))))))))))))) fun j => ?_
              refine wpn_late ?_
              obtain ⟨c504, h505, hF⟩ := bind_some hF
              refine wpn_c0 hO (zbJ r290 r291 r292 h505) rfl fun _ σ _ _ hO h506 h507 => ?_
              have hL := hL.trans h506
              have w310 := w310.le h506
              have w303 := w303.le h506
              have r290 := r290.le h506
              have r291 := r291.le h506
              have r292 := r292.le h506
              have r293 := r293.le h506
              have r294 := r294.le h506
              have r295 := r295.le h506
              have r296 := r296.le h506
              have r311 := r311.le h506
              obtain ⟨rfl, rfl⟩ := h507
              have hO : Obs _ _ [_, _, _, _, _, _, _] := hO
              refine wpn_nil ?_
              refine wpn_ag ⟨(again_ld rfl (hO.val (i := 4) (off := 0) (agg := false) (n := 1) rfl rfl) rfl), (again_ld rfl (hO.val (i := 4) (off := 1) (agg := false) (n := 1) rfl rfl) rfl), trivial⟩ ?_
              refine wpn_q hO 3 [] [(5, .pointer (some ⟨b4, 0, none⟩)), (7, .pointer (some ⟨b5, 0, none⟩)), (9, .pointer (some ⟨b22, 0, none⟩)), (10, .pointer (some ⟨b32, 0, none⟩)), (12, .int .i64 c44.1), (14, .pointer (some ⟨b71, 0, none⟩)), (15, .int .i64 x312), (72, .slice A305 x308.length c306), (73, .int .i64 x312), (74, .pointer (some ⟨b71, 0, none⟩)), (75, .slice A298 x301.length c299), (76, .int .i64 x312), (80, .int .i64 c504.1), (81, .bool c504.2)] (ar (ar (ar (ar (ar (ar (ar (ar (ar (ar (ar (ar (ar (ar trivial)))))))))))))) fun j => ?_
              obtain ⟨y508, g509, hF⟩ := bind_some hF
              refine wpn_ido (T := (Ty.int .i64)) hO w310 (i := 6) rfl rfl rfl g509 (by decide) fun a510 _ k511 m512 i513 => ?_
              have k514 := k511
              obtain rfl : _ = ([.int .i64 y508] : List Value) := k514
              refine wpn_late ?_
              refine wpn_sto (T := (Ty.int .i64)) (off := 0) (vs := [.int .i64 c504.1]) hO w310 (i := 6) rfl (by rw [add_zero]; rfl) i513 g509 k511 m512 rfl rfl rfl rfl (by decide) (show _ = _ from rfl) fun σ o515 w516 hO => ?_
              have hO : Obs _ _ [_, _, _, _, _, _, _] := hO
              refine wpn_nil ?_
              refine wpn_ag ⟨(again_ld rfl (hO.val (i := 4) (off := 0) (agg := false) (n := 1) rfl rfl) rfl), trivial⟩ ?_
              obtain ⟨y517, g518, hF⟩ := bind_some hF
              refine wpn_ido (T := Ty.bool) hO w303 (i := 5) rfl rfl rfl g518 (by decide) fun a519 _ k520 m521 i522 => ?_
              have k523 := k520
              obtain rfl : _ = ([.bool y517] : List Value) := k523
              refine wpn_sto (T := Ty.bool) (off := 0) (vs := [.bool c504.2]) hO w303 (i := 5) rfl (by rw [add_zero]; rfl) i522 g518 k520 m521 rfl rfl rfl rfl (by decide) (show _ = _ from rfl) fun σ o524 w525 hO => ?_
              have hO : Obs _ _ [_, _, _, _, _, _, _] := hO
              refine wpn_nil ?_
              refine wpn_end ?_
              refine inb_i ?_
              refine thn_i ?_
              refine wpn_rlast ?_
              refine wpn_qa hO [] [(5, .pointer (some ⟨b4, 0, none⟩)), (7, .pointer (some ⟨b5, 0, none⟩)), (9, .pointer (some ⟨b22, 0, none⟩)), (10, .pointer (some ⟨b32, 0, none⟩)), (12, .int .i64 c44.1), (14, .pointer (some ⟨b71, 0, none⟩)), (15, .int .i64 (IntKind.i64.wrap (x312 + 1)))] (ar (ar (ar (ar (ar (ar (ar trivial))))))) fun j => ?_
              refine wpn_end ?_
              refine thn_i ?_
              exact ⟨n502, Nat.lt_succ_self _, x301.length, A298, c299, o524, (x301.set (Int.toNat x312) c504.2), x308.length, A305, c306, o515, (x308.set (Int.toNat x312) c504.1), (IntKind.i64.wrap (x312 + 1)), _, ar (ar (ar (ar (ar (ar (ar trivial)))))), hO, hL, r290, r291, r292, r293, r294, r295, r296, w525.len, w525, w516.len, w516, r311, hF⟩
            · refine wpn_cF (congrArg Value.bool hb503) ?_
              refine wpn_ex ?_
              refine thn_x ?_
              refine inb_x ?_
              refine thn_i ?_
              refine wpn_p2r ?_
              refine wpn_q hO 6 [4, 4, 2] [(5, .pointer (some ⟨b4, 0, none⟩)), (7, .pointer (some ⟨b5, 0, none⟩)), (9, .pointer (some ⟨b22, 0, none⟩)), (10, .pointer (some ⟨b32, 0, none⟩)), (12, .int .i64 c44.1), (14, .pointer (some ⟨b71, 0, none⟩)), (85, .slice A305 x308.length c306), (86, .pointer (some ⟨b71, 0, none⟩)), (87, .slice A298 x301.length c299), (89, .int .i64 c6.1.Base)] (And.intro (And.intro rfl rfl) (And.intro (And.intro rfl rfl) (And.intro (And.intro rfl rfl) (ar (ar (ar (ar (ar (ar (ar (ar (ar (ar trivial))))))))))))) fun j => ?_
              obtain ⟨y526, g527, hF⟩ := bind_some hF
              refine wpn_ido (T := (Ty.int .i64)) hO w310 (i := 6) rfl rfl rfl g527 (by decide) fun a528 _ k529 m530 i531 => ?_
              have k532 := k529
              obtain rfl : _ = ([.int .i64 y526] : List Value) := k532
              refine wpn_late ?_
              refine wpn_sto (T := (Ty.int .i64)) (off := 0) (vs := [.int .i64 c6.1.Base]) hO w310 (i := 6) rfl (by rw [add_zero]; rfl) i531 g527 k529 m530 rfl rfl rfl rfl (by decide) (show _ = _ from rfl) fun σ o533 w534 hO => ?_
              have hO : Obs _ _ [_, _, _, _, _, _, _] := hO
              refine wpn_nil ?_
              refine wpn_ag ⟨(again_ld rfl (hO.val (i := 4) (off := 0) (agg := false) (n := 1) rfl rfl) rfl), trivial⟩ ?_
              obtain ⟨y535, g536, hF⟩ := bind_some hF
              refine wpn_ido (T := Ty.bool) hO w303 (i := 5) rfl rfl rfl g536 (by decide) fun a537 _ k538 m539 i540 => ?_
              have k541 := k538
              obtain rfl : _ = ([.bool y535] : List Value) := k541
              refine wpn_sto (T := Ty.bool) (off := 0) (vs := [.bool true]) hO w303 (i := 5) rfl (by rw [add_zero]; rfl) i540 g536 k538 m539 rfl rfl rfl rfl (by decide) (show _ = _ from rfl) fun σ o542 w543 hO => ?_
              have hO : Obs _ _ [_, _, _, _, _, _, _] := hO
              refine wpn_nil ?_
              refine wpn_assoc ?_
              refine wpn_qa hO [3] [(5, .pointer (some ⟨b4, 0, none⟩)), (7, .pointer (some ⟨b5, 0, none⟩)), (9, .pointer (some ⟨b22, 0, none⟩)), (12, .int .i64 c44.1), (14, .pointer (some ⟨b71, 0, none⟩)), (93, .slice A30 c24.1.Regs.length c31), (94, .int .i64 (c24.1.Regs.length : Int)), (95, .int .i64 0)] (And.intro (And.intro rfl rfl) (ar (ar (ar (ar (ar (ar (ar (ar trivial))))))))) fun j => ?_
              refine wpn_bl ?_
              have hO := hO.sel [0, 1, 2, 4, 5, 6] (by decide)
              refine wpn_lp (fun (n : Nat) e' σ' => ∃ (k606 : Nat) (A607 : Option Addr) (c608 : Nat) (o609 : Ob) (x610 : List Bool) (k613 : Nat) (A614 : Option Addr) (c615 : Nat) (o616 : Ob) (x617 : List Int) (x622 : Int) (τ' : Hp), agr [(5, .pointer (some ⟨b4, 0, none⟩)), (7, .pointer (some ⟨b5, 0, none⟩)), (9, .pointer (some ⟨b22, 0, none⟩)), (12, .int .i64 c44.1), (14, .pointer (some ⟨b71, 0, none⟩)), (93, .slice A30 c24.1.Regs.length c31), (94, .int .i64 (c24.1.Regs.length : Int)), (95, .int .i64 x622)] e' ∧ Obs τ' σ' [some (b4, ⟨[.slice A2_0 p2.Known.length c2_0, .slice A2_1 p2.Regs.length c2_1, .int .i64 p2.Base, .slice A2_3 p2.Words.length c2_3], 28, 4, true⟩), some (b5, ⟨[.slice none 0 0, .slice none 0 0, .int .i64 0, .slice none 0 0], 28, 4, true⟩), some (b22, ⟨[.slice A12 c6.1.Known.length c13, .slice A16 c6.1.Regs.length c17, .int .i64 c6.1.Base, .slice A20 c6.1.Words.length c21], 28, 4, true⟩), some (b71, ⟨[.slice A607 k606 c608, .slice A614 k613 c615, .int .i64 0, .slice A20 c6.1.Words.length c21], 28, 4, true⟩), o609, o616] ∧ Hp.le τ τ' ∧ RdT Ty.bool τ' (.slice A2_0 p2.Known.length c2_0) p2.Known ∧ RdT (Ty.int .i64) τ' (.slice A2_1 p2.Regs.length c2_1) p2.Regs ∧ RdT (Ty.int .i64) τ' (.slice A2_3 p2.Words.length c2_3) p2.Words ∧ RdT Ty.bool τ' (.slice A12 c6.1.Known.length c13) c6.1.Known ∧ RdT (Ty.int .i64) τ' (.slice A16 c6.1.Regs.length c17) c6.1.Regs ∧ RdT (Ty.int .i64) τ' (.slice A20 c6.1.Words.length c21) c6.1.Words ∧ k606 = x610.length ∧ OwnO Ty.bool 4 τ' (.slice A607 k606 c608) x610 o609 ∧ k613 = x617.length ∧ OwnO (Ty.int .i64) 2 τ' (.slice A614 k613 c615) x617 o616 ∧ RdT (Ty.int .i64) τ' (.slice A20 c6.1.Words.length c21) c6.1.Words ∧ RdT zf τ' (.slice A30 c24.1.Regs.length c31) c24.1.Regs ∧ zx p2 c6 c24 c44 n x610 x617 x622 = some rr) big ⟨x301.length, A298, c299, o542, (x301.set (Int.toNat 15) true), x308.length, A305, c306, o533, (x308.set (Int.toNat 15) c6.1.Base), 0, _, ar (ar (ar (ar (ar (ar (ar (ar trivial))))))), hO, hL, r290, r291, r292, r293, r294, r295, w543.len, w543, w534.len, w534, r311, r296, hF⟩ ?_
              clear hF hO hL
              rintro n657 e σ ⟨k606, A607, c608, o609, x610, k613, A614, c615, o616, x617, x622, _, hA, hO, hL, r600, r601, r602, r603, r604, r605, hk611, w612, hk618, w619, r620, r621, hF⟩
              rw [← sets_agr _ _ hA]
              cases n657 with
              | zero => exact nomatch (show none = some rr from hF)
              | succ n657 =>
                replace hF : zbj (zx p2 c6 c24 c44 n657) p2 c6 c24 c44 x610 x617 x622 = some rr := hF
                unfold zbj at hF
                subst hk611
                subst hk618
                refine wpn_qa hO [] [(5, .pointer (some ⟨b4, 0, none⟩)), (7, .pointer (some ⟨b5, 0, none⟩)), (9, .pointer (some ⟨b22, 0, none⟩)), (12, .int .i64 c44.1), (14, .pointer (some ⟨b71, 0, none⟩)), (93, .slice A30 c24.1.Regs.length c31), (94, .int .i64 (c24.1.Regs.length : Int)), (95, .int .i64 x622), (96, .bool (decide (x622 < (c24.1.Regs.length : Int))))] (ar (ar (ar (ar (ar (ar (ar (ar (ar trivial))))))))) fun j => ?_
                rcases ite_some hF with ⟨hb658, hF⟩ | ⟨hb658, hF⟩
                · refine wpn_cT (congrArg Value.bool hb658) ?_
                  refine wpn_sk ?_
                  refine wpn_bl ?_
                  obtain ⟨y659, g660, hF⟩ := bind_some hF
                  refine wpn_idx (T := zf) r621 hO.base rfl rfl g660 (by decide) fun a661 _ k662 m663 => ?_
                  obtain rfl : _ = ([.int .i64 y659.Reg, .int .i64 y659.At] : List Value) := k662
                  refine wpn_ld rfl ((m663.le hO.base).all rfl) ?_
                  refine wpn_al hO fun b664 σ hO => ?_
                  have hO : Obs _ _ [_, _, _, _, _, _, _] := hO
                  refine wpn_st hO (i := 6) rfl (off := 0) rfl rfl rfl rfl (Nat.le_of_ble_eq_true rfl) rfl fun σ hO => ?_
                  have hO : Obs _ _ [_, _, _, _, _, _, _] := hO
                  refine wpn_nil ?_
                  refine wpn_q hO 6 [0, 2, 6] [(5, .pointer (some ⟨b4, 0, none⟩)), (7, .pointer (some ⟨b5, 0, none⟩)), (9, .pointer (some ⟨b22, 0, none⟩)), (12, .int .i64 c44.1), (14, .pointer (some ⟨b71, 0, none⟩)), (17, .pointer (some ⟨b664, 0, none⟩)), (93, .slice A30 c24.1.Regs.length c31), (94, .int .i64 (c24.1.Regs.length : Int)), (95, .int .i64 x622), (100, .agg #[(.slice A2_0 p2.Known.length c2_0), (.slice A2_1 p2.Regs.length c2_1), (.int .i64 p2.Base), (.slice A2_3 p2.Words.length c2_3)]), (105, .int .i64 (IntKind.i64.wrap (c6.1.Base + y659.At)))] (And.intro (And.intro rfl rfl) (And.intro (And.intro rfl rfl) (And.intro (And.intro rfl rfl) (ar (ar (ar (ar (ar (ar (ar (ar (ar (ar (ar trivial)))))))))))))) fun j => ?_
                  obtain ⟨c665, h666, hF⟩ := bind_some hF
                  refine wpn_c0 hO (zbH r600 r601 r602 h666) rfl fun _ σ _ _ hO h667 h668 => ?_
                  have hL := hL.trans h667
                  have r621 := r621.le h667
                  have r600 := r600.le h667
                  have r601 := r601.le h667
                  have r602 := r602.le h667
                  have r603 := r603.le h667
                  have r604 := r604.le h667
                  have r605 := r605.le h667
                  have w612 := w612.le h667
                  have w619 := w619.le h667
                  have r620 := r620.le h667
                  obtain ⟨rfl, rfl⟩ := h668
                  have hO : Obs _ _ [_, _, _, _, _, _, _] := hO
                  refine wpn_qa hO [] [(5, .pointer (some ⟨b4, 0, none⟩)), (7, .pointer (some ⟨b5, 0, none⟩)), (9, .pointer (some ⟨b22, 0, none⟩)), (12, .int .i64 c44.1), (14, .pointer (some ⟨b71, 0, none⟩)), (17, .pointer (some ⟨b664, 0, none⟩)), (18, .int .i64 c665.1), (19, .bool c665.2), (93, .slice A30 c24.1.Regs.length c31), (94, .int .i64 (c24.1.Regs.length : Int)), (95, .int .i64 x622)] (ar (ar (ar (ar (ar (ar (ar (ar (ar (ar (ar trivial))))))))))) fun j => ?_
                  refine wpn_assoc ?_
                  refine wpn_qa hO [] [(5, .pointer (some ⟨b4, 0, none⟩)), (7, .pointer (some ⟨b5, 0, none⟩)), (9, .pointer (some ⟨b22, 0, none⟩)), (12, .int .i64 c44.1), (14, .pointer (some ⟨b71, 0, none⟩)), (17, .pointer (some ⟨b664, 0, none⟩)), (18, .int .i64 c665.1), (93, .slice A30 c24.1.Regs.length c31), (94, .int .i64 (c24.1.Regs.length : Int)), (95, .int .i64 x622), (110, .bool (!c665.2))] (ar (ar (ar (ar (ar (ar (ar (ar (ar (ar (ar trivial))))))))))) fun j => ?_
                  rcases ite_some hF with ⟨hb669, hF⟩ | ⟨hb669, hF⟩
                  · refine wpn_cT (congrArg Value.bool hb669) ?_
                    refine wpn_assoc ?_
                    refine wpn_p2r ?_
                    refine wpn_q hO 2 [1] [(6, .int .i64 0), (7, .pointer (some ⟨b5, 0, none⟩)), (111, .agg #[(.slice none 0 0), (.slice none 0 0), (.int .i64 0), (.slice none 0 0)])] (And.intro (And.intro rfl rfl) (ar (ar (ar trivial)))) fun j => ?_
                    refine wpn_st hO (i := 1) rfl (off := 0) rfl rfl rfl rfl (Nat.le_of_ble_eq_true rfl) rfl fun σ hO => ?_
                    have hO : Obs _ _ [_, _, _, _, _, _, _] := hO
                    refine wpn_qa hO [] [(6, .int .i64 0), (7, .pointer (some ⟨b5, 0, none⟩)), (8, .int .i64 4)] (ar (ar (ar trivial))) fun j => ?_
                    refine wpn_rt ?_
                    refine inb_r1 ?_
                    refine thn_r1 ?_
                    refine thn_r1 ?_
                    refine inb_r1 ?_
                    refine thn_r1 ?_
                    injection hF with hF
                    subst hF
                    have hV1 := hO.val (i := 1) rfl (off := 0) (agg := true) (n := 4) rfl
                    have hO := hO.sel [] (by decide)
                    exact hQ _ _ _ _ _ (resvs_t (resvs_c rfl (hV1) (resvs_t rfl))) hO hL ⟨_, _, _, rfl, rfl, (RdT.nil _ _), (RdT.nil _ _), (RdT.nil _ _)⟩
                  · refine wpn_cF (congrArg Value.bool hb669) ?_
                    refine wpn_sk ?_
                    refine wpn_plast ?_
                    refine wpn_q hO 9 [3, 6, 3, 6] [(5, .pointer (some ⟨b4, 0, none⟩)), (7, .pointer (some ⟨b5, 0, none⟩)), (9, .pointer (some ⟨b22, 0, none⟩)), (12, .int .i64 c44.1), (14, .pointer (some ⟨b71, 0, none⟩)), (93, .slice A30 c24.1.Regs.length c31), (94, .int .i64 (c24.1.Regs.length : Int)), (95, .int .i64 x622), (113, .slice A614 x617.length c615), (115, .int .i64 y659.Reg), (116, .pointer (some ⟨b71, 0, none⟩)), (117, .slice A607 x610.length c608), (118, .pointer (some ⟨b664, 0, none⟩)), (119, .int .i64 y659.Reg), (120, .int .i64 c665.1)] (And.intro (And.intro rfl rfl) (And.intro (And.intro rfl rfl) (And.intro (And.intro rfl rfl) (And.intro (And.intro rfl rfl) (ar (ar (ar (ar (ar (ar (ar (ar (ar (ar (ar (ar (ar (ar (ar trivial))))))))))))))))))) fun j => ?_
                    obtain ⟨y670, g671, hF⟩ := bind_some hF
                    refine wpn_ido (T := (Ty.int .i64)) hO w619 (i := 5) rfl rfl rfl g671 (by decide) fun a672 _ k673 m674 i675 => ?_
                    have k676 := k673
                    obtain rfl : _ = ([.int .i64 y670] : List Value) := k676
                    refine wpn_late ?_
                    refine wpn_sto (T := (Ty.int .i64)) (off := 0) (vs := [.int .i64 c665.1]) hO w619 (i := 5) rfl (by rw [add_zero]; rfl) i675 g671 k673 m674 rfl rfl rfl rfl (by decide) (show _ = _ from rfl) fun σ o677 w678 hO => ?_
                    have hO : Obs _ _ [_, _, _, _, _, _, _] := hO
                    refine wpn_nil ?_
                    refine wpn_ag ⟨(again_ld rfl (hO.val (i := 6) (off := 0) (agg := false) (n := 1) rfl rfl) rfl), (again_ld rfl (hO.val (i := 3) (off := 0) (agg := false) (n := 1) rfl rfl) rfl), trivial⟩ ?_
                    obtain ⟨y679, g680, hF⟩ := bind_some hF
                    refine wpn_ido (T := Ty.bool) hO w612 (i := 4) rfl rfl rfl g680 (by decide) fun a681 _ k682 m683 i684 => ?_
                    have k685 := k682
                    obtain rfl : _ = ([.bool y679] : List Value) := k685
                    refine wpn_sto (T := Ty.bool) (off := 0) (vs := [.bool true]) hO w612 (i := 4) rfl (by rw [add_zero]; rfl) i684 g680 k682 m683 rfl rfl rfl rfl (by decide) (show _ = _ from rfl) fun σ o686 w687 hO => ?_
                    have hO : Obs _ _ [_, _, _, _, _, _, _] := hO
                    refine wpn_nil ?_
                    refine wpn_end ?_
                    refine inb_i ?_
                    refine thn_i ?_
                    refine wpn_rlast ?_
                    refine wpn_qa hO [] [(5, .pointer (some ⟨b4, 0, none⟩)), (7, .pointer (some ⟨b5, 0, none⟩)), (9, .pointer (some ⟨b22, 0, none⟩)), (12, .int .i64 c44.1), (14, .pointer (some ⟨b71, 0, none⟩)), (93, .slice A30 c24.1.Regs.length c31), (94, .int .i64 (c24.1.Regs.length : Int)), (95, .int .i64 (IntKind.i64.wrap (x622 + 1)))] (ar (ar (ar (ar (ar (ar (ar (ar trivial)))))))) fun j => ?_
                    refine wpn_end ?_
                    refine thn_i ?_
                    have hO := hO.sel [0, 1, 2, 3, 4, 5] (by decide)
                    exact ⟨n657, Nat.lt_succ_self _, x610.length, A607, c608, o686, (x610.set (Int.toNat y659.Reg) true), x617.length, A614, c615, o677, (x617.set (Int.toNat y659.Reg) c665.1), (IntKind.i64.wrap (x622 + 1)), _, ar (ar (ar (ar (ar (ar (ar (ar trivial))))))), hO, hL, r600, r601, r602, r603, r604, r605, w687.len, w687, w678.len, w678, r620, r621, hF⟩
                · refine wpn_cF (congrArg Value.bool hb658) ?_
                  refine wpn_ex ?_
                  refine thn_x ?_
                  refine inb_x ?_
                  refine thn_i ?_
                  refine wpn_p2r ?_
                  refine wpn_q hO 3 [3] [(6, .int .i64 c44.1), (7, .pointer (some ⟨b5, 0, none⟩)), (125, .agg #[(.slice A607 x610.length c608), (.slice A614 x617.length c615), (.int .i64 0), (.slice A20 c6.1.Words.length c21)])] (And.intro (And.intro rfl rfl) (ar (ar (ar trivial)))) fun j => ?_
                  refine wpn_st hO (i := 1) rfl (off := 0) rfl rfl rfl rfl (Nat.le_of_ble_eq_true rfl) rfl fun σ hO => ?_
                  have hO : Obs _ _ [_, _, _, _, _, _] := hO
                  refine wpn_qa hO [] [(6, .int .i64 c44.1), (7, .pointer (some ⟨b5, 0, none⟩)), (8, .int .i64 0)] (ar (ar (ar trivial))) fun j => ?_
                  refine wpn_r1 ?_
                  obtain ⟨_, h689, r688, hO⟩ := w612.share hO (i := 4) rfl
                  have hL := hL.trans h689
                  have r600 := r600.le h689
                  have r601 := r601.le h689
                  have r602 := r602.le h689
                  have w619 := w619.le h689
                  have r620 := r620.le h689
                  have r603 := r603.le h689
                  have r604 := r604.le h689
                  have r605 := r605.le h689
                  have hO : Obs _ _ [_, _, _, _, _, _] := hO
                  obtain ⟨_, h691, r690, hO⟩ := w619.share hO (i := 5) rfl
                  have hL := hL.trans h691
                  have r600 := r600.le h691
                  have r601 := r601.le h691
                  have r602 := r602.le h691
                  have r688 := r688.le h691
                  have r620 := r620.le h691
                  have r603 := r603.le h691
                  have r604 := r604.le h691
                  have r605 := r605.le h691
                  have hO : Obs _ _ [_, _, _, _, _, _] := hO
                  injection hF with hF
                  subst hF
                  have hV1 := hO.val (i := 1) rfl (off := 0) (agg := true) (n := 4) rfl
                  have hO := hO.sel [] (by decide)
                  exact hQ _ _ _ _ _ (resvs_t (resvs_c rfl (hV1) (resvs_t rfl))) hO hL ⟨_, _, _, rfl, rfl, r688, r690, r620⟩
theorem zcg {τ : Hp} {p0 : Int} {p1 : Int}  {rr : zc} (hF : zbv p0 p1 = some rr) :
    Ctr Try.prog 24 #[.int .i64 p0, .int .i64 p1] τ [] (fun v τ' vs' => ∃ (v0_0 : Value) (v0_1 : Value) (v0_3 : Value), v = .agg #[v0_0, v0_1, .int .i64 rr.Base, v0_3] ∧ vs' = [] ∧ RdT Ty.bool τ' v0_0 rr.Known ∧ RdT (Ty.int .i64) τ' v0_1 rr.Regs ∧ RdT (Ty.int .i64) τ' v0_3 rr.Words) := by
  refine ctr_of (args := [.int .i64 p0, .int .i64 p1]) hm Try.func24 s24 rfl fun w0 σ hO Q hQ => ?_
  unfold zbv at hF
  have hL := Hp.le.refl τ
  show wpn _ _ a24.body _ _ _
  unfold a24
  dsimp only
  refine wpn_al hO fun b3 σ hO => ?_
  have hO : Obs _ _ [_] := hO
  refine wpn_nil ?_
  refine wpn_cut (fun e' σ' => ∃ (b19 : Nat) (A20 : Option Addr) (c21 : Nat) (o22 : Ob) (x23 : List Bool) (A25 : Option Addr) (c26 : Nat) (o27 : Ob) (x28 : List Int) (τ' : Hp), agr [(0, .int .i64 p0), (1, .int .i64 p1), (4, .pointer (some ⟨b3, 0, none⟩)), (5, .pointer (some ⟨b19, 0, none⟩))] e' ∧ Obs τ' σ' [some (b3, ⟨[.slice none 0 0, .slice none 0 0, .int .i64 0, .slice none 0 0], 28, 4, true⟩), some (b19, ⟨[.slice A20 x23.length c21, .slice A25 x28.length c26, .int .i64 0, .slice none 0 0], 28, 4, true⟩), o22, o27] ∧ Hp.le τ τ' ∧ OwnO Ty.bool 4 τ' (.slice A20 x23.length c21) x23 o22 ∧ OwnO (Ty.int .i64) 2 τ' (.slice A25 x28.length c26) x28 o27 ∧ zbz p0 p1 x23 x28 = some rr) ?_ ?_
  · refine wpn_ptl ?_
    obtain ⟨y351, g352, hF⟩ := bind_some hF
    obtain ⟨y358, g359, hF⟩ := bind_some hF
    refine wpn_pb ?_ ?_
    · refine wpn_pe ?_
      refine wpn_mkb (T := Ty.bool) hO rfl rfl g352 (show _ = _ from rfl) (by decide) fun b357 c354 σ o355 w356 hO => ?_
      have hO : Obs _ _ [_, _] := hO
      refine wpn_nil ?_
      refine wpn_pb ?_ ?_
      · refine wpn_pe ?_
        refine wpn_mkb (T := (Ty.int .i64)) hO rfl rfl g359 (show _ = _ from rfl) (by decide) fun b364 c361 σ o362 w363 hO => ?_
        have hO : Obs _ _ [_, _, _] := hO
        refine wpn_nil ?_
        refine wpn_pq ?_
        refine wpn_qa hO [] [(0, .int .i64 p0), (1, .int .i64 p1), (4, .pointer (some ⟨b3, 0, none⟩)), (10, .agg #[(.slice (some ⟨b357, 0, none⟩) y351.length c354), (.slice (some ⟨b364, 0, none⟩) y358.length c361), (.int .i64 0), (.slice none 0 0)])] (ar (ar (ar (ar trivial)))) fun j => ?_
        refine wpn_pe ?_
        refine wpn_al hO fun b365 σ hO => ?_
        have hO : Obs _ _ [_, _, _, _] := hO
        refine wpn_nil ?_
        refine wpn_pe ?_
        refine wpn_st hO (i := 3) rfl (off := 0) rfl rfl rfl rfl (Nat.le_of_ble_eq_true rfl) rfl fun σ hO => ?_
        have hO : Obs _ _ [_, _, _, _] := hO
        refine wpn_nil ?_
        refine wpn_pd ?_
        refine wpn_end ?_
        refine thn_i ?_
        have hO := hO.sel [0, 3, 1, 2] (by decide)
        exact ⟨b365, (some ⟨b357, 0, none⟩), c354, o355, y351, (some ⟨b364, 0, none⟩), c361, o362, y358, _, ar (ar (ar (ar trivial))), hO, hL, w356, w363, hF⟩
      · refine wpn_pe ?_
        refine wpn_al hO fun b365 σ hO => ?_
        have hO : Obs _ _ [_, _, _] := hO
        refine wpn_nil ?_
        refine wpn_pe ?_
        refine wpn_mkb (T := (Ty.int .i64)) hO rfl rfl g359 (show _ = _ from rfl) (by decide) fun b364 c361 σ o362 w363 hO => ?_
        have hO : Obs _ _ [_, _, _, _] := hO
        refine wpn_nil ?_
        refine wpn_pq ?_
        refine wpn_qa hO [] [(0, .int .i64 p0), (1, .int .i64 p1), (4, .pointer (some ⟨b3, 0, none⟩)), (5, .pointer (some ⟨b365, 0, none⟩)), (10, .agg #[(.slice (some ⟨b357, 0, none⟩) y351.length c354), (.slice (some ⟨b364, 0, none⟩) y358.length c361), (.int .i64 0), (.slice none 0 0)])] (ar (ar (ar (ar (ar trivial))))) fun j => ?_
        refine wpn_pe ?_
        refine wpn_st hO (i := 2) rfl (off := 0) rfl rfl rfl rfl (Nat.le_of_ble_eq_true rfl) rfl fun σ hO => ?_
        have hO : Obs _ _ [_, _, _, _] := hO
        refine wpn_nil ?_
        refine wpn_pd ?_
        refine wpn_end ?_
        refine thn_i ?_
        have hO := hO.sel [0, 2, 1, 3] (by decide)
        exact ⟨b365, (some ⟨b357, 0, none⟩), c354, o355, y351, (some ⟨b364, 0, none⟩), c361, o362, y358, _, ar (ar (ar (ar trivial))), hO, hL, w356, w363, hF⟩
    · refine wpn_pb ?_ ?_
      · refine wpn_pe ?_
        refine wpn_mkb (T := (Ty.int .i64)) hO rfl rfl g359 (show _ = _ from rfl) (by decide) fun b364 c361 σ o362 w363 hO => ?_
        have hO : Obs _ _ [_, _] := hO
        refine wpn_nil ?_
        refine wpn_pb ?_ ?_
        · refine wpn_pe ?_
          refine wpn_mkb (T := Ty.bool) hO rfl rfl g352 (show _ = _ from rfl) (by decide) fun b357 c354 σ o355 w356 hO => ?_
          have hO : Obs _ _ [_, _, _] := hO
          refine wpn_nil ?_
          refine wpn_pq ?_
          refine wpn_qa hO [] [(0, .int .i64 p0), (1, .int .i64 p1), (4, .pointer (some ⟨b3, 0, none⟩)), (10, .agg #[(.slice (some ⟨b357, 0, none⟩) y351.length c354), (.slice (some ⟨b364, 0, none⟩) y358.length c361), (.int .i64 0), (.slice none 0 0)])] (ar (ar (ar (ar trivial)))) fun j => ?_
          refine wpn_pe ?_
          refine wpn_al hO fun b365 σ hO => ?_
          have hO : Obs _ _ [_, _, _, _] := hO
          refine wpn_nil ?_
          refine wpn_pe ?_
          refine wpn_st hO (i := 3) rfl (off := 0) rfl rfl rfl rfl (Nat.le_of_ble_eq_true rfl) rfl fun σ hO => ?_
          have hO : Obs _ _ [_, _, _, _] := hO
          refine wpn_nil ?_
          refine wpn_pd ?_
          refine wpn_end ?_
          refine thn_i ?_
          have hO := hO.sel [0, 3, 2, 1] (by decide)
          exact ⟨b365, (some ⟨b357, 0, none⟩), c354, o355, y351, (some ⟨b364, 0, none⟩), c361, o362, y358, _, ar (ar (ar (ar trivial))), hO, hL, w356, w363, hF⟩
        · refine wpn_pe ?_
          refine wpn_al hO fun b365 σ hO => ?_
          have hO : Obs _ _ [_, _, _] := hO
          refine wpn_nil ?_
          refine wpn_pe ?_
          refine wpn_mkb (T := Ty.bool) hO rfl rfl g352 (show _ = _ from rfl) (by decide) fun b357 c354 σ o355 w356 hO => ?_
          have hO : Obs _ _ [_, _, _, _] := hO
          refine wpn_nil ?_
          refine wpn_pq ?_
          refine wpn_qa hO [] [(0, .int .i64 p0), (1, .int .i64 p1), (4, .pointer (some ⟨b3, 0, none⟩)), (5, .pointer (some ⟨b365, 0, none⟩)), (10, .agg #[(.slice (some ⟨b357, 0, none⟩) y351.length c354), (.slice (some ⟨b364, 0, none⟩) y358.length c361), (.int .i64 0), (.slice none 0 0)])] (ar (ar (ar (ar (ar trivial))))) fun j => ?_
          refine wpn_pe ?_
          refine wpn_st hO (i := 2) rfl (off := 0) rfl rfl rfl rfl (Nat.le_of_ble_eq_true rfl) rfl fun σ hO => ?_
          have hO : Obs _ _ [_, _, _, _] := hO
          refine wpn_nil ?_
          refine wpn_pd ?_
          refine wpn_end ?_
          refine thn_i ?_
          have hO := hO.sel [0, 2, 3, 1] (by decide)
          exact ⟨b365, (some ⟨b357, 0, none⟩), c354, o355, y351, (some ⟨b364, 0, none⟩), c361, o362, y358, _, ar (ar (ar (ar trivial))), hO, hL, w356, w363, hF⟩
      · refine wpn_pe ?_
        refine wpn_al hO fun b365 σ hO => ?_
        have hO : Obs _ _ [_, _] := hO
        refine wpn_nil ?_
        refine wpn_pb ?_ ?_
        · refine wpn_pe ?_
          refine wpn_mkb (T := Ty.bool) hO rfl rfl g352 (show _ = _ from rfl) (by decide) fun b357 c354 σ o355 w356 hO => ?_
          have hO : Obs _ _ [_, _, _] := hO
          refine wpn_nil ?_
          refine wpn_pe ?_
          refine wpn_mkb (T := (Ty.int .i64)) hO rfl rfl g359 (show _ = _ from rfl) (by decide) fun b364 c361 σ o362 w363 hO => ?_
          have hO : Obs _ _ [_, _, _, _] := hO
          refine wpn_nil ?_
          refine wpn_pq ?_
          refine wpn_qa hO [] [(0, .int .i64 p0), (1, .int .i64 p1), (4, .pointer (some ⟨b3, 0, none⟩)), (5, .pointer (some ⟨b365, 0, none⟩)), (10, .agg #[(.slice (some ⟨b357, 0, none⟩) y351.length c354), (.slice (some ⟨b364, 0, none⟩) y358.length c361), (.int .i64 0), (.slice none 0 0)])] (ar (ar (ar (ar (ar trivial))))) fun j => ?_
          refine wpn_pe ?_
          refine wpn_st hO (i := 1) rfl (off := 0) rfl rfl rfl rfl (Nat.le_of_ble_eq_true rfl) rfl fun σ hO => ?_
          have hO : Obs _ _ [_, _, _, _] := hO
          refine wpn_nil ?_
          refine wpn_pd ?_
          refine wpn_end ?_
          refine thn_i ?_
          exact ⟨b365, (some ⟨b357, 0, none⟩), c354, o355, y351, (some ⟨b364, 0, none⟩), c361, o362, y358, _, ar (ar (ar (ar trivial))), hO, hL, w356, w363, hF⟩
        · refine wpn_pe ?_
          refine wpn_mkb (T := (Ty.int .i64)) hO rfl rfl g359 (show _ = _ from rfl) (by decide) fun b364 c361 σ o362 w363 hO => ?_
          have hO : Obs _ _ [_, _, _] := hO
          refine wpn_nil ?_
          refine wpn_pe ?_
          refine wpn_mkb (T := Ty.bool) hO rfl rfl g352 (show _ = _ from rfl) (by decide) fun b357 c354 σ o355 w356 hO => ?_
          have hO : Obs _ _ [_, _, _, _] := hO
          refine wpn_nil ?_
          refine wpn_pq ?_
          refine wpn_qa hO [] [(0, .int .i64 p0), (1, .int .i64 p1), (4, .pointer (some ⟨b3, 0, none⟩)), (5, .pointer (some ⟨b365, 0, none⟩)), (10, .agg #[(.slice (some ⟨b357, 0, none⟩) y351.length c354), (.slice (some ⟨b364, 0, none⟩) y358.length c361), (.int .i64 0), (.slice none 0 0)])] (ar (ar (ar (ar (ar trivial))))) fun j => ?_
          refine wpn_pe ?_
          refine wpn_st hO (i := 1) rfl (off := 0) rfl rfl rfl rfl (Nat.le_of_ble_eq_true rfl) rfl fun σ hO => ?_
          have hO : Obs _ _ [_, _, _, _] := hO
          refine wpn_nil ?_
          refine wpn_pd ?_
          refine wpn_end ?_
          refine thn_i ?_
          have hO := hO.sel [0, 1, 3, 2] (by decide)
          exact ⟨b365, (some ⟨b357, 0, none⟩), c354, o355, y351, (some ⟨b364, 0, none⟩), c361, o362, y358, _, ar (ar (ar (ar trivial))), hO, hL, w356, w363, hF⟩
  · rintro e σ ⟨b19, A20, c21, o22, x23, A25, c26, o27, x28, _, hA, hO, hL, w24, w29, hF⟩
    rw [← sets_agr _ _ hA]
    unfold zbz at hF
    refine wpn_assoc ?_
    refine wpn_qa hO [] [(0, .int .i64 p0), (1, .int .i64 p1), (4, .pointer (some ⟨b3, 0, none⟩)), (5, .pointer (some ⟨b19, 0, none⟩)), (6, .int .i64 0)] (ar (ar (ar (ar (ar trivial))))) fun j => ?_
    refine wpn_bl ?_
    refine wpn_lp (fun (n : Nat) e' σ' => ∃ (k139 : Nat) (A140 : Option Addr) (c141 : Nat) (o142 : Ob) (x143 : List Bool) (A146 : Option Addr) (c147 : Nat) (o148 : Ob) (x149 : List Int) (x151 : Int) (τ' : Hp), agr [(0, .int .i64 p0), (1, .int .i64 p1), (4, .pointer (some ⟨b3, 0, none⟩)), (5, .pointer (some ⟨b19, 0, none⟩)), (6, .int .i64 x151)] e' ∧ Obs τ' σ' [some (b3, ⟨[.slice none 0 0, .slice none 0 0, .int .i64 0, .slice none 0 0], 28, 4, true⟩), some (b19, ⟨[.slice A140 k139 c141, .slice A146 x149.length c147, .int .i64 0, .slice none 0 0], 28, 4, true⟩), o142, o148] ∧ Hp.le τ τ' ∧ k139 = x143.length ∧ OwnO Ty.bool 4 τ' (.slice A140 k139 c141) x143 o142 ∧ OwnO (Ty.int .i64) 2 τ' (.slice A146 x149.length c147) x149 o148 ∧ zbo p0 p1 n x143 x149 x151 = some rr) big ⟨x23.length, A20, c21, o22, x23, A25, c26, o27, x28, 0, _, ar (ar (ar (ar (ar trivial)))), hO, hL, w24.len, w24, w29, hF⟩ ?_
    clear hF hO hL
    rintro n251 e σ ⟨k139, A140, c141, o142, x143, A146, c147, o148, x149, x151, _, hA, hO, hL, hk144, w145, w150, hF⟩
    rw [← sets_agr _ _ hA]
    cases n251 with
    | zero => exact nomatch (show none = some rr from hF)
    | succ n251 =>
      replace hF : zbB (zbo p0 p1 n251) p0 p1 x143 x149 x151 = some rr := hF
      unfold zbB at hF
      subst hk144
      refine wpn_assoc ?_
      refine wpn_qa hO [] [(0, .int .i64 p0), (1, .int .i64 p1), (4, .pointer (some ⟨b3, 0, none⟩)), (5, .pointer (some ⟨b19, 0, none⟩)), (6, .int .i64 x151), (12, .bool (decide (x151 < 16)))] (ar (ar (ar (ar (ar (ar trivial)))))) fun j => ?_
      rcases ite_some hF with ⟨hb252, hF⟩ | ⟨hb252, hF⟩
      · refine wpn_cT (congrArg Value.bool hb252) ?_
        refine wpn_sk ?_
        refine wpn_bl ?_
        refine wpn_rlast ?_
        refine wpn_q hO 3 [1] [(0, .int .i64 p0), (1, .int .i64 p1), (4, .pointer (some ⟨b3, 0, none⟩)), (5, .pointer (some ⟨b19, 0, none⟩)), (6, .int .i64 x151), (16, .slice A140 x143.length c141), (17, .int .i64 x151)] (And.intro (And.intro rfl rfl) (ar (ar (ar (ar (ar (ar (ar trivial)))))))) fun j => ?_
        obtain ⟨y253, g254, hF⟩ := bind_some hF
        refine wpn_ido (T := Ty.bool) hO w145 (i := 2) rfl rfl rfl g254 (by decide) fun a255 _ k256 m257 i258 => ?_
        have k259 := k256
        obtain rfl : _ = ([.bool y253] : List Value) := k259
        refine wpn_sto (T := Ty.bool) (off := 0) (vs := [.bool true]) hO w145 (i := 2) rfl (by rw [add_zero]; rfl) i258 g254 k256 m257 rfl rfl rfl rfl (by decide) (show _ = _ from rfl) fun σ o260 w261 hO => ?_
        have hO : Obs _ _ [_, _, _, _] := hO
        refine wpn_nil ?_
        refine wpn_end ?_
        refine inb_i ?_
        refine thn_i ?_
        refine wpn_rlast ?_
        refine wpn_qa hO [] [(0, .int .i64 p0), (1, .int .i64 p1), (4, .pointer (some ⟨b3, 0, none⟩)), (5, .pointer (some ⟨b19, 0, none⟩)), (6, .int .i64 (IntKind.i64.wrap (x151 + 1)))] (ar (ar (ar (ar (ar trivial))))) fun j => ?_
        refine wpn_end ?_
        refine thn_i ?_
        exact ⟨n251, Nat.lt_succ_self _, x143.length, A140, c141, o260, (x143.set (Int.toNat x151) true), A146, c147, o148, x149, (IntKind.i64.wrap (x151 + 1)), _, ar (ar (ar (ar (ar trivial)))), hO, hL, w261.len, w261, w150, hF⟩
      · refine wpn_cF (congrArg Value.bool hb252) ?_
        refine wpn_ex ?_
        refine thn_x ?_
        refine inb_x ?_
        refine thn_i ?_
        refine wpn_assoc ?_
        refine wpn_qa hO [] [(0, .int .i64 p0), (1, .int .i64 p1), (4, .pointer (some ⟨b3, 0, none⟩)), (5, .pointer (some ⟨b19, 0, none⟩)), (7, .int .i64 0)] (ar (ar (ar (ar (ar trivial))))) fun j => ?_
        refine wpn_bl ?_
        have hO := hO.no
        have hO : Obs _ _ [_, _, _, _, _] := hO
        refine wpn_lp (fun (n : Nat) e' σ' => ∃ (A292 : Option Addr) (c293 : Nat) (o294 : Ob) (x295 : List Bool) (A297 : Option Addr) (c298 : Nat) (o299 : Ob) (x300 : List Int) (A302 : Option Addr) (c303 : Nat) (o304 : Ob) (x305 : List Int) (x307 : Int) (τ' : Hp), agr [(0, .int .i64 p0), (1, .int .i64 p1), (4, .pointer (some ⟨b3, 0, none⟩)), (5, .pointer (some ⟨b19, 0, none⟩)), (7, .int .i64 x307)] e' ∧ Obs τ' σ' [some (b3, ⟨[.slice none 0 0, .slice none 0 0, .int .i64 0, .slice none 0 0], 28, 4, true⟩), some (b19, ⟨[.slice A292 x295.length c293, .slice A297 x300.length c298, .int .i64 0, .slice A302 x305.length c303], 28, 4, true⟩), o294, o299, o304] ∧ Hp.le τ τ' ∧ OwnO Ty.bool 4 τ' (.slice A292 x295.length c293) x295 o294 ∧ OwnO (Ty.int .i64) 2 τ' (.slice A297 x300.length c298) x300 o299 ∧ OwnO (Ty.int .i64) 2 τ' (.slice A302 x305.length c303) x305 o304 ∧ zbm p0 p1 n x295 x300 x305 x307 = some rr) big ⟨A140, c141, o142, x143, A146, c147, o148, x149, none, 0, none, [], 0, _, ar (ar (ar (ar (ar trivial)))), hO, hL, w145, w150, OwnO.nil _ _ _, hF⟩ ?_
        clear hF hO hL
        rintro n329 e σ ⟨A292, c293, o294, x295, A297, c298, o299, x300, A302, c303, o304, x305, x307, _, hA, hO, hL, w296, w301, w306, hF⟩
        rw [← sets_agr _ _ hA]
        cases n329 with
        | zero => exact nomatch (show none = some rr from hF)
        | succ n329 =>
          replace hF : zbD (zbm p0 p1 n329) p0 p1 x295 x300 x305 x307 = some rr := hF
          unfold zbD at hF
          refine wpn_assoc ?_
          refine wpn_qa hO [] [(0, .int .i64 p0), (1, .int .i64 p1), (4, .pointer (some ⟨b3, 0, none⟩)), (5, .pointer (some ⟨b19, 0, none⟩)), (7, .int .i64 x307), (21, .bool (decide (x307 < p0)))] (ar (ar (ar (ar (ar (ar trivial)))))) fun j => ?_
          rcases ite_some hF with ⟨hb330, hF⟩ | ⟨hb330, hF⟩
          · refine wpn_cT (congrArg Value.bool hb330) ?_
            refine wpn_sk ?_
            refine wpn_bl ?_
            refine wpn_rlast ?_
            refine wpn_q hO 3 [1] [(0, .int .i64 p0), (1, .int .i64 p1), (4, .pointer (some ⟨b3, 0, none⟩)), (5, .pointer (some ⟨b19, 0, none⟩)), (7, .int .i64 x307), (25, .slice A302 x305.length c303), (26, .int .i64 x307)] (And.intro (And.intro rfl rfl) (ar (ar (ar (ar (ar (ar (ar trivial)))))))) fun j => ?_
            obtain ⟨_, hr, hF⟩ := bind_some hF
            refine wpn_ap1 (T := (Ty.int .i64)) (y := x307) hO w306 (i := 4) rfl rfl (fun _ => rfl) rfl rfl rfl hr (by decide) fun u _ σ o333 w334 hO => ?_
            obtain ⟨A331, c332, rfl, -⟩ := w334.form
            have hO : Obs _ _ [_, _, _, _, _] := hO
            refine wpn_q hO 1 [] [(0, .int .i64 p0), (1, .int .i64 p1), (4, .pointer (some ⟨b3, 0, none⟩)), (5, .pointer (some ⟨b19, 0, none⟩)), (7, .int .i64 x307), (28, .slice A331 (x305 ++ [x307]).length c332), (29, .pointer (some ⟨b19, 3, none⟩))] (ar (ar (ar (ar (ar (ar (ar trivial))))))) fun j => ?_
            refine wpn_st hO (i := 1) rfl (off := 3) rfl rfl rfl rfl (Nat.le_of_ble_eq_true rfl) rfl fun σ hO => ?_
            have hO : Obs _ _ [_, _, _, _, _] := hO
            refine wpn_nil ?_
            refine wpn_end ?_
            refine inb_i ?_
            refine thn_i ?_
            refine wpn_rlast ?_
            refine wpn_qa hO [] [(0, .int .i64 p0), (1, .int .i64 p1), (4, .pointer (some ⟨b3, 0, none⟩)), (5, .pointer (some ⟨b19, 0, none⟩)), (7, .int .i64 (IntKind.i64.wrap (x307 + 1)))] (ar (ar (ar (ar (ar trivial))))) fun j => ?_
            refine wpn_end ?_
            refine thn_i ?_
            exact ⟨n329, Nat.lt_succ_self _, A292, c293, o294, x295, A297, c298, o299, x300, A331, c332, o333, (x305 ++ [x307]), (IntKind.i64.wrap (x307 + 1)), _, ar (ar (ar (ar (ar trivial)))), hO, hL, w296, w301, w334, hF⟩
          · refine wpn_cF (congrArg Value.bool hb330) ?_
            refine wpn_ex ?_
            refine thn_x ?_
            refine inb_x ?_
            refine thn_i ?_
            refine wpn_q hO 3 [1] [(4, .pointer (some ⟨b3, 0, none⟩)), (5, .pointer (some ⟨b19, 0, none⟩)), (31, .slice A297 x300.length c298), (32, .int .i64 p1)] (And.intro (And.intro rfl rfl) (ar (ar (ar (ar trivial))))) fun j => ?_
            obtain ⟨y335, g336, hF⟩ := bind_some hF
            refine wpn_ido (T := (Ty.int .i64)) hO w301 (i := 3) rfl rfl rfl g336 (by decide) fun a337 _ k338 m339 i340 => ?_
            have k341 := k338
            obtain rfl : _ = ([.int .i64 y335] : List Value) := k341
            refine wpn_sto (T := (Ty.int .i64)) (off := 0) (vs := [.int .i64 p1]) hO w301 (i := 3) rfl (by rw [add_zero]; rfl) i340 g336 k338 m339 rfl rfl rfl rfl (by decide) (show _ = _ from rfl) fun σ o342 w343 hO => ?_
            have hO : Obs _ _ [_, _, _, _, _] := hO
            refine wpn_nil ?_
            refine wpn_q hO 1 [1] [(4, .pointer (some ⟨b3, 0, none⟩)), (34, .agg #[(.slice A292 x295.length c293), (.slice A297 x300.length c298), (.int .i64 0), (.slice A302 x305.length c303)])] (And.intro (And.intro rfl rfl) (ar (ar trivial))) fun j => ?_
            refine wpn_st hO (i := 0) rfl (off := 0) rfl rfl rfl rfl (Nat.le_of_ble_eq_true rfl) rfl fun σ hO => ?_
            have hO : Obs _ _ [_, _, _, _, _] := hO
            refine wpn_nil ?_
            refine wpn_r1 ?_
            obtain ⟨_, h345, r344, hO⟩ := w296.share hO (i := 2) rfl
            have hL := hL.trans h345
            have w343 := w343.le h345
            have w306 := w306.le h345
            have hO : Obs _ _ [_, _, _, _, _] := hO
            have l348 : x300.length = (x300.set (Int.toNat 15) p1).length := w343.len
            obtain ⟨_, h347, r346, hO⟩ := w343.share hO (i := 3) rfl
            have hL := hL.trans h347
            have r344 := r344.le h347
            have w306 := w306.le h347
            have hO : Obs _ _ [_, _, _, _, _] := hO
            obtain ⟨_, h350, r349, hO⟩ := w306.share hO (i := 4) rfl
            have hL := hL.trans h350
            have r344 := r344.le h350
            have r346 := r346.le h350
            have hO : Obs _ _ [_, _, _, _, _] := hO
            injection hF with hF
            subst hF
            have hV0 := hO.val (i := 0) rfl (off := 0) (agg := true) (n := 4) rfl
            have hO := hO.sel [] (by decide)
            exact hQ _ _ _ _ _ (resvs_c rfl (hV0) rfl) hO hL ⟨_, _, _, rfl, rfl, r344, r346, r349⟩
theorem zbM {τ : Hp}   {rr : Bool} (hF : zr  = some rr) :
    Ctr Try.prog 8 #[] τ [] (fun v τ' vs' => v = .bool rr ∧ vs' = []) := by
  refine ctr_of (args := []) hm Try.func8 s8 rfl fun w0 σ hO Q hQ => ?_
  unfold zr at hF
  have hL := Hp.le.refl τ
  show wpn _ _ a8.body _ _ _
  unfold a8
  dsimp only
  refine wpn_qa hO [] [] (trivial) fun j => ?_
  refine wpn_q hO 1 [] [(10, .agg #[(.int .i64 7), (.int .i64 (-2))])] (ar trivial) fun j => ?_
  refine wpn_lit (T := zf) (l := ([(⟨7, (-2)⟩ : zb)] : List zb)) (cs := [.int .i64 7, .int .i64 (-2)]) hO rfl ⟨[.int .i64 7, .int .i64 (-2)], _, rfl, rfl, rfl⟩ rfl (by decide) fun _ σ o3 w4 hO => ?_
  obtain ⟨A1, c2, rfl, -⟩ := w4.form
  have hO : Obs _ _ [_] := hO
  refine wpn_q hO 1 [] [(12, .agg #[(.int .i64 10), (.int .i64 20), (.int .i64 3), (.slice A1 ([(⟨7, (-2)⟩ : zb)] : List zb).length c2)])] (ar trivial) fun j => ?_
  obtain ⟨_, h6, r5, hO⟩ := w4.share hO (i := 0) rfl
  have hL := hL.trans h6
  have hO : Obs _ _ [_] := hO
  refine wpn_lit (T := zd) (l := ([(⟨10, 20, 3, ([(⟨7, (-2)⟩ : zb)] : List zb)⟩ : za)] : List za)) (cs := [.int .i64 10, .int .i64 20, .int .i64 3, .slice A1 ([(⟨7, (-2)⟩ : zb)] : List zb).length c2]) hO rfl ⟨[.int .i64 10, .int .i64 20, .int .i64 3, .slice A1 ([(⟨7, (-2)⟩ : zb)] : List zb).length c2], _, rfl, ⟨_, rfl, r5⟩, rfl⟩ rfl (by decide) fun _ σ o9 w10 hO => ?_
  obtain ⟨A7, c8, rfl, -⟩ := w10.form
  have hO : Obs _ _ [_, _] := hO
  refine wpn_qa hO [] [(1, .slice A7 ([(⟨10, 20, 3, ([(⟨7, (-2)⟩ : zb)] : List zb)⟩ : za)] : List za).length c8)] (ar trivial) fun j => ?_
  refine wpn_q hO 1 [] [(1, .slice A7 ([(⟨10, 20, 3, ([(⟨7, (-2)⟩ : zb)] : List zb)⟩ : za)] : List za).length c8), (15, .slice A7 ([(⟨10, 20, 3, ([(⟨7, (-2)⟩ : zb)] : List zb)⟩ : za)] : List za).length c8)] (ar (ar trivial)) fun j => ?_
  obtain ⟨_, h12, r11, hO⟩ := w10.share hO (i := 1) rfl
  have hL := hL.trans h12
  have hO : Obs _ _ [_, _] := hO
  obtain ⟨c13, h14, hF⟩ := bind_some hF
  refine wpn_c0 hO (zca (RdT.nil Ty.u8 _) r11 h14) rfl fun _ σ _ _ hO h15 h16 => ?_
  have hL := hL.trans h15
  have r11 := r11.le h15
  obtain ⟨v17, o20, rfl, rfl, w21⟩ := h16
  obtain ⟨A18, c19, rfl, -⟩ := w21.form
  have hO : Obs _ _ [_, _, _] := hO
  refine wpn_qa hO [] [(1, .slice A7 ([(⟨10, 20, 3, ([(⟨7, (-2)⟩ : zb)] : List zb)⟩ : za)] : List za).length c8), (2, .slice A18 c13.1.length c19), (3, .int .i64 c13.2)] (ar (ar (ar trivial))) fun j => ?_
  refine wpn_q hO 1 [] [(1, .slice A7 ([(⟨10, 20, 3, ([(⟨7, (-2)⟩ : zb)] : List zb)⟩ : za)] : List za).length c8), (2, .slice A18 c13.1.length c19), (3, .int .i64 c13.2), (20, .slice A18 c13.1.length c19)] (ar (ar (ar (ar trivial)))) fun j => ?_
  obtain ⟨_, h23, r22, hO⟩ := w21.share hO (i := 2) rfl
  have hL := hL.trans h23
  have r11 := r11.le h23
  have hO : Obs _ _ [_, _, _] := hO
  obtain ⟨c24, h25, hF⟩ := bind_some hF
  refine wpn_c0 hO (zbO r22 h25) rfl fun _ σ _ _ hO h26 h27 => ?_
  have hL := hL.trans h26
  have r11 := r11.le h26
  have r22 := r22.le h26
  obtain ⟨v28, rfl, rfl, r31⟩ := h27
  obtain ⟨A29, c30, rfl, -⟩ := r31.form
  have hO : Obs _ _ [_, _, _] := hO
  refine wpn_qa hO [] [(1, .slice A7 ([(⟨10, 20, 3, ([(⟨7, (-2)⟩ : zb)] : List zb)⟩ : za)] : List za).length c8), (2, .slice A18 c13.1.length c19), (3, .int .i64 c13.2), (4, .slice A29 c24.1.length c30), (5, .int .i64 c24.2.1), (6, .int .i64 c24.2.2)] (ar (ar (ar (ar (ar (ar trivial)))))) fun j => ?_
  refine wpn_q hO 1 [] [(1, .slice A7 ([(⟨10, 20, 3, ([(⟨7, (-2)⟩ : zb)] : List zb)⟩ : za)] : List za).length c8), (2, .slice A18 c13.1.length c19), (3, .int .i64 c13.2), (4, .slice A29 c24.1.length c30), (5, .int .i64 c24.2.1), (6, .int .i64 c24.2.2), (26, .slice A29 c24.1.length c30)] (ar (ar (ar (ar (ar (ar (ar trivial))))))) fun j => ?_
  obtain ⟨c32, h33, hF⟩ := bind_some hF
  refine wpn_c0 hO (zcg h33) rfl fun _ σ _ _ hO h34 h35 => ?_
  have hL := hL.trans h34
  have r11 := r11.le h34
  have r22 := r22.le h34
  have r31 := r31.le h34
  obtain ⟨v36, v40, v44, rfl, rfl, r37, r41, r45⟩ := h35
  obtain ⟨A38, c39, rfl, -⟩ := r37.form
  obtain ⟨A42, c43, rfl, -⟩ := r41.form
  obtain ⟨A46, c47, rfl, -⟩ := r45.form
  have hO : Obs _ _ [_, _, _] := hO
  obtain ⟨c48, h49, hF⟩ := bind_some hF
  refine wpn_c0 hO (zbF r31 r37 r41 r45 h49) rfl fun _ σ _ _ hO h50 h51 => ?_
  have hL := hL.trans h50
  have r11 := r11.le h50
  have r22 := r22.le h50
  have r31 := r31.le h50
  have r37 := r37.le h50
  have r41 := r41.le h50
  have r45 := r45.le h50
  obtain ⟨v52, v56, v60, rfl, rfl, r53, r57, r61⟩ := h51
  obtain ⟨A54, c55, rfl, -⟩ := r53.form
  obtain ⟨A58, c59, rfl, -⟩ := r57.form
  obtain ⟨A62, c63, rfl, -⟩ := r61.form
  have hO : Obs _ _ [_, _, _] := hO
  refine wpn_q hO 4 [] [(1, .slice A7 ([(⟨10, 20, 3, ([(⟨7, (-2)⟩ : zb)] : List zb)⟩ : za)] : List za).length c8), (2, .slice A18 c13.1.length c19), (3, .int .i64 c13.2), (4, .slice A29 c24.1.length c30), (5, .int .i64 c24.2.1), (6, .int .i64 c24.2.2), (29, .int .i64 c48.1), (30, .agg #[(.slice A54 c48.2.1.Known.length c55), (.slice A58 c48.2.1.Regs.length c59), (.int .i64 c48.2.1.Base), (.slice A62 c48.2.1.Words.length c63)]), (31, .int .i64 c48.2.2)] (ar (ar (ar (ar (ar (ar (ar (ar (ar trivial))))))))) fun j => ?_
  refine wpn_al hO fun b64 σ hO => ?_
  have hO : Obs _ _ [_, _, _, _] := hO
  refine wpn_q hO 1 [] [(1, .slice A7 ([(⟨10, 20, 3, ([(⟨7, (-2)⟩ : zb)] : List zb)⟩ : za)] : List za).length c8), (2, .slice A18 c13.1.length c19), (3, .int .i64 c13.2), (4, .slice A29 c24.1.length c30), (5, .int .i64 c24.2.1), (6, .int .i64 c24.2.2), (7, .int .i64 c48.1), (8, .pointer (some ⟨b64, 0, none⟩)), (30, .agg #[(.slice A54 c48.2.1.Known.length c55), (.slice A58 c48.2.1.Regs.length c59), (.int .i64 c48.2.1.Base), (.slice A62 c48.2.1.Words.length c63)]), (31, .int .i64 c48.2.2)] (ar (ar (ar (ar (ar (ar (ar (ar (ar (ar trivial)))))))))) fun j => ?_
  refine wpn_st hO (i := 3) rfl (off := 0) rfl rfl rfl rfl (Nat.le_of_ble_eq_true rfl) rfl fun σ hO => ?_
  have hO : Obs _ _ [_, _, _, _] := hO
  refine wpn_qa hO [] [(1, .slice A7 ([(⟨10, 20, 3, ([(⟨7, (-2)⟩ : zb)] : List zb)⟩ : za)] : List za).length c8), (2, .slice A18 c13.1.length c19), (3, .int .i64 c13.2), (4, .slice A29 c24.1.length c30), (5, .int .i64 c24.2.1), (6, .int .i64 c24.2.2), (7, .int .i64 c48.1), (8, .pointer (some ⟨b64, 0, none⟩)), (9, .int .i64 c48.2.2)] (ar (ar (ar (ar (ar (ar (ar (ar (ar trivial))))))))) fun j => ?_
  refine wpn_q hO 12 [] [(1, .slice A7 ([(⟨10, 20, 3, ([(⟨7, (-2)⟩ : zb)] : List zb)⟩ : za)] : List za).length c8), (4, .slice A29 c24.1.length c30), (7, .int .i64 c48.1), (8, .pointer (some ⟨b64, 0, none⟩)), (9, .int .i64 c48.2.2), (47, .bool ((((c13.2 == 0) && ((c13.1.length : Int) == 7)) && (c24.2.2 == 0)) && (c24.2.1 == 7)))] (And.intro (And.intro rfl rfl) (fun _ => And.intro (And.intro rfl rfl) (fun _ => And.intro (And.intro rfl rfl) (fun _ => ar (ar (ar (ar (ar (ar trivial))))))))) fun j => ?_
  have hO := hO.sel [3] (by decide)
  have hO : Obs _ _ [_] := hO
  obtain ⟨c65, h66, hF⟩ := bind_some hF
  refine wpn_mid 2 (fun e' σ' => ∃ (τ' : Hp), agr [(51, .bool c65), (7, .int .i64 c48.1), (8, .pointer (some ⟨b64, 0, none⟩)), (9, .int .i64 c48.2.2)] e' ∧ Obs τ' σ' [some (b64, ⟨[.slice A54 c48.2.1.Known.length c55, .slice A58 c48.2.1.Regs.length c59, .int .i64 c48.2.1.Base, .slice A62 c48.2.1.Words.length c63], 28, 4, true⟩)] ∧ Hp.le τ τ' ∧ RdT Ty.bool τ' (.slice A54 c48.2.1.Known.length c55) c48.2.1.Known ∧ RdT (Ty.int .i64) τ' (.slice A58 c48.2.1.Regs.length c59) c48.2.1.Regs ∧ RdT (Ty.int .i64) τ' (.slice A62 c48.2.1.Words.length c63) c48.2.1.Words) ?_ ?_
  · have hF := h66
    rcases ite_some hF with ⟨hb67, hF⟩ | ⟨hb67, hF⟩
    · refine wpn_gT (congrArg (fun x => isB (.bool x) true) hb67) ?_
      refine wpn_q hO 2 [] [(7, .int .i64 c48.1), (8, .pointer (some ⟨b64, 0, none⟩)), (9, .int .i64 c48.2.2), (47, .bool ((((c13.2 == 0) && ((c13.1.length : Int) == 7)) && (c24.2.2 == 0)) && (c24.2.1 == 7))), (48, .slice A7 ([(⟨10, 20, 3, ([(⟨7, (-2)⟩ : zb)] : List zb)⟩ : za)] : List za).length c8), (49, .slice A29 c24.1.length c30)] (ar (ar (ar (ar (ar (ar trivial)))))) fun j => ?_
      obtain ⟨c68, h69, hF⟩ := bind_some hF
      refine wpn_c0 hO (zcj r11 r31 h69) rfl fun _ σ _ _ hO h70 h71 => ?_
      have hL := hL.trans h70
      have r11 := r11.le h70
      have r31 := r31.le h70
      have r53 := r53.le h70
      have r57 := r57.le h70
      have r61 := r61.le h70
      obtain ⟨rfl, rfl⟩ := h71
      have hO : Obs _ _ [_] := hO
      refine wpn_pk (congrArg Value.bool hb67) ?_
      refine wpn_nil ?_
      injection hF with hF
      subst hF
      refine wpn_end ?_
      exact ⟨rfl, _, ar (ar (ar (ar trivial))), hO, hL, r53, r57, r61⟩
    · refine wpn_gF (congrArg (fun x => isB (.bool x) true) hb67) ?_
      refine wpn_pk (congrArg Value.bool hb67) ?_
      refine wpn_nil ?_
      injection hF with hF
      subst hF
      refine wpn_end ?_
      exact ⟨rfl, _, ar (ar (ar (ar trivial))), hO, hL, r53, r57, r61⟩
  · rintro e σ ⟨_, hA, hO, hL, r53, r57, r61⟩
    rw [← sets_agr _ _ hA]
    refine wpn_q hO 10 [0] [(8, .pointer (some ⟨b64, 0, none⟩)), (66, .bool (((c65 && (c48.2.2 == 0)) && (c48.1 == 7)) && ((c48.2.1.Regs.length : Int) == 16)))] (And.intro (And.intro rfl rfl) (fun _ => And.intro (And.intro rfl rfl) (fun _ => And.intro (And.intro rfl rfl) (And.intro (And.intro rfl rfl) (fun _ => ar (ar trivial)))))) fun j => ?_
    obtain ⟨c72, h73, hF⟩ := bind_some hF
    refine wpn_midq 2 [(72, .bool c72), (8, .pointer (some ⟨b64, 0, none⟩))] (fun Q hQ => ?_) fun j => ?_
    · have hF := h73
      rcases ite_some hF with ⟨hb74, hF⟩ | ⟨hb74, hF⟩
      · refine wpn_gT (congrArg (fun x => isB (.bool x) true) hb74) ?_
        refine wpn_q hO 2 [0] [(8, .pointer (some ⟨b64, 0, none⟩)), (66, .bool (((c65 && (c48.2.2 == 0)) && (c48.1 == 7)) && ((c48.2.1.Regs.length : Int) == 16))), (68, .slice A58 c48.2.1.Regs.length c59)] (And.intro (And.intro rfl rfl) (ar (ar (ar trivial)))) fun j => ?_
        obtain ⟨y75, g76, hF⟩ := bind_some hF
        refine wpn_idx (T := (Ty.int .i64)) r57 hO.base rfl rfl g76 (by decide) fun a77 _ k78 m79 => ?_
        obtain rfl : _ = ([.int .i64 y75] : List Value) := k78
        refine wpn_ld rfl (m79.le hO.base).fst ?_
        refine wpn_q hO 1 [] [(8, .pointer (some ⟨b64, 0, none⟩)), (66, .bool (((c65 && (c48.2.2 == 0)) && (c48.1 == 7)) && ((c48.2.1.Regs.length : Int) == 16))), (71, .bool (y75 == 8))] (ar (ar (ar trivial))) fun j => ?_
        refine wpn_pk (congrArg Value.bool hb74) ?_
        refine wpn_nil ?_
        injection hF with hF
        subst hF
        refine wpn_end ?_
        exact hQ _ (ar (ar trivial))
      · refine wpn_gF (congrArg (fun x => isB (.bool x) true) hb74) ?_
        refine wpn_pk (congrArg Value.bool hb74) ?_
        refine wpn_nil ?_
        injection hF with hF
        subst hF
        refine wpn_end ?_
        exact hQ _ (ar (ar trivial))
    · refine wpn_q hO 1 [] [(8, .pointer (some ⟨b64, 0, none⟩)), (73, .bool c72)] (ar (ar trivial)) fun j => ?_
      obtain ⟨c80, h81, hF⟩ := bind_some hF
      refine wpn_midq 2 [(79, .bool c80), (8, .pointer (some ⟨b64, 0, none⟩))] (fun Q hQ => ?_) fun j => ?_
      · have hF := h81
        rcases ite_some hF with ⟨hb82, hF⟩ | ⟨hb82, hF⟩
        · refine wpn_gT (congrArg (fun x => isB (.bool x) true) hb82) ?_
          refine wpn_q hO 2 [0] [(8, .pointer (some ⟨b64, 0, none⟩)), (73, .bool c72), (75, .slice A58 c48.2.1.Regs.length c59)] (And.intro (And.intro rfl rfl) (ar (ar (ar trivial)))) fun j => ?_
          obtain ⟨y83, g84, hF⟩ := bind_some hF
          refine wpn_idx (T := (Ty.int .i64)) r57 hO.base rfl rfl g84 (by decide) fun a85 _ k86 m87 => ?_
          obtain rfl : _ = ([.int .i64 y83] : List Value) := k86
          refine wpn_ld rfl (m87.le hO.base).fst ?_
          refine wpn_q hO 1 [] [(8, .pointer (some ⟨b64, 0, none⟩)), (73, .bool c72), (78, .bool (y83 == 6))] (ar (ar (ar trivial))) fun j => ?_
          refine wpn_pk (congrArg Value.bool hb82) ?_
          refine wpn_nil ?_
          injection hF with hF
          subst hF
          refine wpn_end ?_
          exact hQ _ (ar (ar trivial))
        · refine wpn_gF (congrArg (fun x => isB (.bool x) true) hb82) ?_
          refine wpn_pk (congrArg Value.bool hb82) ?_
          refine wpn_nil ?_
          injection hF with hF
          subst hF
          refine wpn_end ?_
          exact hQ _ (ar (ar trivial))
      · refine wpn_q hO 4 [0] [(8, .pointer (some ⟨b64, 0, none⟩)), (86, .bool (c80 && ((c48.2.1.Known.length : Int) == 16)))] (And.intro (And.intro rfl rfl) (And.intro (And.intro rfl rfl) (fun _ => ar (ar trivial)))) fun j => ?_
        obtain ⟨c88, h89, hF⟩ := bind_some hF
        refine wpn_midq 2 [(91, .bool c88), (8, .pointer (some ⟨b64, 0, none⟩))] (fun Q hQ => ?_) fun j => ?_
        · have hF := h89
          rcases ite_some hF with ⟨hb90, hF⟩ | ⟨hb90, hF⟩
          · refine wpn_gT (congrArg (fun x => isB (.bool x) true) hb90) ?_
            refine wpn_q hO 2 [0] [(8, .pointer (some ⟨b64, 0, none⟩)), (86, .bool (c80 && ((c48.2.1.Known.length : Int) == 16))), (88, .slice A54 c48.2.1.Known.length c55)] (And.intro (And.intro rfl rfl) (ar (ar (ar trivial)))) fun j => ?_
            obtain ⟨y91, g92, hF⟩ := bind_some hF
            refine wpn_idx (T := Ty.bool) r53 hO.base rfl rfl g92 (by decide) fun a93 _ k94 m95 => ?_
            obtain rfl : _ = ([.bool y91] : List Value) := k94
            refine wpn_ld rfl (m95.le hO.base).fst ?_
            refine wpn_pk (congrArg Value.bool hb90) ?_
            refine wpn_nil ?_
            injection hF with hF
            subst hF
            refine wpn_end ?_
            exact hQ _ (ar (ar trivial))
          · refine wpn_gF (congrArg (fun x => isB (.bool x) true) hb90) ?_
            refine wpn_pk (congrArg Value.bool hb90) ?_
            refine wpn_nil ?_
            injection hF with hF
            subst hF
            refine wpn_end ?_
            exact hQ _ (ar (ar trivial))
        · refine wpn_q hO 1 [] [(8, .pointer (some ⟨b64, 0, none⟩)), (92, .bool c88)] (ar (ar trivial)) fun j => ?_
          obtain ⟨c96, h97, hF⟩ := bind_some hF
          refine wpn_midq 2 [(98, .bool c96)] (fun Q hQ => ?_) fun j => ?_
          · have hF := h97
            rcases ite_some hF with ⟨hb98, hF⟩ | ⟨hb98, hF⟩
            · refine wpn_gT (congrArg (fun x => isB (.bool x) true) hb98) ?_
              refine wpn_q hO 2 [0] [(92, .bool c88), (94, .slice A54 c48.2.1.Known.length c55)] (And.intro (And.intro rfl rfl) (ar (ar trivial))) fun j => ?_
              obtain ⟨y99, g100, hF⟩ := bind_some hF
              refine wpn_idx (T := Ty.bool) r53 hO.base rfl rfl g100 (by decide) fun a101 _ k102 m103 => ?_
              obtain rfl : _ = ([.bool y99] : List Value) := k102
              refine wpn_ld rfl (m103.le hO.base).fst ?_
              refine wpn_q hO 1 [] [(92, .bool c88), (97, .bool (!y99))] (ar (ar trivial)) fun j => ?_
              refine wpn_pk (congrArg Value.bool hb98) ?_
              refine wpn_nil ?_
              injection hF with hF
              subst hF
              refine wpn_end ?_
              exact hQ _ (ar (trivial))
            · refine wpn_gF (congrArg (fun x => isB (.bool x) true) hb98) ?_
              refine wpn_pk (congrArg Value.bool hb98) ?_
              refine wpn_nil ?_
              injection hF with hF
              subst hF
              refine wpn_end ?_
              exact hQ _ (ar (trivial))
          · refine wpn_qa hO [] [(0, .bool c96)] (ar trivial) fun j => ?_
            refine wpn_r1 ?_
            injection hF with hF
            subst hF
            have hO := hO.sel [] (by decide)
            exact hQ _ _ _ _ _ rfl hO hL ⟨rfl, rfl⟩
end Go.Proofs.Ytneonhnackjdjaa
