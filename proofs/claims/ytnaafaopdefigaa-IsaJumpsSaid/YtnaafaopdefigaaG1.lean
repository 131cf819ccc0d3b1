import Derived.Test.YtnaafaopdefigaaF
import Derived.Test.YtnaafaopdefigaaAc0
import Derived.Test.YtnaafaopdefigaaM00
import Derived.Test.YtnaafaopdefigaaM02
import Derived.Test.YtnaafaopdefigaaG0
namespace Go.Proofs.Ytnaafaopdefigaa
open Go.Ab Go.RowKit
set_option linter.unusedVariables false
set_option linter.unusedSimpArgs false
set_option maxRecDepth 10000
theorem w_isa_lay {τ : Hp} {p0 : S_api_Instr}  {rr : (List UInt8) × Bool} (hF : F_isa_lay p0 = some rr) :
    Ctr Try.prog 23 #[.agg #[.int .u8 p0.Kind.toNat, .int .u8 p0.Op.toNat, .int .i64 p0.R, .int .i64 p0.S, .int .i64 p0.T, .int .i64 p0.N, .int .i64 p0.M]] τ [] (fun v τ' vs' => ∃ (v0 : Value) (o0 : Ob), v = .tuple #[v0, .bool rr.2] ∧ vs' = [o0] ∧ OwnO Ty.u8 5 τ' v0 rr.1 o0) := by
  refine ctr_of (args := [.agg #[.int .u8 p0.Kind.toNat, .int .u8 p0.Op.toNat, .int .i64 p0.R, .int .i64 p0.S, .int .i64 p0.T, .int .i64 p0.N, .int .i64 p0.M]]) hm Try.func23 s23 rfl fun w0 σ hO Q hQ => ?_
  unfold F_isa_lay at hF
  have hL := Hp.le.refl τ
  show wpn _ _ a23.body _ _ _
  unfold a23
  dsimp only
  refine wpn_bx (n := 7) hO rfl rfl fun b2 σ hO => ?_
  have hO : Obs _ _ [_] := hO
  refine wpn_qa hO [] [(1, .pointer (some ⟨b2, 0, none⟩))] (And.intro rfl trivial) fun j => ?_
  refine wpn_q hO 2 [0] [(1, .pointer (some ⟨b2, 0, none⟩)), (11, .int .u8 (p0.Kind.toNat : Int))] (And.intro (And.intro rfl rfl) (And.intro rfl (And.intro rfl trivial))) fun j => ?_
  obtain ⟨c3, h4, hF⟩ := bind_some hF
  refine wpn_c0 hO (w_isa_parts h4) rfl fun _ σ _ _ hO h5 h6 => ?_
  have hL := hL.trans h5
  obtain ⟨v7, o10, rfl, rfl, w11⟩ := h6
  obtain ⟨A8, c9, rfl, -⟩ := w11.form
  have hO : Obs _ _ [_, _] := hO
  refine wpn_qa hO [] [(1, .pointer (some ⟨b2, 0, none⟩)), (4, .slice A8 c3.1.length c9), (5, .bool c3.2)] (And.intro rfl (And.intro rfl (And.intro rfl trivial))) fun j => ?_
  refine wpn_assoc ?_
  refine wpn_qa hO [] [(1, .pointer (some ⟨b2, 0, none⟩)), (4, .slice A8 c3.1.length c9), (16, .bool (!c3.2))] (And.intro rfl (And.intro rfl (And.intro rfl trivial))) fun j => ?_
  rcases ite_some hF with ⟨hb12, hF⟩ | ⟨hb12, hF⟩
  · refine wpn_cT (congrArg Value.bool hb12) ?_
    refine wpn_assoc ?_
    refine wpn_qa hO [] [(2, .slice none 0 0), (3, .bool false)] (And.intro rfl (And.intro rfl trivial)) fun j => ?_
    refine wpn_rt ?_
    have hO := hO.no
    have hO : Obs _ _ [_, _, _] := hO
    injection hF with hF
    subst hF
    have hO := hO.sel [2] (by decide)
    exact hQ _ _ _ _ _ rfl hO hL ⟨_, _, rfl, rfl, (OwnO.nil _ _ _)⟩
  · refine wpn_cF (congrArg Value.bool hb12) ?_
    refine wpn_sk ?_
    refine wpn_q hO 2 [0] [(1, .pointer (some ⟨b2, 0, none⟩)), (4, .slice A8 c3.1.length c9), (18, .int .u8 (p0.Kind.toNat : Int))] (And.intro (And.intro rfl rfl) (And.intro rfl (And.intro rfl (And.intro rfl trivial)))) fun j => ?_
    refine wpn_lit (T := Ty.u8) (l := ([p0.Kind] : List UInt8)) (cs := [.int .u8 (p0.Kind.toNat : Int)]) hO rfl ⟨[.int .u8 (p0.Kind.toNat : Int)], _, rfl, rfl, rfl⟩ rfl (by decide) fun _ σ o15 w16 hO => ?_
    obtain ⟨A13, c14, rfl, -⟩ := w16.form
    have hO : Obs _ _ [_, _, _] := hO
    refine wpn_qa hO [] [(1, .pointer (some ⟨b2, 0, none⟩)), (4, .slice A8 c3.1.length c9), (6, .slice A13 ([p0.Kind] : List UInt8).length c14)] (And.intro rfl (And.intro rfl (And.intro rfl trivial))) fun j => ?_
    refine wpn_assoc ?_
    refine wpn_qa hO [] [(1, .pointer (some ⟨b2, 0, none⟩)), (6, .slice A13 ([p0.Kind] : List UInt8).length c14), (20, .slice A8 c3.1.length c9), (21, .int .i64 (c3.1.length : Int)), (22, .int .i64 0)] (And.intro rfl (And.intro rfl (And.intro rfl (And.intro rfl (And.intro rfl trivial))))) fun j => ?_
    refine wpn_bl ?_
    have hO := hO.sel [0, 2, 1] (by decide)
    refine wpn_lp (fun (n : Nat) e' σ' => ∃ (x60 : UInt8) (x61 : UInt8) (x62 : Int) (x63 : Int) (x64 : Int) (x65 : Int) (x66 : Int) (A67 : Option Addr) (c68 : Nat) (o69 : Ob) (x70 : List UInt8) (A72 : Option Addr) (c73 : Nat) (o74 : Ob) (x75 : List D_isa_part) (x77 : Int) (τ' : Hp), agr [(1, .pointer (some ⟨b2, 0, none⟩)), (6, .slice A67 x70.length c68), (20, .slice A72 x75.length c73), (21, .int .i64 (c3.1.length : Int)), (22, .int .i64 x77)] e' ∧ Obs τ' σ' [some (b2, ⟨[.int .u8 (x60.toNat : Int), .int .u8 (x61.toNat : Int), .int .i64 x62, .int .i64 x63, .int .i64 x64, .int .i64 x65, .int .i64 x66], 24, 7, true⟩), o69, o74] ∧ Hp.le τ τ' ∧ OwnO Ty.u8 5 τ' (.slice A67 x70.length c68) x70 o69 ∧ OwnO TyD_isa_part 73 τ' (.slice A72 x75.length c73) x75 o74 ∧ F_isa_lay_l3 c3 n x60 x61 x62 x63 x64 x65 x66 x70 x75 x77 = some rr) big ⟨p0.Kind, p0.Op, p0.R, p0.S, p0.T, p0.N, p0.M, A13, c14, o15, ([p0.Kind] : List UInt8), A8, c9, o10, c3.1, 0, _, And.intro rfl (And.intro rfl (And.intro rfl (And.intro rfl (And.intro rfl trivial)))), hO, hL, w16, w11, hF⟩ ?_
    clear hF hO hL
    rintro n111 e σ ⟨x60, x61, x62, x63, x64, x65, x66, A67, c68, o69, x70, A72, c73, o74, x75, x77, _, hA, hO, hL, w71, w76, hF⟩
    rw [← sets_agr _ _ hA]
    cases n111 with
    | zero => exact nomatch (show none = some rr from hF)
    | succ n111 =>
      replace hF : F_isa_lay_l3B (F_isa_lay_l3 c3 n111) c3 x60 x61 x62 x63 x64 x65 x66 x70 x75 x77 = some rr := hF
      unfold F_isa_lay_l3B at hF
      refine wpn_qa hO [] [(1, .pointer (some ⟨b2, 0, none⟩)), (6, .slice A67 x70.length c68), (20, .slice A72 x75.length c73), (21, .int .i64 (c3.1.length : Int)), (22, .int .i64 x77), (23, .bool (decide (x77 < (c3.1.length : Int))))] (And.intro rfl (And.intro rfl (And.intro rfl (And.intro rfl (And.intro rfl (And.intro rfl trivial)))))) fun j => ?_
      rcases ite_some hF with ⟨hb112, hF⟩ | ⟨hb112, hF⟩
      · refine wpn_cT (congrArg Value.bool hb112) ?_
        refine wpn_sk ?_
        refine wpn_bl ?_
        obtain ⟨y113, g114, hF⟩ := bind_some hF
        refine wpn_ido (T := TyD_isa_part) hO w76 (i := 2) rfl rfl rfl g114 (by decide) fun a115 _ k116 m117 i118 => ?_
        have k119 := k116
        obtain ⟨f121, a122, c123, f124, a125, c126, f127, a128, c129, rfl, r120⟩ := k119
        refine wpn_ld rfl (m117.all rfl) ?_
        refine wpn_al hO fun b130 σ hO => ?_
        have hO : Obs _ _ [_, _, _, _] := hO
        refine wpn_st hO (i := 3) rfl (off := 0) rfl rfl rfl rfl (Nat.le_of_ble_eq_true rfl) rfl fun σ hO => ?_
        have hO : Obs _ _ [_, _, _, _] := hO
        refine wpn_nil ?_
        refine wpn_assoc ?_
        refine wpn_q hO 2 [3] [(1, .pointer (some ⟨b2, 0, none⟩)), (6, .slice A67 x70.length c68), (8, .pointer (some ⟨b130, 0, none⟩)), (20, .slice A72 x75.length c73), (21, .int .i64 (c3.1.length : Int)), (22, .int .i64 x77), (27, .func f121 a122 c123)] (And.intro (And.intro rfl rfl) (And.intro rfl (And.intro rfl (And.intro rfl (And.intro rfl (And.intro rfl (And.intro rfl (And.intro rfl trivial)))))))) fun j => ?_
        obtain ⟨c131, h132, hF⟩ := bind_some hF
        have hO := hO.sel [1, 2, 3, 0] (by decide)
        refine wpn_fv (hs := [_, _, _]) (vs := [_]) rfl hO (w_fd_isa_part_0 r120 h132) rfl fun _ σ _ _ hO h133 h134 => ?_
        have hL := hL.trans h133
        have w71 := w71.le h133
        have w76 := w76.le h133
        have r120 := r120.le h133
        obtain ⟨rfl, rfl⟩ := h134
        have hO : Obs _ _ [_, _, _, _] := hO
        refine wpn_qa hO [] [(1, .pointer (some ⟨b2, 0, none⟩)), (6, .slice A67 x70.length c68), (8, .pointer (some ⟨b130, 0, none⟩)), (20, .slice A72 x75.length c73), (21, .int .i64 (c3.1.length : Int)), (22, .int .i64 x77), (29, .bool (!c131.1))] (And.intro rfl (And.intro rfl (And.intro rfl (And.intro rfl (And.intro rfl (And.intro rfl (And.intro rfl trivial))))))) fun j => ?_
        rcases ite_some hF with ⟨hb135, hF⟩ | ⟨hb135, hF⟩
        · refine wpn_cT (congrArg Value.bool hb135) ?_
          refine wpn_assoc ?_
          refine wpn_qa hO [] [(2, .slice none 0 0), (3, .bool false)] (And.intro rfl (And.intro rfl trivial)) fun j => ?_
          refine wpn_rt ?_
          refine inb_r1 ?_
          refine thn_r1 ?_
          refine thn_r1 ?_
          refine inb_r1 ?_
          refine thn_r1 ?_
          have hO := hO.no
          have hO : Obs _ _ [_, _, _, _, _] := hO
          injection hF with hF
          subst hF
          have hO := hO.sel [4] (by decide)
          exact hQ _ _ _ _ _ rfl hO hL ⟨_, _, rfl, rfl, (OwnO.nil _ _ _)⟩
        · refine wpn_cF (congrArg Value.bool hb135) ?_
          refine wpn_sk ?_
          refine wpn_rlast ?_
          refine wpn_q hO 3 [2] [(1, .pointer (some ⟨b2, 0, none⟩)), (20, .slice A72 x75.length c73), (21, .int .i64 (c3.1.length : Int)), (22, .int .i64 x77), (31, .func f124 a125 c126), (32, .slice A67 x70.length c68)] (And.intro (And.intro rfl rfl) (And.intro rfl (And.intro rfl (And.intro rfl (And.intro rfl (And.intro rfl (And.intro rfl trivial))))))) fun j => ?_
          obtain ⟨c136, h137, hF⟩ := bind_some hF
          have hO := hO.sel [1, 2, 0, 3] (by decide)
          refine wpn_fv (hs := [_, _]) (vs := [_, _]) rfl hO (w_fd_isa_part_1 r120 w71 h137) rfl fun _ σ _ _ hO h138 h139 => ?_
          have hL := hL.trans h138
          have w76 := w76.le h138
          have r120 := r120.le h138
          obtain ⟨v140, o143, rfl, rfl, w144⟩ := h139
          obtain ⟨A141, c142, rfl, -⟩ := w144.form
          have hO : Obs _ _ [_, _, _, _] := hO
          refine wpn_qa hO [] [(1, .pointer (some ⟨b2, 0, none⟩)), (6, .slice A141 c136.1.length c142), (20, .slice A72 x75.length c73), (21, .int .i64 (c3.1.length : Int)), (22, .int .i64 x77)] (And.intro rfl (And.intro rfl (And.intro rfl (And.intro rfl (And.intro rfl trivial))))) fun j => ?_
          refine wpn_end ?_
          refine inb_i ?_
          refine thn_i ?_
          refine wpn_rlast ?_
          refine wpn_qa hO [] [(1, .pointer (some ⟨b2, 0, none⟩)), (6, .slice A141 c136.1.length c142), (20, .slice A72 x75.length c73), (21, .int .i64 (c3.1.length : Int)), (22, .int .i64 (IntKind.i64.wrap (x77 + 1)))] (And.intro rfl (And.intro rfl (And.intro rfl (And.intro rfl (And.intro rfl trivial))))) fun j => ?_
          refine wpn_end ?_
          refine thn_i ?_
          have hO := hO.sel [3, 2, 0] (by decide)
          exact ⟨n111, Nat.lt_succ_self _, c136.2.Kind, c136.2.Op, c136.2.R, c136.2.S, c136.2.T, c136.2.N, c136.2.M, A141, c142, o143, c136.1, A72, c73, o74, x75, (IntKind.i64.wrap (x77 + 1)), _, And.intro rfl (And.intro rfl (And.intro rfl (And.intro rfl (And.intro rfl trivial)))), hO, hL, w144, w76, hF⟩
      · refine wpn_cF (congrArg Value.bool hb112) ?_
        refine wpn_ex ?_
        refine thn_x ?_
        refine inb_x ?_
        refine thn_i ?_
        refine wpn_qa hO [] [(2, .slice A67 x70.length c68), (3, .bool true)] (And.intro rfl (And.intro rfl trivial)) fun j => ?_
        refine wpn_r1 ?_
        injection hF with hF
        subst hF
        have hO := hO.sel [1] (by decide)
        exact hQ _ _ _ _ _ rfl hO hL ⟨_, _, rfl, rfl, w71⟩
theorem w_isa_single_2_sf_one_3 {τ : Hp} {v0 : Value} {p0 : (List UInt8)} {p1 : Int} {q2 : S_api_Instr} {bm2 : Nat} {af0 : Addr} (r0 : RdT Ty.u8 τ v0 p0) (mf0 : At τ af0 [.func (.func 60) #[] #[]]) {rr : Int × Bool × S_api_Instr} (hF : F_isa_single_2_sf_one_3 p0 p1 q2 = some rr) :
    Ctr Try.prog 90 #[v0, .int .i64 p1, .pointer (some ⟨bm2, 0, none⟩), .pointer (some af0)] τ [some (bm2, ⟨[.int .u8 q2.Kind.toNat, .int .u8 q2.Op.toNat, .int .i64 q2.R, .int .i64 q2.S, .int .i64 q2.T, .int .i64 q2.N, .int .i64 q2.M], 24, 7, true⟩)] (fun v τ' vs' => v = .tuple #[.int .i64 rr.1, .bool rr.2.1] ∧ vs' = [some (bm2, ⟨[.int .u8 rr.2.2.Kind.toNat, .int .u8 rr.2.2.Op.toNat, .int .i64 rr.2.2.R, .int .i64 rr.2.2.S, .int .i64 rr.2.2.T, .int .i64 rr.2.2.N, .int .i64 rr.2.2.M], 24, 7, true⟩)]) := by
  obtain ⟨A0, c0, rfl, -⟩ := r0.form
  refine ctr_of (args := [.slice A0 p0.length c0, .int .i64 p1, .pointer (some ⟨bm2, 0, none⟩), .pointer (some af0)]) hm Try.func90 s90 rfl fun w0 σ hO Q hQ => ?_
  unfold F_isa_single_2_sf_one_3 at hF
  have hL := Hp.le.refl τ
  show wpn _ _ a90.body _ _ _
  unfold a90
  dsimp only
  refine wpn_qa hO [] [(0, .slice A0 p0.length c0), (1, .int .i64 p1), (2, .pointer (some ⟨bm2, 0, none⟩)), (3, .pointer (some af0))] (And.intro rfl (And.intro rfl (And.intro rfl (And.intro rfl trivial)))) fun j => ?_
  refine wpn_q hO 2 [] [(2, .pointer (some ⟨bm2, 0, none⟩)), (3, .pointer (some af0)), (13, .slice A0 p0.length c0), (14, .int .i64 p1)] (And.intro rfl (And.intro rfl (And.intro rfl (And.intro rfl trivial)))) fun j => ?_
  obtain ⟨c4, h5, hF⟩ := bind_some hF
  refine wpn_c0 hO (w_octet_One r0 h5) rfl fun _ σ _ _ hO h6 h7 => ?_
  have hL := hL.trans h6
  have mf0 := mf0.le h6
  have r0 := r0.le h6
  obtain ⟨rfl, rfl⟩ := h7
  have hO : Obs _ _ [_] := hO
  refine wpn_qa hO [] [(2, .pointer (some ⟨bm2, 0, none⟩)), (3, .pointer (some af0)), (9, .int .u8 c4.1), (10, .int .i64 c4.2.1), (11, .int .i64 c4.2.2)] (And.intro rfl (And.intro rfl (And.intro rfl (And.intro rfl (And.intro rfl trivial))))) fun j => ?_
  refine wpn_ld rfl (mf0.le hO.base).fst ?_
  refine wpn_q hO 2 [] [(2, .pointer (some ⟨bm2, 0, none⟩)), (10, .int .i64 c4.2.1), (11, .int .i64 c4.2.2), (19, .func (.func 60) #[] #[]), (20, .pointer (some ⟨bm2, 0, none⟩)), (21, .int .u8 c4.1)] (And.intro rfl (And.intro rfl (And.intro rfl (And.intro rfl (And.intro rfl (And.intro rfl trivial)))))) fun j => ?_
  obtain ⟨c8, h9, hF⟩ := bind_some hF
  refine wpn_cv (hs := []) (vs := [_]) rfl (by kernel_rfl) hO (w_isa_one_3 h9) rfl fun _ σ _ _ hO h10 h11 => ?_
  have hL := hL.trans h10
  obtain ⟨rfl, rfl⟩ := h11
  have hO : Obs _ _ [_] := hO
  refine wpn_nil ?_
  refine wpn_qa hO [] [(2, .pointer (some ⟨bm2, 0, none⟩)), (7, .int .i64 c4.2.1), (8, .bool (c4.2.2 == 0))] (And.intro rfl (And.intro rfl (And.intro rfl trivial))) fun j => ?_
  refine wpn_r1 ?_
  injection hF with hF
  subst hF
  exact hQ _ _ _ _ _ rfl hO hL ⟨rfl, rfl⟩
theorem w_isa_single_2_sf_both_3 {τ : Hp} {v0 : Value} {p0 : (List UInt8)} {p1 : Int} {q2 : S_api_Instr} {bm2 : Nat} {af0 : Addr} (r0 : RdT Ty.u8 τ v0 p0) (mf0 : At τ af0 [.func (.func 68) #[] #[]]) {rr : Int × Bool × S_api_Instr} (hF : F_isa_single_2_sf_both_3 p0 p1 q2 = some rr) :
    Ctr Try.prog 90 #[v0, .int .i64 p1, .pointer (some ⟨bm2, 0, none⟩), .pointer (some af0)] τ [some (bm2, ⟨[.int .u8 q2.Kind.toNat, .int .u8 q2.Op.toNat, .int .i64 q2.R, .int .i64 q2.S, .int .i64 q2.T, .int .i64 q2.N, .int .i64 q2.M], 24, 7, true⟩)] (fun v τ' vs' => v = .tuple #[.int .i64 rr.1, .bool rr.2.1] ∧ vs' = [some (bm2, ⟨[.int .u8 rr.2.2.Kind.toNat, .int .u8 rr.2.2.Op.toNat, .int .i64 rr.2.2.R, .int .i64 rr.2.2.S, .int .i64 rr.2.2.T, .int .i64 rr.2.2.N, .int .i64 rr.2.2.M], 24, 7, true⟩)]) := by
  obtain ⟨A0, c0, rfl, -⟩ := r0.form
  refine ctr_of (args := [.slice A0 p0.length c0, .int .i64 p1, .pointer (some ⟨bm2, 0, none⟩), .pointer (some af0)]) hm Try.func90 s90 rfl fun w0 σ hO Q hQ => ?_
  unfold F_isa_single_2_sf_both_3 at hF
  have hL := Hp.le.refl τ
  show wpn _ _ a90.body _ _ _
  unfold a90
  dsimp only
  refine wpn_qa hO [] [(0, .slice A0 p0.length c0), (1, .int .i64 p1), (2, .pointer (some ⟨bm2, 0, none⟩)), (3, .pointer (some af0))] (And.intro rfl (And.intro rfl (And.intro rfl (And.intro rfl trivial)))) fun j => ?_
  refine wpn_q hO 2 [] [(2, .pointer (some ⟨bm2, 0, none⟩)), (3, .pointer (some af0)), (13, .slice A0 p0.length c0), (14, .int .i64 p1)] (And.intro rfl (And.intro rfl (And.intro rfl (And.intro rfl trivial)))) fun j => ?_
  obtain ⟨c4, h5, hF⟩ := bind_some hF
  refine wpn_c0 hO (w_octet_One r0 h5) rfl fun _ σ _ _ hO h6 h7 => ?_
  have hL := hL.trans h6
  have mf0 := mf0.le h6
  have r0 := r0.le h6
  obtain ⟨rfl, rfl⟩ := h7
  have hO : Obs _ _ [_] := hO
  refine wpn_qa hO [] [(2, .pointer (some ⟨bm2, 0, none⟩)), (3, .pointer (some af0)), (9, .int .u8 c4.1), (10, .int .i64 c4.2.1), (11, .int .i64 c4.2.2)] (And.intro rfl (And.intro rfl (And.intro rfl (And.intro rfl (And.intro rfl trivial))))) fun j => ?_
  refine wpn_ld rfl (mf0.le hO.base).fst ?_
  refine wpn_q hO 2 [] [(2, .pointer (some ⟨bm2, 0, none⟩)), (10, .int .i64 c4.2.1), (11, .int .i64 c4.2.2), (19, .func (.func 68) #[] #[]), (20, .pointer (some ⟨bm2, 0, none⟩)), (21, .int .u8 c4.1)] (And.intro rfl (And.intro rfl (And.intro rfl (And.intro rfl (And.intro rfl (And.intro rfl trivial)))))) fun j => ?_
  obtain ⟨c8, h9, hF⟩ := bind_some hF
  refine wpn_cv (hs := []) (vs := [_]) rfl (by kernel_rfl) hO (w_isa_both_3 h9) rfl fun _ σ _ _ hO h10 h11 => ?_
  have hL := hL.trans h10
  obtain ⟨rfl, rfl⟩ := h11
  have hO : Obs _ _ [_] := hO
  refine wpn_nil ?_
  refine wpn_qa hO [] [(2, .pointer (some ⟨bm2, 0, none⟩)), (7, .int .i64 c4.2.1), (8, .bool (c4.2.2 == 0))] (And.intro rfl (And.intro rfl (And.intro rfl trivial))) fun j => ?_
  refine wpn_r1 ?_
  injection hF with hF
  subst hF
  exact hQ _ _ _ _ _ rfl hO hL ⟨rfl, rfl⟩
theorem w_isa_single_2_sf_op_3 {τ : Hp} {v0 : Value} {p0 : (List UInt8)} {p1 : Int} {q2 : S_api_Instr} {bm2 : Nat} {af0 : Addr} (r0 : RdT Ty.u8 τ v0 p0) (mf0 : At τ af0 [.func (.func 72) #[] #[]]) {rr : Int × Bool × S_api_Instr} (hF : F_isa_single_2_sf_op_3 p0 p1 q2 = some rr) :
    Ctr Try.prog 90 #[v0, .int .i64 p1, .pointer (some ⟨bm2, 0, none⟩), .pointer (some af0)] τ [some (bm2, ⟨[.int .u8 q2.Kind.toNat, .int .u8 q2.Op.toNat, .int .i64 q2.R, .int .i64 q2.S, .int .i64 q2.T, .int .i64 q2.N, .int .i64 q2.M], 24, 7, true⟩)] (fun v τ' vs' => v = .tuple #[.int .i64 rr.1, .bool rr.2.1] ∧ vs' = [some (bm2, ⟨[.int .u8 rr.2.2.Kind.toNat, .int .u8 rr.2.2.Op.toNat, .int .i64 rr.2.2.R, .int .i64 rr.2.2.S, .int .i64 rr.2.2.T, .int .i64 rr.2.2.N, .int .i64 rr.2.2.M], 24, 7, true⟩)]) := by
  obtain ⟨A0, c0, rfl, -⟩ := r0.form
  refine ctr_of (args := [.slice A0 p0.length c0, .int .i64 p1, .pointer (some ⟨bm2, 0, none⟩), .pointer (some af0)]) hm Try.func90 s90 rfl fun w0 σ hO Q hQ => ?_
  unfold F_isa_single_2_sf_op_3 at hF
  have hL := Hp.le.refl τ
  show wpn _ _ a90.body _ _ _
  unfold a90
  dsimp only
  refine wpn_qa hO [] [(0, .slice A0 p0.length c0), (1, .int .i64 p1), (2, .pointer (some ⟨bm2, 0, none⟩)), (3, .pointer (some af0))] (And.intro rfl (And.intro rfl (And.intro rfl (And.intro rfl trivial)))) fun j => ?_
  refine wpn_q hO 2 [] [(2, .pointer (some ⟨bm2, 0, none⟩)), (3, .pointer (some af0)), (13, .slice A0 p0.length c0), (14, .int .i64 p1)] (And.intro rfl (And.intro rfl (And.intro rfl (And.intro rfl trivial)))) fun j => ?_
  obtain ⟨c4, h5, hF⟩ := bind_some hF
  refine wpn_c0 hO (w_octet_One r0 h5) rfl fun _ σ _ _ hO h6 h7 => ?_
  have hL := hL.trans h6
  have mf0 := mf0.le h6
  have r0 := r0.le h6
  obtain ⟨rfl, rfl⟩ := h7
  have hO : Obs _ _ [_] := hO
  refine wpn_qa hO [] [(2, .pointer (some ⟨bm2, 0, none⟩)), (3, .pointer (some af0)), (9, .int .u8 c4.1), (10, .int .i64 c4.2.1), (11, .int .i64 c4.2.2)] (And.intro rfl (And.intro rfl (And.intro rfl (And.intro rfl (And.intro rfl trivial))))) fun j => ?_
  refine wpn_ld rfl (mf0.le hO.base).fst ?_
  refine wpn_q hO 2 [] [(2, .pointer (some ⟨bm2, 0, none⟩)), (10, .int .i64 c4.2.1), (11, .int .i64 c4.2.2), (19, .func (.func 72) #[] #[]), (20, .pointer (some ⟨bm2, 0, none⟩)), (21, .int .u8 c4.1)] (And.intro rfl (And.intro rfl (And.intro rfl (And.intro rfl (And.intro rfl (And.intro rfl trivial)))))) fun j => ?_
  obtain ⟨c8, h9, hF⟩ := bind_some hF
  refine wpn_cv (hs := []) (vs := [_]) rfl (by kernel_rfl) hO (w_isa_op_3 h9) rfl fun _ σ _ _ hO h10 h11 => ?_
  have hL := hL.trans h10
  obtain ⟨rfl, rfl⟩ := h11
  have hO : Obs _ _ [_] := hO
  refine wpn_nil ?_
  refine wpn_qa hO [] [(2, .pointer (some ⟨bm2, 0, none⟩)), (7, .int .i64 c4.2.1), (8, .bool (c4.2.2 == 0))] (And.intro rfl (And.intro rfl (And.intro rfl trivial))) fun j => ?_
  refine wpn_r1 ?_
  injection hF with hF
  subst hF
  exact hQ _ _ _ _ _ rfl hO hL ⟨rfl, rfl⟩
theorem w_isa_single_2_sf_third_3 {τ : Hp} {v0 : Value} {p0 : (List UInt8)} {p1 : Int} {q2 : S_api_Instr} {bm2 : Nat} {af0 : Addr} (r0 : RdT Ty.u8 τ v0 p0) (mf0 : At τ af0 [.func (.func 75) #[] #[]]) {rr : Int × Bool × S_api_Instr} (hF : F_isa_single_2_sf_third_3 p0 p1 q2 = some rr) :
    Ctr Try.prog 90 #[v0, .int .i64 p1, .pointer (some ⟨bm2, 0, none⟩), .pointer (some af0)] τ [some (bm2, ⟨[.int .u8 q2.Kind.toNat, .int .u8 q2.Op.toNat, .int .i64 q2.R, .int .i64 q2.S, .int .i64 q2.T, .int .i64 q2.N, .int .i64 q2.M], 24, 7, true⟩)] (fun v τ' vs' => v = .tuple #[.int .i64 rr.1, .bool rr.2.1] ∧ vs' = [some (bm2, ⟨[.int .u8 rr.2.2.Kind.toNat, .int .u8 rr.2.2.Op.toNat, .int .i64 rr.2.2.R, .int .i64 rr.2.2.S, .int .i64 rr.2.2.T, .int .i64 rr.2.2.N, .int .i64 rr.2.2.M], 24, 7, true⟩)]) := by
  obtain ⟨A0, c0, rfl, -⟩ := r0.form
  refine ctr_of (args := [.slice A0 p0.length c0, .int .i64 p1, .pointer (some ⟨bm2, 0, none⟩), .pointer (some af0)]) hm Try.func90 s90 rfl fun w0 σ hO Q hQ => ?_
  unfold F_isa_single_2_sf_third_3 at hF
  have hL := Hp.le.refl τ
  show wpn _ _ a90.body _ _ _
  unfold a90
  dsimp only
  refine wpn_qa hO [] [(0, .slice A0 p0.length c0), (1, .int .i64 p1), (2, .pointer (some ⟨bm2, 0, none⟩)), (3, .pointer (some af0))] (And.intro rfl (And.intro rfl (And.intro rfl (And.intro rfl trivial)))) fun j => ?_
  refine wpn_q hO 2 [] [(2, .pointer (some ⟨bm2, 0, none⟩)), (3, .pointer (some af0)), (13, .slice A0 p0.length c0), (14, .int .i64 p1)] (And.intro rfl (And.intro rfl (And.intro rfl (And.intro rfl trivial)))) fun j => ?_
  obtain ⟨c4, h5, hF⟩ := bind_some hF
  refine wpn_c0 hO (w_octet_One r0 h5) rfl fun _ σ _ _ hO h6 h7 => ?_
  have hL := hL.trans h6
  have mf0 := mf0.le h6
  have r0 := r0.le h6
  obtain ⟨rfl, rfl⟩ := h7
  have hO : Obs _ _ [_] := hO
  refine wpn_qa hO [] [(2, .pointer (some ⟨bm2, 0, none⟩)), (3, .pointer (some af0)), (9, .int .u8 c4.1), (10, .int .i64 c4.2.1), (11, .int .i64 c4.2.2)] (And.intro rfl (And.intro rfl (And.intro rfl (And.intro rfl (And.intro rfl trivial))))) fun j => ?_
  refine wpn_ld rfl (mf0.le hO.base).fst ?_
  refine wpn_q hO 2 [] [(2, .pointer (some ⟨bm2, 0, none⟩)), (10, .int .i64 c4.2.1), (11, .int .i64 c4.2.2), (19, .func (.func 75) #[] #[]), (20, .pointer (some ⟨bm2, 0, none⟩)), (21, .int .u8 c4.1)] (And.intro rfl (And.intro rfl (And.intro rfl (And.intro rfl (And.intro rfl (And.intro rfl trivial)))))) fun j => ?_
  obtain ⟨c8, h9, hF⟩ := bind_some hF
  refine wpn_cv (hs := []) (vs := [_]) rfl (by kernel_rfl) hO (w_isa_third_3 h9) rfl fun _ σ _ _ hO h10 h11 => ?_
  have hL := hL.trans h10
  obtain ⟨rfl, rfl⟩ := h11
  have hO : Obs _ _ [_] := hO
  refine wpn_nil ?_
  refine wpn_qa hO [] [(2, .pointer (some ⟨bm2, 0, none⟩)), (7, .int .i64 c4.2.1), (8, .bool (c4.2.2 == 0))] (And.intro rfl (And.intro rfl (And.intro rfl trivial))) fun j => ?_
  refine wpn_r1 ?_
  injection hF with hF
  subst hF
  exact hQ _ _ _ _ _ rfl hO hL ⟨rfl, rfl⟩
theorem w_isa_single_2_sf_how_3 {τ : Hp} {v0 : Value} {p0 : (List UInt8)} {p1 : Int} {q2 : S_api_Instr} {bm2 : Nat} {af0 : Addr} (r0 : RdT Ty.u8 τ v0 p0) (mf0 : At τ af0 [.func (.func 88) #[] #[]]) {rr : Int × Bool × S_api_Instr} (hF : F_isa_single_2_sf_how_3 p0 p1 q2 = some rr) :
    Ctr Try.prog 90 #[v0, .int .i64 p1, .pointer (some ⟨bm2, 0, none⟩), .pointer (some af0)] τ [some (bm2, ⟨[.int .u8 q2.Kind.toNat, .int .u8 q2.Op.toNat, .int .i64 q2.R, .int .i64 q2.S, .int .i64 q2.T, .int .i64 q2.N, .int .i64 q2.M], 24, 7, true⟩)] (fun v τ' vs' => v = .tuple #[.int .i64 rr.1, .bool rr.2.1] ∧ vs' = [some (bm2, ⟨[.int .u8 rr.2.2.Kind.toNat, .int .u8 rr.2.2.Op.toNat, .int .i64 rr.2.2.R, .int .i64 rr.2.2.S, .int .i64 rr.2.2.T, .int .i64 rr.2.2.N, .int .i64 rr.2.2.M], 24, 7, true⟩)]) := by
  obtain ⟨A0, c0, rfl, -⟩ := r0.form
  refine ctr_of (args := [.slice A0 p0.length c0, .int .i64 p1, .pointer (some ⟨bm2, 0, none⟩), .pointer (some af0)]) hm Try.func90 s90 rfl fun w0 σ hO Q hQ => ?_
  unfold F_isa_single_2_sf_how_3 at hF
  have hL := Hp.le.refl τ
  show wpn _ _ a90.body _ _ _
  unfold a90
  dsimp only
  refine wpn_qa hO [] [(0, .slice A0 p0.length c0), (1, .int .i64 p1), (2, .pointer (some ⟨bm2, 0, none⟩)), (3, .pointer (some af0))] (And.intro rfl (And.intro rfl (And.intro rfl (And.intro rfl trivial)))) fun j => ?_
  refine wpn_q hO 2 [] [(2, .pointer (some ⟨bm2, 0, none⟩)), (3, .pointer (some af0)), (13, .slice A0 p0.length c0), (14, .int .i64 p1)] (And.intro rfl (And.intro rfl (And.intro rfl (And.intro rfl trivial)))) fun j => ?_
  obtain ⟨c4, h5, hF⟩ := bind_some hF
  refine wpn_c0 hO (w_octet_One r0 h5) rfl fun _ σ _ _ hO h6 h7 => ?_
  have hL := hL.trans h6
  have mf0 := mf0.le h6
  have r0 := r0.le h6
  obtain ⟨rfl, rfl⟩ := h7
  have hO : Obs _ _ [_] := hO
  refine wpn_qa hO [] [(2, .pointer (some ⟨bm2, 0, none⟩)), (3, .pointer (some af0)), (9, .int .u8 c4.1), (10, .int .i64 c4.2.1), (11, .int .i64 c4.2.2)] (And.intro rfl (And.intro rfl (And.intro rfl (And.intro rfl (And.intro rfl trivial))))) fun j => ?_
  refine wpn_ld rfl (mf0.le hO.base).fst ?_
  refine wpn_q hO 2 [] [(2, .pointer (some ⟨bm2, 0, none⟩)), (10, .int .i64 c4.2.1), (11, .int .i64 c4.2.2), (19, .func (.func 88) #[] #[]), (20, .pointer (some ⟨bm2, 0, none⟩)), (21, .int .u8 c4.1)] (And.intro rfl (And.intro rfl (And.intro rfl (And.intro rfl (And.intro rfl (And.intro rfl trivial)))))) fun j => ?_
  obtain ⟨c8, h9, hF⟩ := bind_some hF
  refine wpn_cv (hs := []) (vs := [_]) rfl (by kernel_rfl) hO (w_isa_how_3 h9) rfl fun _ σ _ _ hO h10 h11 => ?_
  have hL := hL.trans h10
  obtain ⟨rfl, rfl⟩ := h11
  have hO : Obs _ _ [_] := hO
  refine wpn_nil ?_
  refine wpn_qa hO [] [(2, .pointer (some ⟨bm2, 0, none⟩)), (7, .int .i64 c4.2.1), (8, .bool (c4.2.2 == 0))] (And.intro rfl (And.intro rfl (And.intro rfl trivial))) fun j => ?_
  refine wpn_r1 ?_
  injection hF with hF
  subst hF
  exact hQ _ _ _ _ _ rfl hO hL ⟨rfl, rfl⟩
theorem w_fd_isa_part_2 {τ : Hp} {x : D_isa_part} {u0 u1 u2 : Value} (hx : RD_isa_part τ x u0 u1 u2) {v0 : Value} {p0 : (List UInt8)} {p1 : Int} {q2 : S_api_Instr} {bm2 : Nat} (r0 : RdT Ty.u8 τ v0 p0) {rr : Int × Bool × S_api_Instr} (hF : F_fd_isa_part_2 x p0 p1 q2 = some rr) :
    FnC Try.prog u2 #[v0, .int .i64 p1, .pointer (some ⟨bm2, 0, none⟩)] τ [some (bm2, ⟨[.int .u8 q2.Kind.toNat, .int .u8 q2.Op.toNat, .int .i64 q2.R, .int .i64 q2.S, .int .i64 q2.T, .int .i64 q2.N, .int .i64 q2.M], 24, 7, true⟩)] (fun v τ' vs' => v = .tuple #[.int .i64 rr.1, .bool rr.2.1] ∧ vs' = [some (bm2, ⟨[.int .u8 rr.2.2.Kind.toNat, .int .u8 rr.2.2.Op.toNat, .int .i64 rr.2.2.R, .int .i64 rr.2.2.S, .int .i64 rr.2.2.T, .int .i64 rr.2.2.N, .int .i64 rr.2.2.M], 24, 7, true⟩)]) := by
  cases x with
  | c_one_1 => obtain ⟨a1_0, a2_0, rfl, rfl, rfl, m0, m1⟩ := hx; exact ⟨90, #[], #[.pointer (some a2_0)], _, rfl, by kernel_rfl, rfl, w_isa_single_2_sf_one_3 r0 m1 hF⟩
  | c_both_1 => obtain ⟨a1_0, a2_0, rfl, rfl, rfl, m0, m1⟩ := hx; exact ⟨90, #[], #[.pointer (some a2_0)], _, rfl, by kernel_rfl, rfl, w_isa_single_2_sf_both_3 r0 m1 hF⟩
  | c_op_1 x0 x1 => obtain ⟨a0_0, a0_1, a1_0, a2_0, rfl, rfl, rfl, m0, m1, m2, m3⟩ := hx; exact ⟨90, #[], #[.pointer (some a2_0)], _, rfl, by kernel_rfl, rfl, w_isa_single_2_sf_op_3 r0 m3 hF⟩
  | c_third_1 => obtain ⟨a1_0, a2_0, rfl, rfl, rfl, m0, m1⟩ := hx; exact ⟨90, #[], #[.pointer (some a2_0)], _, rfl, by kernel_rfl, rfl, w_isa_single_2_sf_third_3 r0 m1 hF⟩
  | c_bound_1 => obtain ⟨rfl, rfl, rfl⟩ := hx; exact ⟨79, #[], #[], _, rfl, by kernel_rfl, rfl, w_isa_bound_3 r0 hF⟩
  | c_to_1 => obtain ⟨rfl, rfl, rfl⟩ := hx; exact ⟨84, #[], #[], _, rfl, by kernel_rfl, rfl, w_isa_to_3 r0 hF⟩
  | c_how_1 => obtain ⟨a1_0, a2_0, rfl, rfl, rfl, m0, m1⟩ := hx; exact ⟨90, #[], #[.pointer (some a2_0)], _, rfl, by kernel_rfl, rfl, w_isa_single_2_sf_how_3 r0 m1 hF⟩
  | c_parts_1 => obtain ⟨rfl, rfl, rfl⟩ := hx; exact ⟨63, #[], #[], _, rfl, by kernel_rfl, rfl, w_isa_number_2 r0 hF⟩
  | c_within => obtain ⟨rfl, rfl, rfl⟩ := hx; exact ⟨63, #[], #[], _, rfl, by kernel_rfl, rfl, w_isa_number_2 r0 hF⟩
theorem w_isa_take {τ : Hp} {v0 : Value} {p0 : (List UInt8)} {p1 : Int} (r0 : RdT Ty.u8 τ v0 p0) {rr : S_api_Instr × Int × Bool} (hF : F_isa_take p0 p1 = some rr) :
    Ctr Try.prog 24 #[v0, .int .i64 p1] τ [] (fun v τ' vs' => v = .tuple #[.agg #[.int .u8 rr.1.Kind.toNat, .int .u8 rr.1.Op.toNat, .int .i64 rr.1.R, .int .i64 rr.1.S, .int .i64 rr.1.T, .int .i64 rr.1.N, .int .i64 rr.1.M], .int .i64 rr.2.1, .bool rr.2.2] ∧ vs' = []) := by
  obtain ⟨A0, c0, rfl, -⟩ := r0.form
  refine ctr_of (args := [.slice A0 p0.length c0, .int .i64 p1]) hm Try.func24 s24 rfl fun w0 σ hO Q hQ => ?_
  unfold F_isa_take at hF
  have hL := Hp.le.refl τ
  show wpn _ _ a24.body _ _ _
  unfold a24
  dsimp only
  refine wpn_al hO fun b3 σ hO => ?_
  have hO : Obs _ _ [_] := hO
  refine wpn_qa hO [] [(0, .slice A0 p0.length c0), (1, .int .i64 p1), (4, .pointer (some ⟨b3, 0, none⟩))] (And.intro rfl (And.intro rfl (And.intro rfl trivial))) fun j => ?_
  refine wpn_assoc ?_
  refine wpn_qa hO [] [(0, .slice A0 p0.length c0), (1, .int .i64 p1), (4, .pointer (some ⟨b3, 0, none⟩)), (13, .bool (decide (p1 ≥ (p0.length : Int))))] (And.intro rfl (And.intro rfl (And.intro rfl (And.intro rfl trivial)))) fun j => ?_
  rcases ite_some hF with ⟨hb4, hF⟩ | ⟨hb4, hF⟩
  · refine wpn_cT (congrArg Value.bool hb4) ?_
    refine wpn_assoc ?_
    refine wpn_q hO 1 [0] [(4, .pointer (some ⟨b3, 0, none⟩)), (14, .agg #[(.int .u8 0), (.int .u8 0), (.int .i64 0), (.int .i64 0), (.int .i64 0), (.int .i64 0), (.int .i64 0)])] (And.intro (And.intro rfl rfl) (And.intro rfl (And.intro rfl trivial))) fun j => ?_
    refine wpn_st hO (i := 0) rfl (off := 0) rfl rfl rfl rfl (Nat.le_of_ble_eq_true rfl) rfl fun σ hO => ?_
    have hO : Obs _ _ [_] := hO
    refine wpn_qa hO [] [(4, .pointer (some ⟨b3, 0, none⟩)), (5, .int .i64 0), (6, .bool false)] (And.intro rfl (And.intro rfl (And.intro rfl trivial))) fun j => ?_
    refine wpn_rt ?_
    injection hF with hF
    subst hF
    have hV0 := hO.val (i := 0) rfl (off := 0) (agg := true) (n := 7) rfl
    have hO := hO.sel [] (by decide)
    exact hQ _ _ _ _ _ (resvs_c rfl (hV0) (resvs_t (resvs_t rfl))) hO hL ⟨rfl, rfl⟩
  · refine wpn_cF (congrArg Value.bool hb4) ?_
    refine wpn_sk ?_
    refine wpn_q hO 2 [] [(0, .slice A0 p0.length c0), (1, .int .i64 p1), (4, .pointer (some ⟨b3, 0, none⟩)), (15, .slice A0 p0.length c0), (16, .int .i64 p1)] (And.intro rfl (And.intro rfl (And.intro rfl (And.intro rfl (And.intro rfl trivial))))) fun j => ?_
    obtain ⟨y5, g6, hF⟩ := bind_some hF
    refine wpn_idx (T := Ty.u8) r0 hO.base rfl rfl g6 (by decide) fun a7 _ k8 m9 => ?_
    obtain rfl : _ = ([.int .u8 y5.toNat] : List Value) := k8
    refine wpn_ld rfl (m9.le hO.base).fst ?_
    refine wpn_q hO 1 [] [(0, .slice A0 p0.length c0), (1, .int .i64 p1), (4, .pointer (some ⟨b3, 0, none⟩)), (18, .int .u8 (y5.toNat : Int)), (19, .pointer (some ⟨b3, 0, none⟩))] (And.intro rfl (And.intro rfl (And.intro rfl (And.intro rfl (And.intro rfl trivial))))) fun j => ?_
    refine wpn_st hO (i := 0) rfl (off := 0) rfl rfl rfl rfl (Nat.le_of_ble_eq_true rfl) rfl fun σ hO => ?_
    have hO : Obs _ _ [_] := hO
    refine wpn_nil ?_
    refine wpn_q hO 2 [0] [(0, .slice A0 p0.length c0), (1, .int .i64 p1), (4, .pointer (some ⟨b3, 0, none⟩)), (22, .int .u8 (y5.toNat : Int))] (And.intro (And.intro rfl rfl) (And.intro rfl (And.intro rfl (And.intro rfl (And.intro rfl trivial))))) fun j => ?_
    obtain ⟨c10, h11, hF⟩ := bind_some hF
    refine wpn_c0 hO (w_isa_parts h11) rfl fun _ σ _ _ hO h12 h13 => ?_
    have hL := hL.trans h12
    have r0 := r0.le h12
    obtain ⟨v14, o17, rfl, rfl, w18⟩ := h13
    obtain ⟨A15, c16, rfl, -⟩ := w18.form
    have hO : Obs _ _ [_, _] := hO
    refine wpn_qa hO [] [(0, .slice A0 p0.length c0), (1, .int .i64 p1), (4, .pointer (some ⟨b3, 0, none⟩)), (6, .bool c10.2), (7, .slice A15 c10.1.length c16)] (And.intro rfl (And.intro rfl (And.intro rfl (And.intro rfl (And.intro rfl trivial))))) fun j => ?_
    refine wpn_qa hO [] [(0, .slice A0 p0.length c0), (4, .pointer (some ⟨b3, 0, none⟩)), (5, .int .i64 (IntKind.i64.wrap (p1 + 1))), (6, .bool c10.2), (7, .slice A15 c10.1.length c16)] (And.intro rfl (And.intro rfl (And.intro rfl (And.intro rfl (And.intro rfl trivial))))) fun j => ?_
    refine wpn_assoc ?_
    refine wpn_qa hO [] [(0, .slice A0 p0.length c0), (4, .pointer (some ⟨b3, 0, none⟩)), (5, .int .i64 (IntKind.i64.wrap (p1 + 1))), (6, .bool c10.2), (28, .slice A15 c10.1.length c16), (29, .int .i64 (c10.1.length : Int)), (30, .int .i64 0)] (And.intro rfl (And.intro rfl (And.intro rfl (And.intro rfl (And.intro rfl (And.intro rfl (And.intro rfl trivial))))))) fun j => ?_
    refine wpn_bl ?_
    refine wpn_lp (fun (n : Nat) e' σ' => ∃ (x50 : UInt8) (x51 : UInt8) (x52 : Int) (x53 : Int) (x54 : Int) (x55 : Int) (x56 : Int) (x57 : Int) (x58 : Bool) (A59 : Option Addr) (c60 : Nat) (o61 : Ob) (x62 : List D_isa_part) (x64 : Int) (τ' : Hp), agr [(0, .slice A0 p0.length c0), (4, .pointer (some ⟨b3, 0, none⟩)), (5, .int .i64 x57), (6, .bool x58), (28, .slice A59 x62.length c60), (29, .int .i64 (c10.1.length : Int)), (30, .int .i64 x64)] e' ∧ Obs τ' σ' [some (b3, ⟨[.int .u8 (x50.toNat : Int), .int .u8 (x51.toNat : Int), .int .i64 x52, .int .i64 x53, .int .i64 x54, .int .i64 x55, .int .i64 x56], 24, 7, true⟩), o61] ∧ Hp.le τ τ' ∧ RdT Ty.u8 τ' (.slice A0 p0.length c0) p0 ∧ OwnO TyD_isa_part 73 τ' (.slice A59 x62.length c60) x62 o61 ∧ F_isa_take_l3 p0 c10 n x50 x51 x52 x53 x54 x55 x56 x57 x58 x62 x64 = some rr) big ⟨y5, (0 : UInt8), 0, 0, 0, 0, 0, (IntKind.i64.wrap (p1 + 1)), c10.2, A15, c16, o17, c10.1, 0, _, And.intro rfl (And.intro rfl (And.intro rfl (And.intro rfl (And.intro rfl (And.intro rfl (And.intro rfl trivial)))))), hO, hL, r0, w18, hF⟩ ?_
    clear hF hO hL
    rintro n89 e σ ⟨x50, x51, x52, x53, x54, x55, x56, x57, x58, A59, c60, o61, x62, x64, _, hA, hO, hL, r49, w63, hF⟩
    rw [← sets_agr _ _ hA]
    cases n89 with
    | zero => exact nomatch (show none = some rr from hF)
    | succ n89 =>
      replace hF : F_isa_take_l3B (F_isa_take_l3 p0 c10 n89) p0 c10 x50 x51 x52 x53 x54 x55 x56 x57 x58 x62 x64 = some rr := hF
      unfold F_isa_take_l3B at hF
      refine wpn_qa hO [] [(0, .slice A0 p0.length c0), (4, .pointer (some ⟨b3, 0, none⟩)), (5, .int .i64 x57), (6, .bool x58), (28, .slice A59 x62.length c60), (29, .int .i64 (c10.1.length : Int)), (30, .int .i64 x64), (31, .bool (decide (x64 < (c10.1.length : Int))))] (And.intro rfl (And.intro rfl (And.intro rfl (And.intro rfl (And.intro rfl (And.intro rfl (And.intro rfl (And.intro rfl trivial)))))))) fun j => ?_
      rcases ite_some hF with ⟨hb90, hF⟩ | ⟨hb90, hF⟩
      · refine wpn_cT (congrArg Value.bool hb90) ?_
        refine wpn_sk ?_
        refine wpn_bl ?_
        obtain ⟨y91, g92, hF⟩ := bind_some hF
        refine wpn_ido (T := TyD_isa_part) hO w63 (i := 1) rfl rfl rfl g92 (by decide) fun a93 _ k94 m95 i96 => ?_
        have k97 := k94
        obtain ⟨f99, a100, c101, f102, a103, c104, f105, a106, c107, rfl, r98⟩ := k97
        refine wpn_ld rfl (m95.all rfl) ?_
        refine wpn_al hO fun b108 σ hO => ?_
        have hO : Obs _ _ [_, _, _] := hO
        refine wpn_st hO (i := 2) rfl (off := 0) rfl rfl rfl rfl (Nat.le_of_ble_eq_true rfl) rfl fun σ hO => ?_
        have hO : Obs _ _ [_, _, _] := hO
        refine wpn_nil ?_
        refine wpn_qa hO [] [(0, .slice A0 p0.length c0), (4, .pointer (some ⟨b3, 0, none⟩)), (5, .int .i64 x57), (6, .bool x58), (9, .pointer (some ⟨b108, 0, none⟩)), (28, .slice A59 x62.length c60), (29, .int .i64 (c10.1.length : Int)), (30, .int .i64 x64), (34, .bool x58)] (And.intro rfl (And.intro rfl (And.intro rfl (And.intro rfl (And.intro rfl (And.intro rfl (And.intro rfl (And.intro rfl (And.intro rfl trivial))))))))) fun j => ?_
        refine wpn_clast ?_
        rcases ite_some hF with ⟨hb109, hF⟩ | ⟨hb109, hF⟩
        · refine wpn_cT (congrArg Value.bool hb109) ?_
          refine wpn_q hO 4 [2] [(0, .slice A0 p0.length c0), (4, .pointer (some ⟨b3, 0, none⟩)), (28, .slice A59 x62.length c60), (29, .int .i64 (c10.1.length : Int)), (30, .int .i64 x64), (37, .func f105 a106 c107), (38, .slice A0 p0.length c0), (39, .int .i64 x57)] (And.intro (And.intro rfl rfl) (And.intro rfl (And.intro rfl (And.intro rfl (And.intro rfl (And.intro rfl (And.intro rfl (And.intro rfl (And.intro rfl trivial))))))))) fun j => ?_
          obtain ⟨c110, h111, hF⟩ := bind_some hF
          have hO := hO.sel [1, 2, 0] (by decide)
          refine wpn_fv (hs := [_, _]) (vs := [_]) rfl hO (w_fd_isa_part_2 r98 r49 h111) rfl fun _ σ _ _ hO h112 h113 => ?_
          have hL := hL.trans h112
          have r49 := r49.le h112
          have w63 := w63.le h112
          have r98 := r98.le h112
          obtain ⟨rfl, rfl⟩ := h113
          have hO : Obs _ _ [_, _, _] := hO
          refine wpn_qa hO [] [(0, .slice A0 p0.length c0), (4, .pointer (some ⟨b3, 0, none⟩)), (5, .int .i64 c110.1), (6, .bool c110.2.1), (28, .slice A59 x62.length c60), (29, .int .i64 (c10.1.length : Int)), (30, .int .i64 x64)] (And.intro rfl (And.intro rfl (And.intro rfl (And.intro rfl (And.intro rfl (And.intro rfl (And.intro rfl trivial))))))) fun j => ?_
          refine wpn_end ?_
          refine inb_i ?_
          refine thn_i ?_
          refine wpn_rlast ?_
          refine wpn_qa hO [] [(0, .slice A0 p0.length c0), (4, .pointer (some ⟨b3, 0, none⟩)), (5, .int .i64 c110.1), (6, .bool c110.2.1), (28, .slice A59 x62.length c60), (29, .int .i64 (c10.1.length : Int)), (30, .int .i64 (IntKind.i64.wrap (x64 + 1)))] (And.intro rfl (And.intro rfl (And.intro rfl (And.intro rfl (And.intro rfl (And.intro rfl (And.intro rfl trivial))))))) fun j => ?_
          refine wpn_end ?_
          refine thn_i ?_
          have hO := hO.sel [2, 0] (by decide)
          exact ⟨n89, Nat.lt_succ_self _, c110.2.2.Kind, c110.2.2.Op, c110.2.2.R, c110.2.2.S, c110.2.2.T, c110.2.2.N, c110.2.2.M, c110.1, c110.2.1, A59, c60, o61, x62, (IntKind.i64.wrap (x64 + 1)), _, And.intro rfl (And.intro rfl (And.intro rfl (And.intro rfl (And.intro rfl (And.intro rfl (And.intro rfl trivial)))))), hO, hL, r49, w63, hF⟩
        · refine wpn_cF (congrArg Value.bool hb109) ?_
          refine wpn_sk ?_
          refine wpn_end ?_
          refine inb_i ?_
          refine thn_i ?_
          refine wpn_rlast ?_
          refine wpn_qa hO [] [(0, .slice A0 p0.length c0), (4, .pointer (some ⟨b3, 0, none⟩)), (5, .int .i64 x57), (6, .bool x58), (28, .slice A59 x62.length c60), (29, .int .i64 (c10.1.length : Int)), (30, .int .i64 (IntKind.i64.wrap (x64 + 1)))] (And.intro rfl (And.intro rfl (And.intro rfl (And.intro rfl (And.intro rfl (And.intro rfl (And.intro rfl trivial))))))) fun j => ?_
          refine wpn_end ?_
          refine thn_i ?_
          have hO := hO.sel [0, 1] (by decide)
          exact ⟨n89, Nat.lt_succ_self _, x50, x51, x52, x53, x54, x55, x56, x57, x58, A59, c60, o61, x62, (IntKind.i64.wrap (x64 + 1)), _, And.intro rfl (And.intro rfl (And.intro rfl (And.intro rfl (And.intro rfl (And.intro rfl (And.intro rfl trivial)))))), hO, hL, r49, w63, hF⟩
      · refine wpn_cF (congrArg Value.bool hb90) ?_
        refine wpn_ex ?_
        refine thn_x ?_
        refine inb_x ?_
        refine thn_i ?_
        refine wpn_q hO 3 [0] [(4, .pointer (some ⟨b3, 0, none⟩)), (44, .agg #[(.int .u8 (x50.toNat : Int)), (.int .u8 (x51.toNat : Int)), (.int .i64 x52), (.int .i64 x53), (.int .i64 x54), (.int .i64 x55), (.int .i64 x56)]), (45, .int .i64 x57), (46, .bool x58)] (And.intro (And.intro rfl rfl) (And.intro rfl (And.intro rfl (And.intro rfl (And.intro rfl trivial))))) fun j => ?_
        refine wpn_st hO (i := 0) rfl (off := 0) rfl rfl rfl rfl (Nat.le_of_ble_eq_true rfl) rfl fun σ hO => ?_
        have hO : Obs _ _ [_, _] := hO
        refine wpn_qa hO [] [(4, .pointer (some ⟨b3, 0, none⟩)), (5, .int .i64 x57), (6, .bool x58)] (And.intro rfl (And.intro rfl (And.intro rfl trivial))) fun j => ?_
        refine wpn_r1 ?_
        injection hF with hF
        subst hF
        have hV0 := hO.val (i := 0) rfl (off := 0) (agg := true) (n := 7) rfl
        have hO := hO.sel [] (by decide)
        exact hQ _ _ _ _ _ (resvs_c rfl (hV0) (resvs_t (resvs_t rfl))) hO hL ⟨rfl, rfl⟩
theorem w_isa_Right {τ : Hp} {p0 : S_api_Instr}  {rr : Bool} (hF : F_isa_Right p0 = some rr) :
    Ctr Try.prog 11 #[.agg #[.int .u8 p0.Kind.toNat, .int .u8 p0.Op.toNat, .int .i64 p0.R, .int .i64 p0.S, .int .i64 p0.T, .int .i64 p0.N, .int .i64 p0.M]] τ [] (fun v τ' vs' => v = .bool rr ∧ vs' = []) := by
  refine ctr_of (args := [.agg #[.int .u8 p0.Kind.toNat, .int .u8 p0.Op.toNat, .int .i64 p0.R, .int .i64 p0.S, .int .i64 p0.T, .int .i64 p0.N, .int .i64 p0.M]]) hm Try.func11 s11 rfl fun w0 σ hO Q hQ => ?_
  unfold F_isa_Right at hF
  have hL := Hp.le.refl τ
  show wpn _ _ a11.body _ _ _
  unfold a11
  dsimp only
  refine wpn_bx (n := 7) hO rfl rfl fun b2 σ hO => ?_
  have hO : Obs _ _ [_] := hO
  refine wpn_qa hO [] [(1, .pointer (some ⟨b2, 0, none⟩))] (And.intro rfl trivial) fun j => ?_
  refine wpn_q hO 1 [0] [(1, .pointer (some ⟨b2, 0, none⟩)), (8, .agg #[(.int .u8 (p0.Kind.toNat : Int)), (.int .u8 (p0.Op.toNat : Int)), (.int .i64 p0.R), (.int .i64 p0.S), (.int .i64 p0.T), (.int .i64 p0.N), (.int .i64 p0.M)])] (And.intro (And.intro rfl rfl) (And.intro rfl (And.intro rfl trivial))) fun j => ?_
  obtain ⟨c3, h4, hF⟩ := bind_some hF
  refine wpn_c0 hO (w_isa_lay h4) rfl fun _ σ _ _ hO h5 h6 => ?_
  have hL := hL.trans h5
  obtain ⟨v7, o10, rfl, rfl, w11⟩ := h6
  obtain ⟨A8, c9, rfl, -⟩ := w11.form
  have hO : Obs _ _ [_, _] := hO
  refine wpn_qa hO [] [(1, .pointer (some ⟨b2, 0, none⟩)), (3, .slice A8 c3.1.length c9), (4, .bool c3.2)] (And.intro rfl (And.intro rfl (And.intro rfl trivial))) fun j => ?_
  refine wpn_assoc ?_
  refine wpn_qa hO [] [(1, .pointer (some ⟨b2, 0, none⟩)), (3, .slice A8 c3.1.length c9), (13, .bool (!c3.2))] (And.intro rfl (And.intro rfl (And.intro rfl trivial))) fun j => ?_
  rcases ite_some hF with ⟨hb12, hF⟩ | ⟨hb12, hF⟩
  · refine wpn_cT (congrArg Value.bool hb12) ?_
    refine wpn_assoc ?_
    refine wpn_qa hO [] [(2, .bool false)] (And.intro rfl trivial) fun j => ?_
    refine wpn_rt ?_
    injection hF with hF
    subst hF
    have hO := hO.sel [] (by decide)
    exact hQ _ _ _ _ _ rfl hO hL ⟨rfl, rfl⟩
  · refine wpn_cF (congrArg Value.bool hb12) ?_
    refine wpn_sk ?_
    refine wpn_q hO 1 [] [(1, .pointer (some ⟨b2, 0, none⟩)), (15, .slice A8 c3.1.length c9)] (And.intro rfl (And.intro rfl trivial)) fun j => ?_
    obtain ⟨_, h14, r13, hO⟩ := w11.share hO (i := 1) rfl
    have hL := hL.trans h14
    have hO : Obs _ _ [_, _] := hO
    obtain ⟨c15, h16, hF⟩ := bind_some hF
    refine wpn_c0 hO (w_isa_take r13 h16) rfl fun _ σ _ _ hO h17 h18 => ?_
    have hL := hL.trans h17
    have r13 := r13.le h17
    obtain ⟨rfl, rfl⟩ := h18
    have hO : Obs _ _ [_, _] := hO
    refine wpn_q hO 4 [] [(1, .pointer (some ⟨b2, 0, none⟩)), (17, .agg #[(.int .u8 (c15.1.Kind.toNat : Int)), (.int .u8 (c15.1.Op.toNat : Int)), (.int .i64 c15.1.R), (.int .i64 c15.1.S), (.int .i64 c15.1.T), (.int .i64 c15.1.N), (.int .i64 c15.1.M)]), (18, .int .i64 c15.2.1), (19, .bool c15.2.2)] (And.intro rfl (And.intro rfl (And.intro rfl (And.intro rfl trivial)))) fun j => ?_
    refine wpn_al hO fun b19 σ hO => ?_
    have hO : Obs _ _ [_, _, _] := hO
    refine wpn_st hO (i := 2) rfl (off := 0) rfl rfl rfl rfl (Nat.le_of_ble_eq_true rfl) rfl fun σ hO => ?_
    have hO : Obs _ _ [_, _, _] := hO
    refine wpn_qa hO [] [(1, .pointer (some ⟨b2, 0, none⟩)), (4, .bool c15.2.2), (5, .pointer (some ⟨b19, 0, none⟩))] (And.intro rfl (And.intro rfl (And.intro rfl trivial))) fun j => ?_
    refine wpn_qa hO [2, 0] [(2, .bool (c15.2.2 && (( (c15.1.Kind.toNat : Int) == (p0.Kind.toNat : Int)) && (( (c15.1.Op.toNat : Int) == (p0.Op.toNat : Int)) && (( c15.1.R == p0.R) && (( c15.1.S == p0.S) && (( c15.1.T == p0.T) && (( c15.1.N == p0.N) && (( c15.1.M == p0.M) && true)))))))))] (And.intro (And.intro rfl rfl) (And.intro (And.intro rfl rfl) (And.intro (And.intro rfl rfl) (fun _ => And.intro rfl trivial)))) fun j => ?_
    refine wpn_r1 ?_
    injection hF with hF
    subst hF
    have hO := hO.sel [] (by decide)
    exact hQ _ _ _ _ _ rfl hO hL ⟨rfl, rfl⟩
theorem w_isa_Put {τ : Hp} {v0 : Value} {p0 : (List UInt8)} {p1 : S_api_Instr} (r0 : RdT Ty.u8 τ v0 p0) {rr : (List UInt8)} (hF : F_isa_Put p0 p1 = some rr) :
    Ctr Try.prog 10 #[v0, .agg #[.int .u8 p1.Kind.toNat, .int .u8 p1.Op.toNat, .int .i64 p1.R, .int .i64 p1.S, .int .i64 p1.T, .int .i64 p1.N, .int .i64 p1.M]] τ [] (fun v τ' vs' => ∃ (v0 : Value) (o0 : Ob), v = v0 ∧ vs' = [o0] ∧ OwnO Ty.u8 5 τ' v0 rr o0) := by
  obtain ⟨A0, c0, rfl, -⟩ := r0.form
  refine ctr_of (args := [.slice A0 p0.length c0, .agg #[.int .u8 p1.Kind.toNat, .int .u8 p1.Op.toNat, .int .i64 p1.R, .int .i64 p1.S, .int .i64 p1.T, .int .i64 p1.N, .int .i64 p1.M]]) hm Try.func10 s10 rfl fun w0 σ hO Q hQ => ?_
  unfold F_isa_Put at hF
  have hL := Hp.le.refl τ
  show wpn _ _ a10.body _ _ _
  unfold a10
  dsimp only
  refine wpn_bx (n := 7) hO rfl rfl fun b3 σ hO => ?_
  have hO : Obs _ _ [_] := hO
  refine wpn_qa hO [] [(0, .slice A0 p0.length c0), (3, .pointer (some ⟨b3, 0, none⟩))] (And.intro rfl (And.intro rfl trivial)) fun j => ?_
  refine wpn_q hO 1 [] [(3, .pointer (some ⟨b3, 0, none⟩)), (8, .slice A0 p0.length c0)] (And.intro rfl (And.intro rfl trivial)) fun j => ?_
  obtain ⟨c4, h5, hF⟩ := bind_some hF
  refine wpn_c0 hO (w_slices_Clone_Sbyte_byte r0 h5) rfl fun _ σ _ _ hO h6 h7 => ?_
  have hL := hL.trans h6
  have r0 := r0.le h6
  obtain ⟨v8, o11, rfl, rfl, w12⟩ := h7
  obtain ⟨A9, c10, rfl, -⟩ := w12.form
  have hO : Obs _ _ [_, _] := hO
  refine wpn_qa hO [] [(3, .pointer (some ⟨b3, 0, none⟩)), (5, .slice A9 c4.length c10)] (And.intro rfl (And.intro rfl trivial)) fun j => ?_
  refine wpn_assoc ?_
  refine wpn_q hO 1 [0] [(3, .pointer (some ⟨b3, 0, none⟩)), (5, .slice A9 c4.length c10), (10, .agg #[(.int .u8 (p1.Kind.toNat : Int)), (.int .u8 (p1.Op.toNat : Int)), (.int .i64 p1.R), (.int .i64 p1.S), (.int .i64 p1.T), (.int .i64 p1.N), (.int .i64 p1.M)])] (And.intro (And.intro rfl rfl) (And.intro rfl (And.intro rfl (And.intro rfl trivial)))) fun j => ?_
  obtain ⟨c13, h14, hF⟩ := bind_some hF
  refine wpn_c0 hO (w_isa_Right h14) rfl fun _ σ _ _ hO h15 h16 => ?_
  have hL := hL.trans h15
  have w12 := w12.le h15
  obtain ⟨rfl, rfl⟩ := h16
  have hO : Obs _ _ [_, _] := hO
  refine wpn_qa hO [] [(3, .pointer (some ⟨b3, 0, none⟩)), (5, .slice A9 c4.length c10), (12, .bool (!c13))] (And.intro rfl (And.intro rfl (And.intro rfl trivial))) fun j => ?_
  rcases ite_some hF with ⟨hb17, hF⟩ | ⟨hb17, hF⟩
  · refine wpn_cT (congrArg Value.bool hb17) ?_
    refine wpn_assoc ?_
    refine wpn_qa hO [] [(4, .slice A9 c4.length c10)] (And.intro rfl trivial) fun j => ?_
    refine wpn_rt ?_
    injection hF with hF
    subst hF
    have hO := hO.sel [1] (by decide)
    exact hQ _ _ _ _ _ rfl hO hL ⟨_, _, rfl, rfl, w12⟩
  · refine wpn_cF (congrArg Value.bool hb17) ?_
    refine wpn_sk ?_
    refine wpn_q hO 1 [0] [(5, .slice A9 c4.length c10), (15, .agg #[(.int .u8 (p1.Kind.toNat : Int)), (.int .u8 (p1.Op.toNat : Int)), (.int .i64 p1.R), (.int .i64 p1.S), (.int .i64 p1.T), (.int .i64 p1.N), (.int .i64 p1.M)])] (And.intro (And.intro rfl rfl) (And.intro rfl (And.intro rfl trivial))) fun j => ?_
    obtain ⟨c18, h19, hF⟩ := bind_some hF
    refine wpn_c0 hO (w_isa_lay h19) rfl fun _ σ _ _ hO h20 h21 => ?_
    have hL := hL.trans h20
    have w12 := w12.le h20
    obtain ⟨v22, o25, rfl, rfl, w26⟩ := h21
    obtain ⟨A23, c24, rfl, -⟩ := w26.form
    have hO : Obs _ _ [_, _, _] := hO
    refine wpn_qa hO [] [(5, .slice A9 c4.length c10), (6, .slice A23 c18.1.length c24)] (And.intro rfl (And.intro rfl trivial)) fun j => ?_
    refine wpn_q hO 2 [] [(19, .slice A9 c4.length c10), (20, .slice A23 c18.1.length c24)] (And.intro rfl (And.intro rfl trivial)) fun j => ?_
    obtain ⟨_, hr, hF⟩ := bind_some hF
    refine wpn_apf (T := Ty.u8) u8_flat hO w12 (i := 1) rfl rfl rfl (w26.rd hO (i := 2) rfl) hr (by decide) fun _ σ o29 w30 hO => ?_
    obtain ⟨A27, c28, rfl, -⟩ := w30.form
    have hO : Obs _ _ [_, _, _] := hO
    refine wpn_qa hO [] [(4, .slice A27 (c4 ++ c18.1).length c28)] (And.intro rfl trivial) fun j => ?_
    refine wpn_r1 ?_
    injection hF with hF
    subst hF
    have hO := hO.sel [1] (by decide)
    exact hQ _ _ _ _ _ rfl hO hL ⟨_, _, rfl, rfl, w30⟩
theorem w_isa_Size {τ : Hp} {p0 : S_api_Instr}  {rr : Int} (hF : F_isa_Size p0 = some rr) :
    Ctr Try.prog 13 #[.agg #[.int .u8 p0.Kind.toNat, .int .u8 p0.Op.toNat, .int .i64 p0.R, .int .i64 p0.S, .int .i64 p0.T, .int .i64 p0.N, .int .i64 p0.M]] τ [] (fun v τ' vs' => v = .int .i64 rr ∧ vs' = []) := by
  refine ctr_of (args := [.agg #[.int .u8 p0.Kind.toNat, .int .u8 p0.Op.toNat, .int .i64 p0.R, .int .i64 p0.S, .int .i64 p0.T, .int .i64 p0.N, .int .i64 p0.M]]) hm Try.func13 s13 rfl fun w0 σ hO Q hQ => ?_
  unfold F_isa_Size at hF
  have hL := Hp.le.refl τ
  show wpn _ _ a13.body _ _ _
  unfold a13
  dsimp only
  refine wpn_bx (n := 7) hO rfl rfl fun b2 σ hO => ?_
  have hO : Obs _ _ [_] := hO
  refine wpn_qa hO [] [(1, .pointer (some ⟨b2, 0, none⟩))] (And.intro rfl trivial) fun j => ?_
  refine wpn_q hO 1 [0] [(3, .agg #[(.int .u8 (p0.Kind.toNat : Int)), (.int .u8 (p0.Op.toNat : Int)), (.int .i64 p0.R), (.int .i64 p0.S), (.int .i64 p0.T), (.int .i64 p0.N), (.int .i64 p0.M)])] (And.intro (And.intro rfl rfl) (And.intro rfl trivial)) fun j => ?_
  obtain ⟨c3, h4, hF⟩ := bind_some hF
  refine wpn_c0 hO (w_isa_Put (RdT.nil Ty.u8 _) h4) rfl fun _ σ _ _ hO h5 h6 => ?_
  have hL := hL.trans h5
  obtain ⟨v7, o10, rfl, rfl, w11⟩ := h6
  obtain ⟨A8, c9, rfl, -⟩ := w11.form
  have hO : Obs _ _ [_, _] := hO
  refine wpn_qa hO [] [(2, .int .i64 (c3.length : Int))] (And.intro rfl trivial) fun j => ?_
  refine wpn_r1 ?_
  injection hF with hF
  subst hF
  have hO := hO.sel [] (by decide)
  exact hQ _ _ _ _ _ rfl hO hL ⟨rfl, rfl⟩
theorem w_bytes_Equal {τ : Hp} {v0 : Value} {p0 : (List UInt8)} {v1 : Value} {p1 : (List UInt8)} (r0 : RdT Ty.u8 τ v0 p0) (r1 : RdT Ty.u8 τ v1 p1) {rr : Bool} (hF : F_bytes_Equal p0 p1 = some rr) :
    Ctr Try.prog 33 #[v0, v1] τ [] (fun v τ' vs' => v = .bool rr ∧ vs' = []) := by
  obtain ⟨A0, c0, rfl, -⟩ := r0.form
  obtain ⟨A1, c1, rfl, -⟩ := r1.form
  refine ctr_of (args := [.slice A0 p0.length c0, .slice A1 p1.length c1]) hm Try.func33 s33 rfl fun w0 σ hO Q hQ => ?_
  unfold F_bytes_Equal at hF
  have hL := Hp.le.refl τ
  show wpn _ _ a33.body _ _ _
  unfold a33
  dsimp only
  refine wpn_qa hO [] [(0, .slice A0 p0.length c0), (1, .slice A1 p1.length c1)] (And.intro rfl (And.intro rfl trivial)) fun j => ?_
  refine wpn_q hO 1 [] [(1, .slice A1 p1.length c1), (5, .slice A0 p0.length c0)] (And.intro rfl (And.intro rfl trivial)) fun j => ?_
  refine wpn_ts (l := p0) (r0.le hO.base) rfl ?_
  refine wpn_q hO 1 [] [(6, .string (⟨p0.toArray⟩ : ByteArray)), (7, .slice A1 p1.length c1)] (And.intro rfl (And.intro rfl trivial)) fun j => ?_
  refine wpn_ts (l := p1) (r1.le hO.base) rfl ?_
  refine wpn_qa hO [] [(4, .bool (strEq (⟨p0.toArray⟩ : ByteArray) (⟨p1.toArray⟩ : ByteArray)))] (And.intro rfl trivial) fun j => ?_
  refine wpn_r1 ?_
  injection hF with hF
  subst hF
  exact hQ _ _ _ _ _ rfl hO hL ⟨rfl, rfl⟩
theorem w_isa_Get {τ : Hp} {v0 : Value} {p0 : (List UInt8)} {p1 : Int} (r0 : RdT Ty.u8 τ v0 p0) {rr : S_api_Instr × Int × Int} (hF : F_isa_Get p0 p1 = some rr) :
    Ctr Try.prog 19 #[v0, .int .i64 p1] τ [] (fun v τ' vs' => v = .tuple #[.agg #[.int .u8 rr.1.Kind.toNat, .int .u8 rr.1.Op.toNat, .int .i64 rr.1.R, .int .i64 rr.1.S, .int .i64 rr.1.T, .int .i64 rr.1.N, .int .i64 rr.1.M], .int .i64 rr.2.1, .int .i64 rr.2.2] ∧ vs' = []) := by
  obtain ⟨A0, c0, rfl, -⟩ := r0.form
  refine ctr_of (args := [.slice A0 p0.length c0, .int .i64 p1]) hm Try.func19 s19 rfl fun w0 σ hO Q hQ => ?_
  unfold F_isa_Get at hF
  have hL := Hp.le.refl τ
  show wpn _ _ a19.body _ _ _
  unfold a19
  dsimp only
  refine wpn_al hO fun b3 σ hO => ?_
  have hO : Obs _ _ [_] := hO
  refine wpn_qa hO [] [(0, .slice A0 p0.length c0), (1, .int .i64 p1), (4, .pointer (some ⟨b3, 0, none⟩))] (And.intro rfl (And.intro rfl (And.intro rfl trivial))) fun j => ?_
  refine wpn_assoc ?_
  refine wpn_qa hO [] [(0, .slice A0 p0.length c0), (1, .int .i64 p1), (4, .pointer (some ⟨b3, 0, none⟩)), (17, .bool ((decide (p1 < 0)) || (decide (p1 > (p0.length : Int)))))] (And.intro (And.intro rfl rfl) (fun _ => And.intro rfl (And.intro rfl (And.intro rfl (And.intro rfl trivial))))) fun j => ?_
  rcases ite_some hF with ⟨hb4, hF⟩ | ⟨hb4, hF⟩
  · refine wpn_cT (congrArg Value.bool hb4) ?_
    refine wpn_assoc ?_
    refine wpn_q hO 1 [0] [(4, .pointer (some ⟨b3, 0, none⟩)), (18, .agg #[(.int .u8 0), (.int .u8 0), (.int .i64 0), (.int .i64 0), (.int .i64 0), (.int .i64 0), (.int .i64 0)])] (And.intro (And.intro rfl rfl) (And.intro rfl (And.intro rfl trivial))) fun j => ?_
    refine wpn_st hO (i := 0) rfl (off := 0) rfl rfl rfl rfl (Nat.le_of_ble_eq_true rfl) rfl fun σ hO => ?_
    have hO : Obs _ _ [_] := hO
    refine wpn_qa hO [] [(4, .pointer (some ⟨b3, 0, none⟩)), (5, .int .i64 0), (6, .int .i64 1)] (And.intro rfl (And.intro rfl (And.intro rfl trivial))) fun j => ?_
    refine wpn_rt ?_
    injection hF with hF
    subst hF
    have hV0 := hO.val (i := 0) rfl (off := 0) (agg := true) (n := 7) rfl
    have hO := hO.sel [] (by decide)
    exact hQ _ _ _ _ _ (resvs_c rfl (hV0) (resvs_t (resvs_t rfl))) hO hL ⟨rfl, rfl⟩
  · refine wpn_cF (congrArg Value.bool hb4) ?_
    refine wpn_sk ?_
    refine wpn_q hO 2 [] [(0, .slice A0 p0.length c0), (1, .int .i64 p1), (4, .pointer (some ⟨b3, 0, none⟩)), (20, .slice A0 p0.length c0), (21, .int .i64 p1)] (And.intro rfl (And.intro rfl (And.intro rfl (And.intro rfl (And.intro rfl trivial))))) fun j => ?_
    obtain ⟨c5, h6, hF⟩ := bind_some hF
    refine wpn_c0 hO (w_isa_take r0 h6) rfl fun _ σ _ _ hO h7 h8 => ?_
    have hL := hL.trans h7
    have r0 := r0.le h7
    obtain ⟨rfl, rfl⟩ := h8
    have hO : Obs _ _ [_] := hO
    refine wpn_q hO 4 [] [(0, .slice A0 p0.length c0), (1, .int .i64 p1), (4, .pointer (some ⟨b3, 0, none⟩)), (23, .agg #[(.int .u8 (c5.1.Kind.toNat : Int)), (.int .u8 (c5.1.Op.toNat : Int)), (.int .i64 c5.1.R), (.int .i64 c5.1.S), (.int .i64 c5.1.T), (.int .i64 c5.1.N), (.int .i64 c5.1.M)]), (24, .int .i64 c5.2.1), (25, .bool c5.2.2)] (And.intro rfl (And.intro rfl (And.intro rfl (And.intro rfl (And.intro rfl (And.intro rfl trivial)))))) fun j => ?_
    refine wpn_al hO fun b9 σ hO => ?_
    have hO : Obs _ _ [_, _] := hO
    refine wpn_st hO (i := 1) rfl (off := 0) rfl rfl rfl rfl (Nat.le_of_ble_eq_true rfl) rfl fun σ hO => ?_
    have hO : Obs _ _ [_, _] := hO
    refine wpn_qa hO [] [(0, .slice A0 p0.length c0), (1, .int .i64 p1), (4, .pointer (some ⟨b3, 0, none⟩)), (7, .pointer (some ⟨b9, 0, none⟩)), (8, .int .i64 c5.2.1), (9, .bool c5.2.2)] (And.intro rfl (And.intro rfl (And.intro rfl (And.intro rfl (And.intro rfl (And.intro rfl trivial)))))) fun j => ?_
    refine wpn_assoc ?_
    refine wpn_p2r ?_
    refine wpn_q hO 3 [] [(0, .slice A0 p0.length c0), (1, .int .i64 p1), (4, .pointer (some ⟨b3, 0, none⟩)), (7, .pointer (some ⟨b9, 0, none⟩)), (8, .int .i64 c5.2.1), (28, .bool (!c5.2.2))] (And.intro rfl (And.intro rfl (And.intro rfl (And.intro rfl (And.intro rfl (And.intro rfl trivial)))))) fun j => ?_
    obtain ⟨c10, h11, hF⟩ := bind_some hF
    refine wpn_mid 2 (fun e' σ' => ∃ (τ' : Hp), agr [(32, .bool c10), (0, .slice A0 p0.length c0), (1, .int .i64 p1), (4, .pointer (some ⟨b3, 0, none⟩)), (7, .pointer (some ⟨b9, 0, none⟩)), (8, .int .i64 c5.2.1)] e' ∧ Obs τ' σ' [some (b3, ⟨[.int .u8 0, .int .u8 0, .int .i64 0, .int .i64 0, .int .i64 0, .int .i64 0, .int .i64 0], 24, 7, true⟩), some (b9, ⟨[.int .u8 (c5.1.Kind.toNat : Int), .int .u8 (c5.1.Op.toNat : Int), .int .i64 c5.1.R, .int .i64 c5.1.S, .int .i64 c5.1.T, .int .i64 c5.1.N, .int .i64 c5.1.M], 24, 7, true⟩)] ∧ Hp.le τ τ' ∧ RdT Ty.u8 τ' (.slice A0 p0.length c0) p0) ?_ ?_
    · have hF := h11
      rcases ite_some hF with ⟨hb12, hF⟩ | ⟨hb12, hF⟩
      · refine wpn_gF (congrArg (fun x => isB (.bool x) false) hb12) ?_
        refine wpn_pk (congrArg Value.bool hb12) ?_
        refine wpn_nil ?_
        injection hF with hF
        subst hF
        refine wpn_end ?_
        exact ⟨rfl, _, And.intro rfl (And.intro rfl (And.intro rfl (And.intro rfl (And.intro rfl (And.intro rfl trivial))))), hO, hL, r0⟩
      · refine wpn_gT (congrArg (fun x => isB (.bool x) false) hb12) ?_
        refine wpn_q hO 1 [1] [(0, .slice A0 p0.length c0), (1, .int .i64 p1), (4, .pointer (some ⟨b3, 0, none⟩)), (7, .pointer (some ⟨b9, 0, none⟩)), (8, .int .i64 c5.2.1), (28, .bool (!c5.2.2)), (29, .agg #[(.int .u8 (c5.1.Kind.toNat : Int)), (.int .u8 (c5.1.Op.toNat : Int)), (.int .i64 c5.1.R), (.int .i64 c5.1.S), (.int .i64 c5.1.T), (.int .i64 c5.1.N), (.int .i64 c5.1.M)])] (And.intro (And.intro rfl rfl) (And.intro rfl (And.intro rfl (And.intro rfl (And.intro rfl (And.intro rfl (And.intro rfl (And.intro rfl trivial)))))))) fun j => ?_
        obtain ⟨c13, h14, hF⟩ := bind_some hF
        refine wpn_c0 hO (w_isa_Right h14) rfl fun _ σ _ _ hO h15 h16 => ?_
        have hL := hL.trans h15
        have r0 := r0.le h15
        obtain ⟨rfl, rfl⟩ := h16
        have hO : Obs _ _ [_, _] := hO
        refine wpn_q hO 1 [] [(0, .slice A0 p0.length c0), (1, .int .i64 p1), (4, .pointer (some ⟨b3, 0, none⟩)), (7, .pointer (some ⟨b9, 0, none⟩)), (8, .int .i64 c5.2.1), (28, .bool (!c5.2.2)), (31, .bool (!c13))] (And.intro rfl (And.intro rfl (And.intro rfl (And.intro rfl (And.intro rfl (And.intro rfl (And.intro rfl trivial))))))) fun j => ?_
        refine wpn_pk (congrArg Value.bool hb12) ?_
        refine wpn_nil ?_
        injection hF with hF
        subst hF
        refine wpn_end ?_
        exact ⟨rfl, _, And.intro rfl (And.intro rfl (And.intro rfl (And.intro rfl (And.intro rfl (And.intro rfl trivial))))), hO, hL, r0⟩
    · rintro e σ ⟨_, hA, hO, hL, r0⟩
      rw [← sets_agr _ _ hA]
      refine wpn_q hO 1 [] [(0, .slice A0 p0.length c0), (1, .int .i64 p1), (4, .pointer (some ⟨b3, 0, none⟩)), (7, .pointer (some ⟨b9, 0, none⟩)), (8, .int .i64 c5.2.1), (33, .bool c10)] (And.intro rfl (And.intro rfl (And.intro rfl (And.intro rfl (And.intro rfl (And.intro rfl trivial)))))) fun j => ?_
      obtain ⟨c17, h18, hF⟩ := bind_some hF
      refine wpn_mid 2 (fun e' σ' => ∃ (τ' : Hp), agr [(42, .bool c17), (4, .pointer (some ⟨b3, 0, none⟩)), (7, .pointer (some ⟨b9, 0, none⟩)), (8, .int .i64 c5.2.1)] e' ∧ Obs τ' σ' [some (b3, ⟨[.int .u8 0, .int .u8 0, .int .i64 0, .int .i64 0, .int .i64 0, .int .i64 0, .int .i64 0], 24, 7, true⟩), some (b9, ⟨[.int .u8 (c5.1.Kind.toNat : Int), .int .u8 (c5.1.Op.toNat : Int), .int .i64 c5.1.R, .int .i64 c5.1.S, .int .i64 c5.1.T, .int .i64 c5.1.N, .int .i64 c5.1.M], 24, 7, true⟩)] ∧ Hp.le τ τ') ?_ ?_
      · have hF := h18
        rcases ite_some hF with ⟨hb19, hF⟩ | ⟨hb19, hF⟩
        · refine wpn_gF (congrArg (fun x => isB (.bool x) false) hb19) ?_
          refine wpn_pk (congrArg Value.bool hb19) ?_
          refine wpn_nil ?_
          injection hF with hF
          subst hF
          refine wpn_end ?_
          exact ⟨rfl, _, And.intro rfl (And.intro rfl (And.intro rfl (And.intro rfl trivial))), hO, hL⟩
        · refine wpn_gT (congrArg (fun x => isB (.bool x) false) hb19) ?_
          refine wpn_q hO 4 [1] [(4, .pointer (some ⟨b3, 0, none⟩)), (7, .pointer (some ⟨b9, 0, none⟩)), (8, .int .i64 c5.2.1), (33, .bool c10), (34, .agg #[(.int .u8 (c5.1.Kind.toNat : Int)), (.int .u8 (c5.1.Op.toNat : Int)), (.int .i64 c5.1.R), (.int .i64 c5.1.S), (.int .i64 c5.1.T), (.int .i64 c5.1.N), (.int .i64 c5.1.M)]), (36, .slice A0 p0.length c0), (37, .int .i64 p1), (38, .int .i64 c5.2.1)] (And.intro (And.intro rfl rfl) (And.intro rfl (And.intro rfl (And.intro rfl (And.intro rfl (And.intro rfl (And.intro rfl (And.intro rfl (And.intro rfl trivial))))))))) fun j => ?_
          obtain ⟨y20, g21, hF⟩ := bind_some hF
          refine wpn_sl (T := Ty.u8) r0 rfl rfl rfl g21 fun _ r22 => ?_
          obtain ⟨A23, c24, rfl, -⟩ := r22.form
          obtain ⟨c25, h26, hF⟩ := bind_some hF
          refine wpn_c0 hO (w_isa_Put (RdT.nil Ty.u8 _) h26) rfl fun _ σ _ _ hO h27 h28 => ?_
          have hL := hL.trans h27
          have r0 := r0.le h27
          have r22 := r22.le h27
          obtain ⟨v29, o32, rfl, rfl, w33⟩ := h28
          obtain ⟨A30, c31, rfl, -⟩ := w33.form
          have hO : Obs _ _ [_, _, _] := hO
          obtain ⟨_, h35, r34, hO⟩ := w33.share hO (i := 2) rfl
          have hL := hL.trans h35
          have r0 := r0.le h35
          have r22 := r22.le h35
          have hO : Obs _ _ [_, _, _] := hO
          obtain ⟨c36, h37, hF⟩ := bind_some hF
          refine wpn_c0 hO (w_bytes_Equal r34 r22 h37) rfl fun _ σ _ _ hO h38 h39 => ?_
          have hL := hL.trans h38
          have r34 := r34.le h38
          have r0 := r0.le h38
          have r22 := r22.le h38
          obtain ⟨rfl, rfl⟩ := h39
          have hO : Obs _ _ [_, _, _] := hO
          refine wpn_q hO 1 [] [(4, .pointer (some ⟨b3, 0, none⟩)), (7, .pointer (some ⟨b9, 0, none⟩)), (8, .int .i64 c5.2.1), (33, .bool c10), (41, .bool (!c36))] (And.intro rfl (And.intro rfl (And.intro rfl (And.intro rfl (And.intro rfl trivial))))) fun j => ?_
          refine wpn_pk (congrArg Value.bool hb19) ?_
          refine wpn_nil ?_
          injection hF with hF
          subst hF
          refine wpn_end ?_
          have hO := hO.sel [0, 1] (by decide)
          exact ⟨rfl, _, And.intro rfl (And.intro rfl (And.intro rfl (And.intro rfl trivial))), hO, hL⟩
      · rintro e σ ⟨_, hA, hO, hL⟩
        rw [← sets_agr _ _ hA]
        refine wpn_nil ?_
        rcases ite_some hF with ⟨hb40, hF⟩ | ⟨hb40, hF⟩
        · refine wpn_cT (congrArg Value.bool hb40) ?_
          refine wpn_assoc ?_
          refine wpn_q hO 1 [0] [(4, .pointer (some ⟨b3, 0, none⟩)), (43, .agg #[(.int .u8 0), (.int .u8 0), (.int .i64 0), (.int .i64 0), (.int .i64 0), (.int .i64 0), (.int .i64 0)])] (And.intro (And.intro rfl rfl) (And.intro rfl (And.intro rfl trivial))) fun j => ?_
          refine wpn_st hO (i := 0) rfl (off := 0) rfl rfl rfl rfl (Nat.le_of_ble_eq_true rfl) rfl fun σ hO => ?_
          have hO : Obs _ _ [_, _] := hO
          refine wpn_qa hO [] [(4, .pointer (some ⟨b3, 0, none⟩)), (5, .int .i64 0), (6, .int .i64 5)] (And.intro rfl (And.intro rfl (And.intro rfl trivial))) fun j => ?_
          refine wpn_rt ?_
          injection hF with hF
          subst hF
          have hV0 := hO.val (i := 0) rfl (off := 0) (agg := true) (n := 7) rfl
          have hO := hO.sel [] (by decide)
          exact hQ _ _ _ _ _ (resvs_c rfl (hV0) (resvs_t (resvs_t rfl))) hO hL ⟨rfl, rfl⟩
        · refine wpn_cF (congrArg Value.bool hb40) ?_
          refine wpn_sk ?_
          refine wpn_q hO 2 [1] [(4, .pointer (some ⟨b3, 0, none⟩)), (44, .agg #[(.int .u8 (c5.1.Kind.toNat : Int)), (.int .u8 (c5.1.Op.toNat : Int)), (.int .i64 c5.1.R), (.int .i64 c5.1.S), (.int .i64 c5.1.T), (.int .i64 c5.1.N), (.int .i64 c5.1.M)]), (45, .int .i64 c5.2.1)] (And.intro (And.intro rfl rfl) (And.intro rfl (And.intro rfl (And.intro rfl trivial)))) fun j => ?_
          refine wpn_st hO (i := 0) rfl (off := 0) rfl rfl rfl rfl (Nat.le_of_ble_eq_true rfl) rfl fun σ hO => ?_
          have hO : Obs _ _ [_, _] := hO
          refine wpn_qa hO [] [(4, .pointer (some ⟨b3, 0, none⟩)), (5, .int .i64 c5.2.1), (6, .int .i64 0)] (And.intro rfl (And.intro rfl (And.intro rfl trivial))) fun j => ?_
          refine wpn_r1 ?_
          injection hF with hF
          subst hF
          have hV0 := hO.val (i := 0) rfl (off := 0) (agg := true) (n := 7) rfl
          have hO := hO.sel [] (by decide)
          exact hQ _ _ _ _ _ (resvs_c rfl (hV0) (resvs_t (resvs_t rfl))) hO hL ⟨rfl, rfl⟩
theorem w_law03_works {τ : Hp}   {rr : Bool} (hF : F_law03_works  = some rr) :
    Ctr Try.prog 8 #[] τ [] (fun v τ' vs' => v = .bool rr ∧ vs' = []) := by
  refine ctr_of (args := []) hm Try.func8 s8 rfl fun w0 σ hO Q hQ => ?_
  unfold F_law03_works at hF
  have hL := Hp.le.refl τ
  show wpn _ _ a8.body _ _ _
  unfold a8
  dsimp only
  refine wpn_qa hO [] [] (trivial) fun j => ?_
  refine wpn_q hO 1 [] [(6, .agg #[(.int .u8 8), (.int .u8 0), (.int .i64 1), (.int .i64 2), (.int .i64 3), (.int .i64 (-2)), (.int .i64 4)])] (And.intro rfl trivial) fun j => ?_
  refine wpn_al hO fun b1 σ hO => ?_
  have hO : Obs _ _ [_] := hO
  refine wpn_st hO (i := 0) rfl (off := 0) rfl rfl rfl rfl (Nat.le_of_ble_eq_true rfl) rfl fun σ hO => ?_
  have hO : Obs _ _ [_] := hO
  refine wpn_nil ?_
  refine wpn_lit (T := Ty.u8) (l := ([(255 : UInt8)] : List UInt8)) (cs := [.int .u8 255]) hO rfl ⟨[.int .u8 255], _, rfl, rfl, rfl⟩ rfl (by decide) fun _ σ o4 w5 hO => ?_
  obtain ⟨A2, c3, rfl, -⟩ := w5.form
  have hO : Obs _ _ [_, _] := hO
  refine wpn_q hO 1 [0] [(1, .pointer (some ⟨b1, 0, none⟩)), (7, .slice A2 ([(255 : UInt8)] : List UInt8).length c3), (8, .agg #[(.int .u8 8), (.int .u8 0), (.int .i64 1), (.int .i64 2), (.int .i64 3), (.int .i64 (-2)), (.int .i64 4)])] (And.intro (And.intro rfl rfl) (And.intro rfl (And.intro rfl (And.intro rfl trivial)))) fun j => ?_
  obtain ⟨_, h7, r6, hO⟩ := w5.share hO (i := 1) rfl
  have hL := hL.trans h7
  have hO : Obs _ _ [_, _] := hO
  obtain ⟨c8, h9, hF⟩ := bind_some hF
  refine wpn_c0 hO (w_isa_Put r6 h9) rfl fun _ σ _ _ hO h10 h11 => ?_
  have hL := hL.trans h10
  have r6 := r6.le h10
  obtain ⟨v12, o15, rfl, rfl, w16⟩ := h11
  obtain ⟨A13, c14, rfl, -⟩ := w16.form
  have hO : Obs _ _ [_, _, _] := hO
  refine wpn_qa hO [] [(1, .pointer (some ⟨b1, 0, none⟩)), (2, .slice A13 c8.length c14)] (And.intro rfl (And.intro rfl trivial)) fun j => ?_
  refine wpn_q hO 1 [] [(1, .pointer (some ⟨b1, 0, none⟩)), (2, .slice A13 c8.length c14), (11, .slice A13 c8.length c14)] (And.intro rfl (And.intro rfl (And.intro rfl trivial))) fun j => ?_
  obtain ⟨_, h18, r17, hO⟩ := w16.share hO (i := 2) rfl
  have hL := hL.trans h18
  have hO : Obs _ _ [_, _, _] := hO
  obtain ⟨c19, h20, hF⟩ := bind_some hF
  refine wpn_c0 hO (w_isa_Get r17 h20) rfl fun _ σ _ _ hO h21 h22 => ?_
  have hL := hL.trans h21
  have r17 := r17.le h21
  obtain ⟨rfl, rfl⟩ := h22
  have hO : Obs _ _ [_, _, _] := hO
  refine wpn_q hO 4 [] [(1, .pointer (some ⟨b1, 0, none⟩)), (2, .slice A13 c8.length c14), (13, .agg #[(.int .u8 (c19.1.Kind.toNat : Int)), (.int .u8 (c19.1.Op.toNat : Int)), (.int .i64 c19.1.R), (.int .i64 c19.1.S), (.int .i64 c19.1.T), (.int .i64 c19.1.N), (.int .i64 c19.1.M)]), (14, .int .i64 c19.2.1), (15, .int .i64 c19.2.2)] (And.intro rfl (And.intro rfl (And.intro rfl (And.intro rfl (And.intro rfl trivial))))) fun j => ?_
  refine wpn_al hO fun b23 σ hO => ?_
  have hO : Obs _ _ [_, _, _, _] := hO
  refine wpn_st hO (i := 3) rfl (off := 0) rfl rfl rfl rfl (Nat.le_of_ble_eq_true rfl) rfl fun σ hO => ?_
  have hO : Obs _ _ [_, _, _, _] := hO
  refine wpn_qa hO [] [(1, .pointer (some ⟨b1, 0, none⟩)), (2, .slice A13 c8.length c14), (3, .pointer (some ⟨b23, 0, none⟩)), (4, .int .i64 c19.2.1), (5, .int .i64 c19.2.2)] (And.intro rfl (And.intro rfl (And.intro rfl (And.intro rfl (And.intro rfl trivial))))) fun j => ?_
  refine wpn_q hO 1 [0] [(1, .pointer (some ⟨b1, 0, none⟩)), (2, .slice A13 c8.length c14), (3, .pointer (some ⟨b23, 0, none⟩)), (4, .int .i64 c19.2.1), (5, .int .i64 c19.2.2), (16, .agg #[(.int .u8 8), (.int .u8 0), (.int .i64 1), (.int .i64 2), (.int .i64 3), (.int .i64 (-2)), (.int .i64 4)])] (And.intro (And.intro rfl rfl) (And.intro rfl (And.intro rfl (And.intro rfl (And.intro rfl (And.intro rfl (And.intro rfl trivial))))))) fun j => ?_
  obtain ⟨c24, h25, hF⟩ := bind_some hF
  refine wpn_c0 hO (w_isa_Right h25) rfl fun _ σ _ _ hO h26 h27 => ?_
  have hL := hL.trans h26
  have r17 := r17.le h26
  obtain ⟨rfl, rfl⟩ := h27
  have hO : Obs _ _ [_, _, _, _] := hO
  refine wpn_q hO 4 [] [(1, .pointer (some ⟨b1, 0, none⟩)), (2, .slice A13 c8.length c14), (3, .pointer (some ⟨b23, 0, none⟩)), (4, .int .i64 c19.2.1), (5, .int .i64 c19.2.2), (23, .bool (c24 && ((c8.length : Int) == 6)))] (And.intro (And.intro rfl rfl) (fun _ => And.intro rfl (And.intro rfl (And.intro rfl (And.intro rfl (And.intro rfl (And.intro rfl trivial))))))) fun j => ?_
  obtain ⟨c28, h29, hF⟩ := bind_some hF
  refine wpn_midq 2 [(28, .bool c28), (1, .pointer (some ⟨b1, 0, none⟩)), (3, .pointer (some ⟨b23, 0, none⟩)), (4, .int .i64 c19.2.1), (5, .int .i64 c19.2.2)] (fun Q hQ => ?_) fun j => ?_
  · have hF := h29
    rcases ite_some hF with ⟨hb30, hF⟩ | ⟨hb30, hF⟩
    · refine wpn_gT (congrArg (fun x => isB (.bool x) true) hb30) ?_
      refine wpn_q hO 1 [] [(1, .pointer (some ⟨b1, 0, none⟩)), (3, .pointer (some ⟨b23, 0, none⟩)), (4, .int .i64 c19.2.1), (5, .int .i64 c19.2.2), (23, .bool (c24 && ((c8.length : Int) == 6))), (24, .slice A13 c8.length c14)] (And.intro rfl (And.intro rfl (And.intro rfl (And.intro rfl (And.intro rfl (And.intro rfl trivial)))))) fun j => ?_
      obtain ⟨y31, g32, hF⟩ := bind_some hF
      refine wpn_idx (T := Ty.u8) r17 hO.base rfl rfl g32 (by decide) fun a33 _ k34 m35 => ?_
      obtain rfl : _ = ([.int .u8 y31.toNat] : List Value) := k34
      refine wpn_ld rfl (m35.le hO.base).fst ?_
      refine wpn_q hO 1 [] [(1, .pointer (some ⟨b1, 0, none⟩)), (3, .pointer (some ⟨b23, 0, none⟩)), (4, .int .i64 c19.2.1), (5, .int .i64 c19.2.2), (23, .bool (c24 && ((c8.length : Int) == 6))), (27, .bool ((y31.toNat : Int) == 18))] (And.intro rfl (And.intro rfl (And.intro rfl (And.intro rfl (And.intro rfl (And.intro rfl trivial)))))) fun j => ?_
      refine wpn_pk (congrArg Value.bool hb30) ?_
      refine wpn_nil ?_
      injection hF with hF
      subst hF
      refine wpn_end ?_
      exact hQ _ (And.intro rfl (And.intro rfl (And.intro rfl (And.intro rfl (And.intro rfl trivial)))))
    · refine wpn_gF (congrArg (fun x => isB (.bool x) true) hb30) ?_
      refine wpn_pk (congrArg Value.bool hb30) ?_
      refine wpn_nil ?_
      injection hF with hF
      subst hF
      refine wpn_end ?_
      exact hQ _ (And.intro rfl (And.intro rfl (And.intro rfl (And.intro rfl (And.intro rfl trivial)))))
  · refine wpn_q hO 10 [3, 0] [(1, .pointer (some ⟨b1, 0, none⟩)), (42, .bool (((c28 && (( (c19.1.Kind.toNat : Int) == 8) && (( (c19.1.Op.toNat : Int) == 0) && (( c19.1.R == 1) && (( c19.1.S == 2) && (( c19.1.T == 3) && (( c19.1.N == (-2)) && (( c19.1.M == 4) && true)))))))) && (c19.2.1 == 6)) && (c19.2.2 == 0)))] (And.intro (And.intro rfl rfl) (And.intro (And.intro rfl rfl) (And.intro (And.intro rfl rfl) (fun _ => And.intro (And.intro rfl rfl) (fun _ => And.intro (And.intro rfl rfl) (fun _ => And.intro rfl (And.intro rfl trivial))))))) fun j => ?_
    have hO := hO.sel [0] (by decide)
    have hO : Obs _ _ [_] := hO
    obtain ⟨c36, h37, hF⟩ := bind_some hF
    refine wpn_mid 2 (fun e' σ' => ∃ (τ' : Hp), agr [(46, .bool c36)] e' ∧ Obs τ' σ' [some (b1, ⟨[.int .u8 8, .int .u8 0, .int .i64 1, .int .i64 2, .int .i64 3, .int .i64 (-2), .int .i64 4], 24, 7, true⟩)] ∧ Hp.le τ τ') ?_ ?_
    · have hF := h37
      rcases ite_some hF with ⟨hb38, hF⟩ | ⟨hb38, hF⟩
      · refine wpn_gT (congrArg (fun x => isB (.bool x) true) hb38) ?_
        refine wpn_q hO 1 [0] [(42, .bool (((c28 && (( (c19.1.Kind.toNat : Int) == 8) && (( (c19.1.Op.toNat : Int) == 0) && (( c19.1.R == 1) && (( c19.1.S == 2) && (( c19.1.T == 3) && (( c19.1.N == (-2)) && (( c19.1.M == 4) && true)))))))) && (c19.2.1 == 6)) && (c19.2.2 == 0))), (43, .agg #[(.int .u8 8), (.int .u8 0), (.int .i64 1), (.int .i64 2), (.int .i64 3), (.int .i64 (-2)), (.int .i64 4)])] (And.intro (And.intro rfl rfl) (And.intro rfl (And.intro rfl trivial))) fun j => ?_
        obtain ⟨c39, h40, hF⟩ := bind_some hF
        refine wpn_c0 hO (w_isa_Size h40) rfl fun _ σ _ _ hO h41 h42 => ?_
        have hL := hL.trans h41
        obtain ⟨rfl, rfl⟩ := h42
        have hO : Obs _ _ [_] := hO
        refine wpn_q hO 1 [] [(42, .bool (((c28 && (( (c19.1.Kind.toNat : Int) == 8) && (( (c19.1.Op.toNat : Int) == 0) && (( c19.1.R == 1) && (( c19.1.S == 2) && (( c19.1.T == 3) && (( c19.1.N == (-2)) && (( c19.1.M == 4) && true)))))))) && (c19.2.1 == 6)) && (c19.2.2 == 0))), (45, .bool (c39 == 5))] (And.intro rfl (And.intro rfl trivial)) fun j => ?_
        refine wpn_pk (congrArg Value.bool hb38) ?_
        refine wpn_nil ?_
        injection hF with hF
        subst hF
        refine wpn_end ?_
        exact ⟨rfl, _, And.intro rfl (trivial), hO, hL⟩
      · refine wpn_gF (congrArg (fun x => isB (.bool x) true) hb38) ?_
        refine wpn_pk (congrArg Value.bool hb38) ?_
        refine wpn_nil ?_
        injection hF with hF
        subst hF
        refine wpn_end ?_
        exact ⟨rfl, _, And.intro rfl (trivial), hO, hL⟩
    · rintro e σ ⟨_, hA, hO, hL⟩
      rw [← sets_agr _ _ hA]
      refine wpn_q hO 1 [] [(47, .bool c36)] (And.intro rfl trivial) fun j => ?_
      have hO := hO.sel [] (by decide)
      have hO : Obs _ _ [] := hO
      obtain ⟨c43, h44, hF⟩ := bind_some hF
      refine wpn_mid 2 (fun e' σ' => ∃ (τ' : Hp), agr [(51, .bool c43)] e' ∧ Obs τ' σ' [] ∧ Hp.le τ τ') ?_ ?_
      · have hF := h44
        rcases ite_some hF with ⟨hb45, hF⟩ | ⟨hb45, hF⟩
        · refine wpn_gT (congrArg (fun x => isB (.bool x) true) hb45) ?_
          refine wpn_q hO 1 [] [(47, .bool c36), (48, .agg #[(.int .u8 0), (.int .u8 0), (.int .i64 0), (.int .i64 0), (.int .i64 0), (.int .i64 0), (.int .i64 0)])] (And.intro rfl (And.intro rfl trivial)) fun j => ?_
          obtain ⟨c46, h47, hF⟩ := bind_some hF
          refine wpn_c0 hO (w_isa_Right h47) rfl fun _ σ _ _ hO h48 h49 => ?_
          have hL := hL.trans h48
          obtain ⟨rfl, rfl⟩ := h49
          have hO : Obs _ _ [] := hO
          refine wpn_q hO 1 [] [(47, .bool c36), (50, .bool (!c46))] (And.intro rfl (And.intro rfl trivial)) fun j => ?_
          refine wpn_pk (congrArg Value.bool hb45) ?_
          refine wpn_nil ?_
          injection hF with hF
          subst hF
          refine wpn_end ?_
          exact ⟨rfl, _, And.intro rfl (trivial), hO, hL⟩
        · refine wpn_gF (congrArg (fun x => isB (.bool x) true) hb45) ?_
          refine wpn_pk (congrArg Value.bool hb45) ?_
          refine wpn_nil ?_
          injection hF with hF
          subst hF
          refine wpn_end ?_
          exact ⟨rfl, _, And.intro rfl (trivial), hO, hL⟩
      · rintro e σ ⟨_, hA, hO, hL⟩
        rw [← sets_agr _ _ hA]
        refine wpn_qa hO [] [(0, .bool c43)] (And.intro rfl trivial) fun j => ?_
        refine wpn_r1 ?_
        injection hF with hF
        subst hF
        exact hQ _ _ _ _ _ rfl hO hL ⟨rfl, rfl⟩
end Go.Proofs.Ytnaafaopdefigaa
