import Derived.Test.YtglpbhkkkhmlpaaF
import Derived.Test.YtglpbhkkkhmlpaaAc0
import Derived.Test.YtglpbhkkkhmlpaaM00
import Derived.Test.YtglpbhkkkhmlpaaM02
namespace Go.Proofs.Ytglpbhkkkhmlpaa
open Go.Ab Go.RowKit
set_option linter.unusedVariables false
set_option linter.unusedSimpArgs false
set_option maxRecDepth 10000

/-! theodolite/lines.Right -/
theorem w_lines_Right {τ : Hp} {v0 : Value} {p0 : (List S_api_Row)} (r0 : RdT TyS_api_Row τ v0 p0) {rr : Bool} (hF : F_lines_Right p0 = some rr) :
    Ctr Try.prog 12 #[v0] τ [] (fun v τ' vs' => v = .bool rr ∧ vs' = []) := by
  obtain ⟨A0, c0, rfl, -⟩ := r0.form
  refine ctr_of (args := [.slice A0 p0.length c0]) hm Try.func12 s12 rfl fun w0 σ hO Q hQ => ?_
  unfold F_lines_Right at hF
  have hL := Hp.le.refl τ
  show wpn _ _ a12.body _ _ _
  unfold a12
  dsimp only
  refine wpn_qa hO [] [(0, .slice A0 p0.length c0)] (And.intro rfl trivial) fun j => ?_
  refine wpn_qa hO [] [(0, .slice A0 p0.length c0), (3, .int .i64 (-1))] (And.intro rfl (And.intro rfl trivial)) fun j => ?_
  refine wpn_assoc ?_
  refine wpn_qa hO [] [(0, .slice A0 p0.length c0), (3, .int .i64 (-1)), (6, .slice A0 p0.length c0), (7, .int .i64 (p0.length : Int)), (8, .int .i64 0)] (And.intro rfl (And.intro rfl (And.intro rfl (And.intro rfl (And.intro rfl trivial))))) fun j => ?_
  refine wpn_bl ?_
  refine wpn_lp (fun (n : Nat) e' σ' => ∃ (x12 : Int) (x14 : Int) (τ' : Hp), agr [(0, .slice A0 p0.length c0), (3, .int .i64 x12), (6, .slice A0 p0.length c0), (7, .int .i64 (p0.length : Int)), (8, .int .i64 x14)] e' ∧ Obs τ' σ' [] ∧ Hp.le τ τ' ∧ RdT TyS_api_Row τ' (.slice A0 p0.length c0) p0 ∧ RdT TyS_api_Row τ' (.slice A0 p0.length c0) p0 ∧ F_lines_Right_l3 p0 n x12 x14 = some rr) big ⟨(-1), 0, _, And.intro rfl (And.intro rfl (And.intro rfl (And.intro rfl (And.intro rfl trivial)))), hO, hL, r0, r0, hF⟩ ?_
  clear hF hO hL
  rintro n23 e σ ⟨x12, x14, _, hA, hO, hL, r11, r13, hF⟩
  rw [← sets_agr _ _ hA]
  cases n23 with
  | zero => exact nomatch (show none = some rr from hF)
  | succ n23 =>
    replace hF : F_lines_Right_l3B (F_lines_Right_l3 p0 n23) p0 x12 x14 = some rr := hF
    unfold F_lines_Right_l3B at hF
    refine wpn_qa hO [] [(0, .slice A0 p0.length c0), (3, .int .i64 x12), (6, .slice A0 p0.length c0), (7, .int .i64 (p0.length : Int)), (8, .int .i64 x14), (9, .bool (decide (x14 < (p0.length : Int))))] (And.intro rfl (And.intro rfl (And.intro rfl (And.intro rfl (And.intro rfl (And.intro rfl trivial)))))) fun j => ?_
    rcases ite_some hF with ⟨hb24, hF⟩ | ⟨hb24, hF⟩
    · refine wpn_cT (congrArg Value.bool hb24) ?_
      refine wpn_sk ?_
      refine wpn_bl ?_
      obtain ⟨y25, g26, hF⟩ := bind_some hF
      refine wpn_idx (T := TyS_api_Row) r13 hO.base rfl rfl g26 (by decide) fun a27 _ k28 m29 => ?_
      obtain rfl : _ = ([.int .i64 y25.Pc, .int .i64 y25.Point] : List Value) := k28
      refine wpn_ld rfl (m29.all rfl) ?_
      refine wpn_al hO fun b30 σ hO => ?_
      have hO : Obs _ _ [_] := hO
      refine wpn_st hO (i := 0) rfl (off := 0) rfl rfl rfl rfl (Nat.le_of_ble_eq_true rfl) rfl fun σ hO => ?_
      have hO : Obs _ _ [_] := hO
      refine wpn_nil ?_
      refine wpn_assoc ?_
      refine wpn_qa hO [0, 0, 0, 0] [(0, .slice A0 p0.length c0), (5, .pointer (some ⟨b30, 0, none⟩)), (6, .slice A0 p0.length c0), (7, .int .i64 (p0.length : Int)), (8, .int .i64 x14), (30, .bool ((((decide (y25.Pc ≤ x12)) || (decide (y25.Pc ≥ 16777216))) || (decide (y25.Point < 0))) || (decide (y25.Point ≥ 1000))))] (And.intro (And.intro rfl rfl) (And.intro (And.intro rfl rfl) (And.intro (And.intro rfl rfl) (fun _ => And.intro (And.intro rfl rfl) (And.intro (And.intro rfl rfl) (fun _ => And.intro (And.intro rfl rfl) (And.intro (And.intro rfl rfl) (fun _ => And.intro rfl (And.intro rfl (And.intro rfl (And.intro rfl (And.intro rfl (And.intro rfl trivial))))))))))))) fun j => ?_
      rcases ite_some hF with ⟨hb31, hF⟩ | ⟨hb31, hF⟩
      · refine wpn_cT (congrArg Value.bool hb31) ?_
        refine wpn_assoc ?_
        refine wpn_qa hO [] [(2, .bool false)] (And.intro rfl trivial) fun j => ?_
        refine wpn_rt ?_
        refine inb_r1 ?_
        refine thn_r1 ?_
        refine thn_r1 ?_
        refine inb_r1 ?_
        refine thn_r1 ?_
        injection hF with hF
        subst hF
        have hO := hO.sel [] (by decide)
        exact hQ _ _ _ _ _ rfl hO hL ⟨rfl, rfl⟩
      · refine wpn_cF (congrArg Value.bool hb31) ?_
        refine wpn_sk ?_
        refine wpn_rlast ?_
        refine wpn_qa hO [0] [(0, .slice A0 p0.length c0), (3, .int .i64 y25.Pc), (6, .slice A0 p0.length c0), (7, .int .i64 (p0.length : Int)), (8, .int .i64 x14)] (And.intro (And.intro rfl rfl) (And.intro rfl (And.intro rfl (And.intro rfl (And.intro rfl (And.intro rfl trivial)))))) fun j => ?_
        refine wpn_end ?_
        refine inb_i ?_
        refine thn_i ?_
        refine wpn_rlast ?_
        refine wpn_qa hO [] [(0, .slice A0 p0.length c0), (3, .int .i64 y25.Pc), (6, .slice A0 p0.length c0), (7, .int .i64 (p0.length : Int)), (8, .int .i64 (IntKind.i64.wrap (x14 + 1)))] (And.intro rfl (And.intro rfl (And.intro rfl (And.intro rfl (And.intro rfl trivial))))) fun j => ?_
        refine wpn_end ?_
        refine thn_i ?_
        have hO := hO.sel [] (by decide)
        exact ⟨n23, Nat.lt_succ_self _, y25.Pc, (IntKind.i64.wrap (x14 + 1)), _, And.intro rfl (And.intro rfl (And.intro rfl (And.intro rfl (And.intro rfl trivial)))), hO, hL, r11, r13, hF⟩
    · refine wpn_cF (congrArg Value.bool hb24) ?_
      refine wpn_ex ?_
      refine thn_x ?_
      refine inb_x ?_
      refine thn_i ?_
      refine wpn_qa hO [] [(2, .bool (decide ((p0.length : Int) ≤ 20000)))] (And.intro rfl trivial) fun j => ?_
      refine wpn_r1 ?_
      injection hF with hF
      subst hF
      exact hQ _ _ _ _ _ rfl hO hL ⟨rfl, rfl⟩

/-! slices.Clone[[]byte,byte] -/
theorem w_slices_Clone_Sbyte_byte {τ : Hp} {v0 : Value} {p0 : (List UInt8)} (r0 : RdT Ty.u8 τ v0 p0) {rr : (List UInt8)} (hF : F_slices_Clone_Sbyte_byte p0 = some rr) :
    Ctr Try.prog 42 #[v0] τ [] (fun v τ' vs' => ∃ (v0 : Value) (o0 : Ob), v = v0 ∧ vs' = [o0] ∧ OwnO Ty.u8 5 τ' v0 rr o0) := by
  obtain ⟨A0, c0, rfl, -⟩ := r0.form
  refine ctr_of (args := [.slice A0 p0.length c0]) hm Try.func42 s42 rfl fun w0 σ hO Q hQ => ?_
  unfold F_slices_Clone_Sbyte_byte at hF
  obtain ⟨_, hr, hF⟩ := bind_some hF
  injection hF with hF
  subst hF
  have hL := Hp.le.refl τ
  show wpn _ _ a42.body _ _ _
  unfold a42
  dsimp only
  refine wpn_qa hO [] [(0, .slice A0 p0.length c0)] (And.intro rfl trivial) fun j => ?_
  refine wpn_assoc ?_
  refine wpn_qa hO [] [(0, .slice A0 p0.length c0), (4, .bool A0.isNone)] (And.intro rfl (And.intro rfl trivial)) fun j => ?_
  rcases (Bool.eq_false_or_eq_true A0.isNone).symm with hA | hA
  · refine wpn_cF (congrArg Value.bool hA) ?_
    refine wpn_sk ?_
    refine wpn_lit (T := Ty.u8) (l := []) (cs := []) hO rfl rfl rfl (by decide) fun _ σ o1 w1 hO => ?_
    obtain ⟨A1, c1, rfl, -⟩ := w1.form
    refine wpn_q hO 1 [] [(5, .slice A1 0 c1), (6, .slice A0 p0.length c0)] (And.intro rfl (And.intro rfl trivial)) fun j => ?_
    refine wpn_apl (T := Ty.u8) hO w1 (i := 0) rfl rfl rfl r0 (by simpa using hr) (by decide) fun _ σ o2 w2 hO => ?_
    refine wpn_qa hO [] [(2, _)] (And.intro rfl trivial) fun j => ?_
    refine wpn_r1 ?_
    exact hQ _ _ _ _ _ rfl hO hL ⟨_, _, rfl, rfl, w2⟩
  · refine wpn_cT (congrArg Value.bool hA) ?_
    have := r0.empty (by decide) hA
    subst this
    refine wpn_assoc ?_
    refine wpn_qa hO [] [(2, .slice none 0 0)] (And.intro rfl trivial) fun j => ?_
    refine wpn_rt ?_
    have hO := hO.no
    exact hQ _ _ _ _ _ rfl hO hL ⟨_, _, rfl, rfl, OwnO.nil _ _ _⟩

/-! theodolite/lines.step -/
theorem w_lines_step {τ : Hp} {v0 : Value} {p0 : (List UInt8)} {o0 : Ob} {p1 : S_api_Row} {p2 : S_api_Row} (wp0 : OwnO Ty.u8 5 τ v0 p0 o0) {rr : (List UInt8)} (hF : F_lines_step p0 p1 p2 = some rr) :
    Ctr Try.prog 23 #[v0, .agg #[.int .i64 p1.Pc, .int .i64 p1.Point], .agg #[.int .i64 p2.Pc, .int .i64 p2.Point]] τ [o0] (fun v τ' vs' => ∃ (v0 : Value) (o0 : Ob), v = v0 ∧ vs' = [o0] ∧ OwnO Ty.u8 5 τ' v0 rr o0) := by
  obtain ⟨A0, c0, rfl, -⟩ := wp0.form
  refine ctr_of (args := [.slice A0 p0.length c0, .agg #[.int .i64 p1.Pc, .int .i64 p1.Point], .agg #[.int .i64 p2.Pc, .int .i64 p2.Point]]) hm Try.func23 s23 rfl fun w0 σ hO Q hQ => ?_
  unfold F_lines_step at hF
  have hL := Hp.le.refl τ
  show wpn _ _ a23.body _ _ _
  unfold a23
  dsimp only
  refine wpn_bx (n := 2) hO rfl rfl fun b1 σ hO => ?_
  have hO : Obs _ _ [_, _] := hO
  refine wpn_bx (n := 2) hO rfl rfl fun b2 σ hO => ?_
  have hO : Obs _ _ [_, _, _] := hO
  refine wpn_qa hO [] [(0, .slice A0 p0.length c0), (4, .pointer (some ⟨b1, 0, none⟩)), (5, .pointer (some ⟨b2, 0, none⟩))] (And.intro rfl (And.intro rfl (And.intro rfl trivial))) fun j => ?_
  refine wpn_p2r ?_
  refine wpn_qa hO [2, 1, 2, 1] [(0, .slice A0 p0.length c0), (7, .int .i64 (IntKind.i64.wrap (p2.Pc - p1.Pc))), (8, .int .i64 (IntKind.i64.wrap (p2.Point - p1.Point)))] (And.intro (And.intro rfl rfl) (And.intro (And.intro rfl rfl) (And.intro (And.intro rfl rfl) (And.intro (And.intro rfl rfl) (And.intro rfl (And.intro rfl (And.intro rfl trivial))))))) fun j => ?_
  refine wpn_assoc ?_
  refine wpn_qa hO [] [(0, .slice A0 p0.length c0), (7, .int .i64 (IntKind.i64.wrap (p2.Pc - p1.Pc))), (8, .int .i64 (IntKind.i64.wrap (p2.Point - p1.Point))), (28, .bool (((decide ((IntKind.i64.wrap (p2.Pc - p1.Pc)) ≤ 20)) && (decide ((IntKind.i64.wrap (p2.Point - p1.Point)) ≥ (-4)))) && (decide ((IntKind.i64.wrap (p2.Point - p1.Point)) < 8))))] (And.intro (And.intro rfl rfl) (fun _ => And.intro (And.intro rfl rfl) (fun _ => And.intro rfl (And.intro rfl (And.intro rfl (And.intro rfl trivial)))))) fun j => ?_
  rcases ite_some hF with ⟨hb3, hF⟩ | ⟨hb3, hF⟩
  · refine wpn_cT (congrArg Value.bool hb3) ?_
    refine wpn_assoc ?_
    refine wpn_q hO 8 [] [(29, .slice A0 p0.length c0), (36, .int .u8 (IntKind.u8.wrap (IntKind.i64.wrap ((IntKind.i64.wrap ((IntKind.i64.wrap (4 + (IntKind.i64.wrap (12 * (IntKind.i64.wrap (p2.Pc - p1.Pc)))))) + (IntKind.i64.wrap (p2.Point - p1.Point)))) + 4))))] (And.intro rfl (And.intro rfl trivial)) fun j => ?_
    obtain ⟨z4, hz4, hF⟩ := bind_some hF
    obtain ⟨_, hr, hF⟩ := bind_some hF
    refine wpn_ap1 (T := Ty.u8) (y := z4) hO wp0 (i := 0) rfl rfl (fun _ => rfl) rfl (u8R hz4) rfl hr (by decide) fun u _ σ o7 w8 hO => ?_
    obtain ⟨A5, c6, rfl, -⟩ := w8.form
    have hO : Obs _ _ [_, _, _] := hO
    refine wpn_qa hO [] [(6, .slice A5 (p0 ++ [z4]).length c6)] (And.intro rfl trivial) fun j => ?_
    refine wpn_rt ?_
    injection hF with hF
    subst hF
    have hO := hO.sel [0] (by decide)
    exact hQ _ _ _ _ _ rfl hO hL ⟨_, _, rfl, rfl, w8⟩
  · refine wpn_cF (congrArg Value.bool hb3) ?_
    refine wpn_sk ?_
    refine wpn_assoc ?_
    refine wpn_qa hO [] [(0, .slice A0 p0.length c0), (7, .int .i64 (IntKind.i64.wrap (p2.Pc - p1.Pc))), (8, .int .i64 (IntKind.i64.wrap (p2.Point - p1.Point))), (40, .bool ((IntKind.i64.wrap (p2.Pc - p1.Pc)) != 0))] (And.intro rfl (And.intro rfl (And.intro rfl (And.intro rfl trivial)))) fun j => ?_
    refine wpn_cut (fun e' σ' => ∃ (A25 : Option Addr) (c26 : Nat) (o27 : Ob) (x28 : List UInt8) (τ' : Hp), agr [(0, .slice A25 x28.length c26), (8, .int .i64 (IntKind.i64.wrap (p2.Point - p1.Point)))] e' ∧ Obs τ' σ' [o27] ∧ Hp.le τ τ' ∧ OwnO Ty.u8 5 τ' (.slice A25 x28.length c26) x28 o27 ∧ F_lines_step_k3 p1 p2 x28 = some rr) ?_ ?_
    · refine wpn_clast ?_
      rcases ite_some hF with ⟨hb54, hF⟩ | ⟨hb54, hF⟩
      · refine wpn_cT (congrArg Value.bool hb54) ?_
        refine wpn_q hO 1 [] [(7, .int .i64 (IntKind.i64.wrap (p2.Pc - p1.Pc))), (8, .int .i64 (IntKind.i64.wrap (p2.Point - p1.Point))), (41, .slice A0 p0.length c0)] (And.intro rfl (And.intro rfl (And.intro rfl trivial))) fun j => ?_
        obtain ⟨_, hr, hF⟩ := bind_some hF
        refine wpn_ap1 (T := Ty.u8) (y := (1 : UInt8)) hO wp0 (i := 0) rfl rfl (fun _ => rfl) rfl rfl rfl hr (by decide) fun u _ σ o57 w58 hO => ?_
        obtain ⟨A55, c56, rfl, -⟩ := w58.form
        have hO : Obs _ _ [_, _, _] := hO
        refine wpn_q hO 2 [] [(8, .int .i64 (IntKind.i64.wrap (p2.Point - p1.Point))), (43, .slice A55 (p0 ++ [(1 : UInt8)]).length c56), (45, .int .u64 (IntKind.u64.wrap (IntKind.i64.wrap (p2.Pc - p1.Pc))))] (And.intro rfl (And.intro rfl (And.intro rfl trivial))) fun j => ?_
        obtain ⟨_, h60, r59, hO⟩ := w58.share hO (i := 0) rfl
        have hL := hL.trans h60
        have hO : Obs _ _ [_, _, _] := hO
        obtain ⟨c61, h62, hF⟩ := bind_some hF
        refine wpn_c0 hO (w_leb_PutU r59 h62) rfl fun _ σ _ _ hO h63 h64 => ?_
        have hL := hL.trans h63
        have r59 := r59.le h63
        obtain ⟨v65, o68, rfl, rfl, w69⟩ := h64
        obtain ⟨A66, c67, rfl, -⟩ := w69.form
        have hO : Obs _ _ [_, _, _, _] := hO
        refine wpn_qa hO [] [(0, .slice A66 c61.length c67), (8, .int .i64 (IntKind.i64.wrap (p2.Point - p1.Point)))] (And.intro rfl (And.intro rfl trivial)) fun j => ?_
        refine wpn_end ?_
        refine thn_i ?_
        have hO := hO.sel [3] (by decide)
        exact ⟨A66, c67, o68, c61, _, And.intro rfl (And.intro rfl trivial), hO, hL, w69, hF⟩
      · refine wpn_cF (congrArg Value.bool hb54) ?_
        refine wpn_sk ?_
        refine wpn_end ?_
        refine thn_i ?_
        have hO := hO.sel [0] (by decide)
        exact ⟨A0, c0, o0, p0, _, And.intro rfl (And.intro rfl trivial), hO, hL, wp0, hF⟩
    · rintro e σ ⟨A25, c26, o27, x28, _, hA, hO, hL, w29, hF⟩
      rw [← sets_agr _ _ hA]
      unfold F_lines_step_k3 at hF
      refine wpn_assoc ?_
      refine wpn_qa hO [] [(0, .slice A25 x28.length c26), (8, .int .i64 (IntKind.i64.wrap (p2.Point - p1.Point))), (48, .bool ((IntKind.i64.wrap (p2.Point - p1.Point)) != 0))] (And.intro rfl (And.intro rfl (And.intro rfl trivial))) fun j => ?_
      rcases ite_some hF with ⟨hb30, hF⟩ | ⟨hb30, hF⟩
      · refine wpn_cT (congrArg Value.bool hb30) ?_
        refine wpn_q hO 1 [] [(8, .int .i64 (IntKind.i64.wrap (p2.Point - p1.Point))), (49, .slice A25 x28.length c26)] (And.intro rfl (And.intro rfl trivial)) fun j => ?_
        obtain ⟨_, hr, hF⟩ := bind_some hF
        refine wpn_ap1 (T := Ty.u8) (y := (2 : UInt8)) hO w29 (i := 0) rfl rfl (fun _ => rfl) rfl rfl rfl hr (by decide) fun u _ σ o33 w34 hO => ?_
        obtain ⟨A31, c32, rfl, -⟩ := w34.form
        have hO : Obs _ _ [_] := hO
        refine wpn_q hO 1 [] [(51, .slice A31 (x28 ++ [(2 : UInt8)]).length c32), (52, .int .i64 (IntKind.i64.wrap (p2.Point - p1.Point)))] (And.intro rfl (And.intro rfl trivial)) fun j => ?_
        obtain ⟨_, h36, r35, hO⟩ := w34.share hO (i := 0) rfl
        have hL := hL.trans h36
        have hO : Obs _ _ [_] := hO
        obtain ⟨c37, h38, hF⟩ := bind_some hF
        refine wpn_c0 hO (w_leb_PutS r35 h38) rfl fun _ σ _ _ hO h39 h40 => ?_
        have hL := hL.trans h39
        have r35 := r35.le h39
        obtain ⟨v41, o44, rfl, rfl, w45⟩ := h40
        obtain ⟨A42, c43, rfl, -⟩ := w45.form
        have hO : Obs _ _ [_, _] := hO
        refine wpn_qa hO [] [(0, .slice A42 c37.length c43)] (And.intro rfl trivial) fun j => ?_
        refine wpn_q hO 1 [] [(54, .slice A42 c37.length c43)] (And.intro rfl trivial) fun j => ?_
        obtain ⟨_, hr, hF⟩ := bind_some hF
        refine wpn_ap1 (T := Ty.u8) (y := (3 : UInt8)) hO w45 (i := 1) rfl rfl (fun _ => rfl) rfl rfl rfl hr (by decide) fun u _ σ o48 w49 hO => ?_
        obtain ⟨A46, c47, rfl, -⟩ := w49.form
        have hO : Obs _ _ [_, _] := hO
        refine wpn_qa hO [] [(6, .slice A46 (c37 ++ [(3 : UInt8)]).length c47)] (And.intro rfl trivial) fun j => ?_
        refine wpn_r1 ?_
        injection hF with hF
        subst hF
        have hO := hO.sel [1] (by decide)
        exact hQ _ _ _ _ _ rfl hO hL ⟨_, _, rfl, rfl, w49⟩
      · refine wpn_cF (congrArg Value.bool hb30) ?_
        refine wpn_sk ?_
        refine wpn_q hO 1 [] [(54, .slice A25 x28.length c26)] (And.intro rfl trivial) fun j => ?_
        obtain ⟨_, hr, hF⟩ := bind_some hF
        refine wpn_ap1 (T := Ty.u8) (y := (3 : UInt8)) hO w29 (i := 0) rfl rfl (fun _ => rfl) rfl rfl rfl hr (by decide) fun u _ σ o52 w53 hO => ?_
        obtain ⟨A50, c51, rfl, -⟩ := w53.form
        have hO : Obs _ _ [_] := hO
        refine wpn_qa hO [] [(6, .slice A50 (x28 ++ [(3 : UInt8)]).length c51)] (And.intro rfl trivial) fun j => ?_
        refine wpn_r1 ?_
        injection hF with hF
        subst hF
        exact hQ _ _ _ _ _ rfl hO hL ⟨_, _, rfl, rfl, w53⟩

/-! theodolite/lines.Write -/
theorem w_lines_Write {τ : Hp} {v0 : Value} {p0 : (List S_api_Row)} (r0 : RdT TyS_api_Row τ v0 p0) {rr : (List UInt8) × Int} (hF : F_lines_Write p0 = some rr) :
    Ctr Try.prog 9 #[v0] τ [] (fun v τ' vs' => ∃ (v0 : Value) (o0 : Ob), v = .tuple #[v0, .int .i64 rr.2] ∧ vs' = [o0] ∧ OwnO Ty.u8 5 τ' v0 rr.1 o0) := by
  obtain ⟨A0, c0, rfl, -⟩ := r0.form
  refine ctr_of (args := [.slice A0 p0.length c0]) hm Try.func9 s9 rfl fun w0 σ hO Q hQ => ?_
  unfold F_lines_Write at hF
  have hL := Hp.le.refl τ
  show wpn _ _ a9.body _ _ _
  unfold a9
  dsimp only
  refine wpn_qa hO [] [(0, .slice A0 p0.length c0)] (And.intro rfl trivial) fun j => ?_
  refine wpn_assoc ?_
  refine wpn_q hO 1 [] [(0, .slice A0 p0.length c0), (8, .slice A0 p0.length c0)] (And.intro rfl (And.intro rfl trivial)) fun j => ?_
  obtain ⟨c1, h2, hF⟩ := bind_some hF
  refine wpn_c0 hO (w_lines_Right r0 h2) rfl fun _ σ _ _ hO h3 h4 => ?_
  have hL := hL.trans h3
  have r0 := r0.le h3
  obtain ⟨rfl, rfl⟩ := h4
  have hO : Obs _ _ [] := hO
  refine wpn_qa hO [] [(0, .slice A0 p0.length c0), (10, .bool (!c1))] (And.intro rfl (And.intro rfl trivial)) fun j => ?_
  rcases ite_some hF with ⟨hb5, hF⟩ | ⟨hb5, hF⟩
  · refine wpn_cT (congrArg Value.bool hb5) ?_
    refine wpn_assoc ?_
    refine wpn_qa hO [] [(2, .slice none 0 0), (3, .int .i64 1)] (And.intro rfl (And.intro rfl trivial)) fun j => ?_
    refine wpn_rt ?_
    have hO := hO.no
    have hO : Obs _ _ [_] := hO
    injection hF with hF
    subst hF
    exact hQ _ _ _ _ _ rfl hO hL ⟨_, _, rfl, rfl, (OwnO.nil _ _ _)⟩
  · refine wpn_cF (congrArg Value.bool hb5) ?_
    refine wpn_sk ?_
    refine wpn_qa hO [] [(0, .slice A0 p0.length c0), (4, .slice none 0 0)] (And.intro rfl (And.intro rfl trivial)) fun j => ?_
    refine wpn_al hO fun b6 σ hO => ?_
    have hO : Obs _ _ [_] := hO
    refine wpn_nil ?_
    refine wpn_assoc ?_
    refine wpn_qa hO [] [(4, .slice none 0 0), (5, .pointer (some ⟨b6, 0, none⟩)), (11, .slice A0 p0.length c0), (12, .int .i64 (p0.length : Int)), (13, .int .i64 0)] (And.intro rfl (And.intro rfl (And.intro rfl (And.intro rfl (And.intro rfl trivial))))) fun j => ?_
    refine wpn_bl ?_
    have hO := hO.no
    have hO : Obs _ _ [_, _] := hO
    have hO := hO.sel [1, 0] (by decide)
    refine wpn_lp (fun (n : Nat) e' σ' => ∃ (A30 : Option Addr) (c31 : Nat) (o32 : Ob) (x33 : List UInt8) (x35 : Int) (x36 : Int) (x38 : Int) (τ' : Hp), agr [(4, .slice A30 x33.length c31), (5, .pointer (some ⟨b6, 0, none⟩)), (11, .slice A0 p0.length c0), (12, .int .i64 (p0.length : Int)), (13, .int .i64 x38)] e' ∧ Obs τ' σ' [o32, some (b6, ⟨[.int .i64 x35, .int .i64 x36], 42, 2, true⟩)] ∧ Hp.le τ τ' ∧ OwnO Ty.u8 5 τ' (.slice A30 x33.length c31) x33 o32 ∧ RdT TyS_api_Row τ' (.slice A0 p0.length c0) p0 ∧ F_lines_Write_l3 p0 n x33 x35 x36 x38 = some rr) big ⟨none, 0, none, [], 0, 0, 0, _, And.intro rfl (And.intro rfl (And.intro rfl (And.intro rfl (And.intro rfl trivial)))), hO, hL, OwnO.nil _ _ _, r0, hF⟩ ?_
    clear hF hO hL
    rintro n59 e σ ⟨A30, c31, o32, x33, x35, x36, x38, _, hA, hO, hL, w34, r37, hF⟩
    rw [← sets_agr _ _ hA]
    cases n59 with
    | zero => exact nomatch (show none = some rr from hF)
    | succ n59 =>
      replace hF : F_lines_Write_l3B (F_lines_Write_l3 p0 n59) p0 x33 x35 x36 x38 = some rr := hF
      unfold F_lines_Write_l3B at hF
      refine wpn_qa hO [] [(4, .slice A30 x33.length c31), (5, .pointer (some ⟨b6, 0, none⟩)), (11, .slice A0 p0.length c0), (12, .int .i64 (p0.length : Int)), (13, .int .i64 x38), (14, .bool (decide (x38 < (p0.length : Int))))] (And.intro rfl (And.intro rfl (And.intro rfl (And.intro rfl (And.intro rfl (And.intro rfl trivial)))))) fun j => ?_
      rcases ite_some hF with ⟨hb60, hF⟩ | ⟨hb60, hF⟩
      · refine wpn_cT (congrArg Value.bool hb60) ?_
        refine wpn_sk ?_
        refine wpn_bl ?_
        obtain ⟨y61, g62, hF⟩ := bind_some hF
        refine wpn_idx (T := TyS_api_Row) r37 hO.base rfl rfl g62 (by decide) fun a63 _ k64 m65 => ?_
        obtain rfl : _ = ([.int .i64 y61.Pc, .int .i64 y61.Point] : List Value) := k64
        refine wpn_ld rfl (m65.all rfl) ?_
        refine wpn_al hO fun b66 σ hO => ?_
        have hO : Obs _ _ [_, _, _] := hO
        refine wpn_st hO (i := 2) rfl (off := 0) rfl rfl rfl rfl (Nat.le_of_ble_eq_true rfl) rfl fun σ hO => ?_
        have hO : Obs _ _ [_, _, _] := hO
        refine wpn_nil ?_
        refine wpn_q hO 3 [1, 2] [(5, .pointer (some ⟨b6, 0, none⟩)), (7, .pointer (some ⟨b66, 0, none⟩)), (11, .slice A0 p0.length c0), (12, .int .i64 (p0.length : Int)), (13, .int .i64 x38), (17, .slice A30 x33.length c31), (18, .agg #[(.int .i64 x35), (.int .i64 x36)]), (19, .agg #[(.int .i64 y61.Pc), (.int .i64 y61.Point)])] (And.intro (And.intro rfl rfl) (And.intro (And.intro rfl rfl) (And.intro rfl (And.intro rfl (And.intro rfl (And.intro rfl (And.intro rfl (And.intro rfl (And.intro rfl (And.intro rfl trivial)))))))))) fun j => ?_
        obtain ⟨c67, h68, hF⟩ := bind_some hF
        have hO := hO.sel [1, 2, 0] (by decide)
        refine wpn_c (hs := [_, _]) (vs := [_]) hO (w_lines_step w34 h68) rfl fun _ σ _ _ hO h69 h70 => ?_
        have hL := hL.trans h69
        have r37 := r37.le h69
        obtain ⟨v71, o74, rfl, rfl, w75⟩ := h70
        obtain ⟨A72, c73, rfl, -⟩ := w75.form
        have hO : Obs _ _ [_, _, _] := hO
        refine wpn_qa hO [] [(4, .slice A72 c67.length c73), (5, .pointer (some ⟨b6, 0, none⟩)), (7, .pointer (some ⟨b66, 0, none⟩)), (11, .slice A0 p0.length c0), (12, .int .i64 (p0.length : Int)), (13, .int .i64 x38)] (And.intro rfl (And.intro rfl (And.intro rfl (And.intro rfl (And.intro rfl (And.intro rfl trivial)))))) fun j => ?_
        refine wpn_rlast ?_
        refine wpn_q hO 1 [1] [(4, .slice A72 c67.length c73), (5, .pointer (some ⟨b6, 0, none⟩)), (11, .slice A0 p0.length c0), (12, .int .i64 (p0.length : Int)), (13, .int .i64 x38), (21, .agg #[(.int .i64 y61.Pc), (.int .i64 y61.Point)])] (And.intro (And.intro rfl rfl) (And.intro rfl (And.intro rfl (And.intro rfl (And.intro rfl (And.intro rfl (And.intro rfl trivial))))))) fun j => ?_
        refine wpn_st hO (i := 0) rfl (off := 0) rfl rfl rfl rfl (Nat.le_of_ble_eq_true rfl) rfl fun σ hO => ?_
        have hO : Obs _ _ [_, _, _] := hO
        refine wpn_nil ?_
        refine wpn_end ?_
        refine inb_i ?_
        refine thn_i ?_
        refine wpn_rlast ?_
        refine wpn_qa hO [] [(4, .slice A72 c67.length c73), (5, .pointer (some ⟨b6, 0, none⟩)), (11, .slice A0 p0.length c0), (12, .int .i64 (p0.length : Int)), (13, .int .i64 (IntKind.i64.wrap (x38 + 1)))] (And.intro rfl (And.intro rfl (And.intro rfl (And.intro rfl (And.intro rfl trivial))))) fun j => ?_
        refine wpn_end ?_
        refine thn_i ?_
        have hO := hO.sel [2, 0] (by decide)
        exact ⟨n59, Nat.lt_succ_self _, A72, c73, o74, c67, y61.Pc, y61.Point, (IntKind.i64.wrap (x38 + 1)), _, And.intro rfl (And.intro rfl (And.intro rfl (And.intro rfl (And.intro rfl trivial)))), hO, hL, w75, r37, hF⟩
      · refine wpn_cF (congrArg Value.bool hb60) ?_
        refine wpn_ex ?_
        refine thn_x ?_
        refine inb_x ?_
        refine thn_i ?_
        refine wpn_q hO 1 [] [(23, .slice A30 x33.length c31)] (And.intro rfl trivial) fun j => ?_
        obtain ⟨_, hr, hF⟩ := bind_some hF
        refine wpn_ap1 (T := Ty.u8) (y := (0 : UInt8)) hO w34 (i := 0) rfl rfl (fun _ => rfl) rfl rfl rfl hr (by decide) fun u _ σ o78 w79 hO => ?_
        obtain ⟨A76, c77, rfl, -⟩ := w79.form
        have hO : Obs _ _ [_, _] := hO
        refine wpn_qa hO [] [(2, .slice A76 (x33 ++ [(0 : UInt8)]).length c77), (3, .int .i64 0)] (And.intro rfl (And.intro rfl trivial)) fun j => ?_
        refine wpn_r1 ?_
        injection hF with hF
        subst hF
        have hO := hO.sel [0] (by decide)
        exact hQ _ _ _ _ _ rfl hO hL ⟨_, _, rfl, rfl, w79⟩

/-! theodolite/leb.digits -/
theorem w_leb_digits {τ : Hp} {v0 : Value} {p0 : (List UInt8)} (r0 : RdT Ty.u8 τ v0 p0) {rr : Int × Int} (hF : F_leb_digits p0 = some rr) :
    Ctr Try.prog 48 #[v0] τ [] (fun v τ' vs' => v = .tuple #[.int .u64 rr.1, .int .i64 rr.2] ∧ vs' = []) := by
  obtain ⟨A0, c0, rfl, -⟩ := r0.form
  refine ctr_of (args := [.slice A0 p0.length c0]) hm Try.func48 s48 rfl fun w0 σ hO Q hQ => ?_
  unfold F_leb_digits at hF
  have hL := Hp.le.refl τ
  show wpn _ _ a48.body _ _ _
  unfold a48
  dsimp only
  refine wpn_qa hO [] [(0, .slice A0 p0.length c0), (2, .int .u64 0)] (And.intro rfl (And.intro rfl trivial)) fun j => ?_
  refine wpn_assoc ?_
  refine wpn_qa hO [] [(0, .slice A0 p0.length c0), (2, .int .u64 0), (7, .int .i64 (minI (p0.length : Int) 10)), (8, .int .i64 0)] (And.intro rfl (And.intro rfl (And.intro rfl (And.intro rfl trivial)))) fun j => ?_
  refine wpn_bl ?_
  refine wpn_lp (fun (n : Nat) e' σ' => ∃ (x17 : Int) (x18 : Int) (τ' : Hp), agr [(0, .slice A0 p0.length c0), (2, .int .u64 x17), (7, .int .i64 (minI (p0.length : Int) 10)), (8, .int .i64 x18)] e' ∧ Obs τ' σ' [] ∧ Hp.le τ τ' ∧ RdT Ty.u8 τ' (.slice A0 p0.length c0) p0 ∧ F_leb_digits_l3 p0 n x17 x18 = some rr) big ⟨0, 0, _, And.intro rfl (And.intro rfl (And.intro rfl (And.intro rfl trivial))), hO, hL, r0, hF⟩ ?_
  clear hF hO hL
  rintro n33 e σ ⟨x17, x18, _, hA, hO, hL, r16, hF⟩
  rw [← sets_agr _ _ hA]
  cases n33 with
  | zero => exact nomatch (show none = some rr from hF)
  | succ n33 =>
    replace hF : F_leb_digits_l3B (F_leb_digits_l3 p0 n33) p0 x17 x18 = some rr := hF
    unfold F_leb_digits_l3B at hF
    refine wpn_qa hO [] [(0, .slice A0 p0.length c0), (2, .int .u64 x17), (7, .int .i64 (minI (p0.length : Int) 10)), (8, .int .i64 x18), (9, .bool (decide (x18 < (minI (p0.length : Int) 10))))] (And.intro rfl (And.intro rfl (And.intro rfl (And.intro rfl (And.intro rfl trivial))))) fun j => ?_
    rcases ite_some hF with ⟨hb34, hF⟩ | ⟨hb34, hF⟩
    · refine wpn_cT (congrArg Value.bool hb34) ?_
      refine wpn_sk ?_
      refine wpn_bl ?_
      refine wpn_qa hO [] [(0, .slice A0 p0.length c0), (2, .int .u64 x17), (4, .int .i64 x18), (7, .int .i64 (minI (p0.length : Int) 10)), (8, .int .i64 x18)] (And.intro rfl (And.intro rfl (And.intro rfl (And.intro rfl (And.intro rfl trivial))))) fun j => ?_
      refine wpn_q hO 3 [] [(0, .slice A0 p0.length c0), (4, .int .i64 x18), (7, .int .i64 (minI (p0.length : Int) 10)), (8, .int .i64 x18), (11, .int .u64 x17), (12, .slice A0 p0.length c0), (13, .int .i64 x18)] (And.intro rfl (And.intro rfl (And.intro rfl (And.intro rfl (And.intro rfl (And.intro rfl (And.intro rfl trivial))))))) fun j => ?_
      obtain ⟨y35, g36, hF⟩ := bind_some hF
      refine wpn_idx (T := Ty.u8) r16 hO.base rfl rfl g36 (by decide) fun a37 _ k38 m39 => ?_
      obtain rfl : _ = ([.int .u8 y35.toNat] : List Value) := k38
      refine wpn_ld rfl m39.fst ?_
      refine wpn_q hO 4 [] [(0, .slice A0 p0.length c0), (4, .int .i64 x18), (7, .int .i64 (minI (p0.length : Int) 10)), (8, .int .i64 x18), (11, .int .u64 x17), (17, .int .u64 (IntKind.u64.wrap (andI .u8 (y35.toNat : Int) 127))), (19, .int .i64 (IntKind.i64.wrap (7 * x18)))] (And.intro rfl (And.intro rfl (And.intro rfl (And.intro rfl (And.intro rfl (And.intro rfl (And.intro rfl trivial))))))) fun j => ?_
      obtain ⟨y40, g41, hF⟩ := bind_some hF
      refine wpn_bn (shlO_bin g41) ?_
      refine wpn_qa hO [] [(0, .slice A0 p0.length c0), (2, .int .u64 (orI .u64 x17 y40)), (4, .int .i64 x18), (7, .int .i64 (minI (p0.length : Int) 10)), (8, .int .i64 x18)] (And.intro rfl (And.intro rfl (And.intro rfl (And.intro rfl (And.intro rfl trivial))))) fun j => ?_
      refine wpn_q hO 2 [] [(0, .slice A0 p0.length c0), (2, .int .u64 (orI .u64 x17 y40)), (4, .int .i64 x18), (7, .int .i64 (minI (p0.length : Int) 10)), (8, .int .i64 x18), (22, .slice A0 p0.length c0), (23, .int .i64 x18)] (And.intro rfl (And.intro rfl (And.intro rfl (And.intro rfl (And.intro rfl (And.intro rfl (And.intro rfl trivial))))))) fun j => ?_
      obtain ⟨y42, g43, hF⟩ := bind_some hF
      refine wpn_idx (T := Ty.u8) r16 hO.base rfl rfl g43 (by decide) fun a44 _ k45 m46 => ?_
      obtain rfl : _ = ([.int .u8 y42.toNat] : List Value) := k45
      refine wpn_ld rfl m46.fst ?_
      refine wpn_qa hO [] [(0, .slice A0 p0.length c0), (2, .int .u64 (orI .u64 x17 y40)), (4, .int .i64 x18), (7, .int .i64 (minI (p0.length : Int) 10)), (8, .int .i64 x18), (26, .bool (decide ((y42.toNat : Int) < 128)))] (And.intro rfl (And.intro rfl (And.intro rfl (And.intro rfl (And.intro rfl (And.intro rfl trivial)))))) fun j => ?_
      refine wpn_clast ?_
      rcases ite_some hF with ⟨hb47, hF⟩ | ⟨hb47, hF⟩
      · refine wpn_cT (congrArg Value.bool hb47) ?_
        refine wpn_assoc ?_
        refine wpn_qa hO [] [(2, .int .u64 (orI .u64 x17 y40)), (3, .int .i64 (IntKind.i64.wrap (x18 + 1)))] (And.intro rfl (And.intro rfl trivial)) fun j => ?_
        refine wpn_rt ?_
        refine inb_r1 ?_
        refine thn_r1 ?_
        refine thn_r1 ?_
        refine inb_r1 ?_
        refine thn_r1 ?_
        injection hF with hF
        subst hF
        exact hQ _ _ _ _ _ rfl hO hL ⟨rfl, rfl⟩
      · refine wpn_cF (congrArg Value.bool hb47) ?_
        refine wpn_sk ?_
        refine wpn_end ?_
        refine inb_i ?_
        refine thn_i ?_
        refine wpn_rlast ?_
        refine wpn_qa hO [] [(0, .slice A0 p0.length c0), (2, .int .u64 (orI .u64 x17 y40)), (7, .int .i64 (minI (p0.length : Int) 10)), (8, .int .i64 (IntKind.i64.wrap (x18 + 1)))] (And.intro rfl (And.intro rfl (And.intro rfl (And.intro rfl trivial)))) fun j => ?_
        refine wpn_end ?_
        refine thn_i ?_
        exact ⟨n33, Nat.lt_succ_self _, (orI .u64 x17 y40), (IntKind.i64.wrap (x18 + 1)), _, And.intro rfl (And.intro rfl (And.intro rfl (And.intro rfl trivial))), hO, hL, r16, hF⟩
    · refine wpn_cF (congrArg Value.bool hb34) ?_
      refine wpn_ex ?_
      refine thn_x ?_
      refine inb_x ?_
      refine thn_i ?_
      refine wpn_qa hO [] [(2, .int .u64 0), (3, .int .i64 0)] (And.intro rfl (And.intro rfl trivial)) fun j => ?_
      refine wpn_r1 ?_
      injection hF with hF
      subst hF
      exact hQ _ _ _ _ _ rfl hO hL ⟨rfl, rfl⟩

/-! slices.Equal[[]byte,byte] -/
theorem w_slices_Equal_Sbyte_byte {τ : Hp} {v0 : Value} {p0 : (List UInt8)} {v1 : Value} {p1 : (List UInt8)} (r0 : RdT Ty.u8 τ v0 p0) (r1 : RdT Ty.u8 τ v1 p1) {rr : Bool} (hF : F_slices_Equal_Sbyte_byte p0 p1 = some rr) :
    Ctr Try.prog 49 #[v0, v1] τ [] (fun v τ' vs' => v = .bool rr ∧ vs' = []) := by
  obtain ⟨A0, c0, rfl, -⟩ := r0.form
  obtain ⟨A1, c1, rfl, -⟩ := r1.form
  refine ctr_of (args := [.slice A0 p0.length c0, .slice A1 p1.length c1]) hm Try.func49 s49 rfl fun w0 σ hO Q hQ => ?_
  unfold F_slices_Equal_Sbyte_byte at hF
  have hL := Hp.le.refl τ
  show wpn _ _ a49.body _ _ _
  unfold a49
  dsimp only
  refine wpn_qa hO [] [(0, .slice A0 p0.length c0), (1, .slice A1 p1.length c1)] (And.intro rfl (And.intro rfl trivial)) fun j => ?_
  refine wpn_assoc ?_
  refine wpn_qa hO [] [(0, .slice A0 p0.length c0), (1, .slice A1 p1.length c1), (10, .bool ((p0.length : Int) != (p1.length : Int)))] (And.intro rfl (And.intro rfl (And.intro rfl trivial))) fun j => ?_
  rcases ite_some hF with ⟨hb1, hF⟩ | ⟨hb1, hF⟩
  · refine wpn_cT (congrArg Value.bool hb1) ?_
    refine wpn_assoc ?_
    refine wpn_qa hO [] [(4, .bool false)] (And.intro rfl trivial) fun j => ?_
    refine wpn_rt ?_
    injection hF with hF
    subst hF
    exact hQ _ _ _ _ _ rfl hO hL ⟨rfl, rfl⟩
  · refine wpn_cF (congrArg Value.bool hb1) ?_
    refine wpn_sk ?_
    refine wpn_assoc ?_
    refine wpn_qa hO [] [(0, .slice A0 p0.length c0), (1, .slice A1 p1.length c1), (12, .int .i64 (p0.length : Int)), (13, .int .i64 0)] (And.intro rfl (And.intro rfl (And.intro rfl (And.intro rfl trivial)))) fun j => ?_
    refine wpn_bl ?_
    refine wpn_lp (fun (n : Nat) e' σ' => ∃ (x18 : Int) (τ' : Hp), agr [(0, .slice A0 p0.length c0), (1, .slice A1 p1.length c1), (12, .int .i64 (p0.length : Int)), (13, .int .i64 x18)] e' ∧ Obs τ' σ' [] ∧ Hp.le τ τ' ∧ RdT Ty.u8 τ' (.slice A0 p0.length c0) p0 ∧ RdT Ty.u8 τ' (.slice A1 p1.length c1) p1 ∧ F_slices_Equal_Sbyte_byte_l3 p0 p1 n x18 = some rr) big ⟨0, _, And.intro rfl (And.intro rfl (And.intro rfl (And.intro rfl trivial))), hO, hL, r0, r1, hF⟩ ?_
    clear hF hO hL
    rintro n31 e σ ⟨x18, _, hA, hO, hL, r16, r17, hF⟩
    rw [← sets_agr _ _ hA]
    cases n31 with
    | zero => exact nomatch (show none = some rr from hF)
    | succ n31 =>
      replace hF : F_slices_Equal_Sbyte_byte_l3B (F_slices_Equal_Sbyte_byte_l3 p0 p1 n31) p0 p1 x18 = some rr := hF
      unfold F_slices_Equal_Sbyte_byte_l3B at hF
      refine wpn_qa hO [] [(0, .slice A0 p0.length c0), (1, .slice A1 p1.length c1), (12, .int .i64 (p0.length : Int)), (13, .int .i64 x18), (14, .bool (decide (x18 < (p0.length : Int))))] (And.intro rfl (And.intro rfl (And.intro rfl (And.intro rfl (And.intro rfl trivial))))) fun j => ?_
      rcases ite_some hF with ⟨hb32, hF⟩ | ⟨hb32, hF⟩
      · refine wpn_cT (congrArg Value.bool hb32) ?_
        refine wpn_sk ?_
        refine wpn_bl ?_
        refine wpn_qa hO [] [(0, .slice A0 p0.length c0), (1, .slice A1 p1.length c1), (5, .int .i64 x18), (12, .int .i64 (p0.length : Int)), (13, .int .i64 x18)] (And.intro rfl (And.intro rfl (And.intro rfl (And.intro rfl (And.intro rfl trivial))))) fun j => ?_
        refine wpn_p2r ?_
        refine wpn_q hO 2 [] [(0, .slice A0 p0.length c0), (1, .slice A1 p1.length c1), (5, .int .i64 x18), (12, .int .i64 (p0.length : Int)), (13, .int .i64 x18), (16, .slice A0 p0.length c0), (17, .int .i64 x18)] (And.intro rfl (And.intro rfl (And.intro rfl (And.intro rfl (And.intro rfl (And.intro rfl (And.intro rfl trivial))))))) fun j => ?_
        obtain ⟨y33, g34, hF⟩ := bind_some hF
        refine wpn_idx (T := Ty.u8) r16 hO.base rfl rfl g34 (by decide) fun a35 _ k36 m37 => ?_
        obtain rfl : _ = ([.int .u8 y33.toNat] : List Value) := k36
        refine wpn_ld rfl m37.fst ?_
        refine wpn_q hO 2 [] [(0, .slice A0 p0.length c0), (1, .slice A1 p1.length c1), (12, .int .i64 (p0.length : Int)), (13, .int .i64 x18), (19, .int .u8 (y33.toNat : Int)), (20, .slice A1 p1.length c1), (21, .int .i64 x18)] (And.intro rfl (And.intro rfl (And.intro rfl (And.intro rfl (And.intro rfl (And.intro rfl (And.intro rfl trivial))))))) fun j => ?_
        obtain ⟨y38, g39, hF⟩ := bind_some hF
        refine wpn_idx (T := Ty.u8) r17 hO.base rfl rfl g39 (by decide) fun a40 _ k41 m42 => ?_
        obtain rfl : _ = ([.int .u8 y38.toNat] : List Value) := k41
        refine wpn_ld rfl m42.fst ?_
        refine wpn_qa hO [] [(0, .slice A0 p0.length c0), (1, .slice A1 p1.length c1), (12, .int .i64 (p0.length : Int)), (13, .int .i64 x18), (24, .bool ((y33.toNat : Int) != (y38.toNat : Int)))] (And.intro rfl (And.intro rfl (And.intro rfl (And.intro rfl (And.intro rfl trivial))))) fun j => ?_
        refine wpn_clast ?_
        rcases ite_some hF with ⟨hb43, hF⟩ | ⟨hb43, hF⟩
        · refine wpn_cT (congrArg Value.bool hb43) ?_
          refine wpn_assoc ?_
          refine wpn_qa hO [] [(4, .bool false)] (And.intro rfl trivial) fun j => ?_
          refine wpn_rt ?_
          refine inb_r1 ?_
          refine thn_r1 ?_
          refine thn_r1 ?_
          refine inb_r1 ?_
          refine thn_r1 ?_
          injection hF with hF
          subst hF
          exact hQ _ _ _ _ _ rfl hO hL ⟨rfl, rfl⟩
        · refine wpn_cF (congrArg Value.bool hb43) ?_
          refine wpn_sk ?_
          refine wpn_end ?_
          refine inb_i ?_
          refine thn_i ?_
          refine wpn_rlast ?_
          refine wpn_qa hO [] [(0, .slice A0 p0.length c0), (1, .slice A1 p1.length c1), (12, .int .i64 (p0.length : Int)), (13, .int .i64 (IntKind.i64.wrap (x18 + 1)))] (And.intro rfl (And.intro rfl (And.intro rfl (And.intro rfl trivial)))) fun j => ?_
          refine wpn_end ?_
          refine thn_i ?_
          exact ⟨n31, Nat.lt_succ_self _, (IntKind.i64.wrap (x18 + 1)), _, And.intro rfl (And.intro rfl (And.intro rfl (And.intro rfl trivial))), hO, hL, r16, r17, hF⟩
      · refine wpn_cF (congrArg Value.bool hb32) ?_
        refine wpn_ex ?_
        refine thn_x ?_
        refine inb_x ?_
        refine thn_i ?_
        refine wpn_qa hO [] [(4, .bool true)] (And.intro rfl trivial) fun j => ?_
        refine wpn_r1 ?_
        injection hF with hF
        subst hF
        exact hQ _ _ _ _ _ rfl hO hL ⟨rfl, rfl⟩

/-! theodolite/leb.U$1 -/
theorem w_leb_U_1 {τ : Hp} {p0 : Int} {p1 : Int}  {rr : Int} (hF : F_leb_U_1 p0 p1 = some rr) :
    Ctr Try.prog 45 #[.int .u64 p0, .int .i64 p1] τ [] (fun v τ' vs' => v = .int .u64 rr ∧ vs' = []) := by
  refine ctr_of (args := [.int .u64 p0, .int .i64 p1]) hm Try.func45 s45 rfl fun w0 σ hO Q hQ => ?_
  unfold F_leb_U_1 at hF
  have hL := Hp.le.refl τ
  show wpn _ _ a45.body _ _ _
  unfold a45
  dsimp only
  refine wpn_qa hO [] [(0, .int .u64 p0)] (And.intro rfl trivial) fun j => ?_
  refine wpn_qa hO [] [(4, .int .u64 p0)] (And.intro rfl trivial) fun j => ?_
  refine wpn_r1 ?_
  injection hF with hF
  subst hF
  exact hQ _ _ _ _ _ rfl hO hL ⟨rfl, rfl⟩

/-! theodolite/leb.S$1 -/
theorem w_leb_S_1 {τ : Hp} {p0 : Int} {p1 : Int}  {rr : Int} (hF : F_leb_S_1 p0 p1 = some rr) :
    Ctr Try.prog 47 #[.int .u64 p0, .int .i64 p1] τ [] (fun v τ' vs' => v = .int .i64 rr ∧ vs' = []) := by
  refine ctr_of (args := [.int .u64 p0, .int .i64 p1]) hm Try.func47 s47 rfl fun w0 σ hO Q hQ => ?_
  unfold F_leb_S_1 at hF
  have hL := Hp.le.refl τ
  show wpn _ _ a47.body _ _ _
  unfold a47
  dsimp only
  refine wpn_qa hO [] [(0, .int .u64 p0), (1, .int .i64 p1)] (And.intro rfl (And.intro rfl trivial)) fun j => ?_
  refine wpn_qa hO [] [(0, .int .u64 p0), (5, .int .i64 (maxI 0 (IntKind.i64.wrap (64 - (IntKind.i64.wrap (7 * p1))))))] (And.intro rfl (And.intro rfl trivial)) fun j => ?_
  refine wpn_q hO 2 [] [(5, .int .i64 (maxI 0 (IntKind.i64.wrap (64 - (IntKind.i64.wrap (7 * p1)))))), (10, .int .u64 p0), (11, .int .i64 (maxI 0 (IntKind.i64.wrap (64 - (IntKind.i64.wrap (7 * p1))))))] (And.intro rfl (And.intro rfl (And.intro rfl trivial))) fun j => ?_
  obtain ⟨y1, g2, hF⟩ := bind_some hF
  refine wpn_bn (shlO_bin g2) ?_
  refine wpn_q hO 2 [] [(13, .int .i64 (IntKind.i64.wrap y1)), (14, .int .i64 (maxI 0 (IntKind.i64.wrap (64 - (IntKind.i64.wrap (7 * p1))))))] (And.intro rfl (And.intro rfl trivial)) fun j => ?_
  obtain ⟨y3, g4, hF⟩ := bind_some hF
  refine wpn_bn (shrO_bin g4) ?_
  refine wpn_qa hO [] [(4, .int .i64 y3)] (And.intro rfl trivial) fun j => ?_
  refine wpn_r1 ?_
  injection hF with hF
  subst hF
  exact hQ _ _ _ _ _ rfl hO hL ⟨rfl, rfl⟩

/-! theodolite/lines.move -/
theorem w_lines_move {τ : Hp} {v0 : Value} {p0 : (List UInt8)} {p1 : Int} (r0 : RdT Ty.u8 τ v0 p0) {rr : S_api_Row × Int × Bool} (hF : F_lines_move p0 p1 = some rr) :
    Ctr Try.prog 26 #[v0, .int .i64 p1] τ [] (fun v τ' vs' => v = .tuple #[.agg #[.int .i64 rr.1.Pc, .int .i64 rr.1.Point], .int .i64 rr.2.1, .bool rr.2.2] ∧ vs' = []) := by
  obtain ⟨A0, c0, rfl, -⟩ := r0.form
  refine ctr_of (args := [.slice A0 p0.length c0, .int .i64 p1]) hm Try.func26 s26 rfl fun w0 σ hO Q hQ => ?_
  unfold F_lines_move at hF
  have hL := Hp.le.refl τ
  show wpn _ _ a26.body _ _ _
  unfold a26
  dsimp only
  refine wpn_al hO fun b1 σ hO => ?_
  have hO : Obs _ _ [_] := hO
  refine wpn_qa hO [] [(0, .slice A0 p0.length c0), (1, .int .i64 p1), (4, .pointer (some ⟨b1, 0, none⟩))] (And.intro rfl (And.intro rfl (And.intro rfl trivial))) fun j => ?_
  refine wpn_q hO 2 [] [(0, .slice A0 p0.length c0), (1, .int .i64 p1), (4, .pointer (some ⟨b1, 0, none⟩)), (14, .slice A0 p0.length c0), (15, .int .i64 p1)] (And.intro rfl (And.intro rfl (And.intro rfl (And.intro rfl (And.intro rfl trivial))))) fun j => ?_
  obtain ⟨y2, g3, hF⟩ := bind_some hF
  refine wpn_idx (T := Ty.u8) r0 hO.base rfl rfl g3 (by decide) fun a4 _ k5 m6 => ?_
  obtain rfl : _ = ([.int .u8 y2.toNat] : List Value) := k5
  refine wpn_ld rfl m6.fst ?_
  refine wpn_qa hO [] [(0, .slice A0 p0.length c0), (1, .int .i64 p1), (4, .pointer (some ⟨b1, 0, none⟩)), (7, .int .i64 (IntKind.i64.wrap (y2.toNat : Int)))] (And.intro rfl (And.intro rfl (And.intro rfl (And.intro rfl trivial)))) fun j => ?_
  refine wpn_qa hO [] [(0, .slice A0 p0.length c0), (1, .int .i64 p1), (4, .pointer (some ⟨b1, 0, none⟩)), (7, .int .i64 (IntKind.i64.wrap (y2.toNat : Int))), (19, .int .i64 (IntKind.i64.wrap (y2.toNat : Int)))] (And.intro rfl (And.intro rfl (And.intro rfl (And.intro rfl (And.intro rfl trivial))))) fun j => ?_
  refine wpn_blast ?_
  refine wpn_bl ?_
  refine wpn_qa hO [] [(0, .slice A0 p0.length c0), (1, .int .i64 p1), (4, .pointer (some ⟨b1, 0, none⟩)), (7, .int .i64 (IntKind.i64.wrap (y2.toNat : Int))), (19, .int .i64 (IntKind.i64.wrap (y2.toNat : Int))), (30, .bool ((IntKind.i64.wrap (y2.toNat : Int)) == 1))] (And.intro rfl (And.intro rfl (And.intro rfl (And.intro rfl (And.intro rfl (And.intro rfl trivial)))))) fun j => ?_
  refine wpn_clast ?_
  rcases ite_some hF with ⟨hb7, hF⟩ | ⟨hb7, hF⟩
  · refine wpn_cT (congrArg Value.bool hb7) ?_
    refine wpn_assoc ?_
    refine wpn_q hO 3 [] [(4, .pointer (some ⟨b1, 0, none⟩)), (33, .slice A0 p0.length c0), (35, .int .i64 (IntKind.i64.wrap (p1 + 1)))] (And.intro rfl (And.intro rfl (And.intro rfl trivial))) fun j => ?_
    obtain ⟨c8, h9, hF⟩ := bind_some hF
    refine wpn_c0 hO (w_leb_U r0 h9) rfl fun _ σ _ _ hO h10 h11 => ?_
    have hL := hL.trans h10
    have r0 := r0.le h10
    obtain ⟨rfl, rfl⟩ := h11
    have hO : Obs _ _ [_] := hO
    refine wpn_qa hO [] [(4, .pointer (some ⟨b1, 0, none⟩)), (8, .int .u64 c8.1), (9, .int .i64 c8.2.1), (10, .int .i64 c8.2.2)] (And.intro rfl (And.intro rfl (And.intro rfl (And.intro rfl trivial)))) fun j => ?_
    refine wpn_assoc ?_
    refine wpn_q hO 7 [] [(4, .pointer (some ⟨b1, 0, none⟩)), (43, .agg #[(.int .i64 (IntKind.i64.wrap (minI c8.1 16777217))), (.int .i64 0)]), (44, .int .i64 c8.2.1), (46, .bool (c8.2.2 == 0))] (And.intro rfl (And.intro rfl (And.intro rfl (And.intro rfl trivial)))) fun j => ?_
    refine wpn_st hO (i := 0) rfl (off := 0) rfl rfl rfl rfl (Nat.le_of_ble_eq_true rfl) rfl fun σ hO => ?_
    have hO : Obs _ _ [_] := hO
    refine wpn_qa hO [] [(4, .pointer (some ⟨b1, 0, none⟩)), (5, .int .i64 c8.2.1), (6, .bool (c8.2.2 == 0))] (And.intro rfl (And.intro rfl (And.intro rfl trivial))) fun j => ?_
    refine wpn_rt ?_
    refine inb_r1 ?_
    refine thn_r1 ?_
    injection hF with hF
    subst hF
    have hV0 := hO.val (i := 0) rfl (off := 0) (agg := true) (n := 2) rfl
    have hO := hO.sel [] (by decide)
    exact hQ _ _ _ _ _ (resvs_c rfl (hV0) (resvs_t (resvs_t rfl))) hO hL ⟨rfl, rfl⟩
  · refine wpn_cF (congrArg Value.bool hb7) ?_
    refine wpn_assoc ?_
    refine wpn_qa hO [] [(0, .slice A0 p0.length c0), (1, .int .i64 p1), (4, .pointer (some ⟨b1, 0, none⟩)), (7, .int .i64 (IntKind.i64.wrap (y2.toNat : Int))), (19, .int .i64 (IntKind.i64.wrap (y2.toNat : Int))), (47, .bool ((IntKind.i64.wrap (y2.toNat : Int)) == 2))] (And.intro rfl (And.intro rfl (And.intro rfl (And.intro rfl (And.intro rfl (And.intro rfl trivial)))))) fun j => ?_
    rcases ite_some hF with ⟨hb12, hF⟩ | ⟨hb12, hF⟩
    · refine wpn_cT (congrArg Value.bool hb12) ?_
      refine wpn_assoc ?_
      refine wpn_q hO 3 [] [(4, .pointer (some ⟨b1, 0, none⟩)), (50, .slice A0 p0.length c0), (52, .int .i64 (IntKind.i64.wrap (p1 + 1)))] (And.intro rfl (And.intro rfl (And.intro rfl trivial))) fun j => ?_
      obtain ⟨c13, h14, hF⟩ := bind_some hF
      refine wpn_c0 hO (w_leb_S r0 h14) rfl fun _ σ _ _ hO h15 h16 => ?_
      have hL := hL.trans h15
      have r0 := r0.le h15
      obtain ⟨rfl, rfl⟩ := h16
      have hO : Obs _ _ [_] := hO
      refine wpn_qa hO [] [(4, .pointer (some ⟨b1, 0, none⟩)), (11, .int .i64 c13.1), (12, .int .i64 c13.2.1), (13, .int .i64 c13.2.2)] (And.intro rfl (And.intro rfl (And.intro rfl (And.intro rfl trivial)))) fun j => ?_
      refine wpn_assoc ?_
      refine wpn_q hO 7 [] [(4, .pointer (some ⟨b1, 0, none⟩)), (60, .agg #[(.int .i64 0), (.int .i64 (maxI (-16777217) (minI c13.1 16777217)))]), (61, .int .i64 c13.2.1), (63, .bool (c13.2.2 == 0))] (And.intro rfl (And.intro rfl (And.intro rfl (And.intro rfl trivial)))) fun j => ?_
      refine wpn_st hO (i := 0) rfl (off := 0) rfl rfl rfl rfl (Nat.le_of_ble_eq_true rfl) rfl fun σ hO => ?_
      have hO : Obs _ _ [_] := hO
      refine wpn_qa hO [] [(4, .pointer (some ⟨b1, 0, none⟩)), (5, .int .i64 c13.2.1), (6, .bool (c13.2.2 == 0))] (And.intro rfl (And.intro rfl (And.intro rfl trivial))) fun j => ?_
      refine wpn_rt ?_
      refine inb_r1 ?_
      refine thn_r1 ?_
      injection hF with hF
      subst hF
      have hV0 := hO.val (i := 0) rfl (off := 0) (agg := true) (n := 2) rfl
      have hO := hO.sel [] (by decide)
      exact hQ _ _ _ _ _ (resvs_c rfl (hV0) (resvs_t (resvs_t rfl))) hO hL ⟨rfl, rfl⟩
    · refine wpn_cF (congrArg Value.bool hb12) ?_
      refine wpn_assoc ?_
      refine wpn_assoc ?_
      refine wpn_qa hO [] [(1, .int .i64 p1), (4, .pointer (some ⟨b1, 0, none⟩)), (7, .int .i64 (IntKind.i64.wrap (y2.toNat : Int))), (19, .int .i64 (IntKind.i64.wrap (y2.toNat : Int))), (64, .bool ((IntKind.i64.wrap (y2.toNat : Int)) == 0))] (And.intro rfl (And.intro rfl (And.intro rfl (And.intro rfl (And.intro rfl trivial))))) fun j => ?_
      refine wpn_cut (fun e' σ' => ∃ (x18 : Bool) (τ' : Hp), agr [(1, .int .i64 p1), (4, .pointer (some ⟨b1, 0, none⟩)), (7, .int .i64 (IntKind.i64.wrap (y2.toNat : Int))), (64, .bool x18)] e' ∧ Obs τ' σ' [some (b1, ⟨[.int .i64 0, .int .i64 0], 42, 2, true⟩)] ∧ Hp.le τ τ' ∧ F_lines_move_k3 p1 y2 x18 = some rr) ?_ ?_
      · refine wpn_clast ?_
        rcases ite_some hF with ⟨hb20, hF⟩ | ⟨hb20, hF⟩
        · refine wpn_cT (congrArg Value.bool hb20) ?_
          refine wpn_sk ?_
          refine wpn_end ?_
          refine thn_i ?_
          exact ⟨((IntKind.i64.wrap (y2.toNat : Int)) == 0), _, And.intro rfl (And.intro rfl (And.intro rfl (And.intro rfl trivial))), hO, hL, hF⟩
        · refine wpn_cF (congrArg Value.bool hb20) ?_
          refine wpn_qa hO [] [(1, .int .i64 p1), (4, .pointer (some ⟨b1, 0, none⟩)), (7, .int .i64 (IntKind.i64.wrap (y2.toNat : Int))), (64, .bool ((IntKind.i64.wrap (y2.toNat : Int)) == 3))] (And.intro rfl (And.intro rfl (And.intro rfl (And.intro rfl trivial)))) fun j => ?_
          refine wpn_end ?_
          refine thn_i ?_
          exact ⟨((IntKind.i64.wrap (y2.toNat : Int)) == 3), _, And.intro rfl (And.intro rfl (And.intro rfl (And.intro rfl trivial))), hO, hL, hF⟩
      · rintro e σ ⟨x18, _, hA, hO, hL, hF⟩
        rw [← sets_agr _ _ hA]
        unfold F_lines_move_k3 at hF
        rcases ite_some hF with ⟨hb19, hF⟩ | ⟨hb19, hF⟩
        · refine wpn_cT (congrArg Value.bool hb19) ?_
          refine wpn_assoc ?_
          refine wpn_q hO 3 [0] [(4, .pointer (some ⟨b1, 0, none⟩)), (67, .agg #[(.int .i64 0), (.int .i64 0)]), (69, .int .i64 (IntKind.i64.wrap (p1 + 1)))] (And.intro (And.intro rfl rfl) (And.intro rfl (And.intro rfl (And.intro rfl trivial)))) fun j => ?_
          refine wpn_st hO (i := 0) rfl (off := 0) rfl rfl rfl rfl (Nat.le_of_ble_eq_true rfl) rfl fun σ hO => ?_
          have hO : Obs _ _ [_] := hO
          refine wpn_qa hO [] [(4, .pointer (some ⟨b1, 0, none⟩)), (5, .int .i64 (IntKind.i64.wrap (p1 + 1))), (6, .bool true)] (And.intro rfl (And.intro rfl (And.intro rfl trivial))) fun j => ?_
          refine wpn_rt ?_
          refine inb_r1 ?_
          refine thn_r1 ?_
          injection hF with hF
          subst hF
          have hV0 := hO.val (i := 0) rfl (off := 0) (agg := true) (n := 2) rfl
          have hO := hO.sel [] (by decide)
          exact hQ _ _ _ _ _ (resvs_c rfl (hV0) (resvs_t (resvs_t rfl))) hO hL ⟨rfl, rfl⟩
        · refine wpn_cF (congrArg Value.bool hb19) ?_
          refine wpn_assoc ?_
          refine wpn_q hO 10 [] [(4, .pointer (some ⟨b1, 0, none⟩)), (27, .agg #[(.int .i64 (IntKind.i64.wrap (Int.tdiv (IntKind.i64.wrap ((IntKind.i64.wrap (y2.toNat : Int)) - 4)) 12))), (.int .i64 (IntKind.i64.wrap ((Int.tmod (IntKind.i64.wrap ((IntKind.i64.wrap (y2.toNat : Int)) - 4)) 12) - 4)))]), (29, .int .i64 (IntKind.i64.wrap (p1 + 1)))] (And.intro rfl (And.intro rfl (And.intro rfl trivial))) fun j => ?_
          refine wpn_st hO (i := 0) rfl (off := 0) rfl rfl rfl rfl (Nat.le_of_ble_eq_true rfl) rfl fun σ hO => ?_
          have hO : Obs _ _ [_] := hO
          refine wpn_qa hO [] [(4, .pointer (some ⟨b1, 0, none⟩)), (5, .int .i64 (IntKind.i64.wrap (p1 + 1))), (6, .bool true)] (And.intro rfl (And.intro rfl (And.intro rfl trivial))) fun j => ?_
          refine wpn_rt ?_
          refine inb_r1 ?_
          refine thn_r1 ?_
          injection hF with hF
          subst hF
          have hV0 := hO.val (i := 0) rfl (off := 0) (agg := true) (n := 2) rfl
          have hO := hO.sel [] (by decide)
          exact hQ _ _ _ _ _ (resvs_c rfl (hV0) (resvs_t (resvs_t rfl))) hO hL ⟨rfl, rfl⟩

/-! theodolite/lines.Read -/
theorem w_lines_Read {τ : Hp} {v0 : Value} {p0 : (List UInt8)} (r0 : RdT Ty.u8 τ v0 p0) {rr : (List S_api_Row) × Int} (hF : F_lines_Read p0 = some rr) :
    Ctr Try.prog 16 #[v0] τ [] (fun v τ' vs' => ∃ (v0 : Value), v = .tuple #[v0, .int .i64 rr.2] ∧ vs' = [] ∧ RdT TyS_api_Row τ' v0 rr.1) := by
  obtain ⟨A0, c0, rfl, -⟩ := r0.form
  refine ctr_of (args := [.slice A0 p0.length c0]) hm Try.func16 s16 rfl fun w0 σ hO Q hQ => ?_
  unfold F_lines_Read at hF
  have hL := Hp.le.refl τ
  show wpn _ _ a16.body _ _ _
  unfold a16
  dsimp only
  refine wpn_qa hO [] [(0, .slice A0 p0.length c0)] (And.intro rfl trivial) fun j => ?_
  refine wpn_qa hO [] [(0, .slice A0 p0.length c0), (4, .slice none 0 0)] (And.intro rfl (And.intro rfl trivial)) fun j => ?_
  refine wpn_al hO fun b1 σ hO => ?_
  have hO : Obs _ _ [_] := hO
  refine wpn_nil ?_
  refine wpn_assoc ?_
  refine wpn_qa hO [] [(0, .slice A0 p0.length c0), (4, .slice none 0 0), (5, .pointer (some ⟨b1, 0, none⟩)), (6, .int .i64 0)] (And.intro rfl (And.intro rfl (And.intro rfl (And.intro rfl trivial)))) fun j => ?_
  refine wpn_bl ?_
  have hO := hO.no
  have hO : Obs _ _ [_, _] := hO
  have hO := hO.sel [1, 0] (by decide)
  refine wpn_lp (fun (n : Nat) e' σ' => ∃ (A31 : Option Addr) (c32 : Nat) (o33 : Ob) (x34 : List S_api_Row) (x36 : Int) (x37 : Int) (x38 : Int) (τ' : Hp), agr [(0, .slice A0 p0.length c0), (4, .slice A31 x34.length c32), (5, .pointer (some ⟨b1, 0, none⟩)), (6, .int .i64 x38)] e' ∧ Obs τ' σ' [o33, some (b1, ⟨[.int .i64 x36, .int .i64 x37], 42, 2, true⟩)] ∧ Hp.le τ τ' ∧ RdT Ty.u8 τ' (.slice A0 p0.length c0) p0 ∧ OwnO TyS_api_Row 42 τ' (.slice A31 x34.length c32) x34 o33 ∧ F_lines_Read_l3 p0 n x34 x36 x37 x38 = some rr) big ⟨none, 0, none, [], 0, 0, 0, _, And.intro rfl (And.intro rfl (And.intro rfl (And.intro rfl trivial))), hO, hL, r0, OwnO.nil _ _ _, hF⟩ ?_
  clear hF hO hL
  rintro n67 e σ ⟨A31, c32, o33, x34, x36, x37, x38, _, hA, hO, hL, r30, w35, hF⟩
  rw [← sets_agr _ _ hA]
  cases n67 with
  | zero => exact nomatch (show none = some rr from hF)
  | succ n67 =>
    replace hF : F_lines_Read_l3B (F_lines_Read_l3 p0 n67) p0 x34 x36 x37 x38 = some rr := hF
    unfold F_lines_Read_l3B at hF
    refine wpn_assoc ?_
    refine wpn_qa hO [] [(0, .slice A0 p0.length c0), (4, .slice A31 x34.length c32), (5, .pointer (some ⟨b1, 0, none⟩)), (6, .int .i64 x38), (14, .bool (decide (x38 < (p0.length : Int))))] (And.intro rfl (And.intro rfl (And.intro rfl (And.intro rfl (And.intro rfl trivial))))) fun j => ?_
    rcases ite_some hF with ⟨hb68, hF⟩ | ⟨hb68, hF⟩
    · refine wpn_cT (congrArg Value.bool hb68) ?_
      refine wpn_sk ?_
      refine wpn_blast ?_
      refine wpn_bl ?_
      refine wpn_q hO 2 [] [(0, .slice A0 p0.length c0), (4, .slice A31 x34.length c32), (5, .pointer (some ⟨b1, 0, none⟩)), (6, .int .i64 x38), (15, .slice A0 p0.length c0), (16, .int .i64 x38)] (And.intro rfl (And.intro rfl (And.intro rfl (And.intro rfl (And.intro rfl (And.intro rfl trivial)))))) fun j => ?_
      obtain ⟨y69, g70, hF⟩ := bind_some hF
      refine wpn_idx (T := Ty.u8) r30 hO.base rfl rfl g70 (by decide) fun a71 _ k72 m73 => ?_
      obtain rfl : _ = ([.int .u8 y69.toNat] : List Value) := k72
      refine wpn_ld rfl m73.fst ?_
      refine wpn_qa hO [] [(0, .slice A0 p0.length c0), (4, .slice A31 x34.length c32), (5, .pointer (some ⟨b1, 0, none⟩)), (6, .int .i64 x38), (7, .int .u8 (y69.toNat : Int))] (And.intro rfl (And.intro rfl (And.intro rfl (And.intro rfl (And.intro rfl trivial))))) fun j => ?_
      refine wpn_q hO 2 [] [(0, .slice A0 p0.length c0), (4, .slice A31 x34.length c32), (5, .pointer (some ⟨b1, 0, none⟩)), (7, .int .u8 (y69.toNat : Int)), (20, .slice A0 p0.length c0), (21, .int .i64 x38)] (And.intro rfl (And.intro rfl (And.intro rfl (And.intro rfl (And.intro rfl (And.intro rfl trivial)))))) fun j => ?_
      obtain ⟨c74, h75, hF⟩ := bind_some hF
      refine wpn_c0 hO (w_lines_move r30 h75) rfl fun _ σ _ _ hO h76 h77 => ?_
      have hL := hL.trans h76
      have r30 := r30.le h76
      have w35 := w35.le h76
      obtain ⟨rfl, rfl⟩ := h77
      have hO : Obs _ _ [_, _] := hO
      refine wpn_q hO 4 [] [(0, .slice A0 p0.length c0), (4, .slice A31 x34.length c32), (5, .pointer (some ⟨b1, 0, none⟩)), (7, .int .u8 (y69.toNat : Int)), (23, .agg #[(.int .i64 c74.1.Pc), (.int .i64 c74.1.Point)]), (24, .int .i64 c74.2.1), (25, .bool c74.2.2)] (And.intro rfl (And.intro rfl (And.intro rfl (And.intro rfl (And.intro rfl (And.intro rfl (And.intro rfl trivial))))))) fun j => ?_
      refine wpn_al hO fun b78 σ hO => ?_
      have hO : Obs _ _ [_, _, _] := hO
      refine wpn_st hO (i := 2) rfl (off := 0) rfl rfl rfl rfl (Nat.le_of_ble_eq_true rfl) rfl fun σ hO => ?_
      have hO : Obs _ _ [_, _, _] := hO
      refine wpn_qa hO [] [(0, .slice A0 p0.length c0), (4, .slice A31 x34.length c32), (5, .pointer (some ⟨b1, 0, none⟩)), (7, .int .u8 (y69.toNat : Int)), (8, .pointer (some ⟨b78, 0, none⟩)), (9, .int .i64 c74.2.1), (10, .bool c74.2.2)] (And.intro rfl (And.intro rfl (And.intro rfl (And.intro rfl (And.intro rfl (And.intro rfl (And.intro rfl trivial))))))) fun j => ?_
      refine wpn_q hO 6 [1, 2] [(0, .slice A0 p0.length c0), (4, .slice A31 x34.length c32), (5, .pointer (some ⟨b1, 0, none⟩)), (7, .int .u8 (y69.toNat : Int)), (8, .pointer (some ⟨b78, 0, none⟩)), (9, .int .i64 c74.2.1), (10, .bool c74.2.2), (30, .int .i64 (IntKind.i64.wrap (x36 + c74.1.Pc))), (31, .pointer (some ⟨b1, 0, none⟩))] (And.intro (And.intro rfl rfl) (And.intro (And.intro rfl rfl) (And.intro rfl (And.intro rfl (And.intro rfl (And.intro rfl (And.intro rfl (And.intro rfl (And.intro rfl (And.intro rfl (And.intro rfl trivial))))))))))) fun j => ?_
      refine wpn_st hO (i := 1) rfl (off := 0) rfl rfl rfl rfl (Nat.le_of_ble_eq_true rfl) rfl fun σ hO => ?_
      have hO : Obs _ _ [_, _, _] := hO
      refine wpn_nil ?_
      refine wpn_q hO 6 [1, 2] [(0, .slice A0 p0.length c0), (4, .slice A31 x34.length c32), (5, .pointer (some ⟨b1, 0, none⟩)), (7, .int .u8 (y69.toNat : Int)), (9, .int .i64 c74.2.1), (10, .bool c74.2.2), (36, .int .i64 (IntKind.i64.wrap (x37 + c74.1.Point))), (37, .pointer (some ⟨b1, 1, none⟩))] (And.intro (And.intro rfl rfl) (And.intro (And.intro rfl rfl) (And.intro rfl (And.intro rfl (And.intro rfl (And.intro rfl (And.intro rfl (And.intro rfl (And.intro rfl (And.intro rfl trivial)))))))))) fun j => ?_
      refine wpn_st hO (i := 1) rfl (off := 1) rfl rfl rfl rfl (Nat.le_of_ble_eq_true rfl) rfl fun σ hO => ?_
      have hO : Obs _ _ [_, _, _] := hO
      refine wpn_nil ?_
      refine wpn_assoc ?_
      refine wpn_qa hO [1, 1, 1] [(0, .slice A0 p0.length c0), (4, .slice A31 x34.length c32), (5, .pointer (some ⟨b1, 0, none⟩)), (7, .int .u8 (y69.toNat : Int)), (9, .int .i64 c74.2.1), (54, .bool ((((!c74.2.2) || (decide ((IntKind.i64.wrap (x36 + c74.1.Pc)) > 16777216))) || (decide ((IntKind.i64.wrap (x37 + c74.1.Point)) < 0))) || (decide ((IntKind.i64.wrap (x37 + c74.1.Point)) > 16777216))))] (And.intro (And.intro rfl rfl) (And.intro (And.intro rfl rfl) (fun _ => And.intro (And.intro rfl rfl) (And.intro (And.intro rfl rfl) (fun _ => And.intro (And.intro rfl rfl) (And.intro (And.intro rfl rfl) (fun _ => And.intro rfl (And.intro rfl (And.intro rfl (And.intro rfl (And.intro rfl (And.intro rfl trivial)))))))))))) fun j => ?_
      rcases ite_some hF with ⟨hb79, hF⟩ | ⟨hb79, hF⟩
      · refine wpn_cT (congrArg Value.bool hb79) ?_
        refine wpn_assoc ?_
        refine wpn_qa hO [] [(2, .slice none 0 0), (3, .int .i64 5)] (And.intro rfl (And.intro rfl trivial)) fun j => ?_
        refine wpn_rt ?_
        refine inb_r1 ?_
        refine thn_r1 ?_
        refine thn_r1 ?_
        refine inb_r1 ?_
        refine thn_r1 ?_
        injection hF with hF
        subst hF
        have hO := hO.sel [] (by decide)
        exact hQ _ _ _ _ _ rfl hO hL ⟨_, rfl, rfl, (RdT.nil _ _)⟩
      · refine wpn_cF (congrArg Value.bool hb79) ?_
        refine wpn_sk ?_
        refine wpn_assoc ?_
        refine wpn_qa hO [] [(0, .slice A0 p0.length c0), (4, .slice A31 x34.length c32), (5, .pointer (some ⟨b1, 0, none⟩)), (7, .int .u8 (y69.toNat : Int)), (9, .int .i64 c74.2.1), (56, .bool ((y69.toNat : Int) == 0))] (And.intro rfl (And.intro rfl (And.intro rfl (And.intro rfl (And.intro rfl (And.intro rfl trivial)))))) fun j => ?_
        rcases ite_some hF with ⟨hb80, hF⟩ | ⟨hb80, hF⟩
        · refine wpn_cT (congrArg Value.bool hb80) ?_
          refine wpn_assoc ?_
          refine wpn_assoc ?_
          refine wpn_q hO 5 [] [(4, .slice A31 x34.length c32), (61, .bool (c74.2.1 != (p0.length : Int)))] (And.intro rfl (And.intro rfl trivial)) fun j => ?_
          obtain ⟨_, h82, r81, hO⟩ := w35.share hO (i := 0) rfl
          have hL := hL.trans h82
          have hO : Obs _ _ [_, _, _] := hO
          have hO := hO.sel [] (by decide)
          have hO : Obs _ _ [] := hO
          obtain ⟨c83, h84, hF⟩ := bind_some hF
          refine wpn_mid 2 (fun e' σ' => ∃ (τ' : Hp), agr [(65, .bool c83), (4, .slice A31 x34.length c32)] e' ∧ Obs τ' σ' [] ∧ Hp.le τ τ' ∧ RdT TyS_api_Row τ' (.slice A31 x34.length c32) x34) ?_ ?_
          · have hF := h84
            rcases ite_some hF with ⟨hb85, hF⟩ | ⟨hb85, hF⟩
            · refine wpn_gF (congrArg (fun x => isB (.bool x) false) hb85) ?_
              refine wpn_pk (congrArg Value.bool hb85) ?_
              refine wpn_nil ?_
              injection hF with hF
              subst hF
              refine wpn_end ?_
              exact ⟨rfl, _, And.intro rfl (And.intro rfl trivial), hO, hL, r81⟩
            · refine wpn_gT (congrArg (fun x => isB (.bool x) false) hb85) ?_
              refine wpn_q hO 1 [] [(4, .slice A31 x34.length c32), (61, .bool (c74.2.1 != (p0.length : Int))), (62, .slice A31 x34.length c32)] (And.intro rfl (And.intro rfl (And.intro rfl trivial))) fun j => ?_
              obtain ⟨c86, h87, hF⟩ := bind_some hF
              refine wpn_c0 hO (w_lines_Right r81 h87) rfl fun _ σ _ _ hO h88 h89 => ?_
              have hL := hL.trans h88
              have r81 := r81.le h88
              obtain ⟨rfl, rfl⟩ := h89
              have hO : Obs _ _ [] := hO
              refine wpn_q hO 1 [] [(4, .slice A31 x34.length c32), (61, .bool (c74.2.1 != (p0.length : Int))), (64, .bool (!c86))] (And.intro rfl (And.intro rfl (And.intro rfl trivial))) fun j => ?_
              refine wpn_pk (congrArg Value.bool hb85) ?_
              refine wpn_nil ?_
              injection hF with hF
              subst hF
              refine wpn_end ?_
              exact ⟨rfl, _, And.intro rfl (And.intro rfl trivial), hO, hL, r81⟩
          · rintro e σ ⟨_, hA, hO, hL, r81⟩
            rw [← sets_agr _ _ hA]
            refine wpn_nil ?_
            rcases ite_some hF with ⟨hb90, hF⟩ | ⟨hb90, hF⟩
            · refine wpn_cT (congrArg Value.bool hb90) ?_
              refine wpn_assoc ?_
              refine wpn_qa hO [] [(2, .slice none 0 0), (3, .int .i64 5)] (And.intro rfl (And.intro rfl trivial)) fun j => ?_
              refine wpn_rt ?_
              refine inb_r1 ?_
              refine thn_r1 ?_
              refine thn_r1 ?_
              refine inb_r1 ?_
              refine thn_r1 ?_
              injection hF with hF
              subst hF
              exact hQ _ _ _ _ _ rfl hO hL ⟨_, rfl, rfl, (RdT.nil _ _)⟩
            · refine wpn_cF (congrArg Value.bool hb90) ?_
              refine wpn_sk ?_
              refine wpn_assoc ?_
              refine wpn_qa hO [] [(2, .slice A31 x34.length c32), (3, .int .i64 0)] (And.intro rfl (And.intro rfl trivial)) fun j => ?_
              refine wpn_rt ?_
              refine inb_r1 ?_
              refine thn_r1 ?_
              refine thn_r1 ?_
              refine inb_r1 ?_
              refine thn_r1 ?_
              injection hF with hF
              subst hF
              exact hQ _ _ _ _ _ rfl hO hL ⟨_, rfl, rfl, r81⟩
        · refine wpn_cF (congrArg Value.bool hb80) ?_
          refine wpn_sk ?_
          refine wpn_assoc ?_
          refine wpn_qa hO [] [(0, .slice A0 p0.length c0), (4, .slice A31 x34.length c32), (5, .pointer (some ⟨b1, 0, none⟩)), (9, .int .i64 c74.2.1), (68, .bool (decide ((y69.toNat : Int) ≥ 3)))] (And.intro rfl (And.intro rfl (And.intro rfl (And.intro rfl (And.intro rfl trivial))))) fun j => ?_
          rcases ite_some hF with ⟨hb91, hF⟩ | ⟨hb91, hF⟩
          · refine wpn_cT (congrArg Value.bool hb91) ?_
            refine wpn_q hO 2 [1] [(0, .slice A0 p0.length c0), (5, .pointer (some ⟨b1, 0, none⟩)), (9, .int .i64 c74.2.1), (69, .slice A31 x34.length c32), (70, .agg #[(.int .i64 (IntKind.i64.wrap (x36 + c74.1.Pc))), (.int .i64 (IntKind.i64.wrap (x37 + c74.1.Point)))])] (And.intro (And.intro rfl rfl) (And.intro rfl (And.intro rfl (And.intro rfl (And.intro rfl (And.intro rfl trivial)))))) fun j => ?_
            obtain ⟨_, hr, hF⟩ := bind_some hF
            refine wpn_ap1 (T := TyS_api_Row) (y := (⟨(IntKind.i64.wrap (x36 + c74.1.Pc)), (IntKind.i64.wrap (x37 + c74.1.Point))⟩ : S_api_Row)) hO w35 (i := 0) rfl rfl (fun _ => rfl) rfl rfl rfl hr (by decide) fun u _ σ o94 w95 hO => ?_
            obtain ⟨A92, c93, rfl, -⟩ := w95.form
            have hO : Obs _ _ [_, _, _] := hO
            refine wpn_qa hO [] [(0, .slice A0 p0.length c0), (4, .slice A92 (x34 ++ [(⟨(IntKind.i64.wrap (x36 + c74.1.Pc)), (IntKind.i64.wrap (x37 + c74.1.Point))⟩ : S_api_Row)]).length c93), (5, .pointer (some ⟨b1, 0, none⟩)), (9, .int .i64 c74.2.1)] (And.intro rfl (And.intro rfl (And.intro rfl (And.intro rfl trivial)))) fun j => ?_
            refine wpn_rlast ?_
            refine wpn_qa hO [] [(0, .slice A0 p0.length c0), (4, .slice A92 (x34 ++ [(⟨(IntKind.i64.wrap (x36 + c74.1.Pc)), (IntKind.i64.wrap (x37 + c74.1.Point))⟩ : S_api_Row)]).length c93), (5, .pointer (some ⟨b1, 0, none⟩)), (6, .int .i64 c74.2.1)] (And.intro rfl (And.intro rfl (And.intro rfl (And.intro rfl trivial)))) fun j => ?_
            refine wpn_end ?_
            refine inb_i ?_
            refine thn_i ?_
            refine wpn_end ?_
            refine thn_i ?_
            have hO := hO.sel [0, 1] (by decide)
            exact ⟨n67, Nat.lt_succ_self _, A92, c93, o94, (x34 ++ [(⟨(IntKind.i64.wrap (x36 + c74.1.Pc)), (IntKind.i64.wrap (x37 + c74.1.Point))⟩ : S_api_Row)]), (IntKind.i64.wrap (x36 + c74.1.Pc)), (IntKind.i64.wrap (x37 + c74.1.Point)), c74.2.1, _, And.intro rfl (And.intro rfl (And.intro rfl (And.intro rfl trivial))), hO, hL, r30, w95, hF⟩
          · refine wpn_cF (congrArg Value.bool hb91) ?_
            refine wpn_sk ?_
            refine wpn_rlast ?_
            refine wpn_qa hO [] [(0, .slice A0 p0.length c0), (4, .slice A31 x34.length c32), (5, .pointer (some ⟨b1, 0, none⟩)), (6, .int .i64 c74.2.1)] (And.intro rfl (And.intro rfl (And.intro rfl (And.intro rfl trivial)))) fun j => ?_
            refine wpn_end ?_
            refine inb_i ?_
            refine thn_i ?_
            refine wpn_end ?_
            refine thn_i ?_
            have hO := hO.sel [0, 1] (by decide)
            exact ⟨n67, Nat.lt_succ_self _, A31, c32, o33, x34, (IntKind.i64.wrap (x36 + c74.1.Pc)), (IntKind.i64.wrap (x37 + c74.1.Point)), c74.2.1, _, And.intro rfl (And.intro rfl (And.intro rfl (And.intro rfl trivial))), hO, hL, r30, w35, hF⟩
    · refine wpn_cF (congrArg Value.bool hb68) ?_
      refine wpn_ex ?_
      refine thn_x ?_
      refine inb_x ?_
      refine thn_i ?_
      refine wpn_qa hO [] [(2, .slice none 0 0), (3, .int .i64 5)] (And.intro rfl (And.intro rfl trivial)) fun j => ?_
      refine wpn_r1 ?_
      injection hF with hF
      subst hF
      have hO := hO.sel [] (by decide)
      exact hQ _ _ _ _ _ rfl hO hL ⟨_, rfl, rfl, (RdT.nil _ _)⟩

/-! theodolite/lines.At$1 -/
theorem w_lines_At_1_sf_3 {τ : Hp} {p0 : S_api_Row} {qf0 : Int} {af0 : Addr} (mf0 : At τ af0 [.int .i64 qf0]) {rr : Bool} (hF : F_lines_At_1_sf_3 p0 qf0 = some rr) :
    Ctr Try.prog 30 #[.agg #[.int .i64 p0.Pc, .int .i64 p0.Point], .pointer (some af0)] τ [] (fun v τ' vs' => v = .bool rr ∧ vs' = []) := by
  refine ctr_of (args := [.agg #[.int .i64 p0.Pc, .int .i64 p0.Point], .pointer (some af0)]) hm Try.func30 s30 rfl fun w0 σ hO Q hQ => ?_
  unfold F_lines_At_1_sf_3 at hF
  have hL := Hp.le.refl τ
  show wpn _ _ a30.body _ _ _
  unfold a30
  dsimp only
  refine wpn_bx (n := 2) hO rfl rfl fun b1 σ hO => ?_
  have hO : Obs _ _ [_] := hO
  refine wpn_qa hO [] [(1, .pointer (some af0)), (2, .pointer (some ⟨b1, 0, none⟩))] (And.intro rfl (And.intro rfl trivial)) fun j => ?_
  refine wpn_q hO 2 [0] [(1, .pointer (some af0)), (5, .int .i64 p0.Pc)] (And.intro (And.intro rfl rfl) (And.intro rfl (And.intro rfl trivial))) fun j => ?_
  refine wpn_ld rfl (mf0.le hO.base).fst ?_
  refine wpn_qa hO [] [(3, .bool (p0.Pc == qf0))] (And.intro rfl trivial) fun j => ?_
  refine wpn_r1 ?_
  injection hF with hF
  subst hF
  have hO := hO.sel [] (by decide)
  exact hQ _ _ _ _ _ rfl hO hL ⟨rfl, rfl⟩

/-! theodolite/lines.pick -/
theorem w_lines_pick_s30_3 {τ : Hp} {v0 : Value} {p0 : (List S_api_Row)} {q1_0 : Int} {a1_0 : Addr} (r0 : RdT TyS_api_Row τ v0 p0) (m1_0 : At τ a1_0 [.int .i64 q1_0]) {rr : (List S_api_Row)} (hF : F_lines_pick_s30_3 p0 q1_0 = some rr) :
    Ctr Try.prog 29 #[v0, .func (.func 30) #[] #[(.pointer (some a1_0))]] τ [] (fun v τ' vs' => ∃ (v0 : Value) (o0 : Ob), v = v0 ∧ vs' = [o0] ∧ OwnO TyS_api_Row 42 τ' v0 rr o0) := by
  obtain ⟨A0, c0, rfl, -⟩ := r0.form
  refine ctr_of (args := [.slice A0 p0.length c0, .func (.func 30) #[] #[(.pointer (some a1_0))]]) hm Try.func29 s29 rfl fun w0 σ hO Q hQ => ?_
  unfold F_lines_pick_s30_3 at hF
  have hL := Hp.le.refl τ
  show wpn _ _ a29.body _ _ _
  unfold a29
  dsimp only
  refine wpn_qa hO [] [(0, .slice A0 p0.length c0), (1, .func (.func 30) #[] #[(.pointer (some a1_0))])] (And.intro rfl (And.intro rfl trivial)) fun j => ?_
  refine wpn_qa hO [] [(0, .slice A0 p0.length c0), (1, .func (.func 30) #[] #[(.pointer (some a1_0))]), (5, .slice none 0 0)] (And.intro rfl (And.intro rfl (And.intro rfl trivial))) fun j => ?_
  refine wpn_assoc ?_
  refine wpn_qa hO [] [(1, .func (.func 30) #[] #[(.pointer (some a1_0))]), (5, .slice none 0 0), (8, .slice A0 p0.length c0), (9, .int .i64 (p0.length : Int)), (10, .int .i64 0)] (And.intro rfl (And.intro rfl (And.intro rfl (And.intro rfl (And.intro rfl trivial))))) fun j => ?_
  refine wpn_bl ?_
  have hO := hO.no
  have hO : Obs _ _ [_] := hO
  refine wpn_lp (fun (n : Nat) e' σ' => ∃ (A21 : Option Addr) (c22 : Nat) (o23 : Ob) (x24 : List S_api_Row) (x27 : Int) (τ' : Hp), agr [(1, .func (.func 30) #[] #[(.pointer (some a1_0))]), (5, .slice A21 x24.length c22), (8, .slice A0 p0.length c0), (9, .int .i64 (p0.length : Int)), (10, .int .i64 x27)] e' ∧ Obs τ' σ' [o23] ∧ Hp.le τ τ' ∧ At τ' a1_0 [.int .i64 q1_0] ∧ OwnO TyS_api_Row 42 τ' (.slice A21 x24.length c22) x24 o23 ∧ RdT TyS_api_Row τ' (.slice A0 p0.length c0) p0 ∧ F_lines_pick_s30_3_l3 p0 q1_0 n x24 x27 = some rr) big ⟨none, 0, none, [], 0, _, And.intro rfl (And.intro rfl (And.intro rfl (And.intro rfl (And.intro rfl trivial)))), hO, hL, m1_0, OwnO.nil _ _ _, r0, hF⟩ ?_
  clear hF hO hL
  rintro n44 e σ ⟨A21, c22, o23, x24, x27, _, hA, hO, hL, m20, w25, r26, hF⟩
  rw [← sets_agr _ _ hA]
  cases n44 with
  | zero => exact nomatch (show none = some rr from hF)
  | succ n44 =>
    replace hF : F_lines_pick_s30_3_l3B (F_lines_pick_s30_3_l3 p0 q1_0 n44) p0 q1_0 x24 x27 = some rr := hF
    unfold F_lines_pick_s30_3_l3B at hF
    refine wpn_qa hO [] [(1, .func (.func 30) #[] #[(.pointer (some a1_0))]), (5, .slice A21 x24.length c22), (8, .slice A0 p0.length c0), (9, .int .i64 (p0.length : Int)), (10, .int .i64 x27), (11, .bool (decide (x27 < (p0.length : Int))))] (And.intro rfl (And.intro rfl (And.intro rfl (And.intro rfl (And.intro rfl (And.intro rfl trivial)))))) fun j => ?_
    rcases ite_some hF with ⟨hb45, hF⟩ | ⟨hb45, hF⟩
    · refine wpn_cT (congrArg Value.bool hb45) ?_
      refine wpn_sk ?_
      refine wpn_bl ?_
      obtain ⟨y46, g47, hF⟩ := bind_some hF
      refine wpn_idx (T := TyS_api_Row) r26 hO.base rfl rfl g47 (by decide) fun a48 _ k49 m50 => ?_
      obtain rfl : _ = ([.int .i64 y46.Pc, .int .i64 y46.Point] : List Value) := k49
      refine wpn_ld rfl (m50.all rfl) ?_
      refine wpn_al hO fun b51 σ hO => ?_
      have hO : Obs _ _ [_, _] := hO
      refine wpn_st hO (i := 1) rfl (off := 0) rfl rfl rfl rfl (Nat.le_of_ble_eq_true rfl) rfl fun σ hO => ?_
      have hO : Obs _ _ [_, _] := hO
      refine wpn_nil ?_
      refine wpn_q hO 2 [1] [(1, .func (.func 30) #[] #[(.pointer (some a1_0))]), (5, .slice A21 x24.length c22), (7, .pointer (some ⟨b51, 0, none⟩)), (8, .slice A0 p0.length c0), (9, .int .i64 (p0.length : Int)), (10, .int .i64 x27), (14, .func (.func 30) #[] #[(.pointer (some a1_0))]), (15, .agg #[(.int .i64 y46.Pc), (.int .i64 y46.Point)])] (And.intro (And.intro rfl rfl) (And.intro rfl (And.intro rfl (And.intro rfl (And.intro rfl (And.intro rfl (And.intro rfl (And.intro rfl (And.intro rfl trivial))))))))) fun j => ?_
      obtain ⟨c52, h53, hF⟩ := bind_some hF
      refine wpn_cv0 rfl (by kernel_rfl) hO (w_lines_At_1_sf_3 m20 h53) rfl fun _ σ _ _ hO h54 h55 => ?_
      have hL := hL.trans h54
      have m20 := m20.le h54
      have w25 := w25.le h54
      have r26 := r26.le h54
      obtain ⟨rfl, rfl⟩ := h55
      have hO : Obs _ _ [_, _] := hO
      refine wpn_nil ?_
      refine wpn_clast ?_
      rcases ite_some hF with ⟨hb56, hF⟩ | ⟨hb56, hF⟩
      · refine wpn_cT (congrArg Value.bool hb56) ?_
        refine wpn_q hO 2 [1] [(1, .func (.func 30) #[] #[(.pointer (some a1_0))]), (8, .slice A0 p0.length c0), (9, .int .i64 (p0.length : Int)), (10, .int .i64 x27), (17, .slice A21 x24.length c22), (18, .agg #[(.int .i64 y46.Pc), (.int .i64 y46.Point)])] (And.intro (And.intro rfl rfl) (And.intro rfl (And.intro rfl (And.intro rfl (And.intro rfl (And.intro rfl (And.intro rfl trivial))))))) fun j => ?_
        obtain ⟨_, hr, hF⟩ := bind_some hF
        refine wpn_ap1 (T := TyS_api_Row) (y := (⟨y46.Pc, y46.Point⟩ : S_api_Row)) hO w25 (i := 0) rfl rfl (fun _ => rfl) rfl rfl rfl hr (by decide) fun u _ σ o59 w60 hO => ?_
        obtain ⟨A57, c58, rfl, -⟩ := w60.form
        have hO : Obs _ _ [_, _] := hO
        refine wpn_qa hO [] [(1, .func (.func 30) #[] #[(.pointer (some a1_0))]), (5, .slice A57 (x24 ++ [(⟨y46.Pc, y46.Point⟩ : S_api_Row)]).length c58), (8, .slice A0 p0.length c0), (9, .int .i64 (p0.length : Int)), (10, .int .i64 x27)] (And.intro rfl (And.intro rfl (And.intro rfl (And.intro rfl (And.intro rfl trivial))))) fun j => ?_
        refine wpn_end ?_
        refine inb_i ?_
        refine thn_i ?_
        refine wpn_rlast ?_
        refine wpn_qa hO [] [(1, .func (.func 30) #[] #[(.pointer (some a1_0))]), (5, .slice A57 (x24 ++ [(⟨y46.Pc, y46.Point⟩ : S_api_Row)]).length c58), (8, .slice A0 p0.length c0), (9, .int .i64 (p0.length : Int)), (10, .int .i64 (IntKind.i64.wrap (x27 + 1)))] (And.intro rfl (And.intro rfl (And.intro rfl (And.intro rfl (And.intro rfl trivial))))) fun j => ?_
        refine wpn_end ?_
        refine thn_i ?_
        have hO := hO.sel [0] (by decide)
        exact ⟨n44, Nat.lt_succ_self _, A57, c58, o59, (x24 ++ [(⟨y46.Pc, y46.Point⟩ : S_api_Row)]), (IntKind.i64.wrap (x27 + 1)), _, And.intro rfl (And.intro rfl (And.intro rfl (And.intro rfl (And.intro rfl trivial)))), hO, hL, m20, w60, r26, hF⟩
      · refine wpn_cF (congrArg Value.bool hb56) ?_
        refine wpn_sk ?_
        refine wpn_end ?_
        refine inb_i ?_
        refine thn_i ?_
        refine wpn_rlast ?_
        refine wpn_qa hO [] [(1, .func (.func 30) #[] #[(.pointer (some a1_0))]), (5, .slice A21 x24.length c22), (8, .slice A0 p0.length c0), (9, .int .i64 (p0.length : Int)), (10, .int .i64 (IntKind.i64.wrap (x27 + 1)))] (And.intro rfl (And.intro rfl (And.intro rfl (And.intro rfl (And.intro rfl trivial))))) fun j => ?_
        refine wpn_end ?_
        refine thn_i ?_
        have hO := hO.sel [0] (by decide)
        exact ⟨n44, Nat.lt_succ_self _, A21, c22, o23, x24, (IntKind.i64.wrap (x27 + 1)), _, And.intro rfl (And.intro rfl (And.intro rfl (And.intro rfl (And.intro rfl trivial)))), hO, hL, m20, w25, r26, hF⟩
    · refine wpn_cF (congrArg Value.bool hb45) ?_
      refine wpn_ex ?_
      refine thn_x ?_
      refine inb_x ?_
      refine thn_i ?_
      refine wpn_qa hO [] [(4, .slice A21 x24.length c22)] (And.intro rfl trivial) fun j => ?_
      refine wpn_r1 ?_
      injection hF with hF
      subst hF
      exact hQ _ _ _ _ _ rfl hO hL ⟨_, _, rfl, rfl, w25⟩

/-! theodolite/lines.At -/
theorem w_lines_At {τ : Hp} {v0 : Value} {p0 : (List S_api_Row)} {p1 : Int} (r0 : RdT TyS_api_Row τ v0 p0) {rr : Int × Bool} (hF : F_lines_At p0 p1 = some rr) :
    Ctr Try.prog 19 #[v0, .int .i64 p1] τ [] (fun v τ' vs' => v = .tuple #[.int .i64 rr.1, .bool rr.2] ∧ vs' = []) := by
  obtain ⟨A0, c0, rfl, -⟩ := r0.form
  refine ctr_of (args := [.slice A0 p0.length c0, .int .i64 p1]) hm Try.func19 s19 rfl fun w0 σ hO Q hQ => ?_
  unfold F_lines_At at hF
  have hL := Hp.le.refl τ
  show wpn _ _ a19.body _ _ _
  unfold a19
  dsimp only
  refine wpn_bx (n := 1) hO rfl rfl fun b1 σ hO => ?_
  have hO : Obs _ _ [_] := hO
  refine wpn_qa hO [] [(0, .slice A0 p0.length c0), (3, .pointer (some ⟨b1, 0, none⟩))] (And.intro rfl (And.intro rfl trivial)) fun j => ?_
  refine wpn_q hO 2 [] [(7, .slice A0 p0.length c0), (8, .func (.func 30) #[] #[(.pointer (some ⟨b1, 0, none⟩))])] (And.intro rfl (And.intro rfl trivial)) fun j => ?_
  obtain ⟨_, h3, m2, hO⟩ := hO.shareV (i := 0) rfl
  have hL := hL.trans h3
  have r0 := r0.le h3
  have hO : Obs _ _ [_] := hO
  obtain ⟨c4, h5, hF⟩ := bind_some hF
  refine wpn_c0 hO (w_lines_pick_s30_3 r0 m2 h5) rfl fun _ σ _ _ hO h6 h7 => ?_
  have hL := hL.trans h6
  have r0 := r0.le h6
  have m2 := m2.le h6
  obtain ⟨v8, o11, rfl, rfl, w12⟩ := h7
  obtain ⟨A9, c10, rfl, -⟩ := w12.form
  have hO : Obs _ _ [_, _] := hO
  refine wpn_qa hO [] [(6, .slice A9 c4.length c10)] (And.intro rfl trivial) fun j => ?_
  refine wpn_assoc ?_
  refine wpn_qa hO [] [(6, .slice A9 c4.length c10), (12, .bool ((c4.length : Int) == 0))] (And.intro rfl (And.intro rfl trivial)) fun j => ?_
  rcases ite_some hF with ⟨hb13, hF⟩ | ⟨hb13, hF⟩
  · refine wpn_cT (congrArg Value.bool hb13) ?_
    refine wpn_assoc ?_
    refine wpn_qa hO [] [(4, .int .i64 0), (5, .bool false)] (And.intro rfl (And.intro rfl trivial)) fun j => ?_
    refine wpn_rt ?_
    injection hF with hF
    subst hF
    have hO := hO.sel [] (by decide)
    exact hQ _ _ _ _ _ rfl hO hL ⟨rfl, rfl⟩
  · refine wpn_cF (congrArg Value.bool hb13) ?_
    refine wpn_sk ?_
    refine wpn_q hO 1 [] [(13, .slice A9 c4.length c10)] (And.intro rfl trivial) fun j => ?_
    obtain ⟨y14, g15, hF⟩ := bind_some hF
    refine wpn_ido (T := TyS_api_Row) hO w12 (i := 1) rfl rfl rfl g15 (by decide) fun a16 _ k17 m18 i19 => ?_
    have k20 := k17
    obtain rfl : _ = ([.int .i64 y14.Pc, .int .i64 y14.Point] : List Value) := k20
    refine wpn_q hO 1 [] [(15, .pointer (some (a16.add 1)))] (And.intro rfl trivial) fun j => ?_
    refine wpn_ld rfl (m18.one 1 rfl) ?_
    refine wpn_qa hO [] [(4, .int .i64 y14.Point), (5, .bool true)] (And.intro rfl (And.intro rfl trivial)) fun j => ?_
    refine wpn_r1 ?_
    injection hF with hF
    subst hF
    have hO := hO.sel [] (by decide)
    exact hQ _ _ _ _ _ rfl hO hL ⟨rfl, rfl⟩

/-! theodolite/lines.Pcs$1 -/
theorem w_lines_Pcs_1_sf_3 {τ : Hp} {p0 : S_api_Row} {qf0 : Int} {af0 : Addr} (mf0 : At τ af0 [.int .i64 qf0]) {rr : Bool} (hF : F_lines_Pcs_1_sf_3 p0 qf0 = some rr) :
    Ctr Try.prog 31 #[.agg #[.int .i64 p0.Pc, .int .i64 p0.Point], .pointer (some af0)] τ [] (fun v τ' vs' => v = .bool rr ∧ vs' = []) := by
  refine ctr_of (args := [.agg #[.int .i64 p0.Pc, .int .i64 p0.Point], .pointer (some af0)]) hm Try.func31 s31 rfl fun w0 σ hO Q hQ => ?_
  unfold F_lines_Pcs_1_sf_3 at hF
  have hL := Hp.le.refl τ
  show wpn _ _ a31.body _ _ _
  unfold a31
  dsimp only
  refine wpn_bx (n := 2) hO rfl rfl fun b1 σ hO => ?_
  have hO : Obs _ _ [_] := hO
  refine wpn_qa hO [] [(1, .pointer (some af0)), (2, .pointer (some ⟨b1, 0, none⟩))] (And.intro rfl (And.intro rfl trivial)) fun j => ?_
  refine wpn_q hO 2 [0] [(1, .pointer (some af0)), (5, .int .i64 p0.Point)] (And.intro (And.intro rfl rfl) (And.intro rfl (And.intro rfl trivial))) fun j => ?_
  refine wpn_ld rfl (mf0.le hO.base).fst ?_
  refine wpn_qa hO [] [(3, .bool (p0.Point == qf0))] (And.intro rfl trivial) fun j => ?_
  refine wpn_r1 ?_
  injection hF with hF
  subst hF
  have hO := hO.sel [] (by decide)
  exact hQ _ _ _ _ _ rfl hO hL ⟨rfl, rfl⟩

/-! theodolite/lines.pick -/
theorem w_lines_pick_s31_3 {τ : Hp} {v0 : Value} {p0 : (List S_api_Row)} {q1_0 : Int} {a1_0 : Addr} (r0 : RdT TyS_api_Row τ v0 p0) (m1_0 : At τ a1_0 [.int .i64 q1_0]) {rr : (List S_api_Row)} (hF : F_lines_pick_s31_3 p0 q1_0 = some rr) :
    Ctr Try.prog 29 #[v0, .func (.func 31) #[] #[(.pointer (some a1_0))]] τ [] (fun v τ' vs' => ∃ (v0 : Value) (o0 : Ob), v = v0 ∧ vs' = [o0] ∧ OwnO TyS_api_Row 42 τ' v0 rr o0) := by
  obtain ⟨A0, c0, rfl, -⟩ := r0.form
  refine ctr_of (args := [.slice A0 p0.length c0, .func (.func 31) #[] #[(.pointer (some a1_0))]]) hm Try.func29 s29 rfl fun w0 σ hO Q hQ => ?_
  unfold F_lines_pick_s31_3 at hF
  have hL := Hp.le.refl τ
  show wpn _ _ a29.body _ _ _
  unfold a29
  dsimp only
  refine wpn_qa hO [] [(0, .slice A0 p0.length c0), (1, .func (.func 31) #[] #[(.pointer (some a1_0))])] (And.intro rfl (And.intro rfl trivial)) fun j => ?_
  refine wpn_qa hO [] [(0, .slice A0 p0.length c0), (1, .func (.func 31) #[] #[(.pointer (some a1_0))]), (5, .slice none 0 0)] (And.intro rfl (And.intro rfl (And.intro rfl trivial))) fun j => ?_
  refine wpn_assoc ?_
  refine wpn_qa hO [] [(1, .func (.func 31) #[] #[(.pointer (some a1_0))]), (5, .slice none 0 0), (8, .slice A0 p0.length c0), (9, .int .i64 (p0.length : Int)), (10, .int .i64 0)] (And.intro rfl (And.intro rfl (And.intro rfl (And.intro rfl (And.intro rfl trivial))))) fun j => ?_
  refine wpn_bl ?_
  have hO := hO.no
  have hO : Obs _ _ [_] := hO
  refine wpn_lp (fun (n : Nat) e' σ' => ∃ (A21 : Option Addr) (c22 : Nat) (o23 : Ob) (x24 : List S_api_Row) (x27 : Int) (τ' : Hp), agr [(1, .func (.func 31) #[] #[(.pointer (some a1_0))]), (5, .slice A21 x24.length c22), (8, .slice A0 p0.length c0), (9, .int .i64 (p0.length : Int)), (10, .int .i64 x27)] e' ∧ Obs τ' σ' [o23] ∧ Hp.le τ τ' ∧ At τ' a1_0 [.int .i64 q1_0] ∧ OwnO TyS_api_Row 42 τ' (.slice A21 x24.length c22) x24 o23 ∧ RdT TyS_api_Row τ' (.slice A0 p0.length c0) p0 ∧ F_lines_pick_s31_3_l3 p0 q1_0 n x24 x27 = some rr) big ⟨none, 0, none, [], 0, _, And.intro rfl (And.intro rfl (And.intro rfl (And.intro rfl (And.intro rfl trivial)))), hO, hL, m1_0, OwnO.nil _ _ _, r0, hF⟩ ?_
  clear hF hO hL
  rintro n44 e σ ⟨A21, c22, o23, x24, x27, _, hA, hO, hL, m20, w25, r26, hF⟩
  rw [← sets_agr _ _ hA]
  cases n44 with
  | zero => exact nomatch (show none = some rr from hF)
  | succ n44 =>
    replace hF : F_lines_pick_s31_3_l3B (F_lines_pick_s31_3_l3 p0 q1_0 n44) p0 q1_0 x24 x27 = some rr := hF
    unfold F_lines_pick_s31_3_l3B at hF
    refine wpn_qa hO [] [(1, .func (.func 31) #[] #[(.pointer (some a1_0))]), (5, .slice A21 x24.length c22), (8, .slice A0 p0.length c0), (9, .int .i64 (p0.length : Int)), (10, .int .i64 x27), (11, .bool (decide (x27 < (p0.length : Int))))] (And.intro rfl (And.intro rfl (And.intro rfl (And.intro rfl (And.intro rfl (And.intro rfl trivial)))))) fun j => ?_
    rcases ite_some hF with ⟨hb45, hF⟩ | ⟨hb45, hF⟩
    · refine wpn_cT (congrArg Value.bool hb45) ?_
      refine wpn_sk ?_
      refine wpn_bl ?_
      obtain ⟨y46, g47, hF⟩ := bind_some hF
      refine wpn_idx (T := TyS_api_Row) r26 hO.base rfl rfl g47 (by decide) fun a48 _ k49 m50 => ?_
      obtain rfl : _ = ([.int .i64 y46.Pc, .int .i64 y46.Point] : List Value) := k49
      refine wpn_ld rfl (m50.all rfl) ?_
      refine wpn_al hO fun b51 σ hO => ?_
      have hO : Obs _ _ [_, _] := hO
      refine wpn_st hO (i := 1) rfl (off := 0) rfl rfl rfl rfl (Nat.le_of_ble_eq_true rfl) rfl fun σ hO => ?_
      have hO : Obs _ _ [_, _] := hO
      refine wpn_nil ?_
      refine wpn_q hO 2 [1] [(1, .func (.func 31) #[] #[(.pointer (some a1_0))]), (5, .slice A21 x24.length c22), (7, .pointer (some ⟨b51, 0, none⟩)), (8, .slice A0 p0.length c0), (9, .int .i64 (p0.length : Int)), (10, .int .i64 x27), (14, .func (.func 31) #[] #[(.pointer (some a1_0))]), (15, .agg #[(.int .i64 y46.Pc), (.int .i64 y46.Point)])] (And.intro (And.intro rfl rfl) (And.intro rfl (And.intro rfl (And.intro rfl (And.intro rfl (And.intro rfl (And.intro rfl (And.intro rfl (And.intro rfl trivial))))))))) fun j => ?_
      obtain ⟨c52, h53, hF⟩ := bind_some hF
      refine wpn_cv0 rfl (by kernel_rfl) hO (w_lines_Pcs_1_sf_3 m20 h53) rfl fun _ σ _ _ hO h54 h55 => ?_
      have hL := hL.trans h54
      have m20 := m20.le h54
      have w25 := w25.le h54
      have r26 := r26.le h54
      obtain ⟨rfl, rfl⟩ := h55
      have hO : Obs _ _ [_, _] := hO
      refine wpn_nil ?_
      refine wpn_clast ?_
      rcases ite_some hF with ⟨hb56, hF⟩ | ⟨hb56, hF⟩
      · refine wpn_cT (congrArg Value.bool hb56) ?_
        refine wpn_q hO 2 [1] [(1, .func (.func 31) #[] #[(.pointer (some a1_0))]), (8, .slice A0 p0.length c0), (9, .int .i64 (p0.length : Int)), (10, .int .i64 x27), (17, .slice A21 x24.length c22), (18, .agg #[(.int .i64 y46.Pc), (.int .i64 y46.Point)])] (And.intro (And.intro rfl rfl) (And.intro rfl (And.intro rfl (And.intro rfl (And.intro rfl (And.intro rfl (And.intro rfl trivial))))))) fun j => ?_
        obtain ⟨_, hr, hF⟩ := bind_some hF
        refine wpn_ap1 (T := TyS_api_Row) (y := (⟨y46.Pc, y46.Point⟩ : S_api_Row)) hO w25 (i := 0) rfl rfl (fun _ => rfl) rfl rfl rfl hr (by decide) fun u _ σ o59 w60 hO => ?_
        obtain ⟨A57, c58, rfl, -⟩ := w60.form
        have hO : Obs _ _ [_, _] := hO
        refine wpn_qa hO [] [(1, .func (.func 31) #[] #[(.pointer (some a1_0))]), (5, .slice A57 (x24 ++ [(⟨y46.Pc, y46.Point⟩ : S_api_Row)]).length c58), (8, .slice A0 p0.length c0), (9, .int .i64 (p0.length : Int)), (10, .int .i64 x27)] (And.intro rfl (And.intro rfl (And.intro rfl (And.intro rfl (And.intro rfl trivial))))) fun j => ?_
        refine wpn_end ?_
        refine inb_i ?_
        refine thn_i ?_
        refine wpn_rlast ?_
        refine wpn_qa hO [] [(1, .func (.func 31) #[] #[(.pointer (some a1_0))]), (5, .slice A57 (x24 ++ [(⟨y46.Pc, y46.Point⟩ : S_api_Row)]).length c58), (8, .slice A0 p0.length c0), (9, .int .i64 (p0.length : Int)), (10, .int .i64 (IntKind.i64.wrap (x27 + 1)))] (And.intro rfl (And.intro rfl (And.intro rfl (And.intro rfl (And.intro rfl trivial))))) fun j => ?_
        refine wpn_end ?_
        refine thn_i ?_
        have hO := hO.sel [0] (by decide)
        exact ⟨n44, Nat.lt_succ_self _, A57, c58, o59, (x24 ++ [(⟨y46.Pc, y46.Point⟩ : S_api_Row)]), (IntKind.i64.wrap (x27 + 1)), _, And.intro rfl (And.intro rfl (And.intro rfl (And.intro rfl (And.intro rfl trivial)))), hO, hL, m20, w60, r26, hF⟩
      · refine wpn_cF (congrArg Value.bool hb56) ?_
        refine wpn_sk ?_
        refine wpn_end ?_
        refine inb_i ?_
        refine thn_i ?_
        refine wpn_rlast ?_
        refine wpn_qa hO [] [(1, .func (.func 31) #[] #[(.pointer (some a1_0))]), (5, .slice A21 x24.length c22), (8, .slice A0 p0.length c0), (9, .int .i64 (p0.length : Int)), (10, .int .i64 (IntKind.i64.wrap (x27 + 1)))] (And.intro rfl (And.intro rfl (And.intro rfl (And.intro rfl (And.intro rfl trivial))))) fun j => ?_
        refine wpn_end ?_
        refine thn_i ?_
        have hO := hO.sel [0] (by decide)
        exact ⟨n44, Nat.lt_succ_self _, A21, c22, o23, x24, (IntKind.i64.wrap (x27 + 1)), _, And.intro rfl (And.intro rfl (And.intro rfl (And.intro rfl (And.intro rfl trivial)))), hO, hL, m20, w25, r26, hF⟩
    · refine wpn_cF (congrArg Value.bool hb45) ?_
      refine wpn_ex ?_
      refine thn_x ?_
      refine inb_x ?_
      refine thn_i ?_
      refine wpn_qa hO [] [(4, .slice A21 x24.length c22)] (And.intro rfl trivial) fun j => ?_
      refine wpn_r1 ?_
      injection hF with hF
      subst hF
      exact hQ _ _ _ _ _ rfl hO hL ⟨_, _, rfl, rfl, w25⟩

/-! theodolite/lines.Pcs -/
theorem w_lines_Pcs {τ : Hp} {v0 : Value} {p0 : (List S_api_Row)} {p1 : Int} (r0 : RdT TyS_api_Row τ v0 p0) {rr : (List Int)} (hF : F_lines_Pcs p0 p1 = some rr) :
    Ctr Try.prog 21 #[v0, .int .i64 p1] τ [] (fun v τ' vs' => ∃ (v0 : Value) (o0 : Ob), v = v0 ∧ vs' = [o0] ∧ OwnO (Ty.int .i64) 3 τ' v0 rr o0) := by
  obtain ⟨A0, c0, rfl, -⟩ := r0.form
  refine ctr_of (args := [.slice A0 p0.length c0, .int .i64 p1]) hm Try.func21 s21 rfl fun w0 σ hO Q hQ => ?_
  unfold F_lines_Pcs at hF
  have hL := Hp.le.refl τ
  show wpn _ _ a21.body _ _ _
  unfold a21
  dsimp only
  refine wpn_bx (n := 1) hO rfl rfl fun b1 σ hO => ?_
  have hO : Obs _ _ [_] := hO
  refine wpn_qa hO [] [(0, .slice A0 p0.length c0), (3, .pointer (some ⟨b1, 0, none⟩))] (And.intro rfl (And.intro rfl trivial)) fun j => ?_
  refine wpn_qa hO [] [(0, .slice A0 p0.length c0), (3, .pointer (some ⟨b1, 0, none⟩)), (5, .slice none 0 0)] (And.intro rfl (And.intro rfl (And.intro rfl trivial))) fun j => ?_
  refine wpn_assoc ?_
  refine wpn_q hO 2 [] [(5, .slice none 0 0), (8, .slice A0 p0.length c0), (9, .func (.func 31) #[] #[(.pointer (some ⟨b1, 0, none⟩))])] (And.intro rfl (And.intro rfl (And.intro rfl trivial))) fun j => ?_
  obtain ⟨_, h3, m2, hO⟩ := hO.shareV (i := 0) rfl
  have hL := hL.trans h3
  have r0 := r0.le h3
  have hO : Obs _ _ [_] := hO
  obtain ⟨c4, h5, hF⟩ := bind_some hF
  refine wpn_c0 hO (w_lines_pick_s31_3 r0 m2 h5) rfl fun _ σ _ _ hO h6 h7 => ?_
  have hL := hL.trans h6
  have r0 := r0.le h6
  have m2 := m2.le h6
  obtain ⟨v8, o11, rfl, rfl, w12⟩ := h7
  obtain ⟨A9, c10, rfl, -⟩ := w12.form
  have hO : Obs _ _ [_, _] := hO
  refine wpn_qa hO [] [(5, .slice none 0 0), (10, .slice A9 c4.length c10), (11, .int .i64 (c4.length : Int)), (12, .int .i64 0)] (And.intro rfl (And.intro rfl (And.intro rfl (And.intro rfl trivial)))) fun j => ?_
  refine wpn_bl ?_
  have hO := hO.no
  have hO : Obs _ _ [_, _, _] := hO
  have hO := hO.sel [2, 1] (by decide)
  refine wpn_lp (fun (n : Nat) e' σ' => ∃ (A32 : Option Addr) (c33 : Nat) (o34 : Ob) (x35 : List Int) (A37 : Option Addr) (c38 : Nat) (o39 : Ob) (x40 : List S_api_Row) (x42 : Int) (τ' : Hp), agr [(5, .slice A32 x35.length c33), (10, .slice A37 x40.length c38), (11, .int .i64 (c4.length : Int)), (12, .int .i64 x42)] e' ∧ Obs τ' σ' [o34, o39] ∧ Hp.le τ τ' ∧ OwnO (Ty.int .i64) 3 τ' (.slice A32 x35.length c33) x35 o34 ∧ OwnO TyS_api_Row 42 τ' (.slice A37 x40.length c38) x40 o39 ∧ F_lines_Pcs_l3 c4 n x35 x40 x42 = some rr) big ⟨none, 0, none, [], A9, c10, o11, c4, 0, _, And.intro rfl (And.intro rfl (And.intro rfl (And.intro rfl trivial))), hO, hL, OwnO.nil _ _ _, w12, hF⟩ ?_
  clear hF hO hL
  rintro n56 e σ ⟨A32, c33, o34, x35, A37, c38, o39, x40, x42, _, hA, hO, hL, w36, w41, hF⟩
  rw [← sets_agr _ _ hA]
  cases n56 with
  | zero => exact nomatch (show none = some rr from hF)
  | succ n56 =>
    replace hF : F_lines_Pcs_l3B (F_lines_Pcs_l3 c4 n56) c4 x35 x40 x42 = some rr := hF
    unfold F_lines_Pcs_l3B at hF
    refine wpn_qa hO [] [(5, .slice A32 x35.length c33), (10, .slice A37 x40.length c38), (11, .int .i64 (c4.length : Int)), (12, .int .i64 x42), (13, .bool (decide (x42 < (c4.length : Int))))] (And.intro rfl (And.intro rfl (And.intro rfl (And.intro rfl (And.intro rfl trivial))))) fun j => ?_
    rcases ite_some hF with ⟨hb57, hF⟩ | ⟨hb57, hF⟩
    · refine wpn_cT (congrArg Value.bool hb57) ?_
      refine wpn_sk ?_
      refine wpn_bl ?_
      obtain ⟨y58, g59, hF⟩ := bind_some hF
      refine wpn_ido (T := TyS_api_Row) hO w41 (i := 1) rfl rfl rfl g59 (by decide) fun a60 _ k61 m62 i63 => ?_
      have k64 := k61
      obtain rfl : _ = ([.int .i64 y58.Pc, .int .i64 y58.Point] : List Value) := k64
      refine wpn_ld rfl (m62.all rfl) ?_
      refine wpn_al hO fun b65 σ hO => ?_
      have hO : Obs _ _ [_, _, _] := hO
      refine wpn_st hO (i := 2) rfl (off := 0) rfl rfl rfl rfl (Nat.le_of_ble_eq_true rfl) rfl fun σ hO => ?_
      have hO : Obs _ _ [_, _, _] := hO
      refine wpn_nil ?_
      refine wpn_rlast ?_
      refine wpn_q hO 3 [2] [(10, .slice A37 x40.length c38), (11, .int .i64 (c4.length : Int)), (12, .int .i64 x42), (16, .slice A32 x35.length c33), (18, .int .i64 y58.Pc)] (And.intro (And.intro rfl rfl) (And.intro rfl (And.intro rfl (And.intro rfl (And.intro rfl (And.intro rfl trivial)))))) fun j => ?_
      obtain ⟨_, hr, hF⟩ := bind_some hF
      refine wpn_ap1 (T := (Ty.int .i64)) (y := y58.Pc) hO w36 (i := 0) rfl rfl (fun _ => rfl) rfl rfl rfl hr (by decide) fun u _ σ o68 w69 hO => ?_
      obtain ⟨A66, c67, rfl, -⟩ := w69.form
      have hO : Obs _ _ [_, _, _] := hO
      refine wpn_qa hO [] [(5, .slice A66 (x35 ++ [y58.Pc]).length c67), (10, .slice A37 x40.length c38), (11, .int .i64 (c4.length : Int)), (12, .int .i64 x42)] (And.intro rfl (And.intro rfl (And.intro rfl (And.intro rfl trivial)))) fun j => ?_
      refine wpn_end ?_
      refine inb_i ?_
      refine thn_i ?_
      refine wpn_rlast ?_
      refine wpn_qa hO [] [(5, .slice A66 (x35 ++ [y58.Pc]).length c67), (10, .slice A37 x40.length c38), (11, .int .i64 (c4.length : Int)), (12, .int .i64 (IntKind.i64.wrap (x42 + 1)))] (And.intro rfl (And.intro rfl (And.intro rfl (And.intro rfl trivial)))) fun j => ?_
      refine wpn_end ?_
      refine thn_i ?_
      have hO := hO.sel [0, 1] (by decide)
      exact ⟨n56, Nat.lt_succ_self _, A66, c67, o68, (x35 ++ [y58.Pc]), A37, c38, o39, x40, (IntKind.i64.wrap (x42 + 1)), _, And.intro rfl (And.intro rfl (And.intro rfl (And.intro rfl trivial))), hO, hL, w69, w41, hF⟩
    · refine wpn_cF (congrArg Value.bool hb57) ?_
      refine wpn_ex ?_
      refine thn_x ?_
      refine inb_x ?_
      refine thn_i ?_
      refine wpn_qa hO [] [(4, .slice A32 x35.length c33)] (And.intro rfl trivial) fun j => ?_
      refine wpn_r1 ?_
      injection hF with hF
      subst hF
      have hO := hO.sel [0] (by decide)
      exact hQ _ _ _ _ _ rfl hO hL ⟨_, _, rfl, rfl, w36⟩

/-! theodolite/theodolitelaw05.works -/
theorem w_law05_works {τ : Hp}   {rr : Bool} (hF : F_law05_works  = some rr) :
    Ctr Try.prog 7 #[] τ [] (fun v τ' vs' => v = .bool rr ∧ vs' = []) := by
  refine ctr_of (args := []) hm Try.func7 s7 rfl fun w0 σ hO Q hQ => ?_
  unfold F_law05_works at hF
  have hL := Hp.le.refl τ
  show wpn _ _ a7.body _ _ _
  unfold a7
  dsimp only
  refine wpn_qa hO [] [] (trivial) fun j => ?_
  refine wpn_q hO 3 [] [(9, .agg #[(.int .i64 0), (.int .i64 0)]), (10, .agg #[(.int .i64 3), (.int .i64 1)]), (11, .agg #[(.int .i64 303), (.int .i64 0)])] (And.intro rfl (And.intro rfl (And.intro rfl trivial))) fun j => ?_
  refine wpn_lit (T := TyS_api_Row) (l := ([(⟨0, 0⟩ : S_api_Row), (⟨3, 1⟩ : S_api_Row), (⟨303, 0⟩ : S_api_Row)] : List S_api_Row)) (cs := [.int .i64 0, .int .i64 0, .int .i64 3, .int .i64 1, .int .i64 303, .int .i64 0]) hO rfl ⟨[.int .i64 0, .int .i64 0], _, rfl, rfl, ⟨[.int .i64 3, .int .i64 1], _, rfl, rfl, ⟨[.int .i64 303, .int .i64 0], _, rfl, rfl, rfl⟩⟩⟩ rfl (by decide) fun _ σ o3 w4 hO => ?_
  obtain ⟨A1, c2, rfl, -⟩ := w4.form
  have hO : Obs _ _ [_] := hO
  refine wpn_qa hO [] [(1, .slice A1 ([(⟨0, 0⟩ : S_api_Row), (⟨3, 1⟩ : S_api_Row), (⟨303, 0⟩ : S_api_Row)] : List S_api_Row).length c2)] (And.intro rfl trivial) fun j => ?_
  refine wpn_q hO 1 [] [(1, .slice A1 ([(⟨0, 0⟩ : S_api_Row), (⟨3, 1⟩ : S_api_Row), (⟨303, 0⟩ : S_api_Row)] : List S_api_Row).length c2), (14, .slice A1 ([(⟨0, 0⟩ : S_api_Row), (⟨3, 1⟩ : S_api_Row), (⟨303, 0⟩ : S_api_Row)] : List S_api_Row).length c2)] (And.intro rfl (And.intro rfl trivial)) fun j => ?_
  obtain ⟨_, h6, r5, hO⟩ := w4.share hO (i := 0) rfl
  have hL := hL.trans h6
  have hO : Obs _ _ [_] := hO
  obtain ⟨c7, h8, hF⟩ := bind_some hF
  refine wpn_c0 hO (w_lines_Write r5 h8) rfl fun _ σ _ _ hO h9 h10 => ?_
  have hL := hL.trans h9
  have r5 := r5.le h9
  obtain ⟨v11, o14, rfl, rfl, w15⟩ := h10
  obtain ⟨A12, c13, rfl, -⟩ := w15.form
  have hO : Obs _ _ [_, _] := hO
  refine wpn_qa hO [] [(1, .slice A1 ([(⟨0, 0⟩ : S_api_Row), (⟨3, 1⟩ : S_api_Row), (⟨303, 0⟩ : S_api_Row)] : List S_api_Row).length c2), (2, .slice A12 c7.1.length c13), (3, .int .i64 c7.2)] (And.intro rfl (And.intro rfl (And.intro rfl trivial))) fun j => ?_
  refine wpn_q hO 1 [] [(1, .slice A1 ([(⟨0, 0⟩ : S_api_Row), (⟨3, 1⟩ : S_api_Row), (⟨303, 0⟩ : S_api_Row)] : List S_api_Row).length c2), (2, .slice A12 c7.1.length c13), (3, .int .i64 c7.2), (19, .slice A12 c7.1.length c13)] (And.intro rfl (And.intro rfl (And.intro rfl (And.intro rfl trivial)))) fun j => ?_
  obtain ⟨_, h17, r16, hO⟩ := w15.share hO (i := 1) rfl
  have hL := hL.trans h17
  have r5 := r5.le h17
  have hO : Obs _ _ [_, _] := hO
  obtain ⟨c18, h19, hF⟩ := bind_some hF
  refine wpn_c0 hO (w_lines_Read r16 h19) rfl fun _ σ _ _ hO h20 h21 => ?_
  have hL := hL.trans h20
  have r5 := r5.le h20
  have r16 := r16.le h20
  obtain ⟨v22, rfl, rfl, r25⟩ := h21
  obtain ⟨A23, c24, rfl, -⟩ := r25.form
  have hO : Obs _ _ [_, _] := hO
  refine wpn_qa hO [] [(1, .slice A1 ([(⟨0, 0⟩ : S_api_Row), (⟨3, 1⟩ : S_api_Row), (⟨303, 0⟩ : S_api_Row)] : List S_api_Row).length c2), (2, .slice A12 c7.1.length c13), (3, .int .i64 c7.2), (4, .slice A23 c18.1.length c24), (5, .int .i64 c18.2)] (And.intro rfl (And.intro rfl (And.intro rfl (And.intro rfl (And.intro rfl trivial))))) fun j => ?_
  refine wpn_q hO 1 [] [(1, .slice A1 ([(⟨0, 0⟩ : S_api_Row), (⟨3, 1⟩ : S_api_Row), (⟨303, 0⟩ : S_api_Row)] : List S_api_Row).length c2), (2, .slice A12 c7.1.length c13), (3, .int .i64 c7.2), (4, .slice A23 c18.1.length c24), (5, .int .i64 c18.2), (24, .slice A1 ([(⟨0, 0⟩ : S_api_Row), (⟨3, 1⟩ : S_api_Row), (⟨303, 0⟩ : S_api_Row)] : List S_api_Row).length c2)] (And.intro rfl (And.intro rfl (And.intro rfl (And.intro rfl (And.intro rfl (And.intro rfl trivial)))))) fun j => ?_
  obtain ⟨c26, h27, hF⟩ := bind_some hF
  refine wpn_c0 hO (w_lines_At r5 h27) rfl fun _ σ _ _ hO h28 h29 => ?_
  have hL := hL.trans h28
  have r5 := r5.le h28
  have r16 := r16.le h28
  have r25 := r25.le h28
  obtain ⟨rfl, rfl⟩ := h29
  have hO : Obs _ _ [_, _] := hO
  refine wpn_qa hO [] [(1, .slice A1 ([(⟨0, 0⟩ : S_api_Row), (⟨3, 1⟩ : S_api_Row), (⟨303, 0⟩ : S_api_Row)] : List S_api_Row).length c2), (2, .slice A12 c7.1.length c13), (3, .int .i64 c7.2), (4, .slice A23 c18.1.length c24), (5, .int .i64 c18.2), (6, .int .i64 c26.1), (7, .bool c26.2)] (And.intro rfl (And.intro rfl (And.intro rfl (And.intro rfl (And.intro rfl (And.intro rfl (And.intro rfl trivial))))))) fun j => ?_
  refine wpn_q hO 1 [] [(1, .slice A1 ([(⟨0, 0⟩ : S_api_Row), (⟨3, 1⟩ : S_api_Row), (⟨303, 0⟩ : S_api_Row)] : List S_api_Row).length c2), (2, .slice A12 c7.1.length c13), (3, .int .i64 c7.2), (4, .slice A23 c18.1.length c24), (5, .int .i64 c18.2), (6, .int .i64 c26.1), (7, .bool c26.2), (28, .slice A1 ([(⟨0, 0⟩ : S_api_Row), (⟨3, 1⟩ : S_api_Row), (⟨303, 0⟩ : S_api_Row)] : List S_api_Row).length c2)] (And.intro rfl (And.intro rfl (And.intro rfl (And.intro rfl (And.intro rfl (And.intro rfl (And.intro rfl (And.intro rfl trivial)))))))) fun j => ?_
  obtain ⟨c30, h31, hF⟩ := bind_some hF
  refine wpn_c0 hO (w_lines_Pcs r5 h31) rfl fun _ σ _ _ hO h32 h33 => ?_
  have hL := hL.trans h32
  have r5 := r5.le h32
  have r16 := r16.le h32
  have r25 := r25.le h32
  obtain ⟨v34, o37, rfl, rfl, w38⟩ := h33
  obtain ⟨A35, c36, rfl, -⟩ := w38.form
  have hO : Obs _ _ [_, _, _] := hO
  refine wpn_qa hO [] [(1, .slice A1 ([(⟨0, 0⟩ : S_api_Row), (⟨3, 1⟩ : S_api_Row), (⟨303, 0⟩ : S_api_Row)] : List S_api_Row).length c2), (2, .slice A12 c7.1.length c13), (3, .int .i64 c7.2), (4, .slice A23 c18.1.length c24), (5, .int .i64 c18.2), (6, .int .i64 c26.1), (7, .bool c26.2), (8, .slice A35 c30.length c36)] (And.intro rfl (And.intro rfl (And.intro rfl (And.intro rfl (And.intro rfl (And.intro rfl (And.intro rfl (And.intro rfl trivial)))))))) fun j => ?_
  refine wpn_p2r ?_
  refine wpn_q hO 6 [] [(1, .slice A1 ([(⟨0, 0⟩ : S_api_Row), (⟨3, 1⟩ : S_api_Row), (⟨303, 0⟩ : S_api_Row)] : List S_api_Row).length c2), (2, .slice A12 c7.1.length c13), (4, .slice A23 c18.1.length c24), (5, .int .i64 c18.2), (6, .int .i64 c26.1), (7, .bool c26.2), (8, .slice A35 c30.length c36), (37, .bool ((c7.2 == 0) && ((c7.1.length : Int) == 9)))] (And.intro (And.intro rfl rfl) (fun _ => And.intro rfl (And.intro rfl (And.intro rfl (And.intro rfl (And.intro rfl (And.intro rfl (And.intro rfl (And.intro rfl trivial))))))))) fun j => ?_
  obtain ⟨c39, h40, hF⟩ := bind_some hF
  refine wpn_midq 2 [(42, .bool c39), (1, .slice A1 ([(⟨0, 0⟩ : S_api_Row), (⟨3, 1⟩ : S_api_Row), (⟨303, 0⟩ : S_api_Row)] : List S_api_Row).length c2), (4, .slice A23 c18.1.length c24), (5, .int .i64 c18.2), (6, .int .i64 c26.1), (7, .bool c26.2), (8, .slice A35 c30.length c36)] (fun Q hQ => ?_) fun j => ?_
  · have hF := h40
    rcases ite_some hF with ⟨hb41, hF⟩ | ⟨hb41, hF⟩
    · refine wpn_gT (congrArg (fun x => isB (.bool x) true) hb41) ?_
      refine wpn_q hO 1 [] [(1, .slice A1 ([(⟨0, 0⟩ : S_api_Row), (⟨3, 1⟩ : S_api_Row), (⟨303, 0⟩ : S_api_Row)] : List S_api_Row).length c2), (4, .slice A23 c18.1.length c24), (5, .int .i64 c18.2), (6, .int .i64 c26.1), (7, .bool c26.2), (8, .slice A35 c30.length c36), (37, .bool ((c7.2 == 0) && ((c7.1.length : Int) == 9))), (38, .slice A12 c7.1.length c13)] (And.intro rfl (And.intro rfl (And.intro rfl (And.intro rfl (And.intro rfl (And.intro rfl (And.intro rfl (And.intro rfl trivial)))))))) fun j => ?_
      obtain ⟨y42, g43, hF⟩ := bind_some hF
      refine wpn_idx (T := Ty.u8) r16 hO.base rfl rfl g43 (by decide) fun a44 _ k45 m46 => ?_
      obtain rfl : _ = ([.int .u8 y42.toNat] : List Value) := k45
      refine wpn_ld rfl m46.fst ?_
      refine wpn_q hO 1 [] [(1, .slice A1 ([(⟨0, 0⟩ : S_api_Row), (⟨3, 1⟩ : S_api_Row), (⟨303, 0⟩ : S_api_Row)] : List S_api_Row).length c2), (4, .slice A23 c18.1.length c24), (5, .int .i64 c18.2), (6, .int .i64 c26.1), (7, .bool c26.2), (8, .slice A35 c30.length c36), (37, .bool ((c7.2 == 0) && ((c7.1.length : Int) == 9))), (41, .bool ((y42.toNat : Int) == 45))] (And.intro rfl (And.intro rfl (And.intro rfl (And.intro rfl (And.intro rfl (And.intro rfl (And.intro rfl (And.intro rfl trivial)))))))) fun j => ?_
      refine wpn_pk (congrArg Value.bool hb41) ?_
      refine wpn_nil ?_
      injection hF with hF
      subst hF
      refine wpn_end ?_
      exact hQ _ (And.intro rfl (And.intro rfl (And.intro rfl (And.intro rfl (And.intro rfl (And.intro rfl (And.intro rfl trivial)))))))
    · refine wpn_gF (congrArg (fun x => isB (.bool x) true) hb41) ?_
      refine wpn_pk (congrArg Value.bool hb41) ?_
      refine wpn_nil ?_
      injection hF with hF
      subst hF
      refine wpn_end ?_
      exact hQ _ (And.intro rfl (And.intro rfl (And.intro rfl (And.intro rfl (And.intro rfl (And.intro rfl (And.intro rfl trivial)))))))
  · refine wpn_q hO 7 [] [(1, .slice A1 ([(⟨0, 0⟩ : S_api_Row), (⟨3, 1⟩ : S_api_Row), (⟨303, 0⟩ : S_api_Row)] : List S_api_Row).length c2), (4, .slice A23 c18.1.length c24), (6, .int .i64 c26.1), (7, .bool c26.2), (8, .slice A35 c30.length c36), (52, .bool ((c39 && (c18.2 == 0)) && ((c18.1.length : Int) == 3)))] (And.intro (And.intro rfl rfl) (fun _ => And.intro (And.intro rfl rfl) (fun _ => And.intro rfl (And.intro rfl (And.intro rfl (And.intro rfl (And.intro rfl (And.intro rfl trivial)))))))) fun j => ?_
    obtain ⟨c47, h48, hF⟩ := bind_some hF
    refine wpn_midq 2 [(60, .bool c47), (6, .int .i64 c26.1), (7, .bool c26.2), (8, .slice A35 c30.length c36)] (fun Q hQ => ?_) fun j => ?_
    · have hF := h48
      rcases ite_some hF with ⟨hb49, hF⟩ | ⟨hb49, hF⟩
      · refine wpn_gT (congrArg (fun x => isB (.bool x) true) hb49) ?_
        refine wpn_q hO 1 [] [(1, .slice A1 ([(⟨0, 0⟩ : S_api_Row), (⟨3, 1⟩ : S_api_Row), (⟨303, 0⟩ : S_api_Row)] : List S_api_Row).length c2), (6, .int .i64 c26.1), (7, .bool c26.2), (8, .slice A35 c30.length c36), (52, .bool ((c39 && (c18.2 == 0)) && ((c18.1.length : Int) == 3))), (53, .slice A23 c18.1.length c24)] (And.intro rfl (And.intro rfl (And.intro rfl (And.intro rfl (And.intro rfl (And.intro rfl trivial)))))) fun j => ?_
        obtain ⟨y50, g51, hF⟩ := bind_some hF
        refine wpn_idx (T := TyS_api_Row) r25 hO.base rfl rfl g51 (by decide) fun a52 _ k53 m54 => ?_
        obtain rfl : _ = ([.int .i64 y50.Pc, .int .i64 y50.Point] : List Value) := k53
        refine wpn_ld rfl (m54.all rfl) ?_
        refine wpn_q hO 1 [] [(6, .int .i64 c26.1), (7, .bool c26.2), (8, .slice A35 c30.length c36), (52, .bool ((c39 && (c18.2 == 0)) && ((c18.1.length : Int) == 3))), (55, .agg #[(.int .i64 y50.Pc), (.int .i64 y50.Point)]), (56, .slice A1 ([(⟨0, 0⟩ : S_api_Row), (⟨3, 1⟩ : S_api_Row), (⟨303, 0⟩ : S_api_Row)] : List S_api_Row).length c2)] (And.intro rfl (And.intro rfl (And.intro rfl (And.intro rfl (And.intro rfl (And.intro rfl trivial)))))) fun j => ?_
        obtain ⟨y55, g56, hF⟩ := bind_some hF
        refine wpn_idx (T := TyS_api_Row) r5 hO.base rfl rfl g56 (by decide) fun a57 _ k58 m59 => ?_
        obtain rfl : _ = ([.int .i64 y55.Pc, .int .i64 y55.Point] : List Value) := k58
        refine wpn_ld rfl (m59.all rfl) ?_
        refine wpn_q hO 1 [] [(6, .int .i64 c26.1), (7, .bool c26.2), (8, .slice A35 c30.length c36), (52, .bool ((c39 && (c18.2 == 0)) && ((c18.1.length : Int) == 3))), (59, .bool (( y50.Pc == y55.Pc) && (( y50.Point == y55.Point) && true)))] (And.intro rfl (And.intro rfl (And.intro rfl (And.intro rfl (And.intro rfl trivial))))) fun j => ?_
        refine wpn_pk (congrArg Value.bool hb49) ?_
        refine wpn_nil ?_
        injection hF with hF
        subst hF
        refine wpn_end ?_
        exact hQ _ (And.intro rfl (And.intro rfl (And.intro rfl (And.intro rfl trivial))))
      · refine wpn_gF (congrArg (fun x => isB (.bool x) true) hb49) ?_
        refine wpn_pk (congrArg Value.bool hb49) ?_
        refine wpn_nil ?_
        injection hF with hF
        subst hF
        refine wpn_end ?_
        exact hQ _ (And.intro rfl (And.intro rfl (And.intro rfl (And.intro rfl trivial))))
    · refine wpn_q hO 10 [] [(8, .slice A35 c30.length c36), (73, .bool (((c47 && c26.2) && (c26.1 == 1)) && ((c30.length : Int) == 2)))] (And.intro (And.intro rfl rfl) (fun _ => And.intro (And.intro rfl rfl) (fun _ => And.intro (And.intro rfl rfl) (fun _ => And.intro rfl (And.intro rfl trivial))))) fun j => ?_
      obtain ⟨c60, h61, hF⟩ := bind_some hF
      refine wpn_midq 2 [(78, .bool c60)] (fun Q hQ => ?_) fun j => ?_
      · have hF := h61
        rcases ite_some hF with ⟨hb62, hF⟩ | ⟨hb62, hF⟩
        · refine wpn_gT (congrArg (fun x => isB (.bool x) true) hb62) ?_
          refine wpn_q hO 1 [] [(73, .bool (((c47 && c26.2) && (c26.1 == 1)) && ((c30.length : Int) == 2))), (74, .slice A35 c30.length c36)] (And.intro rfl (And.intro rfl trivial)) fun j => ?_
          obtain ⟨y63, g64, hF⟩ := bind_some hF
          refine wpn_ido (T := (Ty.int .i64)) hO w38 (i := 2) rfl rfl rfl g64 (by decide) fun a65 _ k66 m67 i68 => ?_
          have k69 := k66
          obtain rfl : _ = ([.int .i64 y63] : List Value) := k69
          refine wpn_ld rfl m67.fst ?_
          refine wpn_q hO 1 [] [(73, .bool (((c47 && c26.2) && (c26.1 == 1)) && ((c30.length : Int) == 2))), (77, .bool (y63 == 303))] (And.intro rfl (And.intro rfl trivial)) fun j => ?_
          refine wpn_pk (congrArg Value.bool hb62) ?_
          refine wpn_nil ?_
          injection hF with hF
          subst hF
          refine wpn_end ?_
          exact hQ _ (And.intro rfl (trivial))
        · refine wpn_gF (congrArg (fun x => isB (.bool x) true) hb62) ?_
          refine wpn_pk (congrArg Value.bool hb62) ?_
          refine wpn_nil ?_
          injection hF with hF
          subst hF
          refine wpn_end ?_
          exact hQ _ (And.intro rfl (trivial))
      · refine wpn_qa hO [] [(0, .bool c60)] (And.intro rfl trivial) fun j => ?_
        refine wpn_r1 ?_
        injection hF with hF
        subst hF
        have hO := hO.sel [] (by decide)
        exact hQ _ _ _ _ _ rfl hO hL ⟨rfl, rfl⟩

/-! theodolite/theodolitelaw05.twin -/
theorem w_law05_twin {τ : Hp} {v0 : Value} {p0 : (List S_api_Row)} (r0 : RdT TyS_api_Row τ v0 p0) {rr : (List S_api_Row)} (hF : F_law05_twin p0 = some rr) :
    Ctr Try.prog 8 #[v0] τ [] (fun v τ' vs' => ∃ (v0 : Value) (o0 : Ob), v = v0 ∧ vs' = [o0] ∧ OwnO TyS_api_Row 42 τ' v0 rr o0) := by
  obtain ⟨A0, c0, rfl, -⟩ := r0.form
  refine ctr_of (args := [.slice A0 p0.length c0]) hm Try.func8 s8 rfl fun w0 σ hO Q hQ => ?_
  unfold F_law05_twin at hF
  have hL := Hp.le.refl τ
  show wpn _ _ a8.body _ _ _
  unfold a8
  dsimp only
  refine wpn_qa hO [] [(0, .slice A0 p0.length c0)] (And.intro rfl trivial) fun j => ?_
  refine wpn_lit (T := TyS_api_Row) (l := ([] : List S_api_Row)) (cs := []) hO rfl rfl rfl (by decide) fun _ σ o3 w4 hO => ?_
  obtain ⟨A1, c2, rfl, -⟩ := w4.form
  have hO : Obs _ _ [_] := hO
  refine wpn_q hO 1 [] [(3, .slice A1 ([] : List S_api_Row).length c2), (4, .slice A0 p0.length c0)] (And.intro rfl (And.intro rfl trivial)) fun j => ?_
  obtain ⟨_, hr, hF⟩ := bind_some hF
  refine wpn_apl (T := TyS_api_Row) hO w4 (i := 0) rfl rfl rfl r0 hr (by decide) fun _ σ o7 w8 hO => ?_
  obtain ⟨A5, c6, rfl, -⟩ := w8.form
  have hO : Obs _ _ [_] := hO
  refine wpn_qa hO [] [(2, .slice A5 (([] : List S_api_Row) ++ p0).length c6)] (And.intro rfl trivial) fun j => ?_
  refine wpn_r1 ?_
  injection hF with hF
  subst hF
  exact hQ _ _ _ _ _ rfl hO hL ⟨_, _, rfl, rfl, w8⟩

/-! theodolite/theodoliteref05.Right -/
theorem w_ref05_Right {τ : Hp} {v0 : Value} {p0 : (List S_api_Row)} (r0 : RdT TyS_api_Row τ v0 p0) {rr : Bool} (hF : F_ref05_Right p0 = some rr) :
    Ctr Try.prog 13 #[v0] τ [] (fun v τ' vs' => v = .bool rr ∧ vs' = []) := by
  obtain ⟨A0, c0, rfl, -⟩ := r0.form
  refine ctr_of (args := [.slice A0 p0.length c0]) hm Try.func13 s13 rfl fun w0 σ hO Q hQ => ?_
  unfold F_ref05_Right at hF
  have hL := Hp.le.refl τ
  show wpn _ _ a13.body _ _ _
  unfold a13
  dsimp only
  refine wpn_qa hO [] [(0, .slice A0 p0.length c0)] (And.intro rfl trivial) fun j => ?_
  refine wpn_qa hO [] [(0, .slice A0 p0.length c0), (3, .int .i64 (-1))] (And.intro rfl (And.intro rfl trivial)) fun j => ?_
  refine wpn_assoc ?_
  refine wpn_qa hO [] [(0, .slice A0 p0.length c0), (3, .int .i64 (-1)), (4, .int .i64 0)] (And.intro rfl (And.intro rfl (And.intro rfl trivial))) fun j => ?_
  refine wpn_bl ?_
  refine wpn_lp (fun (n : Nat) e' σ' => ∃ (x39 : Int) (x40 : Int) (τ' : Hp), agr [(0, .slice A0 p0.length c0), (3, .int .i64 x39), (4, .int .i64 x40)] e' ∧ Obs τ' σ' [] ∧ Hp.le τ τ' ∧ RdT TyS_api_Row τ' (.slice A0 p0.length c0) p0 ∧ F_ref05_Right_l3 p0 n x39 x40 = some rr) big ⟨(-1), 0, _, And.intro rfl (And.intro rfl (And.intro rfl trivial)), hO, hL, r0, hF⟩ ?_
  clear hF hO hL
  rintro n77 e σ ⟨x39, x40, _, hA, hO, hL, r38, hF⟩
  rw [← sets_agr _ _ hA]
  cases n77 with
  | zero => exact nomatch (show none = some rr from hF)
  | succ n77 =>
    replace hF : F_ref05_Right_l3B (F_ref05_Right_l3 p0 n77) p0 x39 x40 = some rr := hF
    unfold F_ref05_Right_l3B at hF
    refine wpn_assoc ?_
    refine wpn_qa hO [] [(0, .slice A0 p0.length c0), (3, .int .i64 x39), (4, .int .i64 x40), (8, .bool (decide (x40 < (p0.length : Int))))] (And.intro rfl (And.intro rfl (And.intro rfl (And.intro rfl trivial)))) fun j => ?_
    rcases ite_some hF with ⟨hb78, hF⟩ | ⟨hb78, hF⟩
    · refine wpn_cT (congrArg Value.bool hb78) ?_
      refine wpn_sk ?_
      refine wpn_bl ?_
      refine wpn_assoc ?_
      refine wpn_q hO 2 [] [(0, .slice A0 p0.length c0), (3, .int .i64 x39), (4, .int .i64 x40), (11, .slice A0 p0.length c0), (12, .int .i64 x40)] (And.intro rfl (And.intro rfl (And.intro rfl (And.intro rfl (And.intro rfl trivial))))) fun j => ?_
      obtain ⟨y79, g80, hF⟩ := bind_some hF
      refine wpn_idx (T := TyS_api_Row) r38 hO.base rfl rfl g80 (by decide) fun a81 _ k82 m83 => ?_
      obtain rfl : _ = ([.int .i64 y79.Pc, .int .i64 y79.Point] : List Value) := k82
      refine wpn_q hO 1 [] [(0, .slice A0 p0.length c0), (3, .int .i64 x39), (4, .int .i64 x40), (14, .pointer (some a81))] (And.intro rfl (And.intro rfl (And.intro rfl (And.intro rfl trivial)))) fun j => ?_
      refine wpn_ld rfl m83.fst ?_
      refine wpn_q hO 3 [] [(0, .slice A0 p0.length c0), (4, .int .i64 x40), (18, .bool (decide (y79.Pc ≤ x39)))] (And.intro rfl (And.intro rfl (And.intro rfl trivial))) fun j => ?_
      obtain ⟨c84, h85, hF⟩ := bind_some hF
      refine wpn_midq 2 [(25, .bool c84), (0, .slice A0 p0.length c0), (4, .int .i64 x40)] (fun Q hQ => ?_) fun j => ?_
      · have hF := h85
        rcases ite_some hF with ⟨hb86, hF⟩ | ⟨hb86, hF⟩
        · refine wpn_gF (congrArg (fun x => isB (.bool x) false) hb86) ?_
          refine wpn_pk (congrArg Value.bool hb86) ?_
          refine wpn_nil ?_
          injection hF with hF
          subst hF
          refine wpn_end ?_
          exact hQ _ (And.intro rfl (And.intro rfl (And.intro rfl trivial)))
        · refine wpn_gT (congrArg (fun x => isB (.bool x) false) hb86) ?_
          refine wpn_q hO 2 [] [(0, .slice A0 p0.length c0), (4, .int .i64 x40), (18, .bool (decide (y79.Pc ≤ x39))), (19, .slice A0 p0.length c0), (20, .int .i64 x40)] (And.intro rfl (And.intro rfl (And.intro rfl (And.intro rfl (And.intro rfl trivial))))) fun j => ?_
          obtain ⟨y87, g88, hF⟩ := bind_some hF
          refine wpn_idx (T := TyS_api_Row) r38 hO.base rfl rfl g88 (by decide) fun a89 _ k90 m91 => ?_
          obtain rfl : _ = ([.int .i64 y87.Pc, .int .i64 y87.Point] : List Value) := k90
          refine wpn_q hO 1 [] [(0, .slice A0 p0.length c0), (4, .int .i64 x40), (18, .bool (decide (y79.Pc ≤ x39))), (22, .pointer (some a89))] (And.intro rfl (And.intro rfl (And.intro rfl (And.intro rfl trivial)))) fun j => ?_
          refine wpn_ld rfl m91.fst ?_
          refine wpn_q hO 1 [] [(0, .slice A0 p0.length c0), (4, .int .i64 x40), (18, .bool (decide (y79.Pc ≤ x39))), (24, .bool (decide (y87.Pc ≥ 16777216)))] (And.intro rfl (And.intro rfl (And.intro rfl (And.intro rfl trivial)))) fun j => ?_
          refine wpn_pk (congrArg Value.bool hb86) ?_
          refine wpn_nil ?_
          injection hF with hF
          subst hF
          refine wpn_end ?_
          exact hQ _ (And.intro rfl (And.intro rfl (And.intro rfl trivial)))
      · refine wpn_q hO 1 [] [(0, .slice A0 p0.length c0), (4, .int .i64 x40), (26, .bool c84)] (And.intro rfl (And.intro rfl (And.intro rfl trivial))) fun j => ?_
        obtain ⟨c92, h93, hF⟩ := bind_some hF
        refine wpn_midq 2 [(33, .bool c92), (0, .slice A0 p0.length c0), (4, .int .i64 x40)] (fun Q hQ => ?_) fun j => ?_
        · have hF := h93
          rcases ite_some hF with ⟨hb94, hF⟩ | ⟨hb94, hF⟩
          · refine wpn_gF (congrArg (fun x => isB (.bool x) false) hb94) ?_
            refine wpn_pk (congrArg Value.bool hb94) ?_
            refine wpn_nil ?_
            injection hF with hF
            subst hF
            refine wpn_end ?_
            exact hQ _ (And.intro rfl (And.intro rfl (And.intro rfl trivial)))
          · refine wpn_gT (congrArg (fun x => isB (.bool x) false) hb94) ?_
            refine wpn_q hO 2 [] [(0, .slice A0 p0.length c0), (4, .int .i64 x40), (26, .bool c84), (27, .slice A0 p0.length c0), (28, .int .i64 x40)] (And.intro rfl (And.intro rfl (And.intro rfl (And.intro rfl (And.intro rfl trivial))))) fun j => ?_
            obtain ⟨y95, g96, hF⟩ := bind_some hF
            refine wpn_idx (T := TyS_api_Row) r38 hO.base rfl rfl g96 (by decide) fun a97 _ k98 m99 => ?_
            obtain rfl : _ = ([.int .i64 y95.Pc, .int .i64 y95.Point] : List Value) := k98
            refine wpn_q hO 1 [] [(0, .slice A0 p0.length c0), (4, .int .i64 x40), (26, .bool c84), (30, .pointer (some (a97.add 1)))] (And.intro rfl (And.intro rfl (And.intro rfl (And.intro rfl trivial)))) fun j => ?_
            refine wpn_ld rfl (m99.one 1 rfl) ?_
            refine wpn_q hO 1 [] [(0, .slice A0 p0.length c0), (4, .int .i64 x40), (26, .bool c84), (32, .bool (decide (y95.Point < 0)))] (And.intro rfl (And.intro rfl (And.intro rfl (And.intro rfl trivial)))) fun j => ?_
            refine wpn_pk (congrArg Value.bool hb94) ?_
            refine wpn_nil ?_
            injection hF with hF
            subst hF
            refine wpn_end ?_
            exact hQ _ (And.intro rfl (And.intro rfl (And.intro rfl trivial)))
        · refine wpn_q hO 1 [] [(0, .slice A0 p0.length c0), (4, .int .i64 x40), (34, .bool c92)] (And.intro rfl (And.intro rfl (And.intro rfl trivial))) fun j => ?_
          obtain ⟨c100, h101, hF⟩ := bind_some hF
          refine wpn_midq 2 [(41, .bool c100), (0, .slice A0 p0.length c0), (4, .int .i64 x40)] (fun Q hQ => ?_) fun j => ?_
          · have hF := h101
            rcases ite_some hF with ⟨hb102, hF⟩ | ⟨hb102, hF⟩
            · refine wpn_gF (congrArg (fun x => isB (.bool x) false) hb102) ?_
              refine wpn_pk (congrArg Value.bool hb102) ?_
              refine wpn_nil ?_
              injection hF with hF
              subst hF
              refine wpn_end ?_
              exact hQ _ (And.intro rfl (And.intro rfl (And.intro rfl trivial)))
            · refine wpn_gT (congrArg (fun x => isB (.bool x) false) hb102) ?_
              refine wpn_q hO 2 [] [(0, .slice A0 p0.length c0), (4, .int .i64 x40), (34, .bool c92), (35, .slice A0 p0.length c0), (36, .int .i64 x40)] (And.intro rfl (And.intro rfl (And.intro rfl (And.intro rfl (And.intro rfl trivial))))) fun j => ?_
              obtain ⟨y103, g104, hF⟩ := bind_some hF
              refine wpn_idx (T := TyS_api_Row) r38 hO.base rfl rfl g104 (by decide) fun a105 _ k106 m107 => ?_
              obtain rfl : _ = ([.int .i64 y103.Pc, .int .i64 y103.Point] : List Value) := k106
              refine wpn_q hO 1 [] [(0, .slice A0 p0.length c0), (4, .int .i64 x40), (34, .bool c92), (38, .pointer (some (a105.add 1)))] (And.intro rfl (And.intro rfl (And.intro rfl (And.intro rfl trivial)))) fun j => ?_
              refine wpn_ld rfl (m107.one 1 rfl) ?_
              refine wpn_q hO 1 [] [(0, .slice A0 p0.length c0), (4, .int .i64 x40), (34, .bool c92), (40, .bool (decide (y103.Point ≥ 1000)))] (And.intro rfl (And.intro rfl (And.intro rfl (And.intro rfl trivial)))) fun j => ?_
              refine wpn_pk (congrArg Value.bool hb102) ?_
              refine wpn_nil ?_
              injection hF with hF
              subst hF
              refine wpn_end ?_
              exact hQ _ (And.intro rfl (And.intro rfl (And.intro rfl trivial)))
          · refine wpn_nil ?_
            rcases ite_some hF with ⟨hb108, hF⟩ | ⟨hb108, hF⟩
            · refine wpn_cT (congrArg Value.bool hb108) ?_
              refine wpn_assoc ?_
              refine wpn_qa hO [] [(2, .bool false)] (And.intro rfl trivial) fun j => ?_
              refine wpn_rt ?_
              refine inb_r1 ?_
              refine thn_r1 ?_
              refine thn_r1 ?_
              refine inb_r1 ?_
              refine thn_r1 ?_
              injection hF with hF
              subst hF
              exact hQ _ _ _ _ _ rfl hO hL ⟨rfl, rfl⟩
            · refine wpn_cF (congrArg Value.bool hb108) ?_
              refine wpn_sk ?_
              refine wpn_rlast ?_
              refine wpn_q hO 2 [] [(0, .slice A0 p0.length c0), (4, .int .i64 x40), (42, .slice A0 p0.length c0), (43, .int .i64 x40)] (And.intro rfl (And.intro rfl (And.intro rfl (And.intro rfl trivial)))) fun j => ?_
              obtain ⟨y109, g110, hF⟩ := bind_some hF
              refine wpn_idx (T := TyS_api_Row) r38 hO.base rfl rfl g110 (by decide) fun a111 _ k112 m113 => ?_
              obtain rfl : _ = ([.int .i64 y109.Pc, .int .i64 y109.Point] : List Value) := k112
              refine wpn_q hO 1 [] [(0, .slice A0 p0.length c0), (4, .int .i64 x40), (45, .pointer (some a111))] (And.intro rfl (And.intro rfl (And.intro rfl trivial))) fun j => ?_
              refine wpn_ld rfl m113.fst ?_
              refine wpn_qa hO [] [(0, .slice A0 p0.length c0), (3, .int .i64 y109.Pc), (4, .int .i64 x40)] (And.intro rfl (And.intro rfl (And.intro rfl trivial))) fun j => ?_
              refine wpn_end ?_
              refine inb_i ?_
              refine thn_i ?_
              refine wpn_rlast ?_
              refine wpn_qa hO [] [(0, .slice A0 p0.length c0), (3, .int .i64 y109.Pc), (4, .int .i64 (IntKind.i64.wrap (x40 + 1)))] (And.intro rfl (And.intro rfl (And.intro rfl trivial))) fun j => ?_
              refine wpn_end ?_
              refine thn_i ?_
              exact ⟨n77, Nat.lt_succ_self _, y109.Pc, (IntKind.i64.wrap (x40 + 1)), _, And.intro rfl (And.intro rfl (And.intro rfl trivial)), hO, hL, r38, hF⟩
    · refine wpn_cF (congrArg Value.bool hb78) ?_
      refine wpn_ex ?_
      refine thn_x ?_
      refine inb_x ?_
      refine thn_i ?_
      refine wpn_qa hO [] [(2, .bool (decide ((p0.length : Int) ≤ 20000)))] (And.intro rfl trivial) fun j => ?_
      refine wpn_r1 ?_
      injection hF with hF
      subst hF
      exact hQ _ _ _ _ _ rfl hO hL ⟨rfl, rfl⟩

/-! theodolite/theodoliteref02.fitsU -/
theorem w_ref02_fitsU {τ : Hp} {p0 : Int} {p1 : Int}  {rr : Bool} (hF : F_ref02_fitsU p0 p1 = some rr) :
    Ctr Try.prog 34 #[.int .u64 p0, .int .i64 p1] τ [] (fun v τ' vs' => v = .bool rr ∧ vs' = []) := by
  refine ctr_of (args := [.int .u64 p0, .int .i64 p1]) hm Try.func34 s34 rfl fun w0 σ hO Q hQ => ?_
  unfold F_ref02_fitsU at hF
  have hL := Hp.le.refl τ
  show wpn _ _ a34.body _ _ _
  unfold a34
  dsimp only
  refine wpn_qa hO [] [(0, .int .u64 p0), (1, .int .i64 p1)] (And.intro rfl (And.intro rfl trivial)) fun j => ?_
  refine wpn_q hO 4 [] [(0, .int .u64 p0), (1, .int .i64 p1), (8, .bool (decide ((IntKind.i64.wrap (7 * p1)) ≥ 64)))] (And.intro rfl (And.intro rfl (And.intro rfl trivial))) fun j => ?_
  obtain ⟨c1, h2, hF⟩ := bind_some hF
  refine wpn_midq 2 [(15, .bool c1)] (fun Q hQ => ?_) fun j => ?_
  · have hF := h2
    rcases ite_some hF with ⟨hb3, hF⟩ | ⟨hb3, hF⟩
    · refine wpn_gF (congrArg (fun x => isB (.bool x) false) hb3) ?_
      refine wpn_pk (congrArg Value.bool hb3) ?_
      refine wpn_nil ?_
      injection hF with hF
      subst hF
      refine wpn_end ?_
      exact hQ _ (And.intro rfl (trivial))
    · refine wpn_gT (congrArg (fun x => isB (.bool x) false) hb3) ?_
      refine wpn_q hO 4 [] [(8, .bool (decide ((IntKind.i64.wrap (7 * p1)) ≥ 64))), (9, .int .u64 p0), (12, .int .u64 (IntKind.u64.wrap (IntKind.i64.wrap (7 * p1))))] (And.intro rfl (And.intro rfl (And.intro rfl trivial))) fun j => ?_
      obtain ⟨y4, g5, hF⟩ := bind_some hF
      refine wpn_bn (shlO_bin g5) ?_
      refine wpn_q hO 1 [] [(8, .bool (decide ((IntKind.i64.wrap (7 * p1)) ≥ 64))), (14, .bool (decide (p0 < y4)))] (And.intro rfl (And.intro rfl trivial)) fun j => ?_
      refine wpn_pk (congrArg Value.bool hb3) ?_
      refine wpn_nil ?_
      injection hF with hF
      subst hF
      refine wpn_end ?_
      exact hQ _ (And.intro rfl (trivial))
  · refine wpn_qa hO [] [(4, .bool c1)] (And.intro rfl trivial) fun j => ?_
    refine wpn_r1 ?_
    injection hF with hF
    subst hF
    exact hQ _ _ _ _ _ rfl hO hL ⟨rfl, rfl⟩

/-! theodolite/theodoliteref00.CopyBytes -/
theorem w_ref00_CopyBytes {τ : Hp} {v0 : Value} {p0 : (List UInt8)} (r0 : RdT Ty.u8 τ v0 p0) {rr : (List UInt8)} (hF : F_ref00_CopyBytes p0 = some rr) :
    Ctr Try.prog 43 #[v0] τ [] (fun v τ' vs' => ∃ (v0 : Value) (o0 : Ob), v = v0 ∧ vs' = [o0] ∧ OwnO Ty.u8 5 τ' v0 rr o0) := by
  obtain ⟨A0, c0, rfl, -⟩ := r0.form
  refine ctr_of (args := [.slice A0 p0.length c0]) hm Try.func43 s43 rfl fun w0 σ hO Q hQ => ?_
  unfold F_ref00_CopyBytes at hF
  have hL := Hp.le.refl τ
  show wpn _ _ a43.body _ _ _
  unfold a43
  dsimp only
  refine wpn_qa hO [] [(0, .slice A0 p0.length c0)] (And.intro rfl trivial) fun j => ?_
  refine wpn_qa hO [] [(0, .slice A0 p0.length c0), (3, .slice none 0 0)] (And.intro rfl (And.intro rfl trivial)) fun j => ?_
  refine wpn_assoc ?_
  refine wpn_qa hO [] [(3, .slice none 0 0), (6, .slice A0 p0.length c0), (7, .int .i64 (p0.length : Int)), (8, .int .i64 0)] (And.intro rfl (And.intro rfl (And.intro rfl (And.intro rfl trivial)))) fun j => ?_
  refine wpn_bl ?_
  have hO := hO.no
  have hO : Obs _ _ [_] := hO
  refine wpn_lp (fun (n : Nat) e' σ' => ∃ (A13 : Option Addr) (c14 : Nat) (o15 : Ob) (x16 : List UInt8) (x19 : Int) (τ' : Hp), agr [(3, .slice A13 x16.length c14), (6, .slice A0 p0.length c0), (7, .int .i64 (p0.length : Int)), (8, .int .i64 x19)] e' ∧ Obs τ' σ' [o15] ∧ Hp.le τ τ' ∧ OwnO Ty.u8 5 τ' (.slice A13 x16.length c14) x16 o15 ∧ RdT Ty.u8 τ' (.slice A0 p0.length c0) p0 ∧ F_ref00_CopyBytes_l3 p0 n x16 x19 = some rr) big ⟨none, 0, none, [], 0, _, And.intro rfl (And.intro rfl (And.intro rfl (And.intro rfl trivial))), hO, hL, OwnO.nil _ _ _, r0, hF⟩ ?_
  clear hF hO hL
  rintro n30 e σ ⟨A13, c14, o15, x16, x19, _, hA, hO, hL, w17, r18, hF⟩
  rw [← sets_agr _ _ hA]
  cases n30 with
  | zero => exact nomatch (show none = some rr from hF)
  | succ n30 =>
    replace hF : F_ref00_CopyBytes_l3B (F_ref00_CopyBytes_l3 p0 n30) p0 x16 x19 = some rr := hF
    unfold F_ref00_CopyBytes_l3B at hF
    refine wpn_qa hO [] [(3, .slice A13 x16.length c14), (6, .slice A0 p0.length c0), (7, .int .i64 (p0.length : Int)), (8, .int .i64 x19), (9, .bool (decide (x19 < (p0.length : Int))))] (And.intro rfl (And.intro rfl (And.intro rfl (And.intro rfl (And.intro rfl trivial))))) fun j => ?_
    rcases ite_some hF with ⟨hb31, hF⟩ | ⟨hb31, hF⟩
    · refine wpn_cT (congrArg Value.bool hb31) ?_
      refine wpn_sk ?_
      refine wpn_bl ?_
      obtain ⟨y32, g33, hF⟩ := bind_some hF
      refine wpn_idx (T := Ty.u8) r18 hO.base rfl rfl g33 (by decide) fun a34 _ k35 m36 => ?_
      obtain rfl : _ = ([.int .u8 y32.toNat] : List Value) := k35
      refine wpn_ld rfl m36.fst ?_
      refine wpn_qa hO [] [(3, .slice A13 x16.length c14), (5, .int .u8 (y32.toNat : Int)), (6, .slice A0 p0.length c0), (7, .int .i64 (p0.length : Int)), (8, .int .i64 x19)] (And.intro rfl (And.intro rfl (And.intro rfl (And.intro rfl (And.intro rfl trivial))))) fun j => ?_
      refine wpn_rlast ?_
      refine wpn_q hO 2 [] [(6, .slice A0 p0.length c0), (7, .int .i64 (p0.length : Int)), (8, .int .i64 x19), (12, .slice A13 x16.length c14), (13, .int .u8 (y32.toNat : Int))] (And.intro rfl (And.intro rfl (And.intro rfl (And.intro rfl (And.intro rfl trivial))))) fun j => ?_
      obtain ⟨_, hr, hF⟩ := bind_some hF
      refine wpn_ap1 (T := Ty.u8) (y := y32) hO w17 (i := 0) rfl rfl (fun _ => rfl) rfl rfl rfl hr (by decide) fun u _ σ o39 w40 hO => ?_
      obtain ⟨A37, c38, rfl, -⟩ := w40.form
      have hO : Obs _ _ [_] := hO
      refine wpn_qa hO [] [(3, .slice A37 (x16 ++ [y32]).length c38), (6, .slice A0 p0.length c0), (7, .int .i64 (p0.length : Int)), (8, .int .i64 x19)] (And.intro rfl (And.intro rfl (And.intro rfl (And.intro rfl trivial)))) fun j => ?_
      refine wpn_end ?_
      refine inb_i ?_
      refine thn_i ?_
      refine wpn_rlast ?_
      refine wpn_qa hO [] [(3, .slice A37 (x16 ++ [y32]).length c38), (6, .slice A0 p0.length c0), (7, .int .i64 (p0.length : Int)), (8, .int .i64 (IntKind.i64.wrap (x19 + 1)))] (And.intro rfl (And.intro rfl (And.intro rfl (And.intro rfl trivial)))) fun j => ?_
      refine wpn_end ?_
      refine thn_i ?_
      exact ⟨n30, Nat.lt_succ_self _, A37, c38, o39, (x16 ++ [y32]), (IntKind.i64.wrap (x19 + 1)), _, And.intro rfl (And.intro rfl (And.intro rfl (And.intro rfl trivial))), hO, hL, w40, r18, hF⟩
    · refine wpn_cF (congrArg Value.bool hb31) ?_
      refine wpn_ex ?_
      refine thn_x ?_
      refine inb_x ?_
      refine thn_i ?_
      refine wpn_qa hO [] [(2, .slice A13 x16.length c14)] (And.intro rfl trivial) fun j => ?_
      refine wpn_r1 ?_
      injection hF with hF
      subst hF
      exact hQ _ _ _ _ _ rfl hO hL ⟨_, _, rfl, rfl, w17⟩

/-! theodolite/theodoliteref02.digits -/
theorem w_ref02_digits {τ : Hp} {v0 : Value} {p0 : (List UInt8)} {p1 : Int} {p2 : Bool} {p3 : Int} (r0 : RdT Ty.u8 τ v0 p0) {rr : (List UInt8)} (hF : F_ref02_digits p0 p1 p2 p3 = some rr) :
    Ctr Try.prog 35 #[v0, .int .u64 p1, .bool p2, .int .i64 p3] τ [] (fun v τ' vs' => ∃ (v0 : Value) (o0 : Ob), v = v0 ∧ vs' = [o0] ∧ OwnO Ty.u8 5 τ' v0 rr o0) := by
  obtain ⟨A0, c0, rfl, -⟩ := r0.form
  refine ctr_of (args := [.slice A0 p0.length c0, .int .u64 p1, .bool p2, .int .i64 p3]) hm Try.func35 s35 rfl fun w0 σ hO Q hQ => ?_
  unfold F_ref02_digits at hF
  have hL := Hp.le.refl τ
  show wpn _ _ a35.body _ _ _
  unfold a35
  dsimp only
  refine wpn_qa hO [] [(0, .slice A0 p0.length c0), (1, .int .u64 p1), (2, .bool p2), (3, .int .i64 p3)] (And.intro rfl (And.intro rfl (And.intro rfl (And.intro rfl trivial)))) fun j => ?_
  refine wpn_q hO 1 [] [(1, .int .u64 p1), (2, .bool p2), (3, .int .i64 p3), (12, .slice A0 p0.length c0)] (And.intro rfl (And.intro rfl (And.intro rfl (And.intro rfl trivial)))) fun j => ?_
  obtain ⟨c1, h2, hF⟩ := bind_some hF
  refine wpn_c0 hO (w_ref00_CopyBytes r0 h2) rfl fun _ σ _ _ hO h3 h4 => ?_
  have hL := hL.trans h3
  have r0 := r0.le h3
  obtain ⟨v5, o8, rfl, rfl, w9⟩ := h4
  obtain ⟨A6, c7, rfl, -⟩ := w9.form
  have hO : Obs _ _ [_] := hO
  refine wpn_qa hO [] [(1, .int .u64 p1), (2, .bool p2), (3, .int .i64 p3), (9, .slice A6 c1.length c7)] (And.intro rfl (And.intro rfl (And.intro rfl (And.intro rfl trivial)))) fun j => ?_
  refine wpn_assoc ?_
  refine wpn_qa hO [] [(1, .int .u64 p1), (2, .bool p2), (3, .int .i64 p3), (9, .slice A6 c1.length c7), (10, .int .i64 0)] (And.intro rfl (And.intro rfl (And.intro rfl (And.intro rfl (And.intro rfl trivial))))) fun j => ?_
  refine wpn_bl ?_
  refine wpn_lp (fun (n : Nat) e' σ' => ∃ (x35 : Int) (A36 : Option Addr) (c37 : Nat) (o38 : Ob) (x39 : List UInt8) (x41 : Int) (τ' : Hp), agr [(1, .int .u64 x35), (2, .bool p2), (3, .int .i64 p3), (9, .slice A36 x39.length c37), (10, .int .i64 x41)] e' ∧ Obs τ' σ' [o38] ∧ Hp.le τ τ' ∧ OwnO Ty.u8 5 τ' (.slice A36 x39.length c37) x39 o38 ∧ F_ref02_digits_l8 p2 p3 n x35 x39 x41 = some rr) big ⟨p1, A6, c7, o8, c1, 0, _, And.intro rfl (And.intro rfl (And.intro rfl (And.intro rfl (And.intro rfl trivial)))), hO, hL, w9, hF⟩ ?_
  clear hF hO hL
  rintro n62 e σ ⟨x35, A36, c37, o38, x39, x41, _, hA, hO, hL, w40, hF⟩
  rw [← sets_agr _ _ hA]
  cases n62 with
  | zero => exact nomatch (show none = some rr from hF)
  | succ n62 =>
    replace hF : F_ref02_digits_l8B (F_ref02_digits_l8 p2 p3 n62) p2 p3 x35 x39 x41 = some rr := hF
    unfold F_ref02_digits_l8B at hF
    refine wpn_assoc ?_
    refine wpn_qa hO [] [(1, .int .u64 x35), (2, .bool p2), (3, .int .i64 p3), (9, .slice A36 x39.length c37), (10, .int .i64 x41), (16, .bool (decide (x41 < p3)))] (And.intro rfl (And.intro rfl (And.intro rfl (And.intro rfl (And.intro rfl (And.intro rfl trivial)))))) fun j => ?_
    rcases ite_some hF with ⟨hb63, hF⟩ | ⟨hb63, hF⟩
    · refine wpn_cT (congrArg Value.bool hb63) ?_
      refine wpn_sk ?_
      refine wpn_bl ?_
      refine wpn_qa hO [] [(1, .int .u64 x35), (2, .bool p2), (3, .int .i64 p3), (9, .slice A36 x39.length c37), (10, .int .i64 x41), (11, .int .u64 (Int.tmod x35 128))] (And.intro rfl (And.intro rfl (And.intro rfl (And.intro rfl (And.intro rfl (And.intro rfl trivial)))))) fun j => ?_
      refine wpn_qa hO [] [(1, .int .u64 (IntKind.u64.wrap (Int.tdiv x35 128))), (2, .bool p2), (3, .int .i64 p3), (9, .slice A36 x39.length c37), (10, .int .i64 x41), (11, .int .u64 (Int.tmod x35 128))] (And.intro rfl (And.intro rfl (And.intro rfl (And.intro rfl (And.intro rfl (And.intro rfl trivial)))))) fun j => ?_
      refine wpn_assoc ?_
      refine wpn_qa hO [] [(1, .int .u64 (IntKind.u64.wrap (Int.tdiv x35 128))), (2, .bool p2), (3, .int .i64 p3), (9, .slice A36 x39.length c37), (10, .int .i64 x41), (11, .int .u64 (Int.tmod x35 128)), (23, .bool p2)] (And.intro rfl (And.intro rfl (And.intro rfl (And.intro rfl (And.intro rfl (And.intro rfl (And.intro rfl trivial))))))) fun j => ?_
      refine wpn_cut (fun e' σ' => ∃ (x65 : Int) (A66 : Option Addr) (c67 : Nat) (o68 : Ob) (x69 : List UInt8) (τ' : Hp), agr [(1, .int .u64 x65), (2, .bool p2), (3, .int .i64 p3), (9, .slice A66 x69.length c67), (10, .int .i64 x41), (11, .int .u64 (Int.tmod x35 128))] e' ∧ Obs τ' σ' [o68] ∧ Hp.le τ τ' ∧ OwnO Ty.u8 5 τ' (.slice A66 x69.length c67) x69 o68 ∧ F_ref02_digits_k11 (F_ref02_digits_l8 p2 p3 n62) p3 x35 x41 x65 x69 = some rr) ?_ ?_
      · refine wpn_clast ?_
        rcases ite_some hF with ⟨hb82, hF⟩ | ⟨hb82, hF⟩
        · refine wpn_cT (congrArg Value.bool hb82) ?_
          refine wpn_qa hO [] [(1, .int .u64 (orI .u64 (IntKind.u64.wrap (Int.tdiv x35 128)) 18302628885633695744)), (2, .bool p2), (3, .int .i64 p3), (9, .slice A36 x39.length c37), (10, .int .i64 x41), (11, .int .u64 (Int.tmod x35 128))] (And.intro rfl (And.intro rfl (And.intro rfl (And.intro rfl (And.intro rfl (And.intro rfl trivial)))))) fun j => ?_
          refine wpn_end ?_
          refine thn_i ?_
          exact ⟨(orI .u64 (IntKind.u64.wrap (Int.tdiv x35 128)) 18302628885633695744), A36, c37, o38, x39, _, And.intro rfl (And.intro rfl (And.intro rfl (And.intro rfl (And.intro rfl (And.intro rfl trivial))))), hO, hL, w40, hF⟩
        · refine wpn_cF (congrArg Value.bool hb82) ?_
          refine wpn_sk ?_
          refine wpn_end ?_
          refine thn_i ?_
          exact ⟨(IntKind.u64.wrap (Int.tdiv x35 128)), A36, c37, o38, x39, _, And.intro rfl (And.intro rfl (And.intro rfl (And.intro rfl (And.intro rfl (And.intro rfl trivial))))), hO, hL, w40, hF⟩
      · rintro e σ ⟨x65, A66, c67, o68, x69, _, hA, hO, hL, w70, hF⟩
        rw [← sets_agr _ _ hA]
        unfold F_ref02_digits_k11 at hF
        refine wpn_assoc ?_
        refine wpn_qa hO [] [(1, .int .u64 x65), (2, .bool p2), (3, .int .i64 p3), (9, .slice A66 x69.length c67), (10, .int .i64 x41), (11, .int .u64 (Int.tmod x35 128)), (29, .bool (decide (x41 < (IntKind.i64.wrap (p3 - 1)))))] (And.intro rfl (And.intro rfl (And.intro rfl (And.intro rfl (And.intro rfl (And.intro rfl (And.intro rfl trivial))))))) fun j => ?_
        rcases ite_some hF with ⟨hb71, hF⟩ | ⟨hb71, hF⟩
        · refine wpn_cT (congrArg Value.bool hb71) ?_
          refine wpn_qa hO [] [(1, .int .u64 x65), (2, .bool p2), (3, .int .i64 p3), (9, .slice A66 x69.length c67), (10, .int .i64 x41), (11, .int .u64 (IntKind.u64.wrap ((Int.tmod x35 128) + 128)))] (And.intro rfl (And.intro rfl (And.intro rfl (And.intro rfl (And.intro rfl (And.intro rfl trivial)))))) fun j => ?_
          refine wpn_rlast ?_
          refine wpn_q hO 3 [] [(1, .int .u64 x65), (2, .bool p2), (3, .int .i64 p3), (10, .int .i64 x41), (32, .slice A66 x69.length c67), (34, .int .u8 (IntKind.u8.wrap (IntKind.u64.wrap ((Int.tmod x35 128) + 128))))] (And.intro rfl (And.intro rfl (And.intro rfl (And.intro rfl (And.intro rfl (And.intro rfl trivial)))))) fun j => ?_
          obtain ⟨z72, hz72, hF⟩ := bind_some hF
          obtain ⟨_, hr, hF⟩ := bind_some hF
          refine wpn_ap1 (T := Ty.u8) (y := z72) hO w70 (i := 0) rfl rfl (fun _ => rfl) rfl (u8R hz72) rfl hr (by decide) fun u _ σ o75 w76 hO => ?_
          obtain ⟨A73, c74, rfl, -⟩ := w76.form
          have hO : Obs _ _ [_] := hO
          refine wpn_qa hO [] [(1, .int .u64 x65), (2, .bool p2), (3, .int .i64 p3), (9, .slice A73 (x69 ++ [z72]).length c74), (10, .int .i64 x41)] (And.intro rfl (And.intro rfl (And.intro rfl (And.intro rfl (And.intro rfl trivial))))) fun j => ?_
          refine wpn_end ?_
          refine inb_i ?_
          refine thn_i ?_
          refine wpn_rlast ?_
          refine wpn_qa hO [] [(1, .int .u64 x65), (2, .bool p2), (3, .int .i64 p3), (9, .slice A73 (x69 ++ [z72]).length c74), (10, .int .i64 (IntKind.i64.wrap (x41 + 1)))] (And.intro rfl (And.intro rfl (And.intro rfl (And.intro rfl (And.intro rfl trivial))))) fun j => ?_
          refine wpn_end ?_
          refine thn_i ?_
          exact ⟨n62, Nat.lt_succ_self _, x65, A73, c74, o75, (x69 ++ [z72]), (IntKind.i64.wrap (x41 + 1)), _, And.intro rfl (And.intro rfl (And.intro rfl (And.intro rfl (And.intro rfl trivial)))), hO, hL, w76, hF⟩
        · refine wpn_cF (congrArg Value.bool hb71) ?_
          refine wpn_sk ?_
          refine wpn_rlast ?_
          refine wpn_q hO 3 [] [(1, .int .u64 x65), (2, .bool p2), (3, .int .i64 p3), (10, .int .i64 x41), (32, .slice A66 x69.length c67), (34, .int .u8 (IntKind.u8.wrap (Int.tmod x35 128)))] (And.intro rfl (And.intro rfl (And.intro rfl (And.intro rfl (And.intro rfl (And.intro rfl trivial)))))) fun j => ?_
          obtain ⟨z77, hz77, hF⟩ := bind_some hF
          obtain ⟨_, hr, hF⟩ := bind_some hF
          refine wpn_ap1 (T := Ty.u8) (y := z77) hO w70 (i := 0) rfl rfl (fun _ => rfl) rfl (u8R hz77) rfl hr (by decide) fun u _ σ o80 w81 hO => ?_
          obtain ⟨A78, c79, rfl, -⟩ := w81.form
          have hO : Obs _ _ [_] := hO
          refine wpn_qa hO [] [(1, .int .u64 x65), (2, .bool p2), (3, .int .i64 p3), (9, .slice A78 (x69 ++ [z77]).length c79), (10, .int .i64 x41)] (And.intro rfl (And.intro rfl (And.intro rfl (And.intro rfl (And.intro rfl trivial))))) fun j => ?_
          refine wpn_end ?_
          refine inb_i ?_
          refine thn_i ?_
          refine wpn_rlast ?_
          refine wpn_qa hO [] [(1, .int .u64 x65), (2, .bool p2), (3, .int .i64 p3), (9, .slice A78 (x69 ++ [z77]).length c79), (10, .int .i64 (IntKind.i64.wrap (x41 + 1)))] (And.intro rfl (And.intro rfl (And.intro rfl (And.intro rfl (And.intro rfl trivial))))) fun j => ?_
          refine wpn_end ?_
          refine thn_i ?_
          exact ⟨n62, Nat.lt_succ_self _, x65, A78, c79, o80, (x69 ++ [z77]), (IntKind.i64.wrap (x41 + 1)), _, And.intro rfl (And.intro rfl (And.intro rfl (And.intro rfl (And.intro rfl trivial)))), hO, hL, w81, hF⟩
    · refine wpn_cF (congrArg Value.bool hb63) ?_
      refine wpn_ex ?_
      refine thn_x ?_
      refine inb_x ?_
      refine thn_i ?_
      refine wpn_qa hO [] [(8, .slice A36 x39.length c37)] (And.intro rfl trivial) fun j => ?_
      refine wpn_r1 ?_
      injection hF with hF
      subst hF
      exact hQ _ _ _ _ _ rfl hO hL ⟨_, _, rfl, rfl, w40⟩

/-! theodolite/theodoliteref02.fitsS -/
theorem w_ref02_fitsS {τ : Hp} {p0 : Int} {p1 : Int}  {rr : Bool} (hF : F_ref02_fitsS p0 p1 = some rr) :
    Ctr Try.prog 36 #[.int .i64 p0, .int .i64 p1] τ [] (fun v τ' vs' => v = .bool rr ∧ vs' = []) := by
  refine ctr_of (args := [.int .i64 p0, .int .i64 p1]) hm Try.func36 s36 rfl fun w0 σ hO Q hQ => ?_
  unfold F_ref02_fitsS at hF
  have hL := Hp.le.refl τ
  show wpn _ _ a36.body _ _ _
  unfold a36
  dsimp only
  refine wpn_qa hO [] [(0, .int .i64 p0), (1, .int .i64 p1)] (And.intro rfl (And.intro rfl trivial)) fun j => ?_
  refine wpn_assoc ?_
  refine wpn_qa hO [] [(0, .int .i64 p0), (1, .int .i64 p1), (8, .bool (decide ((IntKind.i64.wrap ((IntKind.i64.wrap (7 * p1)) - 1)) ≥ 63)))] (And.intro rfl (And.intro rfl (And.intro rfl trivial))) fun j => ?_
  rcases ite_some hF with ⟨hb1, hF⟩ | ⟨hb1, hF⟩
  · refine wpn_cT (congrArg Value.bool hb1) ?_
    refine wpn_assoc ?_
    refine wpn_qa hO [] [(4, .bool true)] (And.intro rfl trivial) fun j => ?_
    refine wpn_rt ?_
    injection hF with hF
    subst hF
    exact hQ _ _ _ _ _ rfl hO hL ⟨rfl, rfl⟩
  · refine wpn_cF (congrArg Value.bool hb1) ?_
    refine wpn_sk ?_
    refine wpn_q hO 5 [] [(0, .int .i64 p0), (1, .int .i64 p1), (9, .int .i64 p0), (13, .int .u64 (IntKind.u64.wrap (IntKind.i64.wrap ((IntKind.i64.wrap (7 * p1)) - 1))))] (And.intro rfl (And.intro rfl (And.intro rfl (And.intro rfl trivial)))) fun j => ?_
    obtain ⟨y2, g3, hF⟩ := bind_some hF
    refine wpn_bn (shlO_bin g3) ?_
    refine wpn_q hO 3 [] [(0, .int .i64 p0), (1, .int .i64 p1), (17, .bool (decide (p0 ≥ (IntKind.i64.wrap (0 - y2)))))] (And.intro rfl (And.intro rfl (And.intro rfl trivial))) fun j => ?_
    obtain ⟨c4, h5, hF⟩ := bind_some hF
    refine wpn_midq 2 [(25, .bool c4)] (fun Q hQ => ?_) fun j => ?_
    · have hF := h5
      rcases ite_some hF with ⟨hb6, hF⟩ | ⟨hb6, hF⟩
      · refine wpn_gT (congrArg (fun x => isB (.bool x) true) hb6) ?_
        refine wpn_q hO 5 [] [(17, .bool (decide (p0 ≥ (IntKind.i64.wrap (0 - y2))))), (18, .int .i64 p0), (22, .int .u64 (IntKind.u64.wrap (IntKind.i64.wrap ((IntKind.i64.wrap (7 * p1)) - 1))))] (And.intro rfl (And.intro rfl (And.intro rfl trivial))) fun j => ?_
        obtain ⟨y7, g8, hF⟩ := bind_some hF
        refine wpn_bn (shlO_bin g8) ?_
        refine wpn_q hO 1 [] [(17, .bool (decide (p0 ≥ (IntKind.i64.wrap (0 - y2))))), (24, .bool (decide (p0 < y7)))] (And.intro rfl (And.intro rfl trivial)) fun j => ?_
        refine wpn_pk (congrArg Value.bool hb6) ?_
        refine wpn_nil ?_
        injection hF with hF
        subst hF
        refine wpn_end ?_
        exact hQ _ (And.intro rfl (trivial))
      · refine wpn_gF (congrArg (fun x => isB (.bool x) true) hb6) ?_
        refine wpn_pk (congrArg Value.bool hb6) ?_
        refine wpn_nil ?_
        injection hF with hF
        subst hF
        refine wpn_end ?_
        exact hQ _ (And.intro rfl (trivial))
    · refine wpn_qa hO [] [(4, .bool c4)] (And.intro rfl trivial) fun j => ?_
      refine wpn_r1 ?_
      injection hF with hF
      subst hF
      exact hQ _ _ _ _ _ rfl hO hL ⟨rfl, rfl⟩

/-! theodolite/theodoliteref05.Write -/
theorem w_ref05_Write {τ : Hp} {v0 : Value} {p0 : (List S_api_Row)} (r0 : RdT TyS_api_Row τ v0 p0) {rr : (List UInt8) × Int} (hF : F_ref05_Write p0 = some rr) :
    Ctr Try.prog 10 #[v0] τ [] (fun v τ' vs' => ∃ (v0 : Value) (o0 : Ob), v = .tuple #[v0, .int .i64 rr.2] ∧ vs' = [o0] ∧ OwnO Ty.u8 5 τ' v0 rr.1 o0) := by
  obtain ⟨A0, c0, rfl, -⟩ := r0.form
  refine ctr_of (args := [.slice A0 p0.length c0]) hm Try.func10 s10 rfl fun w0 σ hO Q hQ => ?_
  unfold F_ref05_Write at hF
  have hL := Hp.le.refl τ
  show wpn _ _ a10.body _ _ _
  unfold a10
  dsimp only
  refine wpn_qa hO [] [(0, .slice A0 p0.length c0)] (And.intro rfl trivial) fun j => ?_
  refine wpn_assoc ?_
  refine wpn_q hO 1 [] [(0, .slice A0 p0.length c0), (10, .slice A0 p0.length c0)] (And.intro rfl (And.intro rfl trivial)) fun j => ?_
  obtain ⟨c1, h2, hF⟩ := bind_some hF
  refine wpn_c0 hO (w_ref05_Right r0 h2) rfl fun _ σ _ _ hO h3 h4 => ?_
  have hL := hL.trans h3
  have r0 := r0.le h3
  obtain ⟨rfl, rfl⟩ := h4
  have hO : Obs _ _ [] := hO
  refine wpn_qa hO [] [(0, .slice A0 p0.length c0), (12, .bool (!c1))] (And.intro rfl (And.intro rfl trivial)) fun j => ?_
  rcases ite_some hF with ⟨hb5, hF⟩ | ⟨hb5, hF⟩
  · refine wpn_cT (congrArg Value.bool hb5) ?_
    refine wpn_assoc ?_
    refine wpn_qa hO [] [(2, .slice none 0 0), (3, .int .i64 1)] (And.intro rfl (And.intro rfl trivial)) fun j => ?_
    refine wpn_rt ?_
    have hO := hO.no
    have hO : Obs _ _ [_] := hO
    injection hF with hF
    subst hF
    exact hQ _ _ _ _ _ rfl hO hL ⟨_, _, rfl, rfl, (OwnO.nil _ _ _)⟩
  · refine wpn_cF (congrArg Value.bool hb5) ?_
    refine wpn_sk ?_
    refine wpn_qa hO [] [(0, .slice A0 p0.length c0), (4, .slice none 0 0)] (And.intro rfl (And.intro rfl trivial)) fun j => ?_
    refine wpn_qa hO [] [(0, .slice A0 p0.length c0), (4, .slice none 0 0), (5, .int .i64 0)] (And.intro rfl (And.intro rfl (And.intro rfl trivial))) fun j => ?_
    refine wpn_qa hO [] [(0, .slice A0 p0.length c0), (4, .slice none 0 0), (5, .int .i64 0), (6, .int .i64 0)] (And.intro rfl (And.intro rfl (And.intro rfl (And.intro rfl trivial)))) fun j => ?_
    refine wpn_assoc ?_
    refine wpn_qa hO [] [(0, .slice A0 p0.length c0), (4, .slice none 0 0), (5, .int .i64 0), (6, .int .i64 0), (7, .int .i64 0)] (And.intro rfl (And.intro rfl (And.intro rfl (And.intro rfl (And.intro rfl trivial))))) fun j => ?_
    refine wpn_bl ?_
    have hO := hO.no
    have hO : Obs _ _ [_] := hO
    refine wpn_lp (fun (n : Nat) e' σ' => ∃ (A182 : Option Addr) (c183 : Nat) (o184 : Ob) (x185 : List UInt8) (x187 : Int) (x188 : Int) (x189 : Int) (τ' : Hp), agr [(0, .slice A0 p0.length c0), (4, .slice A182 x185.length c183), (5, .int .i64 x187), (6, .int .i64 x188), (7, .int .i64 x189)] e' ∧ Obs τ' σ' [o184] ∧ Hp.le τ τ' ∧ RdT TyS_api_Row τ' (.slice A0 p0.length c0) p0 ∧ OwnO Ty.u8 5 τ' (.slice A182 x185.length c183) x185 o184 ∧ F_ref05_Write_l18 p0 n x185 x187 x188 x189 = some rr) big ⟨none, 0, none, [], 0, 0, 0, _, And.intro rfl (And.intro rfl (And.intro rfl (And.intro rfl (And.intro rfl trivial)))), hO, hL, r0, OwnO.nil _ _ _, hF⟩ ?_
    clear hF hO hL
    rintro n357 e σ ⟨A182, c183, o184, x185, x187, x188, x189, _, hA, hO, hL, r181, w186, hF⟩
    rw [← sets_agr _ _ hA]
    cases n357 with
    | zero => exact nomatch (show none = some rr from hF)
    | succ n357 =>
      replace hF : F_ref05_Write_l18B (F_ref05_Write_l18 p0 n357) p0 x185 x187 x188 x189 = some rr := hF
      unfold F_ref05_Write_l18B at hF
      refine wpn_assoc ?_
      refine wpn_qa hO [] [(0, .slice A0 p0.length c0), (4, .slice A182 x185.length c183), (5, .int .i64 x187), (6, .int .i64 x188), (7, .int .i64 x189), (16, .bool (decide (x189 < (p0.length : Int))))] (And.intro rfl (And.intro rfl (And.intro rfl (And.intro rfl (And.intro rfl (And.intro rfl trivial)))))) fun j => ?_
      rcases ite_some hF with ⟨hb358, hF⟩ | ⟨hb358, hF⟩
      · refine wpn_cT (congrArg Value.bool hb358) ?_
        refine wpn_sk ?_
        refine wpn_bl ?_
        refine wpn_q hO 2 [] [(0, .slice A0 p0.length c0), (4, .slice A182 x185.length c183), (5, .int .i64 x187), (6, .int .i64 x188), (7, .int .i64 x189), (19, .slice A0 p0.length c0), (20, .int .i64 x189)] (And.intro rfl (And.intro rfl (And.intro rfl (And.intro rfl (And.intro rfl (And.intro rfl (And.intro rfl trivial))))))) fun j => ?_
        obtain ⟨y359, g360, hF⟩ := bind_some hF
        refine wpn_idx (T := TyS_api_Row) r181 hO.base rfl rfl g360 (by decide) fun a361 _ k362 m363 => ?_
        obtain rfl : _ = ([.int .i64 y359.Pc, .int .i64 y359.Point] : List Value) := k362
        refine wpn_q hO 1 [] [(0, .slice A0 p0.length c0), (4, .slice A182 x185.length c183), (5, .int .i64 x187), (6, .int .i64 x188), (7, .int .i64 x189), (22, .pointer (some a361))] (And.intro rfl (And.intro rfl (And.intro rfl (And.intro rfl (And.intro rfl (And.intro rfl trivial)))))) fun j => ?_
        refine wpn_ld rfl m363.fst ?_
        refine wpn_qa hO [] [(0, .slice A0 p0.length c0), (4, .slice A182 x185.length c183), (6, .int .i64 x188), (7, .int .i64 x189), (8, .int .i64 (IntKind.i64.wrap (y359.Pc - x187)))] (And.intro rfl (And.intro rfl (And.intro rfl (And.intro rfl (And.intro rfl trivial))))) fun j => ?_
        refine wpn_q hO 2 [] [(0, .slice A0 p0.length c0), (4, .slice A182 x185.length c183), (6, .int .i64 x188), (7, .int .i64 x189), (8, .int .i64 (IntKind.i64.wrap (y359.Pc - x187))), (26, .slice A0 p0.length c0), (27, .int .i64 x189)] (And.intro rfl (And.intro rfl (And.intro rfl (And.intro rfl (And.intro rfl (And.intro rfl (And.intro rfl trivial))))))) fun j => ?_
        obtain ⟨y364, g365, hF⟩ := bind_some hF
        refine wpn_idx (T := TyS_api_Row) r181 hO.base rfl rfl g365 (by decide) fun a366 _ k367 m368 => ?_
        obtain rfl : _ = ([.int .i64 y364.Pc, .int .i64 y364.Point] : List Value) := k367
        refine wpn_q hO 1 [] [(0, .slice A0 p0.length c0), (4, .slice A182 x185.length c183), (6, .int .i64 x188), (7, .int .i64 x189), (8, .int .i64 (IntKind.i64.wrap (y359.Pc - x187))), (29, .pointer (some (a366.add 1)))] (And.intro rfl (And.intro rfl (And.intro rfl (And.intro rfl (And.intro rfl (And.intro rfl trivial)))))) fun j => ?_
        refine wpn_ld rfl (m368.one 1 rfl) ?_
        refine wpn_qa hO [] [(0, .slice A0 p0.length c0), (4, .slice A182 x185.length c183), (7, .int .i64 x189), (8, .int .i64 (IntKind.i64.wrap (y359.Pc - x187))), (9, .int .i64 (IntKind.i64.wrap (y364.Point - x188)))] (And.intro rfl (And.intro rfl (And.intro rfl (And.intro rfl (And.intro rfl trivial))))) fun j => ?_
        refine wpn_assoc ?_
        refine wpn_qa hO [] [(0, .slice A0 p0.length c0), (4, .slice A182 x185.length c183), (7, .int .i64 x189), (8, .int .i64 (IntKind.i64.wrap (y359.Pc - x187))), (9, .int .i64 (IntKind.i64.wrap (y364.Point - x188))), (42, .bool (((decide ((IntKind.i64.wrap (y359.Pc - x187)) ≤ 20)) && (decide ((IntKind.i64.wrap (y364.Point - x188)) ≥ (-4)))) && (decide ((IntKind.i64.wrap (y364.Point - x188)) ≤ 7))))] (And.intro (And.intro rfl rfl) (fun _ => And.intro (And.intro rfl rfl) (fun _ => And.intro rfl (And.intro rfl (And.intro rfl (And.intro rfl (And.intro rfl (And.intro rfl trivial)))))))) fun j => ?_
        refine wpn_cut (fun e' σ' => ∃ (A438 : Option Addr) (c439 : Nat) (o440 : Ob) (x441 : List UInt8) (τ' : Hp), agr [(0, .slice A0 p0.length c0), (4, .slice A438 x441.length c439), (7, .int .i64 x189)] e' ∧ Obs τ' σ' [o440] ∧ Hp.le τ τ' ∧ RdT TyS_api_Row τ' (.slice A0 p0.length c0) p0 ∧ OwnO Ty.u8 5 τ' (.slice A438 x441.length c439) x441 o440 ∧ F_ref05_Write_k22 (F_ref05_Write_l18 p0 n357) p0 x189 x441 = some rr) ?_ ?_
        · refine wpn_clast ?_
          rcases ite_some hF with ⟨hb453, hF⟩ | ⟨hb453, hF⟩
          · refine wpn_cT (congrArg Value.bool hb453) ?_
            refine wpn_q hO 8 [] [(0, .slice A0 p0.length c0), (7, .int .i64 x189), (43, .slice A182 x185.length c183), (50, .int .u8 (IntKind.u8.wrap (IntKind.i64.wrap ((IntKind.i64.wrap ((IntKind.i64.wrap (4 + (IntKind.i64.wrap (12 * (IntKind.i64.wrap (y359.Pc - x187)))))) + (IntKind.i64.wrap (y364.Point - x188)))) + 4))))] (And.intro rfl (And.intro rfl (And.intro rfl (And.intro rfl trivial)))) fun j => ?_
            obtain ⟨z454, hz454, hF⟩ := bind_some hF
            obtain ⟨_, hr, hF⟩ := bind_some hF
            refine wpn_ap1 (T := Ty.u8) (y := z454) hO w186 (i := 0) rfl rfl (fun _ => rfl) rfl (u8R hz454) rfl hr (by decide) fun u _ σ o457 w458 hO => ?_
            obtain ⟨A455, c456, rfl, -⟩ := w458.form
            have hO : Obs _ _ [_] := hO
            refine wpn_qa hO [] [(0, .slice A0 p0.length c0), (4, .slice A455 (x185 ++ [z454]).length c456), (7, .int .i64 x189)] (And.intro rfl (And.intro rfl (And.intro rfl trivial))) fun j => ?_
            refine wpn_end ?_
            refine thn_i ?_
            exact ⟨A455, c456, o457, (x185 ++ [z454]), _, And.intro rfl (And.intro rfl (And.intro rfl trivial)), hO, hL, r181, w458, hF⟩
          · refine wpn_cF (congrArg Value.bool hb453) ?_
            refine wpn_assoc ?_
            refine wpn_assoc ?_
            refine wpn_qa hO [] [(0, .slice A0 p0.length c0), (4, .slice A182 x185.length c183), (7, .int .i64 x189), (8, .int .i64 (IntKind.i64.wrap (y359.Pc - x187))), (9, .int .i64 (IntKind.i64.wrap (y364.Point - x188))), (54, .bool ((IntKind.i64.wrap (y359.Pc - x187)) != 0))] (And.intro rfl (And.intro rfl (And.intro rfl (And.intro rfl (And.intro rfl (And.intro rfl trivial)))))) fun j => ?_
            refine wpn_cut (fun e' σ' => ∃ (A476 : Option Addr) (c477 : Nat) (o478 : Ob) (x479 : List UInt8) (τ' : Hp), agr [(0, .slice A0 p0.length c0), (4, .slice A476 x479.length c477), (7, .int .i64 x189), (9, .int .i64 (IntKind.i64.wrap (y364.Point - x188)))] e' ∧ Obs τ' σ' [o478] ∧ Hp.le τ τ' ∧ RdT TyS_api_Row τ' (.slice A0 p0.length c0) p0 ∧ OwnO Ty.u8 5 τ' (.slice A476 x479.length c477) x479 o478 ∧ F_ref05_Write_k24 (F_ref05_Write_l18 p0 n357) p0 x188 x189 y364 x479 = some rr) ?_ ?_
            · refine wpn_clast ?_
              rcases ite_some hF with ⟨hb505, hF⟩ | ⟨hb505, hF⟩
              · refine wpn_cT (congrArg Value.bool hb505) ?_
                refine wpn_q hO 1 [] [(0, .slice A0 p0.length c0), (7, .int .i64 x189), (8, .int .i64 (IntKind.i64.wrap (y359.Pc - x187))), (9, .int .i64 (IntKind.i64.wrap (y364.Point - x188))), (55, .slice A182 x185.length c183)] (And.intro rfl (And.intro rfl (And.intro rfl (And.intro rfl (And.intro rfl trivial))))) fun j => ?_
                obtain ⟨_, hr, hF⟩ := bind_some hF
                refine wpn_ap1 (T := Ty.u8) (y := (1 : UInt8)) hO w186 (i := 0) rfl rfl (fun _ => rfl) rfl rfl rfl hr (by decide) fun u _ σ o508 w509 hO => ?_
                obtain ⟨A506, c507, rfl, -⟩ := w509.form
                have hO : Obs _ _ [_] := hO
                refine wpn_q hO 2 [] [(0, .slice A0 p0.length c0), (7, .int .i64 x189), (9, .int .i64 (IntKind.i64.wrap (y364.Point - x188))), (57, .slice A506 (x185 ++ [(1 : UInt8)]).length c507), (59, .int .u64 (IntKind.u64.wrap (IntKind.i64.wrap (y359.Pc - x187))))] (And.intro rfl (And.intro rfl (And.intro rfl (And.intro rfl (And.intro rfl trivial))))) fun j => ?_
                obtain ⟨_, h511, r510, hO⟩ := w509.share hO (i := 0) rfl
                have hL := hL.trans h511
                have r181 := r181.le h511
                have hO : Obs _ _ [_] := hO
                obtain ⟨c512, h513, hF⟩ := bind_some hF
                refine wpn_c0 hO (w_ref02_PutU r510 h513) rfl fun _ σ _ _ hO h514 h515 => ?_
                have hL := hL.trans h514
                have r181 := r181.le h514
                have r510 := r510.le h514
                obtain ⟨v516, o519, rfl, rfl, w520⟩ := h515
                obtain ⟨A517, c518, rfl, -⟩ := w520.form
                have hO : Obs _ _ [_, _] := hO
                refine wpn_qa hO [] [(0, .slice A0 p0.length c0), (4, .slice A517 c512.length c518), (7, .int .i64 x189), (9, .int .i64 (IntKind.i64.wrap (y364.Point - x188)))] (And.intro rfl (And.intro rfl (And.intro rfl (And.intro rfl trivial)))) fun j => ?_
                refine wpn_end ?_
                refine thn_i ?_
                have hO := hO.sel [1] (by decide)
                exact ⟨A517, c518, o519, c512, _, And.intro rfl (And.intro rfl (And.intro rfl (And.intro rfl trivial))), hO, hL, r181, w520, hF⟩
              · refine wpn_cF (congrArg Value.bool hb505) ?_
                refine wpn_sk ?_
                refine wpn_end ?_
                refine thn_i ?_
                exact ⟨A182, c183, o184, x185, _, And.intro rfl (And.intro rfl (And.intro rfl (And.intro rfl trivial))), hO, hL, r181, w186, hF⟩
            · rintro e σ ⟨A476, c477, o478, x479, _, hA, hO, hL, r475, w480, hF⟩
              rw [← sets_agr _ _ hA]
              unfold F_ref05_Write_k24 at hF
              refine wpn_assoc ?_
              refine wpn_assoc ?_
              refine wpn_qa hO [] [(0, .slice A0 p0.length c0), (4, .slice A476 x479.length c477), (7, .int .i64 x189), (9, .int .i64 (IntKind.i64.wrap (y364.Point - x188))), (62, .bool ((IntKind.i64.wrap (y364.Point - x188)) != 0))] (And.intro rfl (And.intro rfl (And.intro rfl (And.intro rfl (And.intro rfl trivial))))) fun j => ?_
              rcases ite_some hF with ⟨hb481, hF⟩ | ⟨hb481, hF⟩
              · refine wpn_cT (congrArg Value.bool hb481) ?_
                refine wpn_q hO 1 [] [(0, .slice A0 p0.length c0), (7, .int .i64 x189), (9, .int .i64 (IntKind.i64.wrap (y364.Point - x188))), (63, .slice A476 x479.length c477)] (And.intro rfl (And.intro rfl (And.intro rfl (And.intro rfl trivial)))) fun j => ?_
                obtain ⟨_, hr, hF⟩ := bind_some hF
                refine wpn_ap1 (T := Ty.u8) (y := (2 : UInt8)) hO w480 (i := 0) rfl rfl (fun _ => rfl) rfl rfl rfl hr (by decide) fun u _ σ o484 w485 hO => ?_
                obtain ⟨A482, c483, rfl, -⟩ := w485.form
                have hO : Obs _ _ [_] := hO
                refine wpn_q hO 1 [] [(0, .slice A0 p0.length c0), (7, .int .i64 x189), (65, .slice A482 (x479 ++ [(2 : UInt8)]).length c483), (66, .int .i64 (IntKind.i64.wrap (y364.Point - x188)))] (And.intro rfl (And.intro rfl (And.intro rfl (And.intro rfl trivial)))) fun j => ?_
                obtain ⟨_, h487, r486, hO⟩ := w485.share hO (i := 0) rfl
                have hL := hL.trans h487
                have r475 := r475.le h487
                have hO : Obs _ _ [_] := hO
                obtain ⟨c488, h489, hF⟩ := bind_some hF
                refine wpn_c0 hO (w_ref02_PutS r486 h489) rfl fun _ σ _ _ hO h490 h491 => ?_
                have hL := hL.trans h490
                have r475 := r475.le h490
                have r486 := r486.le h490
                obtain ⟨v492, o495, rfl, rfl, w496⟩ := h491
                obtain ⟨A493, c494, rfl, -⟩ := w496.form
                have hO : Obs _ _ [_, _] := hO
                refine wpn_qa hO [] [(0, .slice A0 p0.length c0), (4, .slice A493 c488.length c494), (7, .int .i64 x189)] (And.intro rfl (And.intro rfl (And.intro rfl trivial))) fun j => ?_
                refine wpn_q hO 1 [] [(0, .slice A0 p0.length c0), (7, .int .i64 x189), (68, .slice A493 c488.length c494)] (And.intro rfl (And.intro rfl (And.intro rfl trivial))) fun j => ?_
                obtain ⟨_, hr, hF⟩ := bind_some hF
                refine wpn_ap1 (T := Ty.u8) (y := (3 : UInt8)) hO w496 (i := 1) rfl rfl (fun _ => rfl) rfl rfl rfl hr (by decide) fun u _ σ o499 w500 hO => ?_
                obtain ⟨A497, c498, rfl, -⟩ := w500.form
                have hO : Obs _ _ [_, _] := hO
                refine wpn_qa hO [] [(0, .slice A0 p0.length c0), (4, .slice A497 (c488 ++ [(3 : UInt8)]).length c498), (7, .int .i64 x189)] (And.intro rfl (And.intro rfl (And.intro rfl trivial))) fun j => ?_
                refine wpn_end ?_
                refine thn_i ?_
                have hO := hO.sel [1] (by decide)
                exact ⟨A497, c498, o499, (c488 ++ [(3 : UInt8)]), _, And.intro rfl (And.intro rfl (And.intro rfl trivial)), hO, hL, r475, w500, hF⟩
              · refine wpn_cF (congrArg Value.bool hb481) ?_
                refine wpn_sk ?_
                refine wpn_q hO 1 [] [(0, .slice A0 p0.length c0), (7, .int .i64 x189), (68, .slice A476 x479.length c477)] (And.intro rfl (And.intro rfl (And.intro rfl trivial))) fun j => ?_
                obtain ⟨_, hr, hF⟩ := bind_some hF
                refine wpn_ap1 (T := Ty.u8) (y := (3 : UInt8)) hO w480 (i := 0) rfl rfl (fun _ => rfl) rfl rfl rfl hr (by decide) fun u _ σ o503 w504 hO => ?_
                obtain ⟨A501, c502, rfl, -⟩ := w504.form
                have hO : Obs _ _ [_] := hO
                refine wpn_qa hO [] [(0, .slice A0 p0.length c0), (4, .slice A501 (x479 ++ [(3 : UInt8)]).length c502), (7, .int .i64 x189)] (And.intro rfl (And.intro rfl (And.intro rfl trivial))) fun j => ?_
                refine wpn_end ?_
                refine thn_i ?_
                exact ⟨A501, c502, o503, (x479 ++ [(3 : UInt8)]), _, And.intro rfl (And.intro rfl (And.intro rfl trivial)), hO, hL, r475, w504, hF⟩
        · rintro e σ ⟨A438, c439, o440, x441, _, hA, hO, hL, r437, w442, hF⟩
          rw [← sets_agr _ _ hA]
          unfold F_ref05_Write_k22 at hF
          refine wpn_q hO 2 [] [(0, .slice A0 p0.length c0), (4, .slice A438 x441.length c439), (7, .int .i64 x189), (71, .slice A0 p0.length c0), (72, .int .i64 x189)] (And.intro rfl (And.intro rfl (And.intro rfl (And.intro rfl (And.intro rfl trivial))))) fun j => ?_
          obtain ⟨y443, g444, hF⟩ := bind_some hF
          refine wpn_idx (T := TyS_api_Row) r437 hO.base rfl rfl g444 (by decide) fun a445 _ k446 m447 => ?_
          obtain rfl : _ = ([.int .i64 y443.Pc, .int .i64 y443.Point] : List Value) := k446
          refine wpn_q hO 1 [] [(0, .slice A0 p0.length c0), (4, .slice A438 x441.length c439), (7, .int .i64 x189), (74, .pointer (some a445))] (And.intro rfl (And.intro rfl (And.intro rfl (And.intro rfl trivial)))) fun j => ?_
          refine wpn_ld rfl m447.fst ?_
          refine wpn_qa hO [] [(0, .slice A0 p0.length c0), (4, .slice A438 x441.length c439), (5, .int .i64 y443.Pc), (7, .int .i64 x189)] (And.intro rfl (And.intro rfl (And.intro rfl (And.intro rfl trivial)))) fun j => ?_
          refine wpn_rlast ?_
          refine wpn_q hO 2 [] [(0, .slice A0 p0.length c0), (4, .slice A438 x441.length c439), (5, .int .i64 y443.Pc), (7, .int .i64 x189), (76, .slice A0 p0.length c0), (77, .int .i64 x189)] (And.intro rfl (And.intro rfl (And.intro rfl (And.intro rfl (And.intro rfl (And.intro rfl trivial)))))) fun j => ?_
          obtain ⟨y448, g449, hF⟩ := bind_some hF
          refine wpn_idx (T := TyS_api_Row) r437 hO.base rfl rfl g449 (by decide) fun a450 _ k451 m452 => ?_
          obtain rfl : _ = ([.int .i64 y448.Pc, .int .i64 y448.Point] : List Value) := k451
          refine wpn_q hO 1 [] [(0, .slice A0 p0.length c0), (4, .slice A438 x441.length c439), (5, .int .i64 y443.Pc), (7, .int .i64 x189), (79, .pointer (some (a450.add 1)))] (And.intro rfl (And.intro rfl (And.intro rfl (And.intro rfl (And.intro rfl trivial))))) fun j => ?_
          refine wpn_ld rfl (m452.one 1 rfl) ?_
          refine wpn_qa hO [] [(0, .slice A0 p0.length c0), (4, .slice A438 x441.length c439), (5, .int .i64 y443.Pc), (6, .int .i64 y448.Point), (7, .int .i64 x189)] (And.intro rfl (And.intro rfl (And.intro rfl (And.intro rfl (And.intro rfl trivial))))) fun j => ?_
          refine wpn_end ?_
          refine inb_i ?_
          refine thn_i ?_
          refine wpn_rlast ?_
          refine wpn_qa hO [] [(0, .slice A0 p0.length c0), (4, .slice A438 x441.length c439), (5, .int .i64 y443.Pc), (6, .int .i64 y448.Point), (7, .int .i64 (IntKind.i64.wrap (x189 + 1)))] (And.intro rfl (And.intro rfl (And.intro rfl (And.intro rfl (And.intro rfl trivial))))) fun j => ?_
          refine wpn_end ?_
          refine thn_i ?_
          exact ⟨n357, Nat.lt_succ_self _, A438, c439, o440, x441, y443.Pc, y448.Point, (IntKind.i64.wrap (x189 + 1)), _, And.intro rfl (And.intro rfl (And.intro rfl (And.intro rfl (And.intro rfl trivial)))), hO, hL, r437, w442, hF⟩
      · refine wpn_cF (congrArg Value.bool hb358) ?_
        refine wpn_ex ?_
        refine thn_x ?_
        refine inb_x ?_
        refine thn_i ?_
        refine wpn_q hO 1 [] [(81, .slice A182 x185.length c183)] (And.intro rfl trivial) fun j => ?_
        obtain ⟨_, hr, hF⟩ := bind_some hF
        refine wpn_ap1 (T := Ty.u8) (y := (0 : UInt8)) hO w186 (i := 0) rfl rfl (fun _ => rfl) rfl rfl rfl hr (by decide) fun u _ σ o523 w524 hO => ?_
        obtain ⟨A521, c522, rfl, -⟩ := w524.form
        have hO : Obs _ _ [_] := hO
        refine wpn_qa hO [] [(2, .slice A521 (x185 ++ [(0 : UInt8)]).length c522), (3, .int .i64 0)] (And.intro rfl (And.intro rfl trivial)) fun j => ?_
        refine wpn_r1 ?_
        injection hF with hF
        subst hF
        exact hQ _ _ _ _ _ rfl hO hL ⟨_, _, rfl, rfl, w524⟩

/-! theodolite/theodolitelaw05.SameRows -/
theorem w_law05_SameRows {τ : Hp} {v0 : Value} {p0 : (List S_api_Row)} {v1 : Value} {p1 : (List S_api_Row)} (r0 : RdT TyS_api_Row τ v0 p0) (r1 : RdT TyS_api_Row τ v1 p1) {rr : Bool} (hF : F_law05_SameRows p0 p1 = some rr) :
    Ctr Try.prog 14 #[v0, v1] τ [] (fun v τ' vs' => v = .bool rr ∧ vs' = []) := by
  obtain ⟨A0, c0, rfl, -⟩ := r0.form
  obtain ⟨A1, c1, rfl, -⟩ := r1.form
  refine ctr_of (args := [.slice A0 p0.length c0, .slice A1 p1.length c1]) hm Try.func14 s14 rfl fun w0 σ hO Q hQ => ?_
  unfold F_law05_SameRows at hF
  have hL := Hp.le.refl τ
  show wpn _ _ a14.body _ _ _
  unfold a14
  dsimp only
  refine wpn_qa hO [] [(0, .slice A0 p0.length c0), (1, .slice A1 p1.length c1)] (And.intro rfl (And.intro rfl trivial)) fun j => ?_
  refine wpn_assoc ?_
  refine wpn_qa hO [] [(0, .slice A0 p0.length c0), (1, .slice A1 p1.length c1), (10, .bool ((p0.length : Int) != (p1.length : Int)))] (And.intro rfl (And.intro rfl (And.intro rfl trivial))) fun j => ?_
  rcases ite_some hF with ⟨hb1, hF⟩ | ⟨hb1, hF⟩
  · refine wpn_cT (congrArg Value.bool hb1) ?_
    refine wpn_assoc ?_
    refine wpn_qa hO [] [(4, .bool false)] (And.intro rfl trivial) fun j => ?_
    refine wpn_rt ?_
    injection hF with hF
    subst hF
    exact hQ _ _ _ _ _ rfl hO hL ⟨rfl, rfl⟩
  · refine wpn_cF (congrArg Value.bool hb1) ?_
    refine wpn_sk ?_
    refine wpn_assoc ?_
    refine wpn_qa hO [] [(0, .slice A0 p0.length c0), (1, .slice A1 p1.length c1), (5, .int .i64 0)] (And.intro rfl (And.intro rfl (And.intro rfl trivial))) fun j => ?_
    refine wpn_bl ?_
    refine wpn_lp (fun (n : Nat) e' σ' => ∃ (x18 : Int) (τ' : Hp), agr [(0, .slice A0 p0.length c0), (1, .slice A1 p1.length c1), (5, .int .i64 x18)] e' ∧ Obs τ' σ' [] ∧ Hp.le τ τ' ∧ RdT TyS_api_Row τ' (.slice A0 p0.length c0) p0 ∧ RdT TyS_api_Row τ' (.slice A1 p1.length c1) p1 ∧ F_law05_SameRows_l3 p0 p1 n x18 = some rr) big ⟨0, _, And.intro rfl (And.intro rfl (And.intro rfl trivial)), hO, hL, r0, r1, hF⟩ ?_
    clear hF hO hL
    rintro n31 e σ ⟨x18, _, hA, hO, hL, r16, r17, hF⟩
    rw [← sets_agr _ _ hA]
    cases n31 with
    | zero => exact nomatch (show none = some rr from hF)
    | succ n31 =>
      replace hF : F_law05_SameRows_l3B (F_law05_SameRows_l3 p0 p1 n31) p0 p1 x18 = some rr := hF
      unfold F_law05_SameRows_l3B at hF
      refine wpn_assoc ?_
      refine wpn_qa hO [] [(0, .slice A0 p0.length c0), (1, .slice A1 p1.length c1), (5, .int .i64 x18), (14, .bool (decide (x18 < (p0.length : Int))))] (And.intro rfl (And.intro rfl (And.intro rfl (And.intro rfl trivial)))) fun j => ?_
      rcases ite_some hF with ⟨hb32, hF⟩ | ⟨hb32, hF⟩
      · refine wpn_cT (congrArg Value.bool hb32) ?_
        refine wpn_sk ?_
        refine wpn_bl ?_
        refine wpn_p2r ?_
        refine wpn_q hO 2 [] [(0, .slice A0 p0.length c0), (1, .slice A1 p1.length c1), (5, .int .i64 x18), (17, .slice A0 p0.length c0), (18, .int .i64 x18)] (And.intro rfl (And.intro rfl (And.intro rfl (And.intro rfl (And.intro rfl trivial))))) fun j => ?_
        obtain ⟨y33, g34, hF⟩ := bind_some hF
        refine wpn_idx (T := TyS_api_Row) r16 hO.base rfl rfl g34 (by decide) fun a35 _ k36 m37 => ?_
        obtain rfl : _ = ([.int .i64 y33.Pc, .int .i64 y33.Point] : List Value) := k36
        refine wpn_ld rfl (m37.all rfl) ?_
        refine wpn_q hO 2 [] [(0, .slice A0 p0.length c0), (1, .slice A1 p1.length c1), (5, .int .i64 x18), (20, .agg #[(.int .i64 y33.Pc), (.int .i64 y33.Point)]), (21, .slice A1 p1.length c1), (22, .int .i64 x18)] (And.intro rfl (And.intro rfl (And.intro rfl (And.intro rfl (And.intro rfl (And.intro rfl trivial)))))) fun j => ?_
        obtain ⟨y38, g39, hF⟩ := bind_some hF
        refine wpn_idx (T := TyS_api_Row) r17 hO.base rfl rfl g39 (by decide) fun a40 _ k41 m42 => ?_
        obtain rfl : _ = ([.int .i64 y38.Pc, .int .i64 y38.Point] : List Value) := k41
        refine wpn_ld rfl (m42.all rfl) ?_
        refine wpn_qa hO [] [(0, .slice A0 p0.length c0), (1, .slice A1 p1.length c1), (5, .int .i64 x18), (25, .bool (!(( y33.Pc == y38.Pc) && (( y33.Point == y38.Point) && true))))] (And.intro rfl (And.intro rfl (And.intro rfl (And.intro rfl trivial)))) fun j => ?_
        refine wpn_clast ?_
        rcases ite_some hF with ⟨hb43, hF⟩ | ⟨hb43, hF⟩
        · refine wpn_cT (congrArg Value.bool hb43) ?_
          refine wpn_assoc ?_
          refine wpn_qa hO [] [(4, .bool false)] (And.intro rfl trivial) fun j => ?_
          refine wpn_rt ?_
          refine inb_r1 ?_
          refine thn_r1 ?_
          refine thn_r1 ?_
          refine inb_r1 ?_
          refine thn_r1 ?_
          injection hF with hF
          subst hF
          exact hQ _ _ _ _ _ rfl hO hL ⟨rfl, rfl⟩
        · refine wpn_cF (congrArg Value.bool hb43) ?_
          refine wpn_sk ?_
          refine wpn_end ?_
          refine inb_i ?_
          refine thn_i ?_
          refine wpn_rlast ?_
          refine wpn_qa hO [] [(0, .slice A0 p0.length c0), (1, .slice A1 p1.length c1), (5, .int .i64 (IntKind.i64.wrap (x18 + 1)))] (And.intro rfl (And.intro rfl (And.intro rfl trivial))) fun j => ?_
          refine wpn_end ?_
          refine thn_i ?_
          exact ⟨n31, Nat.lt_succ_self _, (IntKind.i64.wrap (x18 + 1)), _, And.intro rfl (And.intro rfl (And.intro rfl trivial)), hO, hL, r16, r17, hF⟩
      · refine wpn_cF (congrArg Value.bool hb32) ?_
        refine wpn_ex ?_
        refine thn_x ?_
        refine inb_x ?_
        refine thn_i ?_
        refine wpn_qa hO [] [(4, .bool true)] (And.intro rfl trivial) fun j => ?_
        refine wpn_r1 ?_
        injection hF with hF
        subst hF
        exact hQ _ _ _ _ _ rfl hO hL ⟨rfl, rfl⟩

/-! theodolite/theodolitelaw05.LinesWrites -/
theorem w_law05_LinesWrites {τ : Hp} {v0 : Value} {p0 : (List S_api_Row)} (r0 : RdT TyS_api_Row τ v0 p0) {rr : Bool} (hF : F_law05_LinesWrites p0 = some rr) :
    Ctr Try.prog 3 #[v0] τ [] (fun v τ' vs' => v = .bool rr ∧ vs' = []) := by
  obtain ⟨A0, c0, rfl, -⟩ := r0.form
  refine ctr_of (args := [.slice A0 p0.length c0]) hm Try.func3 s3 rfl fun w0 σ hO Q hQ => ?_
  unfold F_law05_LinesWrites at hF
  have hL := Hp.le.refl τ
  show wpn _ _ a3.body _ _ _
  unfold a3
  dsimp only
  refine wpn_qa hO [] [(0, .slice A0 p0.length c0)] (And.intro rfl trivial) fun j => ?_
  refine wpn_assoc ?_
  refine wpn_qa hO [] [(0, .slice A0 p0.length c0), (10, .bool (decide ((p0.length : Int) > 30000)))] (And.intro rfl (And.intro rfl trivial)) fun j => ?_
  rcases ite_some hF with ⟨hb1, hF⟩ | ⟨hb1, hF⟩
  · refine wpn_cT (congrArg Value.bool hb1) ?_
    refine wpn_assoc ?_
    obtain ⟨c2, h3, hF⟩ := bind_some hF
    refine wpn_c0 hO (w_law05_works h3) rfl fun _ σ _ _ hO h4 h5 => ?_
    have hL := hL.trans h4
    have r0 := r0.le h4
    obtain ⟨rfl, rfl⟩ := h5
    have hO : Obs _ _ [] := hO
    refine wpn_qa hO [] [(2, .bool c2)] (And.intro rfl trivial) fun j => ?_
    refine wpn_rt ?_
    injection hF with hF
    subst hF
    exact hQ _ _ _ _ _ rfl hO hL ⟨rfl, rfl⟩
  · refine wpn_cF (congrArg Value.bool hb1) ?_
    refine wpn_sk ?_
    refine wpn_q hO 1 [] [(0, .slice A0 p0.length c0), (12, .slice A0 p0.length c0)] (And.intro rfl (And.intro rfl trivial)) fun j => ?_
    obtain ⟨c6, h7, hF⟩ := bind_some hF
    refine wpn_c0 hO (w_law05_twin r0 h7) rfl fun _ σ _ _ hO h8 h9 => ?_
    have hL := hL.trans h8
    have r0 := r0.le h8
    obtain ⟨v10, o13, rfl, rfl, w14⟩ := h9
    obtain ⟨A11, c12, rfl, -⟩ := w14.form
    have hO : Obs _ _ [_] := hO
    refine wpn_qa hO [] [(0, .slice A0 p0.length c0), (3, .slice A11 c6.length c12)] (And.intro rfl (And.intro rfl trivial)) fun j => ?_
    refine wpn_q hO 1 [] [(0, .slice A0 p0.length c0), (3, .slice A11 c6.length c12), (15, .slice A11 c6.length c12)] (And.intro rfl (And.intro rfl (And.intro rfl trivial))) fun j => ?_
    obtain ⟨_, h16, r15, hO⟩ := w14.share hO (i := 0) rfl
    have hL := hL.trans h16
    have r0 := r0.le h16
    have hO : Obs _ _ [_] := hO
    obtain ⟨c17, h18, hF⟩ := bind_some hF
    refine wpn_c0 hO (w_lines_Write r15 h18) rfl fun _ σ _ _ hO h19 h20 => ?_
    have hL := hL.trans h19
    have r0 := r0.le h19
    have r15 := r15.le h19
    obtain ⟨v21, o24, rfl, rfl, w25⟩ := h20
    obtain ⟨A22, c23, rfl, -⟩ := w25.form
    have hO : Obs _ _ [_, _] := hO
    refine wpn_qa hO [] [(0, .slice A0 p0.length c0), (3, .slice A11 c6.length c12), (4, .slice A22 c17.1.length c23), (5, .int .i64 c17.2)] (And.intro rfl (And.intro rfl (And.intro rfl (And.intro rfl trivial)))) fun j => ?_
    refine wpn_q hO 1 [] [(0, .slice A0 p0.length c0), (3, .slice A11 c6.length c12), (4, .slice A22 c17.1.length c23), (5, .int .i64 c17.2), (20, .slice A0 p0.length c0)] (And.intro rfl (And.intro rfl (And.intro rfl (And.intro rfl (And.intro rfl trivial))))) fun j => ?_
    obtain ⟨c26, h27, hF⟩ := bind_some hF
    refine wpn_c0 hO (w_ref05_Write r0 h27) rfl fun _ σ _ _ hO h28 h29 => ?_
    have hL := hL.trans h28
    have r0 := r0.le h28
    have r15 := r15.le h28
    have w25 := w25.le h28
    obtain ⟨v30, o33, rfl, rfl, w34⟩ := h29
    obtain ⟨A31, c32, rfl, -⟩ := w34.form
    have hO : Obs _ _ [_, _, _] := hO
    refine wpn_qa hO [] [(0, .slice A0 p0.length c0), (3, .slice A11 c6.length c12), (4, .slice A22 c17.1.length c23), (5, .int .i64 c17.2), (6, .slice A31 c26.1.length c32), (7, .int .i64 c26.2)] (And.intro rfl (And.intro rfl (And.intro rfl (And.intro rfl (And.intro rfl (And.intro rfl trivial)))))) fun j => ?_
    refine wpn_q hO 4 [] [(0, .slice A0 p0.length c0), (3, .slice A11 c6.length c12), (4, .slice A22 c17.1.length c23), (6, .slice A31 c26.1.length c32), (27, .bool (c17.2 == c26.2))] (And.intro rfl (And.intro rfl (And.intro rfl (And.intro rfl (And.intro rfl trivial))))) fun j => ?_
    obtain ⟨_, h36, r35, hO⟩ := w25.share hO (i := 1) rfl
    have hL := hL.trans h36
    have r0 := r0.le h36
    have r15 := r15.le h36
    have w34 := w34.le h36
    have hO : Obs _ _ [_, _, _] := hO
    obtain ⟨_, h38, r37, hO⟩ := w34.share hO (i := 2) rfl
    have hL := hL.trans h38
    have r0 := r0.le h38
    have r15 := r15.le h38
    have r35 := r35.le h38
    have hO : Obs _ _ [_, _, _] := hO
    have hO := hO.sel [] (by decide)
    have hO : Obs _ _ [] := hO
    obtain ⟨c39, h40, hF⟩ := bind_some hF
    refine wpn_mid 2 (fun e' σ' => ∃ (τ' : Hp), agr [(31, .bool c39), (0, .slice A0 p0.length c0), (3, .slice A11 c6.length c12)] e' ∧ Obs τ' σ' [] ∧ Hp.le τ τ' ∧ RdT TyS_api_Row τ' (.slice A0 p0.length c0) p0 ∧ RdT TyS_api_Row τ' (.slice A11 c6.length c12) c6) ?_ ?_
    · have hF := h40
      rcases ite_some hF with ⟨hb41, hF⟩ | ⟨hb41, hF⟩
      · refine wpn_gT (congrArg (fun x => isB (.bool x) true) hb41) ?_
        refine wpn_q hO 2 [] [(0, .slice A0 p0.length c0), (3, .slice A11 c6.length c12), (27, .bool (c17.2 == c26.2)), (28, .slice A22 c17.1.length c23), (29, .slice A31 c26.1.length c32)] (And.intro rfl (And.intro rfl (And.intro rfl (And.intro rfl (And.intro rfl trivial))))) fun j => ?_
        obtain ⟨c42, h43, hF⟩ := bind_some hF
        refine wpn_c0 hO (w_ref00_EqBytes r35 r37 h43) rfl fun _ σ _ _ hO h44 h45 => ?_
        have hL := hL.trans h44
        have r0 := r0.le h44
        have r15 := r15.le h44
        have r35 := r35.le h44
        have r37 := r37.le h44
        obtain ⟨rfl, rfl⟩ := h45
        have hO : Obs _ _ [] := hO
        refine wpn_pk (congrArg Value.bool hb41) ?_
        refine wpn_nil ?_
        injection hF with hF
        subst hF
        refine wpn_end ?_
        exact ⟨rfl, _, And.intro rfl (And.intro rfl (And.intro rfl trivial)), hO, hL, r0, r15⟩
      · refine wpn_gF (congrArg (fun x => isB (.bool x) true) hb41) ?_
        refine wpn_pk (congrArg Value.bool hb41) ?_
        refine wpn_nil ?_
        injection hF with hF
        subst hF
        refine wpn_end ?_
        exact ⟨rfl, _, And.intro rfl (And.intro rfl (And.intro rfl trivial)), hO, hL, r0, r15⟩
    · rintro e σ ⟨_, hA, hO, hL, r0, r15⟩
      rw [← sets_agr _ _ hA]
      refine wpn_q hO 1 [] [(0, .slice A0 p0.length c0), (3, .slice A11 c6.length c12), (32, .bool c39)] (And.intro rfl (And.intro rfl (And.intro rfl trivial))) fun j => ?_
      obtain ⟨c46, h47, hF⟩ := bind_some hF
      refine wpn_mid 2 (fun e' σ' => ∃ (τ' : Hp), agr [(38, .bool c46), (0, .slice A0 p0.length c0), (3, .slice A11 c6.length c12)] e' ∧ Obs τ' σ' [] ∧ Hp.le τ τ' ∧ RdT TyS_api_Row τ' (.slice A0 p0.length c0) p0 ∧ RdT TyS_api_Row τ' (.slice A11 c6.length c12) c6) ?_ ?_
      · have hF := h47
        rcases ite_some hF with ⟨hb48, hF⟩ | ⟨hb48, hF⟩
        · refine wpn_gT (congrArg (fun x => isB (.bool x) true) hb48) ?_
          refine wpn_q hO 1 [] [(0, .slice A0 p0.length c0), (3, .slice A11 c6.length c12), (32, .bool c39), (33, .slice A11 c6.length c12)] (And.intro rfl (And.intro rfl (And.intro rfl (And.intro rfl trivial)))) fun j => ?_
          obtain ⟨c49, h50, hF⟩ := bind_some hF
          refine wpn_c0 hO (w_lines_Right r15 h50) rfl fun _ σ _ _ hO h51 h52 => ?_
          have hL := hL.trans h51
          have r0 := r0.le h51
          have r15 := r15.le h51
          obtain ⟨rfl, rfl⟩ := h52
          have hO : Obs _ _ [] := hO
          refine wpn_q hO 1 [] [(0, .slice A0 p0.length c0), (3, .slice A11 c6.length c12), (32, .bool c39), (34, .bool c49), (35, .slice A0 p0.length c0)] (And.intro rfl (And.intro rfl (And.intro rfl (And.intro rfl (And.intro rfl trivial))))) fun j => ?_
          obtain ⟨c53, h54, hF⟩ := bind_some hF
          refine wpn_c0 hO (w_ref05_Right r0 h54) rfl fun _ σ _ _ hO h55 h56 => ?_
          have hL := hL.trans h55
          have r0 := r0.le h55
          have r15 := r15.le h55
          obtain ⟨rfl, rfl⟩ := h56
          have hO : Obs _ _ [] := hO
          refine wpn_q hO 1 [] [(0, .slice A0 p0.length c0), (3, .slice A11 c6.length c12), (32, .bool c39), (37, .bool (c49 == c53))] (And.intro rfl (And.intro rfl (And.intro rfl (And.intro rfl trivial)))) fun j => ?_
          refine wpn_pk (congrArg Value.bool hb48) ?_
          refine wpn_nil ?_
          injection hF with hF
          subst hF
          refine wpn_end ?_
          exact ⟨rfl, _, And.intro rfl (And.intro rfl (And.intro rfl trivial)), hO, hL, r0, r15⟩
        · refine wpn_gF (congrArg (fun x => isB (.bool x) true) hb48) ?_
          refine wpn_pk (congrArg Value.bool hb48) ?_
          refine wpn_nil ?_
          injection hF with hF
          subst hF
          refine wpn_end ?_
          exact ⟨rfl, _, And.intro rfl (And.intro rfl (And.intro rfl trivial)), hO, hL, r0, r15⟩
      · rintro e σ ⟨_, hA, hO, hL, r0, r15⟩
        rw [← sets_agr _ _ hA]
        refine wpn_q hO 1 [] [(0, .slice A0 p0.length c0), (3, .slice A11 c6.length c12), (39, .bool c46)] (And.intro rfl (And.intro rfl (And.intro rfl trivial))) fun j => ?_
        obtain ⟨c57, h58, hF⟩ := bind_some hF
        refine wpn_mid 2 (fun e' σ' => ∃ (τ' : Hp), agr [(43, .bool c57)] e' ∧ Obs τ' σ' [] ∧ Hp.le τ τ') ?_ ?_
        · have hF := h58
          rcases ite_some hF with ⟨hb59, hF⟩ | ⟨hb59, hF⟩
          · refine wpn_gT (congrArg (fun x => isB (.bool x) true) hb59) ?_
            refine wpn_q hO 2 [] [(39, .bool c46), (40, .slice A11 c6.length c12), (41, .slice A0 p0.length c0)] (And.intro rfl (And.intro rfl (And.intro rfl trivial))) fun j => ?_
            obtain ⟨c60, h61, hF⟩ := bind_some hF
            refine wpn_c0 hO (w_law05_SameRows r15 r0 h61) rfl fun _ σ _ _ hO h62 h63 => ?_
            have hL := hL.trans h62
            have r15 := r15.le h62
            have r0 := r0.le h62
            obtain ⟨rfl, rfl⟩ := h63
            have hO : Obs _ _ [] := hO
            refine wpn_pk (congrArg Value.bool hb59) ?_
            refine wpn_nil ?_
            injection hF with hF
            subst hF
            refine wpn_end ?_
            exact ⟨rfl, _, And.intro rfl (trivial), hO, hL⟩
          · refine wpn_gF (congrArg (fun x => isB (.bool x) true) hb59) ?_
            refine wpn_pk (congrArg Value.bool hb59) ?_
            refine wpn_nil ?_
            injection hF with hF
            subst hF
            refine wpn_end ?_
            exact ⟨rfl, _, And.intro rfl (trivial), hO, hL⟩
        · rintro e σ ⟨_, hA, hO, hL⟩
          rw [← sets_agr _ _ hA]
          refine wpn_q hO 1 [] [(44, .bool c57)] (And.intro rfl trivial) fun j => ?_
          obtain ⟨c64, h65, hF⟩ := bind_some hF
          refine wpn_mid 2 (fun e' σ' => ∃ (τ' : Hp), agr [(46, .bool c64)] e' ∧ Obs τ' σ' [] ∧ Hp.le τ τ') ?_ ?_
          · have hF := h65
            rcases ite_some hF with ⟨hb66, hF⟩ | ⟨hb66, hF⟩
            · refine wpn_gT (congrArg (fun x => isB (.bool x) true) hb66) ?_
              obtain ⟨c67, h68, hF⟩ := bind_some hF
              refine wpn_c0 hO (w_law05_works h68) rfl fun _ σ _ _ hO h69 h70 => ?_
              have hL := hL.trans h69
              obtain ⟨rfl, rfl⟩ := h70
              have hO : Obs _ _ [] := hO
              refine wpn_pk (congrArg Value.bool hb66) ?_
              refine wpn_nil ?_
              injection hF with hF
              subst hF
              refine wpn_end ?_
              exact ⟨rfl, _, And.intro rfl (trivial), hO, hL⟩
            · refine wpn_gF (congrArg (fun x => isB (.bool x) true) hb66) ?_
              refine wpn_pk (congrArg Value.bool hb66) ?_
              refine wpn_nil ?_
              injection hF with hF
              subst hF
              refine wpn_end ?_
              exact ⟨rfl, _, And.intro rfl (trivial), hO, hL⟩
          · rintro e σ ⟨_, hA, hO, hL⟩
            rw [← sets_agr _ _ hA]
            refine wpn_qa hO [] [(2, .bool c64)] (And.intro rfl trivial) fun j => ?_
            refine wpn_r1 ?_
            injection hF with hF
            subst hF
            exact hQ _ _ _ _ _ rfl hO hL ⟨rfl, rfl⟩

/-! theodolite/theodoliteref02.long -/
theorem w_ref02_long {τ : Hp} {v0 : Value} {p0 : (List UInt8)} {p1 : Int} (r0 : RdT Ty.u8 τ v0 p0) {rr : Int} (hF : F_ref02_long p0 p1 = some rr) :
    Ctr Try.prog 39 #[v0, .int .i64 p1] τ [] (fun v τ' vs' => v = .int .i64 rr ∧ vs' = []) := by
  obtain ⟨A0, c0, rfl, -⟩ := r0.form
  refine ctr_of (args := [.slice A0 p0.length c0, .int .i64 p1]) hm Try.func39 s39 rfl fun w0 σ hO Q hQ => ?_
  unfold F_ref02_long at hF
  have hL := Hp.le.refl τ
  show wpn _ _ a39.body _ _ _
  unfold a39
  dsimp only
  refine wpn_qa hO [] [(0, .slice A0 p0.length c0), (1, .int .i64 p1)] (And.intro rfl (And.intro rfl trivial)) fun j => ?_
  refine wpn_assoc ?_
  refine wpn_qa hO [] [(0, .slice A0 p0.length c0), (1, .int .i64 p1), (5, .int .i64 0)] (And.intro rfl (And.intro rfl (And.intro rfl trivial))) fun j => ?_
  refine wpn_bl ?_
  refine wpn_lp (fun (n : Nat) e' σ' => ∃ (x10 : Int) (τ' : Hp), agr [(0, .slice A0 p0.length c0), (1, .int .i64 p1), (5, .int .i64 x10)] e' ∧ Obs τ' σ' [] ∧ Hp.le τ τ' ∧ RdT Ty.u8 τ' (.slice A0 p0.length c0) p0 ∧ F_ref02_long_l3 p0 p1 n x10 = some rr) big ⟨0, _, And.intro rfl (And.intro rfl (And.intro rfl trivial)), hO, hL, r0, hF⟩ ?_
  clear hF hO hL
  rintro n18 e σ ⟨x10, _, hA, hO, hL, r9, hF⟩
  rw [← sets_agr _ _ hA]
  cases n18 with
  | zero => exact nomatch (show none = some rr from hF)
  | succ n18 =>
    replace hF : F_ref02_long_l3B (F_ref02_long_l3 p0 p1 n18) p0 p1 x10 = some rr := hF
    unfold F_ref02_long_l3B at hF
    refine wpn_assoc ?_
    refine wpn_qa hO [] [(0, .slice A0 p0.length c0), (1, .int .i64 p1), (5, .int .i64 x10), (15, .bool ((decide (x10 < 10)) && (decide ((IntKind.i64.wrap (p1 + x10)) < (p0.length : Int)))))] (And.intro (And.intro rfl rfl) (fun _ => And.intro rfl (And.intro rfl (And.intro rfl (And.intro rfl trivial))))) fun j => ?_
    rcases ite_some hF with ⟨hb19, hF⟩ | ⟨hb19, hF⟩
    · refine wpn_cT (congrArg Value.bool hb19) ?_
      refine wpn_sk ?_
      refine wpn_bl ?_
      refine wpn_q hO 4 [] [(0, .slice A0 p0.length c0), (1, .int .i64 p1), (5, .int .i64 x10), (18, .slice A0 p0.length c0), (21, .int .i64 (IntKind.i64.wrap (p1 + x10)))] (And.intro rfl (And.intro rfl (And.intro rfl (And.intro rfl (And.intro rfl trivial))))) fun j => ?_
      obtain ⟨y20, g21, hF⟩ := bind_some hF
      refine wpn_idx (T := Ty.u8) r9 hO.base rfl rfl g21 (by decide) fun a22 _ k23 m24 => ?_
      obtain rfl : _ = ([.int .u8 y20.toNat] : List Value) := k23
      refine wpn_ld rfl m24.fst ?_
      refine wpn_qa hO [] [(0, .slice A0 p0.length c0), (1, .int .i64 p1), (5, .int .i64 x10), (24, .bool (decide ((y20.toNat : Int) < 128)))] (And.intro rfl (And.intro rfl (And.intro rfl (And.intro rfl trivial)))) fun j => ?_
      refine wpn_clast ?_
      rcases ite_some hF with ⟨hb25, hF⟩ | ⟨hb25, hF⟩
      · refine wpn_cT (congrArg Value.bool hb25) ?_
        refine wpn_assoc ?_
        refine wpn_qa hO [] [(4, .int .i64 (IntKind.i64.wrap (x10 + 1)))] (And.intro rfl trivial) fun j => ?_
        refine wpn_rt ?_
        refine inb_r1 ?_
        refine thn_r1 ?_
        refine thn_r1 ?_
        refine inb_r1 ?_
        refine thn_r1 ?_
        injection hF with hF
        subst hF
        exact hQ _ _ _ _ _ rfl hO hL ⟨rfl, rfl⟩
      · refine wpn_cF (congrArg Value.bool hb25) ?_
        refine wpn_sk ?_
        refine wpn_end ?_
        refine inb_i ?_
        refine thn_i ?_
        refine wpn_rlast ?_
        refine wpn_qa hO [] [(0, .slice A0 p0.length c0), (1, .int .i64 p1), (5, .int .i64 (IntKind.i64.wrap (x10 + 1)))] (And.intro rfl (And.intro rfl (And.intro rfl trivial))) fun j => ?_
        refine wpn_end ?_
        refine thn_i ?_
        exact ⟨n18, Nat.lt_succ_self _, (IntKind.i64.wrap (x10 + 1)), _, And.intro rfl (And.intro rfl (And.intro rfl trivial)), hO, hL, r9, hF⟩
    · refine wpn_cF (congrArg Value.bool hb19) ?_
      refine wpn_ex ?_
      refine thn_x ?_
      refine inb_x ?_
      refine thn_i ?_
      refine wpn_qa hO [] [(4, .int .i64 0)] (And.intro rfl trivial) fun j => ?_
      refine wpn_r1 ?_
      injection hF with hF
      subst hF
      exact hQ _ _ _ _ _ rfl hO hL ⟨rfl, rfl⟩

/-! theodolite/theodoliteref02.sum -/
theorem w_ref02_sum {τ : Hp} {v0 : Value} {p0 : (List UInt8)} {p1 : Int} {p2 : Int} (r0 : RdT Ty.u8 τ v0 p0) {rr : Int} (hF : F_ref02_sum p0 p1 p2 = some rr) :
    Ctr Try.prog 40 #[v0, .int .i64 p1, .int .i64 p2] τ [] (fun v τ' vs' => v = .int .u64 rr ∧ vs' = []) := by
  obtain ⟨A0, c0, rfl, -⟩ := r0.form
  refine ctr_of (args := [.slice A0 p0.length c0, .int .i64 p1, .int .i64 p2]) hm Try.func40 s40 rfl fun w0 σ hO Q hQ => ?_
  unfold F_ref02_sum at hF
  have hL := Hp.le.refl τ
  show wpn _ _ a40.body _ _ _
  unfold a40
  dsimp only
  refine wpn_qa hO [] [(0, .slice A0 p0.length c0), (1, .int .i64 p1), (2, .int .i64 p2)] (And.intro rfl (And.intro rfl (And.intro rfl trivial))) fun j => ?_
  refine wpn_qa hO [] [(0, .slice A0 p0.length c0), (1, .int .i64 p1), (2, .int .i64 p2), (7, .int .u64 0)] (And.intro rfl (And.intro rfl (And.intro rfl (And.intro rfl trivial)))) fun j => ?_
  refine wpn_assoc ?_
  refine wpn_qa hO [] [(0, .slice A0 p0.length c0), (1, .int .i64 p1), (7, .int .u64 0), (8, .int .i64 (IntKind.i64.wrap (p2 - 1)))] (And.intro rfl (And.intro rfl (And.intro rfl (And.intro rfl trivial)))) fun j => ?_
  refine wpn_bl ?_
  refine wpn_lp (fun (n : Nat) e' σ' => ∃ (x9 : Int) (x10 : Int) (τ' : Hp), agr [(0, .slice A0 p0.length c0), (1, .int .i64 p1), (7, .int .u64 x9), (8, .int .i64 x10)] e' ∧ Obs τ' σ' [] ∧ Hp.le τ τ' ∧ RdT Ty.u8 τ' (.slice A0 p0.length c0) p0 ∧ F_ref02_sum_l3 p0 p1 n x9 x10 = some rr) big ⟨0, (IntKind.i64.wrap (p2 - 1)), _, And.intro rfl (And.intro rfl (And.intro rfl (And.intro rfl trivial))), hO, hL, r0, hF⟩ ?_
  clear hF hO hL
  rintro n17 e σ ⟨x9, x10, _, hA, hO, hL, r8, hF⟩
  rw [← sets_agr _ _ hA]
  cases n17 with
  | zero => exact nomatch (show none = some rr from hF)
  | succ n17 =>
    replace hF : F_ref02_sum_l3B (F_ref02_sum_l3 p0 p1 n17) p0 p1 x9 x10 = some rr := hF
    unfold F_ref02_sum_l3B at hF
    refine wpn_assoc ?_
    refine wpn_qa hO [] [(0, .slice A0 p0.length c0), (1, .int .i64 p1), (7, .int .u64 x9), (8, .int .i64 x10), (12, .bool (decide (x10 ≥ 0)))] (And.intro rfl (And.intro rfl (And.intro rfl (And.intro rfl (And.intro rfl trivial))))) fun j => ?_
    rcases ite_some hF with ⟨hb18, hF⟩ | ⟨hb18, hF⟩
    · refine wpn_cT (congrArg Value.bool hb18) ?_
      refine wpn_sk ?_
      refine wpn_bl ?_
      refine wpn_rlast ?_
      refine wpn_q hO 6 [] [(0, .slice A0 p0.length c0), (1, .int .i64 p1), (8, .int .i64 x10), (16, .int .u64 (IntKind.u64.wrap (128 * x9))), (17, .slice A0 p0.length c0), (20, .int .i64 (IntKind.i64.wrap (p1 + x10)))] (And.intro rfl (And.intro rfl (And.intro rfl (And.intro rfl (And.intro rfl (And.intro rfl trivial)))))) fun j => ?_
      obtain ⟨y19, g20, hF⟩ := bind_some hF
      refine wpn_idx (T := Ty.u8) r8 hO.base rfl rfl g20 (by decide) fun a21 _ k22 m23 => ?_
      obtain rfl : _ = ([.int .u8 y19.toNat] : List Value) := k22
      refine wpn_ld rfl m23.fst ?_
      refine wpn_qa hO [] [(0, .slice A0 p0.length c0), (1, .int .i64 p1), (7, .int .u64 (IntKind.u64.wrap ((IntKind.u64.wrap (128 * x9)) + (IntKind.u64.wrap (Int.tmod (y19.toNat : Int) 128))))), (8, .int .i64 x10)] (And.intro rfl (And.intro rfl (And.intro rfl (And.intro rfl trivial)))) fun j => ?_
      refine wpn_end ?_
      refine inb_i ?_
      refine thn_i ?_
      refine wpn_rlast ?_
      refine wpn_qa hO [] [(0, .slice A0 p0.length c0), (1, .int .i64 p1), (7, .int .u64 (IntKind.u64.wrap ((IntKind.u64.wrap (128 * x9)) + (IntKind.u64.wrap (Int.tmod (y19.toNat : Int) 128))))), (8, .int .i64 (IntKind.i64.wrap (x10 - 1)))] (And.intro rfl (And.intro rfl (And.intro rfl (And.intro rfl trivial)))) fun j => ?_
      refine wpn_end ?_
      refine thn_i ?_
      exact ⟨n17, Nat.lt_succ_self _, (IntKind.u64.wrap ((IntKind.u64.wrap (128 * x9)) + (IntKind.u64.wrap (Int.tmod (y19.toNat : Int) 128)))), (IntKind.i64.wrap (x10 - 1)), _, And.intro rfl (And.intro rfl (And.intro rfl (And.intro rfl trivial))), hO, hL, r8, hF⟩
    · refine wpn_cF (congrArg Value.bool hb18) ?_
      refine wpn_ex ?_
      refine thn_x ?_
      refine inb_x ?_
      refine thn_i ?_
      refine wpn_qa hO [] [(6, .int .u64 x9)] (And.intro rfl trivial) fun j => ?_
      refine wpn_r1 ?_
      injection hF with hF
      subst hF
      exact hQ _ _ _ _ _ rfl hO hL ⟨rfl, rfl⟩

/-! theodolite/theodoliteref02.stands -/
theorem w_ref02_stands {τ : Hp} {v0 : Value} {p0 : (List UInt8)} {p1 : Int} {v2 : Value} {p2 : (List UInt8)} (r0 : RdT Ty.u8 τ v0 p0) (r2 : RdT Ty.u8 τ v2 p2) {rr : Bool} (hF : F_ref02_stands p0 p1 p2 = some rr) :
    Ctr Try.prog 41 #[v0, .int .i64 p1, v2] τ [] (fun v τ' vs' => v = .bool rr ∧ vs' = []) := by
  obtain ⟨A0, c0, rfl, -⟩ := r0.form
  obtain ⟨A2, c2, rfl, -⟩ := r2.form
  refine ctr_of (args := [.slice A0 p0.length c0, .int .i64 p1, .slice A2 p2.length c2]) hm Try.func41 s41 rfl fun w0 σ hO Q hQ => ?_
  unfold F_ref02_stands at hF
  have hL := Hp.le.refl τ
  show wpn _ _ a41.body _ _ _
  unfold a41
  dsimp only
  refine wpn_qa hO [] [(0, .slice A0 p0.length c0), (1, .int .i64 p1), (2, .slice A2 p2.length c2)] (And.intro rfl (And.intro rfl (And.intro rfl trivial))) fun j => ?_
  refine wpn_assoc ?_
  refine wpn_qa hO [] [(0, .slice A0 p0.length c0), (1, .int .i64 p1), (2, .slice A2 p2.length c2), (14, .bool (decide ((p2.length : Int) > (IntKind.i64.wrap ((p0.length : Int) - p1)))))] (And.intro rfl (And.intro rfl (And.intro rfl (And.intro rfl trivial)))) fun j => ?_
  rcases ite_some hF with ⟨hb1, hF⟩ | ⟨hb1, hF⟩
  · refine wpn_cT (congrArg Value.bool hb1) ?_
    refine wpn_assoc ?_
    refine wpn_qa hO [] [(6, .bool false)] (And.intro rfl trivial) fun j => ?_
    refine wpn_rt ?_
    injection hF with hF
    subst hF
    exact hQ _ _ _ _ _ rfl hO hL ⟨rfl, rfl⟩
  · refine wpn_cF (congrArg Value.bool hb1) ?_
    refine wpn_sk ?_
    refine wpn_assoc ?_
    refine wpn_qa hO [] [(0, .slice A0 p0.length c0), (1, .int .i64 p1), (2, .slice A2 p2.length c2), (7, .int .i64 0)] (And.intro rfl (And.intro rfl (And.intro rfl (And.intro rfl trivial)))) fun j => ?_
    refine wpn_bl ?_
    refine wpn_lp (fun (n : Nat) e' σ' => ∃ (x18 : Int) (τ' : Hp), agr [(0, .slice A0 p0.length c0), (1, .int .i64 p1), (2, .slice A2 p2.length c2), (7, .int .i64 x18)] e' ∧ Obs τ' σ' [] ∧ Hp.le τ τ' ∧ RdT Ty.u8 τ' (.slice A0 p0.length c0) p0 ∧ RdT Ty.u8 τ' (.slice A2 p2.length c2) p2 ∧ F_ref02_stands_l3 p0 p1 p2 n x18 = some rr) big ⟨0, _, And.intro rfl (And.intro rfl (And.intro rfl (And.intro rfl trivial))), hO, hL, r0, r2, hF⟩ ?_
    clear hF hO hL
    rintro n31 e σ ⟨x18, _, hA, hO, hL, r16, r17, hF⟩
    rw [← sets_agr _ _ hA]
    cases n31 with
    | zero => exact nomatch (show none = some rr from hF)
    | succ n31 =>
      replace hF : F_ref02_stands_l3B (F_ref02_stands_l3 p0 p1 p2 n31) p0 p1 p2 x18 = some rr := hF
      unfold F_ref02_stands_l3B at hF
      refine wpn_assoc ?_
      refine wpn_qa hO [] [(0, .slice A0 p0.length c0), (1, .int .i64 p1), (2, .slice A2 p2.length c2), (7, .int .i64 x18), (18, .bool (decide (x18 < (p2.length : Int))))] (And.intro rfl (And.intro rfl (And.intro rfl (And.intro rfl (And.intro rfl trivial))))) fun j => ?_
      rcases ite_some hF with ⟨hb32, hF⟩ | ⟨hb32, hF⟩
      · refine wpn_cT (congrArg Value.bool hb32) ?_
        refine wpn_sk ?_
        refine wpn_bl ?_
        refine wpn_p2r ?_
        refine wpn_q hO 4 [] [(0, .slice A0 p0.length c0), (1, .int .i64 p1), (2, .slice A2 p2.length c2), (7, .int .i64 x18), (21, .slice A0 p0.length c0), (24, .int .i64 (IntKind.i64.wrap (p1 + x18)))] (And.intro rfl (And.intro rfl (And.intro rfl (And.intro rfl (And.intro rfl (And.intro rfl trivial)))))) fun j => ?_
        obtain ⟨y33, g34, hF⟩ := bind_some hF
        refine wpn_idx (T := Ty.u8) r16 hO.base rfl rfl g34 (by decide) fun a35 _ k36 m37 => ?_
        obtain rfl : _ = ([.int .u8 y33.toNat] : List Value) := k36
        refine wpn_ld rfl m37.fst ?_
        refine wpn_q hO 2 [] [(0, .slice A0 p0.length c0), (1, .int .i64 p1), (2, .slice A2 p2.length c2), (7, .int .i64 x18), (26, .int .u8 (y33.toNat : Int)), (27, .slice A2 p2.length c2), (28, .int .i64 x18)] (And.intro rfl (And.intro rfl (And.intro rfl (And.intro rfl (And.intro rfl (And.intro rfl (And.intro rfl trivial))))))) fun j => ?_
        obtain ⟨y38, g39, hF⟩ := bind_some hF
        refine wpn_idx (T := Ty.u8) r17 hO.base rfl rfl g39 (by decide) fun a40 _ k41 m42 => ?_
        obtain rfl : _ = ([.int .u8 y38.toNat] : List Value) := k41
        refine wpn_ld rfl m42.fst ?_
        refine wpn_qa hO [] [(0, .slice A0 p0.length c0), (1, .int .i64 p1), (2, .slice A2 p2.length c2), (7, .int .i64 x18), (31, .bool ((y33.toNat : Int) != (y38.toNat : Int)))] (And.intro rfl (And.intro rfl (And.intro rfl (And.intro rfl (And.intro rfl trivial))))) fun j => ?_
        refine wpn_clast ?_
        rcases ite_some hF with ⟨hb43, hF⟩ | ⟨hb43, hF⟩
        · refine wpn_cT (congrArg Value.bool hb43) ?_
          refine wpn_assoc ?_
          refine wpn_qa hO [] [(6, .bool false)] (And.intro rfl trivial) fun j => ?_
          refine wpn_rt ?_
          refine inb_r1 ?_
          refine thn_r1 ?_
          refine thn_r1 ?_
          refine inb_r1 ?_
          refine thn_r1 ?_
          injection hF with hF
          subst hF
          exact hQ _ _ _ _ _ rfl hO hL ⟨rfl, rfl⟩
        · refine wpn_cF (congrArg Value.bool hb43) ?_
          refine wpn_sk ?_
          refine wpn_end ?_
          refine inb_i ?_
          refine thn_i ?_
          refine wpn_rlast ?_
          refine wpn_qa hO [] [(0, .slice A0 p0.length c0), (1, .int .i64 p1), (2, .slice A2 p2.length c2), (7, .int .i64 (IntKind.i64.wrap (x18 + 1)))] (And.intro rfl (And.intro rfl (And.intro rfl (And.intro rfl trivial)))) fun j => ?_
          refine wpn_end ?_
          refine thn_i ?_
          exact ⟨n31, Nat.lt_succ_self _, (IntKind.i64.wrap (x18 + 1)), _, And.intro rfl (And.intro rfl (And.intro rfl (And.intro rfl trivial))), hO, hL, r16, r17, hF⟩
      · refine wpn_cF (congrArg Value.bool hb32) ?_
        refine wpn_ex ?_
        refine thn_x ?_
        refine inb_x ?_
        refine thn_i ?_
        refine wpn_qa hO [] [(6, .bool true)] (And.intro rfl trivial) fun j => ?_
        refine wpn_r1 ?_
        injection hF with hF
        subst hF
        exact hQ _ _ _ _ _ rfl hO hL ⟨rfl, rfl⟩

end Go.Proofs.Ytglpbhkkkhmlpaa
