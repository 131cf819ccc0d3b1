import Derived.Test.YtmcfgapknoiohaaF
import Derived.Test.YtmcfgapknoiohaaAc0
import Derived.Test.YtmcfgapknoiohaaM00
import Derived.Test.YtmcfgapknoiohaaM02
import Derived.Test.YtmcfgapknoiohaaG0
namespace Go.Proofs.Ytmcfgapknoiohaa
open Go.Ab Go.RowKit
set_option linter.unusedVariables false
set_option linter.unusedSimpArgs false
set_option maxRecDepth 10000

/-! slices.Concat[[]byte,byte] -/
theorem w_slices_Concat_Sbyte_byte {τ : Hp} {v0 : Value} {p0 : (List (List UInt8))} (r0 : RdT (Ty.slice Ty.u8) τ v0 p0) {rr : (List UInt8)} (hF : F_slices_Concat_Sbyte_byte p0 = some rr) :
    Ctr Try.prog 59 #[v0] τ [] (fun v τ' vs' => ∃ (v0 : Value) (o0 : Ob), v = v0 ∧ vs' = [o0] ∧ OwnO Ty.u8 5 τ' v0 rr o0) := by
  obtain ⟨A0, c0, rfl, -⟩ := r0.form
  refine ctr_of (args := [.slice A0 p0.length c0]) hm Try.func59 s59 rfl fun w0 σ hO Q hQ => ?_
  unfold F_slices_Concat_Sbyte_byte at hF
  have hL := Hp.le.refl τ
  show wpn _ _ a59.body _ _ _
  unfold a59
  dsimp only
  refine wpn_qa hO [] [(0, .slice A0 p0.length c0)] (And.intro rfl trivial) fun j => ?_
  refine wpn_qa hO [] [(0, .slice A0 p0.length c0), (3, .int .i64 0)] (And.intro rfl (And.intro rfl trivial)) fun j => ?_
  refine wpn_assoc ?_
  refine wpn_qa hO [] [(0, .slice A0 p0.length c0), (3, .int .i64 0), (9, .slice A0 p0.length c0), (10, .int .i64 (p0.length : Int)), (11, .int .i64 0)] (And.intro rfl (And.intro rfl (And.intro rfl (And.intro rfl (And.intro rfl trivial))))) fun j => ?_
  refine wpn_bl ?_
  refine wpn_lp (fun (n : Nat) e' σ' => ∃ (x80 : Int) (x82 : Int) (τ' : Hp), agr [(0, .slice A0 p0.length c0), (3, .int .i64 x80), (9, .slice A0 p0.length c0), (10, .int .i64 (p0.length : Int)), (11, .int .i64 x82)] e' ∧ Obs τ' σ' [] ∧ Hp.le τ τ' ∧ RdT (Ty.slice Ty.u8) τ' (.slice A0 p0.length c0) p0 ∧ RdT (Ty.slice Ty.u8) τ' (.slice A0 p0.length c0) p0 ∧ F_slices_Concat_Sbyte_byte_l13 p0 n x80 x82 = some rr) big ⟨0, 0, _, And.intro rfl (And.intro rfl (And.intro rfl (And.intro rfl (And.intro rfl trivial)))), hO, hL, r0, r0, hF⟩ ?_
  clear hF hO hL
  rintro n159 e σ ⟨x80, x82, _, hA, hO, hL, r79, r81, hF⟩
  rw [← sets_agr _ _ hA]
  cases n159 with
  | zero => exact nomatch (show none = some rr from hF)
  | succ n159 =>
    replace hF : F_slices_Concat_Sbyte_byte_l13B (F_slices_Concat_Sbyte_byte_l13 p0 n159) p0 x80 x82 = some rr := hF
    unfold F_slices_Concat_Sbyte_byte_l13B at hF
    refine wpn_qa hO [] [(0, .slice A0 p0.length c0), (3, .int .i64 x80), (9, .slice A0 p0.length c0), (10, .int .i64 (p0.length : Int)), (11, .int .i64 x82), (12, .bool (decide (x82 < (p0.length : Int))))] (And.intro rfl (And.intro rfl (And.intro rfl (And.intro rfl (And.intro rfl (And.intro rfl trivial)))))) fun j => ?_
    rcases ite_some hF with ⟨hb160, hF⟩ | ⟨hb160, hF⟩
    · refine wpn_cT (congrArg Value.bool hb160) ?_
      refine wpn_sk ?_
      refine wpn_bl ?_
      obtain ⟨y161, g162, hF⟩ := bind_some hF
      refine wpn_idx (T := (Ty.slice Ty.u8)) r81 hO.base rfl rfl g162 (by decide) fun a163 _ k164 m165 => ?_
      obtain ⟨v166, rfl, r167⟩ := k164
      obtain ⟨A168, c169, rfl, -⟩ := r167.form
      refine wpn_ld rfl m165.fst ?_
      refine wpn_qa hO [] [(0, .slice A0 p0.length c0), (3, .int .i64 x80), (5, .slice A168 y161.length c169), (9, .slice A0 p0.length c0), (10, .int .i64 (p0.length : Int)), (11, .int .i64 x82)] (And.intro rfl (And.intro rfl (And.intro rfl (And.intro rfl (And.intro rfl (And.intro rfl trivial)))))) fun j => ?_
      refine wpn_qa hO [] [(0, .slice A0 p0.length c0), (3, .int .i64 (IntKind.i64.wrap (x80 + (y161.length : Int)))), (9, .slice A0 p0.length c0), (10, .int .i64 (p0.length : Int)), (11, .int .i64 x82)] (And.intro rfl (And.intro rfl (And.intro rfl (And.intro rfl (And.intro rfl trivial))))) fun j => ?_
      refine wpn_qa hO [] [(0, .slice A0 p0.length c0), (3, .int .i64 (IntKind.i64.wrap (x80 + (y161.length : Int)))), (9, .slice A0 p0.length c0), (10, .int .i64 (p0.length : Int)), (11, .int .i64 x82), (20, .bool (decide ((IntKind.i64.wrap (x80 + (y161.length : Int))) < 0)))] (And.intro rfl (And.intro rfl (And.intro rfl (And.intro rfl (And.intro rfl (And.intro rfl trivial)))))) fun j => ?_
      refine wpn_clast ?_
      rcases ite_some hF with ⟨hb170, hF⟩ | ⟨hb170, hF⟩
      · refine wpn_cT (congrArg Value.bool hb170) ?_
        refine wpn_q hO 1 [] [(0, .slice A0 p0.length c0), (3, .int .i64 (IntKind.i64.wrap (x80 + (y161.length : Int)))), (9, .slice A0 p0.length c0), (10, .int .i64 (p0.length : Int)), (11, .int .i64 x82), (21, .iface 9 (.string (⟨#[108, 101, 110, 32, 111, 117, 116, 32, 111, 102, 32, 114, 97, 110, 103, 101]⟩ : ByteArray)))] (And.intro rfl (And.intro rfl (And.intro rfl (And.intro rfl (And.intro rfl (And.intro rfl trivial)))))) fun j => ?_
        exact nomatch (show none = some _ from hF)
      · refine wpn_cF (congrArg Value.bool hb170) ?_
        refine wpn_sk ?_
        refine wpn_end ?_
        refine inb_i ?_
        refine thn_i ?_
        refine wpn_rlast ?_
        refine wpn_qa hO [] [(0, .slice A0 p0.length c0), (3, .int .i64 (IntKind.i64.wrap (x80 + (y161.length : Int)))), (9, .slice A0 p0.length c0), (10, .int .i64 (p0.length : Int)), (11, .int .i64 (IntKind.i64.wrap (x82 + 1)))] (And.intro rfl (And.intro rfl (And.intro rfl (And.intro rfl (And.intro rfl trivial))))) fun j => ?_
        refine wpn_end ?_
        refine thn_i ?_
        exact ⟨n159, Nat.lt_succ_self _, (IntKind.i64.wrap (x80 + (y161.length : Int))), (IntKind.i64.wrap (x82 + 1)), _, And.intro rfl (And.intro rfl (And.intro rfl (And.intro rfl (And.intro rfl trivial)))), hO, hL, r79, r81, hF⟩
    · refine wpn_cF (congrArg Value.bool hb160) ?_
      refine wpn_ex ?_
      refine thn_x ?_
      refine inb_x ?_
      refine thn_i ?_
      refine wpn_q hO 1 [] [(0, .slice A0 p0.length c0), (23, .int .i64 x80)] (And.intro rfl (And.intro rfl trivial)) fun j => ?_
      obtain ⟨c171, h172, hF⟩ := bind_some hF
      refine wpn_c0 hO (w_slices_Grow_Sbyte_byte (RdT.nil Ty.u8 _) h172) rfl fun _ σ _ _ hO h173 h174 => ?_
      have hL := hL.trans h173
      have r79 := r79.le h173
      obtain ⟨v175, o178, rfl, rfl, w179⟩ := h174
      obtain ⟨A176, c177, rfl, -⟩ := w179.form
      have hO : Obs _ _ [_] := hO
      refine wpn_qa hO [] [(0, .slice A0 p0.length c0), (6, .slice A176 c171.length c177)] (And.intro rfl (And.intro rfl trivial)) fun j => ?_
      refine wpn_assoc ?_
      refine wpn_qa hO [] [(6, .slice A176 c171.length c177), (25, .slice A0 p0.length c0), (26, .int .i64 (p0.length : Int)), (27, .int .i64 0)] (And.intro rfl (And.intro rfl (And.intro rfl (And.intro rfl trivial)))) fun j => ?_
      refine wpn_bl ?_
      refine wpn_lp (fun (n : Nat) e' σ' => ∃ (A200 : Option Addr) (c201 : Nat) (o202 : Ob) (x203 : List UInt8) (x206 : Int) (τ' : Hp), agr [(6, .slice A200 x203.length c201), (25, .slice A0 p0.length c0), (26, .int .i64 (p0.length : Int)), (27, .int .i64 x206)] e' ∧ Obs τ' σ' [o202] ∧ Hp.le τ τ' ∧ OwnO Ty.u8 5 τ' (.slice A200 x203.length c201) x203 o202 ∧ RdT (Ty.slice Ty.u8) τ' (.slice A0 p0.length c0) p0 ∧ F_slices_Concat_Sbyte_byte_l15 p0 n x203 x206 = some rr) big ⟨A176, c177, o178, c171, 0, _, And.intro rfl (And.intro rfl (And.intro rfl (And.intro rfl trivial))), hO, hL, w179, r79, hF⟩ ?_
      clear hF hO hL
      rintro n221 e σ ⟨A200, c201, o202, x203, x206, _, hA, hO, hL, w204, r205, hF⟩
      rw [← sets_agr _ _ hA]
      cases n221 with
      | zero => exact nomatch (show none = some rr from hF)
      | succ n221 =>
        replace hF : F_slices_Concat_Sbyte_byte_l15B (F_slices_Concat_Sbyte_byte_l15 p0 n221) p0 x203 x206 = some rr := hF
        unfold F_slices_Concat_Sbyte_byte_l15B at hF
        refine wpn_qa hO [] [(6, .slice A200 x203.length c201), (25, .slice A0 p0.length c0), (26, .int .i64 (p0.length : Int)), (27, .int .i64 x206), (28, .bool (decide (x206 < (p0.length : Int))))] (And.intro rfl (And.intro rfl (And.intro rfl (And.intro rfl (And.intro rfl trivial))))) fun j => ?_
        rcases ite_some hF with ⟨hb222, hF⟩ | ⟨hb222, hF⟩
        · refine wpn_cT (congrArg Value.bool hb222) ?_
          refine wpn_sk ?_
          refine wpn_bl ?_
          obtain ⟨y223, g224, hF⟩ := bind_some hF
          refine wpn_idx (T := (Ty.slice Ty.u8)) r205 hO.base rfl rfl g224 (by decide) fun a225 _ k226 m227 => ?_
          obtain ⟨v228, rfl, r229⟩ := k226
          obtain ⟨A230, c231, rfl, -⟩ := r229.form
          refine wpn_ld rfl m227.fst ?_
          refine wpn_qa hO [] [(6, .slice A200 x203.length c201), (8, .slice A230 y223.length c231), (25, .slice A0 p0.length c0), (26, .int .i64 (p0.length : Int)), (27, .int .i64 x206)] (And.intro rfl (And.intro rfl (And.intro rfl (And.intro rfl (And.intro rfl trivial))))) fun j => ?_
          refine wpn_rlast ?_
          refine wpn_q hO 2 [] [(25, .slice A0 p0.length c0), (26, .int .i64 (p0.length : Int)), (27, .int .i64 x206), (31, .slice A200 x203.length c201), (32, .slice A230 y223.length c231)] (And.intro rfl (And.intro rfl (And.intro rfl (And.intro rfl (And.intro rfl trivial))))) fun j => ?_
          obtain ⟨_, hr, hF⟩ := bind_some hF
          refine wpn_apl (T := Ty.u8) hO w204 (i := 0) rfl rfl rfl r229 hr (by decide) fun _ σ o234 w235 hO => ?_
          obtain ⟨A232, c233, rfl, -⟩ := w235.form
          have hO : Obs _ _ [_] := hO
          refine wpn_qa hO [] [(6, .slice A232 (x203 ++ y223).length c233), (25, .slice A0 p0.length c0), (26, .int .i64 (p0.length : Int)), (27, .int .i64 x206)] (And.intro rfl (And.intro rfl (And.intro rfl (And.intro rfl trivial)))) fun j => ?_
          refine wpn_end ?_
          refine inb_i ?_
          refine thn_i ?_
          refine wpn_rlast ?_
          refine wpn_qa hO [] [(6, .slice A232 (x203 ++ y223).length c233), (25, .slice A0 p0.length c0), (26, .int .i64 (p0.length : Int)), (27, .int .i64 (IntKind.i64.wrap (x206 + 1)))] (And.intro rfl (And.intro rfl (And.intro rfl (And.intro rfl trivial)))) fun j => ?_
          refine wpn_end ?_
          refine thn_i ?_
          exact ⟨n221, Nat.lt_succ_self _, A232, c233, o234, (x203 ++ y223), (IntKind.i64.wrap (x206 + 1)), _, And.intro rfl (And.intro rfl (And.intro rfl (And.intro rfl trivial))), hO, hL, w235, r205, hF⟩
        · refine wpn_cF (congrArg Value.bool hb222) ?_
          refine wpn_ex ?_
          refine thn_x ?_
          refine inb_x ?_
          refine thn_i ?_
          refine wpn_qa hO [] [(2, .slice A200 x203.length c201)] (And.intro rfl trivial) fun j => ?_
          refine wpn_r1 ?_
          injection hF with hF
          subst hF
          exact hQ _ _ _ _ _ rfl hO hL ⟨_, _, rfl, rfl, w204⟩

/-! theodolite/octet.PutPlace -/
theorem w_octet_PutPlace {τ : Hp} {v0 : Value} {p0 : (List UInt8)} {p1 : Int} (r0 : RdT Ty.u8 τ v0 p0) {rr : (List UInt8) × Int} (hF : F_octet_PutPlace p0 p1 = some rr) :
    Ctr Try.prog 39 #[v0, .int .i64 p1] τ [] (fun v τ' vs' => ∃ (v0 : Value) (o0 : Ob), v = .tuple #[v0, .int .i64 rr.2] ∧ vs' = [o0] ∧ OwnO Ty.u8 5 τ' v0 rr.1 o0) := by
  obtain ⟨A0, c0, rfl, -⟩ := r0.form
  refine ctr_of (args := [.slice A0 p0.length c0, .int .i64 p1]) hm Try.func39 s39 rfl fun w0 σ hO Q hQ => ?_
  unfold F_octet_PutPlace at hF
  have hL := Hp.le.refl τ
  show wpn _ _ a39.body _ _ _
  unfold a39
  dsimp only
  refine wpn_qa hO [] [(0, .slice A0 p0.length c0), (1, .int .i64 p1)] (And.intro rfl (And.intro rfl trivial)) fun j => ?_
  refine wpn_assoc ?_
  refine wpn_qa hO [] [(0, .slice A0 p0.length c0), (1, .int .i64 p1), (13, .bool ((decide (p1 < 0)) || (decide (p1 ≥ 16777216))))] (And.intro (And.intro rfl rfl) (fun _ => And.intro rfl (And.intro rfl (And.intro rfl trivial)))) fun j => ?_
  rcases ite_some hF with ⟨hb1, hF⟩ | ⟨hb1, hF⟩
  · refine wpn_cT (congrArg Value.bool hb1) ?_
    refine wpn_assoc ?_
    refine wpn_qa hO [] [(4, .slice none 0 0), (5, .int .i64 1)] (And.intro rfl (And.intro rfl trivial)) fun j => ?_
    refine wpn_rt ?_
    have hO := hO.no
    have hO : Obs _ _ [_] := hO
    injection hF with hF
    subst hF
    exact hQ _ _ _ _ _ rfl hO hL ⟨_, _, rfl, rfl, (OwnO.nil _ _ _)⟩
  · refine wpn_cF (congrArg Value.bool hb1) ?_
    refine wpn_sk ?_
    refine wpn_ar (T := Ty.u8) (l := ([(0 : UInt8), (0 : UInt8), (0 : UInt8)] : List UInt8)) hO ⟨[.int .u8 0], _, rfl, rfl, ⟨[.int .u8 0], _, rfl, rfl, ⟨[.int .u8 0], _, rfl, rfl, rfl⟩⟩⟩ rfl (by decide) fun b2 σ o3 w4 hO => ?_
    have hO : Obs _ _ [_] := hO
    refine wpn_nil ?_
    refine wpn_assoc ?_
    refine wpn_qa hO [] [(0, .slice A0 p0.length c0), (1, .int .i64 p1), (6, .pointer (some ⟨b2, 0, none⟩)), (14, .int .i64 0)] (And.intro rfl (And.intro rfl (And.intro rfl (And.intro rfl trivial)))) fun j => ?_
    refine wpn_bl ?_
    refine wpn_lp (fun (n : Nat) e' σ' => ∃ (o41 : Ob) (x42 : List UInt8) (x44 : Int) (τ' : Hp), agr [(0, .slice A0 p0.length c0), (1, .int .i64 p1), (6, .pointer (some ⟨b2, 0, none⟩)), (14, .int .i64 x44)] e' ∧ Obs τ' σ' [o41] ∧ Hp.le τ τ' ∧ RdT Ty.u8 τ' (.slice A0 p0.length c0) p0 ∧ OwnO Ty.u8 79 τ' (.slice (some ⟨b2, 0, none⟩) 3 3) x42 o41 ∧ F_octet_PutPlace_l3 p0 p1 n x42 x44 = some rr) big ⟨o3, ([(0 : UInt8), (0 : UInt8), (0 : UInt8)] : List UInt8), 0, _, And.intro rfl (And.intro rfl (And.intro rfl (And.intro rfl trivial))), hO, hL, r0, w4, hF⟩ ?_
    clear hF hO hL
    rintro n76 e σ ⟨o41, x42, x44, _, hA, hO, hL, r40, w43, hF⟩
    rw [← sets_agr _ _ hA]
    cases n76 with
    | zero => exact nomatch (show none = some rr from hF)
    | succ n76 =>
      replace hF : F_octet_PutPlace_l3B (F_octet_PutPlace_l3 p0 p1 n76) p0 p1 x42 x44 = some rr := hF
      unfold F_octet_PutPlace_l3B at hF
      refine wpn_qa hO [] [(0, .slice A0 p0.length c0), (1, .int .i64 p1), (6, .pointer (some ⟨b2, 0, none⟩)), (14, .int .i64 x44), (15, .bool (decide (x44 < 3)))] (And.intro rfl (And.intro rfl (And.intro rfl (And.intro rfl (And.intro rfl trivial))))) fun j => ?_
      rcases ite_some hF with ⟨hb77, hF⟩ | ⟨hb77, hF⟩
      · refine wpn_cT (congrArg Value.bool hb77) ?_
        refine wpn_sk ?_
        refine wpn_bl ?_
        refine wpn_qa hO [] [(0, .slice A0 p0.length c0), (1, .int .i64 p1), (6, .pointer (some ⟨b2, 0, none⟩)), (7, .int .i64 x44), (14, .int .i64 x44)] (And.intro rfl (And.intro rfl (And.intro rfl (And.intro rfl (And.intro rfl trivial))))) fun j => ?_
        refine wpn_rlast ?_
        refine wpn_q hO 5 [] [(0, .slice A0 p0.length c0), (1, .int .i64 p1), (6, .pointer (some ⟨b2, 0, none⟩)), (14, .int .i64 x44), (18, .int .i64 (IntKind.i64.wrap (2 - x44))), (19, .int .i64 p1), (21, .int .i64 (IntKind.i64.wrap (8 * x44)))] (And.intro rfl (And.intro rfl (And.intro rfl (And.intro rfl (And.intro rfl (And.intro rfl (And.intro rfl trivial))))))) fun j => ?_
        obtain ⟨y78, g79, hF⟩ := bind_some hF
        refine wpn_bn (shrO_bin g79) ?_
        refine wpn_q hO 1 [] [(0, .slice A0 p0.length c0), (1, .int .i64 p1), (6, .pointer (some ⟨b2, 0, none⟩)), (14, .int .i64 x44), (18, .int .i64 (IntKind.i64.wrap (2 - x44))), (23, .int .u8 (IntKind.u8.wrap y78))] (And.intro rfl (And.intro rfl (And.intro rfl (And.intro rfl (And.intro rfl (And.intro rfl trivial)))))) fun j => ?_
        obtain ⟨y80, g81, hF⟩ := bind_some hF
        refine wpn_aa (T := Ty.u8) hO w43 (i := 0) rfl rfl rfl g81 rfl fun a82 _ k83 m84 i85 => ?_
        have k86 := k83
        obtain rfl : _ = ([.int .u8 y80.toNat] : List Value) := k86
        obtain ⟨z87, hz87, hF⟩ := bind_some hF
        refine wpn_sto (T := Ty.u8) (off := 0) (vs := [.int .u8 (IntKind.u8.wrap y78)]) hO w43 (i := 0) rfl (by rw [add_zero]; rfl) i85 g81 k83 m84 rfl rfl rfl rfl (by decide) (u8R hz87) fun σ o88 w89 hO => ?_
        have hO : Obs _ _ [_] := hO
        refine wpn_nil ?_
        refine wpn_end ?_
        refine inb_i ?_
        refine thn_i ?_
        refine wpn_rlast ?_
        refine wpn_qa hO [] [(0, .slice A0 p0.length c0), (1, .int .i64 p1), (6, .pointer (some ⟨b2, 0, none⟩)), (14, .int .i64 (IntKind.i64.wrap (x44 + 1)))] (And.intro rfl (And.intro rfl (And.intro rfl (And.intro rfl trivial)))) fun j => ?_
        refine wpn_end ?_
        refine thn_i ?_
        exact ⟨n76, Nat.lt_succ_self _, o88, (x42.set (Int.toNat (IntKind.i64.wrap (2 - x44))) z87), (IntKind.i64.wrap (x44 + 1)), _, And.intro rfl (And.intro rfl (And.intro rfl (And.intro rfl trivial))), hO, hL, r40, w89, hF⟩
      · refine wpn_cF (congrArg Value.bool hb77) ?_
        refine wpn_ex ?_
        refine thn_x ?_
        refine inb_x ?_
        refine thn_i ?_
        refine wpn_q hO 1 [] [(6, .pointer (some ⟨b2, 0, none⟩)), (26, .slice A0 p0.length c0)] (And.intro rfl (And.intro rfl trivial)) fun j => ?_
        refine wpn_sa (T := Ty.u8) rfl ?_
        have l92 : 3 = x42.length := w43.len
        obtain ⟨_, h91, r90, hO⟩ := w43.share hO (i := 0) rfl
        have hL := hL.trans h91
        have r40 := r40.le h91
        have hO : Obs _ _ [_] := hO
        refine wpn_lit (T := (Ty.slice Ty.u8)) (l := ([p0, x42] : List (List UInt8))) (cs := [.slice A0 p0.length c0, .slice (some ⟨b2, 0, none⟩) 3 3]) hO rfl ⟨[.slice A0 p0.length c0], _, rfl, ⟨_, rfl, r40⟩, ⟨[.slice (some ⟨b2, 0, none⟩) 3 3], _, rfl, ⟨_, rfl, r90⟩, rfl⟩⟩ rfl (by decide) fun _ σ o95 w96 hO => ?_
        obtain ⟨A93, c94, rfl, -⟩ := w96.form
        have hO : Obs _ _ [_, _] := hO
        obtain ⟨_, h98, r97, hO⟩ := w96.share hO (i := 1) rfl
        have hL := hL.trans h98
        have r40 := r40.le h98
        have r90 := r90.le h98
        have hO : Obs _ _ [_, _] := hO
        obtain ⟨c99, h100, hF⟩ := bind_some hF
        refine wpn_c0 hO (w_slices_Concat_Sbyte_byte r97 h100) rfl fun _ σ _ _ hO h101 h102 => ?_
        have hL := hL.trans h101
        have r40 := r40.le h101
        have r90 := r90.le h101
        have r97 := r97.le h101
        obtain ⟨v103, o106, rfl, rfl, w107⟩ := h102
        obtain ⟨A104, c105, rfl, -⟩ := w107.form
        have hO : Obs _ _ [_, _, _] := hO
        refine wpn_qa hO [] [(4, .slice A104 c99.length c105), (5, .int .i64 0)] (And.intro rfl (And.intro rfl trivial)) fun j => ?_
        refine wpn_r1 ?_
        injection hF with hF
        subst hF
        have hO := hO.sel [2] (by decide)
        exact hQ _ _ _ _ _ rfl hO hL ⟨_, _, rfl, rfl, w107⟩

/-! theodolite/octet.PutText -/
theorem w_octet_PutText {τ : Hp} {v0 : Value} {p0 : (List UInt8)} {p1 : ByteArray} (r0 : RdT Ty.u8 τ v0 p0) {rr : (List UInt8) × Int} (hF : F_octet_PutText p0 p1 = some rr) :
    Ctr Try.prog 41 #[v0, .string p1] τ [] (fun v τ' vs' => ∃ (v0 : Value) (o0 : Ob), v = .tuple #[v0, .int .i64 rr.2] ∧ vs' = [o0] ∧ OwnO Ty.u8 5 τ' v0 rr.1 o0) := by
  obtain ⟨A0, c0, rfl, -⟩ := r0.form
  refine ctr_of (args := [.slice A0 p0.length c0, .string p1]) hm Try.func41 s41 rfl fun w0 σ hO Q hQ => ?_
  unfold F_octet_PutText at hF
  have hL := Hp.le.refl τ
  show wpn _ _ a41.body _ _ _
  unfold a41
  dsimp only
  refine wpn_qa hO [] [(0, .slice A0 p0.length c0), (1, .string p1)] (And.intro rfl (And.intro rfl trivial)) fun j => ?_
  refine wpn_assoc ?_
  refine wpn_qa hO [] [(0, .slice A0 p0.length c0), (1, .string p1), (8, .bool (decide ((p1.size : Int) > 255)))] (And.intro rfl (And.intro rfl (And.intro rfl trivial))) fun j => ?_
  rcases ite_some hF with ⟨hb1, hF⟩ | ⟨hb1, hF⟩
  · refine wpn_cT (congrArg Value.bool hb1) ?_
    refine wpn_assoc ?_
    refine wpn_qa hO [] [(4, .slice none 0 0), (5, .int .i64 1)] (And.intro rfl (And.intro rfl trivial)) fun j => ?_
    refine wpn_rt ?_
    have hO := hO.no
    have hO : Obs _ _ [_] := hO
    injection hF with hF
    subst hF
    exact hQ _ _ _ _ _ rfl hO hL ⟨_, _, rfl, rfl, (OwnO.nil _ _ _)⟩
  · refine wpn_cF (congrArg Value.bool hb1) ?_
    refine wpn_sk ?_
    refine wpn_q hO 4 [] [(1, .string p1), (9, .slice A0 p0.length c0), (12, .int .u8 (IntKind.u8.wrap (p1.size : Int)))] (And.intro rfl (And.intro rfl (And.intro rfl trivial))) fun j => ?_
    obtain ⟨z2, hz2, hF⟩ := bind_some hF
    refine wpn_lit (T := Ty.u8) (l := ([z2] : List UInt8)) (cs := [.int .u8 (IntKind.u8.wrap (p1.size : Int))]) hO rfl ⟨[.int .u8 (IntKind.u8.wrap (p1.size : Int))], _, rfl, (u8R hz2), rfl⟩ rfl (by decide) fun _ σ o5 w6 hO => ?_
    obtain ⟨A3, c4, rfl, -⟩ := w6.form
    have hO : Obs _ _ [_] := hO
    refine wpn_q hO 1 [] [(9, .slice A0 p0.length c0), (13, .slice A3 ([z2] : List UInt8).length c4), (14, .string p1)] (And.intro rfl (And.intro rfl (And.intro rfl trivial))) fun j => ?_
    refine wpn_tb hO rfl fun _ σ _ hO h10 r7 => ?_
    have hL := hL.trans h10
    have r0 := r0.le h10
    have w6 := w6.le h10
    obtain ⟨A8, c9, rfl, -⟩ := r7.form
    obtain ⟨_, h12, r11, hO⟩ := w6.share hO (i := 0) rfl
    have hL := hL.trans h12
    have r0 := r0.le h12
    have r7 := r7.le h12
    have hO : Obs _ _ [_] := hO
    refine wpn_lit (T := (Ty.slice Ty.u8)) (l := ([p0, ([z2] : List UInt8), (p1.data.toList)] : List (List UInt8))) (cs := [.slice A0 p0.length c0, .slice A3 ([z2] : List UInt8).length c4, .slice A8 (p1.data.toList).length c9]) hO rfl ⟨[.slice A0 p0.length c0], _, rfl, ⟨_, rfl, r0⟩, ⟨[.slice A3 ([z2] : List UInt8).length c4], _, rfl, ⟨_, rfl, r11⟩, ⟨[.slice A8 (p1.data.toList).length c9], _, rfl, ⟨_, rfl, r7⟩, rfl⟩⟩⟩ rfl (by decide) fun _ σ o15 w16 hO => ?_
    obtain ⟨A13, c14, rfl, -⟩ := w16.form
    have hO : Obs _ _ [_, _] := hO
    obtain ⟨_, h18, r17, hO⟩ := w16.share hO (i := 1) rfl
    have hL := hL.trans h18
    have r0 := r0.le h18
    have r11 := r11.le h18
    have r7 := r7.le h18
    have hO : Obs _ _ [_, _] := hO
    obtain ⟨c19, h20, hF⟩ := bind_some hF
    refine wpn_c0 hO (w_slices_Concat_Sbyte_byte r17 h20) rfl fun _ σ _ _ hO h21 h22 => ?_
    have hL := hL.trans h21
    have r0 := r0.le h21
    have r11 := r11.le h21
    have r7 := r7.le h21
    have r17 := r17.le h21
    obtain ⟨v23, o26, rfl, rfl, w27⟩ := h22
    obtain ⟨A24, c25, rfl, -⟩ := w27.form
    have hO : Obs _ _ [_, _, _] := hO
    refine wpn_qa hO [] [(4, .slice A24 c19.length c25), (5, .int .i64 0)] (And.intro rfl (And.intro rfl trivial)) fun j => ?_
    refine wpn_r1 ?_
    injection hF with hF
    subst hF
    have hO := hO.sel [2] (by decide)
    exact hQ _ _ _ _ _ rfl hO hL ⟨_, _, rfl, rfl, w27⟩

/-! theodolite/theodolitelaw01.works -/
theorem w_law01_works {τ : Hp}   {rr : Bool} (hF : F_law01_works  = some rr) :
    Ctr Try.prog 30 #[] τ [] (fun v τ' vs' => v = .bool rr ∧ vs' = []) := by
  refine ctr_of (args := []) hm Try.func30 s30 rfl fun w0 σ hO Q hQ => ?_
  unfold F_law01_works at hF
  have hL := Hp.le.refl τ
  show wpn _ _ a30.body _ _ _
  unfold a30
  dsimp only
  refine wpn_qa hO [] [] (trivial) fun j => ?_
  obtain ⟨c1, h2, hF⟩ := bind_some hF
  refine wpn_c0 hO (w_octet_Pair h2) rfl fun _ σ _ _ hO h3 h4 => ?_
  have hL := hL.trans h3
  obtain ⟨rfl, rfl⟩ := h4
  have hO : Obs _ _ [] := hO
  refine wpn_qa hO [] [(1, .int .u8 c1.1), (2, .bool c1.2)] (And.intro rfl (And.intro rfl trivial)) fun j => ?_
  refine wpn_q hO 1 [] [(2, .bool c1.2), (23, .int .u8 c1.1)] (And.intro rfl (And.intro rfl trivial)) fun j => ?_
  obtain ⟨z5, hz5, hF⟩ := bind_some hF
  refine wpn_lit (T := Ty.u8) (l := ([z5] : List UInt8)) (cs := [.int .u8 c1.1]) hO rfl ⟨[.int .u8 c1.1], _, rfl, (u8R hz5), rfl⟩ rfl (by decide) fun _ σ o8 w9 hO => ?_
  obtain ⟨A6, c7, rfl, -⟩ := w9.form
  have hO : Obs _ _ [_] := hO
  obtain ⟨_, h11, r10, hO⟩ := w9.share hO (i := 0) rfl
  have hL := hL.trans h11
  have hO : Obs _ _ [_] := hO
  obtain ⟨c12, h13, hF⟩ := bind_some hF
  refine wpn_c0 hO (w_octet_PutPlace r10 h13) rfl fun _ σ _ _ hO h14 h15 => ?_
  have hL := hL.trans h14
  have r10 := r10.le h14
  obtain ⟨v16, o19, rfl, rfl, w20⟩ := h15
  obtain ⟨A17, c18, rfl, -⟩ := w20.form
  have hO : Obs _ _ [_, _] := hO
  refine wpn_qa hO [] [(2, .bool c1.2), (3, .slice A17 c12.1.length c18), (4, .int .i64 c12.2)] (And.intro rfl (And.intro rfl (And.intro rfl trivial))) fun j => ?_
  refine wpn_q hO 1 [] [(2, .bool c1.2), (4, .int .i64 c12.2), (29, .slice A17 c12.1.length c18)] (And.intro rfl (And.intro rfl (And.intro rfl trivial))) fun j => ?_
  obtain ⟨_, h22, r21, hO⟩ := w20.share hO (i := 1) rfl
  have hL := hL.trans h22
  have hO : Obs _ _ [_, _] := hO
  obtain ⟨c23, h24, hF⟩ := bind_some hF
  refine wpn_c0 hO (w_octet_PutText r21 h24) rfl fun _ σ _ _ hO h25 h26 => ?_
  have hL := hL.trans h25
  have r21 := r21.le h25
  obtain ⟨v27, o30, rfl, rfl, w31⟩ := h26
  obtain ⟨A28, c29, rfl, -⟩ := w31.form
  have hO : Obs _ _ [_, _, _] := hO
  refine wpn_qa hO [] [(2, .bool c1.2), (3, .slice A28 c23.1.length c29), (4, .int .i64 c12.2), (5, .int .i64 c23.2)] (And.intro rfl (And.intro rfl (And.intro rfl (And.intro rfl trivial)))) fun j => ?_
  refine wpn_q hO 1 [] [(2, .bool c1.2), (3, .slice A28 c23.1.length c29), (4, .int .i64 c12.2), (5, .int .i64 c23.2), (34, .slice A28 c23.1.length c29)] (And.intro rfl (And.intro rfl (And.intro rfl (And.intro rfl (And.intro rfl trivial))))) fun j => ?_
  obtain ⟨_, h33, r32, hO⟩ := w31.share hO (i := 2) rfl
  have hL := hL.trans h33
  have hO : Obs _ _ [_, _, _] := hO
  obtain ⟨c34, h35, hF⟩ := bind_some hF
  refine wpn_c0 hO (w_octet_One r32 h35) rfl fun _ σ _ _ hO h36 h37 => ?_
  have hL := hL.trans h36
  have r32 := r32.le h36
  obtain ⟨rfl, rfl⟩ := h37
  have hO : Obs _ _ [_, _, _] := hO
  refine wpn_qa hO [] [(2, .bool c1.2), (3, .slice A28 c23.1.length c29), (4, .int .i64 c12.2), (5, .int .i64 c23.2), (6, .int .u8 c34.1), (7, .int .i64 c34.2.1), (8, .int .i64 c34.2.2)] (And.intro rfl (And.intro rfl (And.intro rfl (And.intro rfl (And.intro rfl (And.intro rfl (And.intro rfl trivial))))))) fun j => ?_
  refine wpn_q hO 2 [] [(2, .bool c1.2), (3, .slice A28 c23.1.length c29), (4, .int .i64 c12.2), (5, .int .i64 c23.2), (6, .int .u8 c34.1), (8, .int .i64 c34.2.2), (40, .slice A28 c23.1.length c29), (41, .int .i64 c34.2.1)] (And.intro rfl (And.intro rfl (And.intro rfl (And.intro rfl (And.intro rfl (And.intro rfl (And.intro rfl (And.intro rfl trivial)))))))) fun j => ?_
  obtain ⟨c38, h39, hF⟩ := bind_some hF
  refine wpn_c0 hO (w_octet_Place r32 h39) rfl fun _ σ _ _ hO h40 h41 => ?_
  have hL := hL.trans h40
  have r32 := r32.le h40
  obtain ⟨rfl, rfl⟩ := h41
  have hO : Obs _ _ [_, _, _] := hO
  refine wpn_qa hO [] [(2, .bool c1.2), (3, .slice A28 c23.1.length c29), (4, .int .i64 c12.2), (5, .int .i64 c23.2), (6, .int .u8 c34.1), (8, .int .i64 c34.2.2), (9, .int .i64 c38.1), (10, .int .i64 c38.2.1), (11, .int .i64 c38.2.2)] (And.intro rfl (And.intro rfl (And.intro rfl (And.intro rfl (And.intro rfl (And.intro rfl (And.intro rfl (And.intro rfl (And.intro rfl trivial))))))))) fun j => ?_
  refine wpn_q hO 2 [] [(2, .bool c1.2), (3, .slice A28 c23.1.length c29), (4, .int .i64 c12.2), (5, .int .i64 c23.2), (6, .int .u8 c34.1), (8, .int .i64 c34.2.2), (9, .int .i64 c38.1), (11, .int .i64 c38.2.2), (47, .slice A28 c23.1.length c29), (48, .int .i64 c38.2.1)] (And.intro rfl (And.intro rfl (And.intro rfl (And.intro rfl (And.intro rfl (And.intro rfl (And.intro rfl (And.intro rfl (And.intro rfl (And.intro rfl trivial)))))))))) fun j => ?_
  obtain ⟨c42, h43, hF⟩ := bind_some hF
  refine wpn_c0 hO (w_octet_Text r32 h43) rfl fun _ σ _ _ hO h44 h45 => ?_
  have hL := hL.trans h44
  have r32 := r32.le h44
  obtain ⟨rfl, rfl⟩ := h45
  have hO : Obs _ _ [_, _, _] := hO
  refine wpn_qa hO [] [(2, .bool c1.2), (3, .slice A28 c23.1.length c29), (4, .int .i64 c12.2), (5, .int .i64 c23.2), (6, .int .u8 c34.1), (8, .int .i64 c34.2.2), (9, .int .i64 c38.1), (11, .int .i64 c38.2.2), (12, .string c42.1), (13, .int .i64 c42.2.1), (14, .int .i64 c42.2.2)] (And.intro rfl (And.intro rfl (And.intro rfl (And.intro rfl (And.intro rfl (And.intro rfl (And.intro rfl (And.intro rfl (And.intro rfl (And.intro rfl (And.intro rfl trivial))))))))))) fun j => ?_
  refine wpn_q hO 1 [] [(2, .bool c1.2), (3, .slice A28 c23.1.length c29), (4, .int .i64 c12.2), (5, .int .i64 c23.2), (8, .int .i64 c34.2.2), (9, .int .i64 c38.1), (11, .int .i64 c38.2.2), (12, .string c42.1), (13, .int .i64 c42.2.1), (14, .int .i64 c42.2.2), (54, .int .u8 c34.1)] (And.intro rfl (And.intro rfl (And.intro rfl (And.intro rfl (And.intro rfl (And.intro rfl (And.intro rfl (And.intro rfl (And.intro rfl (And.intro rfl (And.intro rfl trivial))))))))))) fun j => ?_
  obtain ⟨c46, h47, hF⟩ := bind_some hF
  refine wpn_c0 hO (w_octet_Halves h47) rfl fun _ σ _ _ hO h48 h49 => ?_
  have hL := hL.trans h48
  have r32 := r32.le h48
  obtain ⟨rfl, rfl⟩ := h49
  have hO : Obs _ _ [_, _, _] := hO
  refine wpn_qa hO [] [(2, .bool c1.2), (3, .slice A28 c23.1.length c29), (4, .int .i64 c12.2), (5, .int .i64 c23.2), (8, .int .i64 c34.2.2), (9, .int .i64 c38.1), (11, .int .i64 c38.2.2), (12, .string c42.1), (13, .int .i64 c42.2.1), (14, .int .i64 c42.2.2), (15, .int .i64 c46.1), (16, .int .i64 c46.2)] (And.intro rfl (And.intro rfl (And.intro rfl (And.intro rfl (And.intro rfl (And.intro rfl (And.intro rfl (And.intro rfl (And.intro rfl (And.intro rfl (And.intro rfl (And.intro rfl trivial)))))))))))) fun j => ?_
  refine wpn_qa hO [] [(2, .bool c1.2), (3, .slice A28 c23.1.length c29), (9, .int .i64 c38.1), (12, .string c42.1), (13, .int .i64 c42.2.1), (15, .int .i64 c46.1), (16, .int .i64 c46.2), (17, .bool (((((c12.2 == 0) && (c23.2 == 0)) && (c34.2.2 == 0)) && (c38.2.2 == 0)) && (c42.2.2 == 0)))] (And.intro (And.intro rfl rfl) (fun _ => And.intro (And.intro rfl rfl) (fun _ => And.intro (And.intro rfl rfl) (fun _ => And.intro (And.intro rfl rfl) (fun _ => And.intro rfl (And.intro rfl (And.intro rfl (And.intro rfl (And.intro rfl (And.intro rfl (And.intro rfl (And.intro rfl trivial)))))))))))) fun j => ?_
  refine wpn_qa hO [] [(0, .bool (((((((c1.2 && (((((c12.2 == 0) && (c23.2 == 0)) && (c34.2.2 == 0)) && (c38.2.2 == 0)) && (c42.2.2 == 0))) && (c46.1 == 1)) && (c46.2 == 2)) && (c38.1 == 258)) && (strEq c42.1 (⟨#[97, 98]⟩ : ByteArray))) && ((c23.1.length : Int) == 7)) && (c42.2.1 == 7)))] (And.intro (And.intro rfl rfl) (fun _ => And.intro (And.intro rfl rfl) (fun _ => And.intro (And.intro rfl rfl) (fun _ => And.intro (And.intro rfl rfl) (fun _ => And.intro (And.intro rfl rfl) (fun _ => And.intro (And.intro rfl rfl) (fun _ => And.intro (And.intro rfl rfl) (fun _ => And.intro rfl trivial)))))))) fun j => ?_
  refine wpn_r1 ?_
  injection hF with hF
  subst hF
  have hO := hO.sel [] (by decide)
  exact hQ _ _ _ _ _ rfl hO hL ⟨rfl, rfl⟩

/-! theodolite/theodolitelaw01.OctetHalves -/
theorem w_law01_OctetHalves {τ : Hp} {p0 : Int} {p1 : Int} {p2 : Int}  {rr : Bool} (hF : F_law01_OctetHalves p0 p1 p2 = some rr) :
    Ctr Try.prog 8 #[.int .i64 p0, .int .i64 p1, .int .u8 p2] τ [] (fun v τ' vs' => v = .bool rr ∧ vs' = []) := by
  refine ctr_of (args := [.int .i64 p0, .int .i64 p1, .int .u8 p2]) hm Try.func8 s8 rfl fun w0 σ hO Q hQ => ?_
  unfold F_law01_OctetHalves at hF
  have hL := Hp.le.refl τ
  show wpn _ _ a8.body _ _ _
  unfold a8
  dsimp only
  refine wpn_qa hO [] [(0, .int .i64 p0), (1, .int .i64 p1), (2, .int .u8 p2)] (And.intro rfl (And.intro rfl (And.intro rfl trivial))) fun j => ?_
  refine wpn_q hO 2 [] [(0, .int .i64 p0), (1, .int .i64 p1), (2, .int .u8 p2), (16, .int .i64 p0), (17, .int .i64 p1)] (And.intro rfl (And.intro rfl (And.intro rfl (And.intro rfl (And.intro rfl trivial))))) fun j => ?_
  obtain ⟨c1, h2, hF⟩ := bind_some hF
  refine wpn_c0 hO (w_octet_Pair h2) rfl fun _ σ _ _ hO h3 h4 => ?_
  have hL := hL.trans h3
  obtain ⟨rfl, rfl⟩ := h4
  have hO : Obs _ _ [] := hO
  refine wpn_qa hO [] [(0, .int .i64 p0), (1, .int .i64 p1), (2, .int .u8 p2), (7, .int .u8 c1.1), (8, .bool c1.2)] (And.intro rfl (And.intro rfl (And.intro rfl (And.intro rfl (And.intro rfl trivial))))) fun j => ?_
  refine wpn_q hO 2 [] [(2, .int .u8 p2), (7, .int .u8 c1.1), (8, .bool c1.2), (22, .int .i64 p0), (23, .int .i64 p1)] (And.intro rfl (And.intro rfl (And.intro rfl (And.intro rfl (And.intro rfl trivial))))) fun j => ?_
  obtain ⟨c5, h6, hF⟩ := bind_some hF
  refine wpn_c0 hO (w_ref01_Pair h6) rfl fun _ σ _ _ hO h7 h8 => ?_
  have hL := hL.trans h7
  obtain ⟨rfl, rfl⟩ := h8
  have hO : Obs _ _ [] := hO
  refine wpn_qa hO [] [(2, .int .u8 p2), (7, .int .u8 c1.1), (8, .bool c1.2), (9, .int .u8 c5.1), (10, .bool c5.2)] (And.intro rfl (And.intro rfl (And.intro rfl (And.intro rfl (And.intro rfl trivial))))) fun j => ?_
  refine wpn_q hO 1 [] [(2, .int .u8 p2), (7, .int .u8 c1.1), (8, .bool c1.2), (9, .int .u8 c5.1), (10, .bool c5.2), (28, .int .u8 p2)] (And.intro rfl (And.intro rfl (And.intro rfl (And.intro rfl (And.intro rfl (And.intro rfl trivial)))))) fun j => ?_
  obtain ⟨c9, h10, hF⟩ := bind_some hF
  refine wpn_c0 hO (w_octet_Halves h10) rfl fun _ σ _ _ hO h11 h12 => ?_
  have hL := hL.trans h11
  obtain ⟨rfl, rfl⟩ := h12
  have hO : Obs _ _ [] := hO
  refine wpn_qa hO [] [(2, .int .u8 p2), (7, .int .u8 c1.1), (8, .bool c1.2), (9, .int .u8 c5.1), (10, .bool c5.2), (11, .int .i64 c9.1), (12, .int .i64 c9.2)] (And.intro rfl (And.intro rfl (And.intro rfl (And.intro rfl (And.intro rfl (And.intro rfl (And.intro rfl trivial))))))) fun j => ?_
  refine wpn_q hO 2 [] [(2, .int .u8 p2), (7, .int .u8 c1.1), (8, .bool c1.2), (9, .int .u8 c5.1), (10, .bool c5.2), (11, .int .i64 c9.1), (12, .int .i64 c9.2), (33, .int .i64 c9.1), (34, .int .i64 c9.2)] (And.intro rfl (And.intro rfl (And.intro rfl (And.intro rfl (And.intro rfl (And.intro rfl (And.intro rfl (And.intro rfl (And.intro rfl trivial))))))))) fun j => ?_
  obtain ⟨c13, h14, hF⟩ := bind_some hF
  refine wpn_c0 hO (w_octet_Pair h14) rfl fun _ σ _ _ hO h15 h16 => ?_
  have hL := hL.trans h15
  obtain ⟨rfl, rfl⟩ := h16
  have hO : Obs _ _ [] := hO
  refine wpn_qa hO [] [(2, .int .u8 p2), (7, .int .u8 c1.1), (8, .bool c1.2), (9, .int .u8 c5.1), (10, .bool c5.2), (11, .int .i64 c9.1), (12, .int .i64 c9.2), (13, .int .u8 c13.1), (14, .bool c13.2)] (And.intro rfl (And.intro rfl (And.intro rfl (And.intro rfl (And.intro rfl (And.intro rfl (And.intro rfl (And.intro rfl (And.intro rfl trivial))))))))) fun j => ?_
  refine wpn_q hO 19 [] [(68, .bool ((((((c1.1 == c5.1) && (c1.2 == c5.2)) && (c9.1 == (IntKind.i64.wrap (Int.tdiv (IntKind.i64.wrap p2) 16)))) && (c9.2 == (Int.tmod (IntKind.i64.wrap p2) 16))) && (c13.1 == p2)) && c13.2))] (And.intro (And.intro rfl rfl) (fun _ => And.intro (And.intro rfl rfl) (fun _ => And.intro (And.intro rfl rfl) (fun _ => And.intro (And.intro rfl rfl) (fun _ => And.intro (And.intro rfl rfl) (fun _ => And.intro rfl trivial)))))) fun j => ?_
  obtain ⟨c17, h18, hF⟩ := bind_some hF
  refine wpn_mid 2 (fun e' σ' => ∃ (τ' : Hp), agr [(70, .bool c17)] e' ∧ Obs τ' σ' [] ∧ Hp.le τ τ') ?_ ?_
  · have hF := h18
    rcases ite_some hF with ⟨hb19, hF⟩ | ⟨hb19, hF⟩
    · refine wpn_gT (congrArg (fun x => isB (.bool x) true) hb19) ?_
      obtain ⟨c20, h21, hF⟩ := bind_some hF
      refine wpn_c0 hO (w_law01_works h21) rfl fun _ σ _ _ hO h22 h23 => ?_
      have hL := hL.trans h22
      obtain ⟨rfl, rfl⟩ := h23
      have hO : Obs _ _ [] := hO
      refine wpn_pk (congrArg Value.bool hb19) ?_
      refine wpn_nil ?_
      injection hF with hF
      subst hF
      refine wpn_end ?_
      exact ⟨rfl, _, And.intro rfl (trivial), hO, hL⟩
    · refine wpn_gF (congrArg (fun x => isB (.bool x) true) hb19) ?_
      refine wpn_pk (congrArg Value.bool hb19) ?_
      refine wpn_nil ?_
      injection hF with hF
      subst hF
      refine wpn_end ?_
      exact ⟨rfl, _, And.intro rfl (trivial), hO, hL⟩
  · rintro e σ ⟨_, hA, hO, hL⟩
    rw [← sets_agr _ _ hA]
    refine wpn_qa hO [] [(6, .bool c17)] (And.intro rfl trivial) fun j => ?_
    refine wpn_r1 ?_
    injection hF with hF
    subst hF
    exact hQ _ _ _ _ _ rfl hO hL ⟨rfl, rfl⟩

/-! theodolite/theodoliteref01.have -/
theorem w_ref01_have {τ : Hp} {v0 : Value} {p0 : (List UInt8)} {p1 : Int} {p2 : Int} (r0 : RdT Ty.u8 τ v0 p0) {rr : Int} (hF : F_ref01_have p0 p1 p2 = some rr) :
    Ctr Try.prog 58 #[v0, .int .i64 p1, .int .i64 p2] τ [] (fun v τ' vs' => v = .int .i64 rr ∧ vs' = []) := by
  obtain ⟨A0, c0, rfl, -⟩ := r0.form
  refine ctr_of (args := [.slice A0 p0.length c0, .int .i64 p1, .int .i64 p2]) hm Try.func58 s58 rfl fun w0 σ hO Q hQ => ?_
  unfold F_ref01_have at hF
  have hL := Hp.le.refl τ
  show wpn _ _ a58.body _ _ _
  unfold a58
  dsimp only
  refine wpn_qa hO [] [(0, .slice A0 p0.length c0), (1, .int .i64 p1), (2, .int .i64 p2)] (And.intro rfl (And.intro rfl (And.intro rfl trivial))) fun j => ?_
  refine wpn_assoc ?_
  refine wpn_qa hO [] [(0, .slice A0 p0.length c0), (1, .int .i64 p1), (2, .int .i64 p2), (14, .bool ((decide (p1 < 0)) || (decide (p1 > (p0.length : Int)))))] (And.intro (And.intro rfl rfl) (fun _ => And.intro rfl (And.intro rfl (And.intro rfl (And.intro rfl trivial))))) fun j => ?_
  rcases ite_some hF with ⟨hb1, hF⟩ | ⟨hb1, hF⟩
  · refine wpn_cT (congrArg Value.bool hb1) ?_
    refine wpn_assoc ?_
    refine wpn_qa hO [] [(6, .int .i64 1)] (And.intro rfl trivial) fun j => ?_
    refine wpn_rt ?_
    injection hF with hF
    subst hF
    exact hQ _ _ _ _ _ rfl hO hL ⟨rfl, rfl⟩
  · refine wpn_cF (congrArg Value.bool hb1) ?_
    refine wpn_sk ?_
    refine wpn_assoc ?_
    refine wpn_qa hO [] [(20, .bool (decide ((IntKind.i64.wrap ((p0.length : Int) - p1)) < p2)))] (And.intro rfl trivial) fun j => ?_
    rcases ite_some hF with ⟨hb2, hF⟩ | ⟨hb2, hF⟩
    · refine wpn_cT (congrArg Value.bool hb2) ?_
      refine wpn_assoc ?_
      refine wpn_qa hO [] [(6, .int .i64 5)] (And.intro rfl trivial) fun j => ?_
      refine wpn_rt ?_
      injection hF with hF
      subst hF
      exact hQ _ _ _ _ _ rfl hO hL ⟨rfl, rfl⟩
    · refine wpn_cF (congrArg Value.bool hb2) ?_
      refine wpn_sk ?_
      refine wpn_qa hO [] [(6, .int .i64 0)] (And.intro rfl trivial) fun j => ?_
      refine wpn_r1 ?_
      injection hF with hF
      subst hF
      exact hQ _ _ _ _ _ rfl hO hL ⟨rfl, rfl⟩

/-! theodolite/theodoliteref01.One -/
theorem w_ref01_One {τ : Hp} {v0 : Value} {p0 : (List UInt8)} {p1 : Int} (r0 : RdT Ty.u8 τ v0 p0) {rr : Int × Int × Int} (hF : F_ref01_One p0 p1 = some rr) :
    Ctr Try.prog 33 #[v0, .int .i64 p1] τ [] (fun v τ' vs' => v = .tuple #[.int .u8 rr.1, .int .i64 rr.2.1, .int .i64 rr.2.2] ∧ vs' = []) := by
  obtain ⟨A0, c0, rfl, -⟩ := r0.form
  refine ctr_of (args := [.slice A0 p0.length c0, .int .i64 p1]) hm Try.func33 s33 rfl fun w0 σ hO Q hQ => ?_
  unfold F_ref01_One at hF
  have hL := Hp.le.refl τ
  show wpn _ _ a33.body _ _ _
  unfold a33
  dsimp only
  refine wpn_qa hO [] [(0, .slice A0 p0.length c0), (1, .int .i64 p1)] (And.intro rfl (And.intro rfl trivial)) fun j => ?_
  refine wpn_q hO 2 [] [(0, .slice A0 p0.length c0), (1, .int .i64 p1), (8, .slice A0 p0.length c0), (9, .int .i64 p1)] (And.intro rfl (And.intro rfl (And.intro rfl (And.intro rfl trivial)))) fun j => ?_
  obtain ⟨c1, h2, hF⟩ := bind_some hF
  refine wpn_c0 hO (w_ref01_have r0 h2) rfl fun _ σ _ _ hO h3 h4 => ?_
  have hL := hL.trans h3
  have r0 := r0.le h3
  obtain ⟨rfl, rfl⟩ := h4
  have hO : Obs _ _ [] := hO
  refine wpn_qa hO [] [(0, .slice A0 p0.length c0), (1, .int .i64 p1), (7, .int .i64 c1)] (And.intro rfl (And.intro rfl (And.intro rfl trivial))) fun j => ?_
  refine wpn_assoc ?_
  refine wpn_qa hO [] [(0, .slice A0 p0.length c0), (1, .int .i64 p1), (7, .int .i64 c1), (12, .bool (c1 != 0))] (And.intro rfl (And.intro rfl (And.intro rfl (And.intro rfl trivial)))) fun j => ?_
  rcases ite_some hF with ⟨hb5, hF⟩ | ⟨hb5, hF⟩
  · refine wpn_cT (congrArg Value.bool hb5) ?_
    refine wpn_assoc ?_
    refine wpn_qa hO [] [(4, .int .u8 0), (5, .int .i64 0), (6, .int .i64 c1)] (And.intro rfl (And.intro rfl (And.intro rfl trivial))) fun j => ?_
    refine wpn_rt ?_
    injection hF with hF
    subst hF
    exact hQ _ _ _ _ _ rfl hO hL ⟨rfl, rfl⟩
  · refine wpn_cF (congrArg Value.bool hb5) ?_
    refine wpn_sk ?_
    refine wpn_q hO 2 [] [(1, .int .i64 p1), (14, .slice A0 p0.length c0), (15, .int .i64 p1)] (And.intro rfl (And.intro rfl (And.intro rfl trivial))) fun j => ?_
    obtain ⟨y6, g7, hF⟩ := bind_some hF
    refine wpn_idx (T := Ty.u8) r0 hO.base rfl rfl g7 (by decide) fun a8 _ k9 m10 => ?_
    obtain rfl : _ = ([.int .u8 y6.toNat] : List Value) := k9
    refine wpn_ld rfl m10.fst ?_
    refine wpn_qa hO [] [(4, .int .u8 (y6.toNat : Int)), (5, .int .i64 (IntKind.i64.wrap (p1 + 1))), (6, .int .i64 0)] (And.intro rfl (And.intro rfl (And.intro rfl trivial))) fun j => ?_
    refine wpn_r1 ?_
    injection hF with hF
    subst hF
    exact hQ _ _ _ _ _ rfl hO hL ⟨rfl, rfl⟩

/-! theodolite/theodoliteref01.Place -/
theorem w_ref01_Place {τ : Hp} {v0 : Value} {p0 : (List UInt8)} {p1 : Int} (r0 : RdT Ty.u8 τ v0 p0) {rr : Int × Int × Int} (hF : F_ref01_Place p0 p1 = some rr) :
    Ctr Try.prog 35 #[v0, .int .i64 p1] τ [] (fun v τ' vs' => v = .tuple #[.int .i64 rr.1, .int .i64 rr.2.1, .int .i64 rr.2.2] ∧ vs' = []) := by
  obtain ⟨A0, c0, rfl, -⟩ := r0.form
  refine ctr_of (args := [.slice A0 p0.length c0, .int .i64 p1]) hm Try.func35 s35 rfl fun w0 σ hO Q hQ => ?_
  unfold F_ref01_Place at hF
  have hL := Hp.le.refl τ
  show wpn _ _ a35.body _ _ _
  unfold a35
  dsimp only
  refine wpn_qa hO [] [(0, .slice A0 p0.length c0), (1, .int .i64 p1)] (And.intro rfl (And.intro rfl trivial)) fun j => ?_
  refine wpn_q hO 2 [] [(0, .slice A0 p0.length c0), (1, .int .i64 p1), (8, .slice A0 p0.length c0), (9, .int .i64 p1)] (And.intro rfl (And.intro rfl (And.intro rfl (And.intro rfl trivial)))) fun j => ?_
  obtain ⟨c1, h2, hF⟩ := bind_some hF
  refine wpn_c0 hO (w_ref01_have r0 h2) rfl fun _ σ _ _ hO h3 h4 => ?_
  have hL := hL.trans h3
  have r0 := r0.le h3
  obtain ⟨rfl, rfl⟩ := h4
  have hO : Obs _ _ [] := hO
  refine wpn_qa hO [] [(0, .slice A0 p0.length c0), (1, .int .i64 p1), (7, .int .i64 c1)] (And.intro rfl (And.intro rfl (And.intro rfl trivial))) fun j => ?_
  refine wpn_assoc ?_
  refine wpn_qa hO [] [(0, .slice A0 p0.length c0), (1, .int .i64 p1), (7, .int .i64 c1), (12, .bool (c1 != 0))] (And.intro rfl (And.intro rfl (And.intro rfl (And.intro rfl trivial)))) fun j => ?_
  rcases ite_some hF with ⟨hb5, hF⟩ | ⟨hb5, hF⟩
  · refine wpn_cT (congrArg Value.bool hb5) ?_
    refine wpn_assoc ?_
    refine wpn_qa hO [] [(4, .int .i64 0), (5, .int .i64 0), (6, .int .i64 c1)] (And.intro rfl (And.intro rfl (And.intro rfl trivial))) fun j => ?_
    refine wpn_rt ?_
    injection hF with hF
    subst hF
    exact hQ _ _ _ _ _ rfl hO hL ⟨rfl, rfl⟩
  · refine wpn_cF (congrArg Value.bool hb5) ?_
    refine wpn_sk ?_
    refine wpn_p2r ?_
    refine wpn_q hO 2 [] [(0, .slice A0 p0.length c0), (1, .int .i64 p1), (14, .slice A0 p0.length c0), (15, .int .i64 p1)] (And.intro rfl (And.intro rfl (And.intro rfl (And.intro rfl trivial)))) fun j => ?_
    obtain ⟨y6, g7, hF⟩ := bind_some hF
    refine wpn_idx (T := Ty.u8) r0 hO.base rfl rfl g7 (by decide) fun a8 _ k9 m10 => ?_
    obtain rfl : _ = ([.int .u8 y6.toNat] : List Value) := k9
    refine wpn_ld rfl m10.fst ?_
    refine wpn_q hO 5 [] [(0, .slice A0 p0.length c0), (1, .int .i64 p1), (19, .int .i64 (IntKind.i64.wrap (65536 * (IntKind.i64.wrap (y6.toNat : Int))))), (20, .slice A0 p0.length c0), (22, .int .i64 (IntKind.i64.wrap (p1 + 1)))] (And.intro rfl (And.intro rfl (And.intro rfl (And.intro rfl (And.intro rfl trivial))))) fun j => ?_
    obtain ⟨y11, g12, hF⟩ := bind_some hF
    refine wpn_idx (T := Ty.u8) r0 hO.base rfl rfl g12 (by decide) fun a13 _ k14 m15 => ?_
    obtain rfl : _ = ([.int .u8 y11.toNat] : List Value) := k14
    refine wpn_ld rfl m15.fst ?_
    refine wpn_q hO 6 [] [(1, .int .i64 p1), (27, .int .i64 (IntKind.i64.wrap ((IntKind.i64.wrap (65536 * (IntKind.i64.wrap (y6.toNat : Int)))) + (IntKind.i64.wrap (256 * (IntKind.i64.wrap (y11.toNat : Int))))))), (28, .slice A0 p0.length c0), (30, .int .i64 (IntKind.i64.wrap (p1 + 2)))] (And.intro rfl (And.intro rfl (And.intro rfl (And.intro rfl trivial)))) fun j => ?_
    obtain ⟨y16, g17, hF⟩ := bind_some hF
    refine wpn_idx (T := Ty.u8) r0 hO.base rfl rfl g17 (by decide) fun a18 _ k19 m20 => ?_
    obtain rfl : _ = ([.int .u8 y16.toNat] : List Value) := k19
    refine wpn_ld rfl m20.fst ?_
    refine wpn_qa hO [] [(4, .int .i64 (IntKind.i64.wrap ((IntKind.i64.wrap ((IntKind.i64.wrap (65536 * (IntKind.i64.wrap (y6.toNat : Int)))) + (IntKind.i64.wrap (256 * (IntKind.i64.wrap (y11.toNat : Int)))))) + (IntKind.i64.wrap (y16.toNat : Int))))), (5, .int .i64 (IntKind.i64.wrap (p1 + 3))), (6, .int .i64 0)] (And.intro rfl (And.intro rfl (And.intro rfl trivial))) fun j => ?_
    refine wpn_r1 ?_
    injection hF with hF
    subst hF
    exact hQ _ _ _ _ _ rfl hO hL ⟨rfl, rfl⟩

/-! theodolite/theodoliteref01.Text -/
theorem w_ref01_Text {τ : Hp} {v0 : Value} {p0 : (List UInt8)} {p1 : Int} (r0 : RdT Ty.u8 τ v0 p0) {rr : ByteArray × Int × Int} (hF : F_ref01_Text p0 p1 = some rr) :
    Ctr Try.prog 37 #[v0, .int .i64 p1] τ [] (fun v τ' vs' => v = .tuple #[.string rr.1, .int .i64 rr.2.1, .int .i64 rr.2.2] ∧ vs' = []) := by
  obtain ⟨A0, c0, rfl, -⟩ := r0.form
  refine ctr_of (args := [.slice A0 p0.length c0, .int .i64 p1]) hm Try.func37 s37 rfl fun w0 σ hO Q hQ => ?_
  unfold F_ref01_Text at hF
  have hL := Hp.le.refl τ
  show wpn _ _ a37.body _ _ _
  unfold a37
  dsimp only
  refine wpn_qa hO [] [(0, .slice A0 p0.length c0), (1, .int .i64 p1)] (And.intro rfl (And.intro rfl trivial)) fun j => ?_
  refine wpn_q hO 2 [] [(0, .slice A0 p0.length c0), (13, .slice A0 p0.length c0), (14, .int .i64 p1)] (And.intro rfl (And.intro rfl (And.intro rfl trivial))) fun j => ?_
  obtain ⟨c1, h2, hF⟩ := bind_some hF
  refine wpn_c0 hO (w_ref01_One r0 h2) rfl fun _ σ _ _ hO h3 h4 => ?_
  have hL := hL.trans h3
  have r0 := r0.le h3
  obtain ⟨rfl, rfl⟩ := h4
  have hO : Obs _ _ [] := hO
  refine wpn_qa hO [] [(0, .slice A0 p0.length c0), (7, .int .u8 c1.1), (8, .int .i64 c1.2.1), (9, .int .i64 c1.2.2)] (And.intro rfl (And.intro rfl (And.intro rfl (And.intro rfl trivial)))) fun j => ?_
  refine wpn_assoc ?_
  refine wpn_qa hO [] [(0, .slice A0 p0.length c0), (7, .int .u8 c1.1), (8, .int .i64 c1.2.1), (9, .int .i64 c1.2.2), (20, .bool (c1.2.2 == 0))] (And.intro rfl (And.intro rfl (And.intro rfl (And.intro rfl (And.intro rfl trivial))))) fun j => ?_
  refine wpn_cut (fun e' σ' => ∃ (x11 : Int) (τ' : Hp), agr [(0, .slice A0 p0.length c0), (7, .int .u8 c1.1), (8, .int .i64 c1.2.1), (9, .int .i64 x11)] e' ∧ Obs τ' σ' [] ∧ Hp.le τ τ' ∧ RdT Ty.u8 τ' (.slice A0 p0.length c0) p0 ∧ F_ref01_Text_k5 p0 c1 x11 = some rr) ?_ ?_
  · refine wpn_clast ?_
    rcases ite_some hF with ⟨hb42, hF⟩ | ⟨hb42, hF⟩
    · refine wpn_cT (congrArg Value.bool hb42) ?_
      refine wpn_q hO 4 [] [(0, .slice A0 p0.length c0), (7, .int .u8 c1.1), (8, .int .i64 c1.2.1), (21, .slice A0 p0.length c0), (22, .int .i64 c1.2.1), (24, .int .i64 (IntKind.i64.wrap c1.1))] (And.intro rfl (And.intro rfl (And.intro rfl (And.intro rfl (And.intro rfl (And.intro rfl trivial)))))) fun j => ?_
      obtain ⟨c43, h44, hF⟩ := bind_some hF
      refine wpn_c0 hO (w_ref01_have r0 h44) rfl fun _ σ _ _ hO h45 h46 => ?_
      have hL := hL.trans h45
      have r0 := r0.le h45
      obtain ⟨rfl, rfl⟩ := h46
      have hO : Obs _ _ [] := hO
      refine wpn_qa hO [] [(0, .slice A0 p0.length c0), (7, .int .u8 c1.1), (8, .int .i64 c1.2.1), (9, .int .i64 c43)] (And.intro rfl (And.intro rfl (And.intro rfl (And.intro rfl trivial)))) fun j => ?_
      refine wpn_end ?_
      refine thn_i ?_
      exact ⟨c43, _, And.intro rfl (And.intro rfl (And.intro rfl (And.intro rfl trivial))), hO, hL, r0, hF⟩
    · refine wpn_cF (congrArg Value.bool hb42) ?_
      refine wpn_sk ?_
      refine wpn_end ?_
      refine thn_i ?_
      exact ⟨c1.2.2, _, And.intro rfl (And.intro rfl (And.intro rfl (And.intro rfl trivial))), hO, hL, r0, hF⟩
  · rintro e σ ⟨x11, _, hA, hO, hL, r10, hF⟩
    rw [← sets_agr _ _ hA]
    unfold F_ref01_Text_k5 at hF
    refine wpn_assoc ?_
    refine wpn_qa hO [] [(0, .slice A0 p0.length c0), (7, .int .u8 c1.1), (8, .int .i64 c1.2.1), (9, .int .i64 x11), (27, .bool (x11 != 0))] (And.intro rfl (And.intro rfl (And.intro rfl (And.intro rfl (And.intro rfl trivial))))) fun j => ?_
    rcases ite_some hF with ⟨hb12, hF⟩ | ⟨hb12, hF⟩
    · refine wpn_cT (congrArg Value.bool hb12) ?_
      refine wpn_assoc ?_
      refine wpn_qa hO [] [(4, .string (⟨#[]⟩ : ByteArray)), (5, .int .i64 0), (6, .int .i64 x11)] (And.intro rfl (And.intro rfl (And.intro rfl trivial))) fun j => ?_
      refine wpn_rt ?_
      injection hF with hF
      subst hF
      exact hQ _ _ _ _ _ rfl hO hL ⟨rfl, rfl⟩
    · refine wpn_cF (congrArg Value.bool hb12) ?_
      refine wpn_sk ?_
      refine wpn_qa hO [] [(0, .slice A0 p0.length c0), (7, .int .u8 c1.1), (8, .int .i64 c1.2.1), (10, .string (⟨#[]⟩ : ByteArray))] (And.intro rfl (And.intro rfl (And.intro rfl (And.intro rfl trivial)))) fun j => ?_
      refine wpn_assoc ?_
      refine wpn_qa hO [] [(0, .slice A0 p0.length c0), (7, .int .u8 c1.1), (8, .int .i64 c1.2.1), (10, .string (⟨#[]⟩ : ByteArray)), (11, .int .i64 0)] (And.intro rfl (And.intro rfl (And.intro rfl (And.intro rfl (And.intro rfl trivial))))) fun j => ?_
      refine wpn_bl ?_
      refine wpn_lp (fun (n : Nat) e' σ' => ∃ (x23 : ByteArray) (x24 : Int) (τ' : Hp), agr [(0, .slice A0 p0.length c0), (7, .int .u8 c1.1), (8, .int .i64 c1.2.1), (10, .string x23), (11, .int .i64 x24)] e' ∧ Obs τ' σ' [] ∧ Hp.le τ τ' ∧ RdT Ty.u8 τ' (.slice A0 p0.length c0) p0 ∧ F_ref01_Text_l5 p0 c1 n x23 x24 = some rr) big ⟨(⟨#[]⟩ : ByteArray), 0, _, And.intro rfl (And.intro rfl (And.intro rfl (And.intro rfl (And.intro rfl trivial)))), hO, hL, r10, hF⟩ ?_
      clear hF hO hL
      rintro n33 e σ ⟨x23, x24, _, hA, hO, hL, r22, hF⟩
      rw [← sets_agr _ _ hA]
      cases n33 with
      | zero => exact nomatch (show none = some rr from hF)
      | succ n33 =>
        replace hF : F_ref01_Text_l5B (F_ref01_Text_l5 p0 c1 n33) p0 c1 x23 x24 = some rr := hF
        unfold F_ref01_Text_l5B at hF
        refine wpn_assoc ?_
        refine wpn_qa hO [] [(0, .slice A0 p0.length c0), (7, .int .u8 c1.1), (8, .int .i64 c1.2.1), (10, .string x23), (11, .int .i64 x24), (32, .bool (decide (x24 < (IntKind.i64.wrap c1.1))))] (And.intro rfl (And.intro rfl (And.intro rfl (And.intro rfl (And.intro rfl (And.intro rfl trivial)))))) fun j => ?_
        rcases ite_some hF with ⟨hb34, hF⟩ | ⟨hb34, hF⟩
        · refine wpn_cT (congrArg Value.bool hb34) ?_
          refine wpn_sk ?_
          refine wpn_bl ?_
          refine wpn_rlast ?_
          refine wpn_q hO 9 [] [(0, .slice A0 p0.length c0), (7, .int .u8 c1.1), (8, .int .i64 c1.2.1), (11, .int .i64 x24), (35, .string x23), (36, .slice A0 p0.length c0), (39, .int .i64 (IntKind.i64.wrap (c1.2.1 + x24))), (43, .int .i64 (IntKind.i64.wrap ((IntKind.i64.wrap (c1.2.1 + x24)) + 1)))] (And.intro rfl (And.intro rfl (And.intro rfl (And.intro rfl (And.intro rfl (And.intro rfl (And.intro rfl (And.intro rfl trivial)))))))) fun j => ?_
          obtain ⟨y35, g36, hF⟩ := bind_some hF
          refine wpn_sl (T := Ty.u8) r22 rfl rfl rfl g36 fun _ r37 => ?_
          obtain ⟨A38, c39, rfl, -⟩ := r37.form
          refine wpn_ts (l := y35) (r37.le hO.base) rfl ?_
          obtain ⟨y40, g41, hF⟩ := bind_some hF
          refine wpn_bn (catS_bin g41) ?_
          refine wpn_qa hO [] [(0, .slice A0 p0.length c0), (7, .int .u8 c1.1), (8, .int .i64 c1.2.1), (10, .string y40), (11, .int .i64 x24)] (And.intro rfl (And.intro rfl (And.intro rfl (And.intro rfl (And.intro rfl trivial))))) fun j => ?_
          refine wpn_end ?_
          refine inb_i ?_
          refine thn_i ?_
          refine wpn_rlast ?_
          refine wpn_qa hO [] [(0, .slice A0 p0.length c0), (7, .int .u8 c1.1), (8, .int .i64 c1.2.1), (10, .string y40), (11, .int .i64 (IntKind.i64.wrap (x24 + 1)))] (And.intro rfl (And.intro rfl (And.intro rfl (And.intro rfl (And.intro rfl trivial))))) fun j => ?_
          refine wpn_end ?_
          refine thn_i ?_
          exact ⟨n33, Nat.lt_succ_self _, y40, (IntKind.i64.wrap (x24 + 1)), _, And.intro rfl (And.intro rfl (And.intro rfl (And.intro rfl (And.intro rfl trivial)))), hO, hL, r22, hF⟩
        · refine wpn_cF (congrArg Value.bool hb34) ?_
          refine wpn_ex ?_
          refine thn_x ?_
          refine inb_x ?_
          refine thn_i ?_
          refine wpn_qa hO [] [(4, .string x23), (5, .int .i64 (IntKind.i64.wrap (c1.2.1 + (IntKind.i64.wrap c1.1)))), (6, .int .i64 0)] (And.intro rfl (And.intro rfl (And.intro rfl trivial))) fun j => ?_
          refine wpn_r1 ?_
          injection hF with hF
          subst hF
          exact hQ _ _ _ _ _ rfl hO hL ⟨rfl, rfl⟩

/-! theodolite/theodolitelaw01.still -/
theorem w_law01_still {τ : Hp} {v0 : Value} {p0 : (List UInt8)} {q0 : (List UInt8)} {v1 : Value} {p1 : (List UInt8)} (r0 : RdT Ty.u8 τ v0 p0) (f0 : Full Ty.u8 τ v0 q0) (r1 : RdT Ty.u8 τ v1 p1) {rr : Bool} (hF : F_law01_still p0 q0 p1 = some rr) :
    Ctr Try.prog 38 #[v0, v1] τ [] (fun v τ' vs' => v = .bool rr ∧ vs' = []) := by
  obtain ⟨A0, n0, rfl, f0⟩ := f0
  obtain ⟨_, _, hv0, -⟩ := r0.form
  injection hv0 with _ hv0 _
  subst hv0
  have f0 : Full Ty.u8 τ (.slice A0 p0.length q0.length) q0 := ⟨_, _, rfl, f0⟩
  obtain ⟨A1, c1, rfl, -⟩ := r1.form
  refine ctr_of (args := [.slice A0 p0.length q0.length, .slice A1 p1.length c1]) hm Try.func38 s38 rfl fun w0 σ hO Q hQ => ?_
  unfold F_law01_still at hF
  have hL := Hp.le.refl τ
  show wpn _ _ a38.body _ _ _
  unfold a38
  dsimp only
  refine wpn_qa hO [] [(0, .slice A0 p0.length q0.length), (1, .slice A1 p1.length c1)] (And.intro rfl (And.intro rfl trivial)) fun j => ?_
  refine wpn_q hO 3 [] [(0, .slice A0 p0.length q0.length), (1, .slice A1 p1.length c1), (8, .slice A0 p0.length q0.length), (10, .int .i64 (q0.length : Int))] (And.intro rfl (And.intro rfl (And.intro rfl (And.intro rfl trivial)))) fun j => ?_
  obtain ⟨y1, g2, hF⟩ := bind_some hF
  refine wpn_slf (T := Ty.u8) f0 rfl rfl g2 fun _ r3 => ?_
  obtain ⟨A4, c5, rfl, -⟩ := r3.form
  refine wpn_qa hO [] [(0, .slice A0 p0.length q0.length), (1, .slice A1 p1.length c1), (5, .slice A4 y1.length c5)] (And.intro rfl (And.intro rfl (And.intro rfl trivial))) fun j => ?_
  refine wpn_assoc ?_
  refine wpn_qa hO [] [(0, .slice A0 p0.length q0.length), (1, .slice A1 p1.length c1), (5, .slice A4 y1.length c5), (6, .int .i64 0)] (And.intro rfl (And.intro rfl (And.intro rfl (And.intro rfl trivial)))) fun j => ?_
  refine wpn_bl ?_
  refine wpn_lp (fun (n : Nat) e' σ' => ∃ (x38 : Int) (τ' : Hp), agr [(0, .slice A0 p0.length q0.length), (1, .slice A1 p1.length c1), (5, .slice A4 y1.length c5), (6, .int .i64 x38)] e' ∧ Obs τ' σ' [] ∧ Hp.le τ τ' ∧ RdT Ty.u8 τ' (.slice A0 p0.length q0.length) p0 ∧ Full Ty.u8 τ' (.slice A0 p0.length q0.length) q0 ∧ RdT Ty.u8 τ' (.slice A1 p1.length c1) p1 ∧ RdT Ty.u8 τ' (.slice A4 y1.length c5) y1 ∧ F_law01_still_l8 p0 p1 y1 n x38 = some rr) big ⟨0, _, And.intro rfl (And.intro rfl (And.intro rfl (And.intro rfl trivial))), hO, hL, r0, f0, r1, r3, hF⟩ ?_
  clear hF hO hL
  rintro n63 e σ ⟨x38, _, hA, hO, hL, r34, f35, r36, r37, hF⟩
  rw [← sets_agr _ _ hA]
  cases n63 with
  | zero => exact nomatch (show none = some rr from hF)
  | succ n63 =>
    replace hF : F_law01_still_l8B (F_law01_still_l8 p0 p1 y1 n63) p0 p1 y1 x38 = some rr := hF
    unfold F_law01_still_l8B at hF
    refine wpn_assoc ?_
    refine wpn_qa hO [] [(0, .slice A0 p0.length q0.length), (1, .slice A1 p1.length c1), (5, .slice A4 y1.length c5), (6, .int .i64 x38), (15, .bool (decide (x38 < (y1.length : Int))))] (And.intro rfl (And.intro rfl (And.intro rfl (And.intro rfl (And.intro rfl trivial))))) fun j => ?_
    rcases ite_some hF with ⟨hb64, hF⟩ | ⟨hb64, hF⟩
    · refine wpn_cT (congrArg Value.bool hb64) ?_
      refine wpn_sk ?_
      refine wpn_bl ?_
      refine wpn_qa hO [] [(0, .slice A0 p0.length q0.length), (1, .slice A1 p1.length c1), (5, .slice A4 y1.length c5), (6, .int .i64 x38), (7, .int .u8 0)] (And.intro rfl (And.intro rfl (And.intro rfl (And.intro rfl (And.intro rfl trivial))))) fun j => ?_
      refine wpn_assoc ?_
      refine wpn_qa hO [] [(0, .slice A0 p0.length q0.length), (1, .slice A1 p1.length c1), (5, .slice A4 y1.length c5), (6, .int .i64 x38), (7, .int .u8 0), (21, .bool (decide (x38 < (p1.length : Int))))] (And.intro rfl (And.intro rfl (And.intro rfl (And.intro rfl (And.intro rfl (And.intro rfl trivial)))))) fun j => ?_
      refine wpn_cut (fun e' σ' => ∃ (x75 : Int) (τ' : Hp), agr [(0, .slice A0 p0.length q0.length), (1, .slice A1 p1.length c1), (5, .slice A4 y1.length c5), (6, .int .i64 x38), (7, .int .u8 x75)] e' ∧ Obs τ' σ' [] ∧ Hp.le τ τ' ∧ RdT Ty.u8 τ' (.slice A0 p0.length q0.length) p0 ∧ Full Ty.u8 τ' (.slice A0 p0.length q0.length) q0 ∧ RdT Ty.u8 τ' (.slice A1 p1.length c1) p1 ∧ RdT Ty.u8 τ' (.slice A4 y1.length c5) y1 ∧ F_law01_still_k11 (F_law01_still_l8 p0 p1 y1 n63) y1 x38 x75 = some rr) ?_ ?_
      · refine wpn_clast ?_
        rcases ite_some hF with ⟨hb82, hF⟩ | ⟨hb82, hF⟩
        · refine wpn_cT (congrArg Value.bool hb82) ?_
          refine wpn_q hO 2 [] [(0, .slice A0 p0.length q0.length), (1, .slice A1 p1.length c1), (5, .slice A4 y1.length c5), (6, .int .i64 x38), (22, .slice A1 p1.length c1), (23, .int .i64 x38)] (And.intro rfl (And.intro rfl (And.intro rfl (And.intro rfl (And.intro rfl (And.intro rfl trivial)))))) fun j => ?_
          obtain ⟨y83, g84, hF⟩ := bind_some hF
          refine wpn_idx (T := Ty.u8) r36 hO.base rfl rfl g84 (by decide) fun a85 _ k86 m87 => ?_
          obtain rfl : _ = ([.int .u8 y83.toNat] : List Value) := k86
          refine wpn_ld rfl m87.fst ?_
          refine wpn_qa hO [] [(0, .slice A0 p0.length q0.length), (1, .slice A1 p1.length c1), (5, .slice A4 y1.length c5), (6, .int .i64 x38), (7, .int .u8 (y83.toNat : Int))] (And.intro rfl (And.intro rfl (And.intro rfl (And.intro rfl (And.intro rfl trivial))))) fun j => ?_
          refine wpn_end ?_
          refine thn_i ?_
          exact ⟨(y83.toNat : Int), _, And.intro rfl (And.intro rfl (And.intro rfl (And.intro rfl (And.intro rfl trivial)))), hO, hL, r34, f35, r36, r37, hF⟩
        · refine wpn_cF (congrArg Value.bool hb82) ?_
          refine wpn_sk ?_
          refine wpn_end ?_
          refine thn_i ?_
          exact ⟨0, _, And.intro rfl (And.intro rfl (And.intro rfl (And.intro rfl (And.intro rfl trivial)))), hO, hL, r34, f35, r36, r37, hF⟩
      · rintro e σ ⟨x75, _, hA, hO, hL, r71, f72, r73, r74, hF⟩
        rw [← sets_agr _ _ hA]
        unfold F_law01_still_k11 at hF
        refine wpn_q hO 2 [] [(0, .slice A0 p0.length q0.length), (1, .slice A1 p1.length c1), (5, .slice A4 y1.length c5), (6, .int .i64 x38), (7, .int .u8 x75), (26, .slice A4 y1.length c5), (27, .int .i64 x38)] (And.intro rfl (And.intro rfl (And.intro rfl (And.intro rfl (And.intro rfl (And.intro rfl (And.intro rfl trivial))))))) fun j => ?_
        obtain ⟨y76, g77, hF⟩ := bind_some hF
        refine wpn_idx (T := Ty.u8) r74 hO.base rfl rfl g77 (by decide) fun a78 _ k79 m80 => ?_
        obtain rfl : _ = ([.int .u8 y76.toNat] : List Value) := k79
        refine wpn_ld rfl m80.fst ?_
        refine wpn_qa hO [] [(0, .slice A0 p0.length q0.length), (1, .slice A1 p1.length c1), (5, .slice A4 y1.length c5), (6, .int .i64 x38), (31, .bool ((y76.toNat : Int) != x75))] (And.intro rfl (And.intro rfl (And.intro rfl (And.intro rfl (And.intro rfl trivial))))) fun j => ?_
        refine wpn_clast ?_
        rcases ite_some hF with ⟨hb81, hF⟩ | ⟨hb81, hF⟩
        · refine wpn_cT (congrArg Value.bool hb81) ?_
          refine wpn_assoc ?_
          refine wpn_qa hO [] [(4, .bool false)] (And.intro rfl trivial) fun j => ?_
          refine wpn_rt ?_
          refine inb_r1 ?_
          refine thn_r1 ?_
          refine thn_r1 ?_
          refine inb_r1 ?_
          refine thn_r1 ?_
          injection hF with hF
          subst hF
          exact hQ _ _ _ _ _ rfl hO hL ⟨rfl, rfl⟩
        · refine wpn_cF (congrArg Value.bool hb81) ?_
          refine wpn_sk ?_
          refine wpn_end ?_
          refine inb_i ?_
          refine thn_i ?_
          refine wpn_rlast ?_
          refine wpn_qa hO [] [(0, .slice A0 p0.length q0.length), (1, .slice A1 p1.length c1), (5, .slice A4 y1.length c5), (6, .int .i64 (IntKind.i64.wrap (x38 + 1)))] (And.intro rfl (And.intro rfl (And.intro rfl (And.intro rfl trivial)))) fun j => ?_
          refine wpn_end ?_
          refine thn_i ?_
          exact ⟨n63, Nat.lt_succ_self _, (IntKind.i64.wrap (x38 + 1)), _, And.intro rfl (And.intro rfl (And.intro rfl (And.intro rfl trivial))), hO, hL, r71, f72, r73, r74, hF⟩
    · refine wpn_cF (congrArg Value.bool hb64) ?_
      refine wpn_ex ?_
      refine thn_x ?_
      refine inb_x ?_
      refine thn_i ?_
      refine wpn_qa hO [] [(4, .bool ((p0.length : Int) == (p1.length : Int)))] (And.intro rfl trivial) fun j => ?_
      refine wpn_r1 ?_
      injection hF with hF
      subst hF
      exact hQ _ _ _ _ _ rfl hO hL ⟨rfl, rfl⟩

/-! theodolite/theodolitelaw01.OctetReads -/
theorem w_law01_OctetReads {τ : Hp} {v0 : Value} {p0 : (List UInt8)} {p1 : Int} (r0 : RdT Ty.u8 τ v0 p0) {rr : Bool} (hF : F_law01_OctetReads p0 p1 = some rr) :
    Ctr Try.prog 9 #[v0, .int .i64 p1] τ [] (fun v τ' vs' => v = .bool rr ∧ vs' = []) := by
  obtain ⟨A0, c0, rfl, -⟩ := r0.form
  refine ctr_of (args := [.slice A0 p0.length c0, .int .i64 p1]) hm Try.func9 s9 rfl fun w0 σ hO Q hQ => ?_
  unfold F_law01_OctetReads at hF
  have hL := Hp.le.refl τ
  show wpn _ _ a9.body _ _ _
  unfold a9
  dsimp only
  refine wpn_qa hO [] [(0, .slice A0 p0.length c0), (1, .int .i64 p1)] (And.intro rfl (And.intro rfl trivial)) fun j => ?_
  refine wpn_assoc ?_
  refine wpn_qa hO [] [(0, .slice A0 p0.length c0), (1, .int .i64 p1), (18, .bool (decide ((p0.length : Int) > 65536)))] (And.intro rfl (And.intro rfl (And.intro rfl trivial))) fun j => ?_
  rcases ite_some hF with ⟨hb1, hF⟩ | ⟨hb1, hF⟩
  · refine wpn_cT (congrArg Value.bool hb1) ?_
    refine wpn_assoc ?_
    obtain ⟨c2, h3, hF⟩ := bind_some hF
    refine wpn_c0 hO (w_law01_works h3) rfl fun _ σ _ _ hO h4 h5 => ?_
    have hL := hL.trans h4
    have r0 := r0.le h4
    obtain ⟨rfl, rfl⟩ := h5
    have hO : Obs _ _ [] := hO
    refine wpn_qa hO [] [(4, .bool c2)] (And.intro rfl trivial) fun j => ?_
    refine wpn_rt ?_
    injection hF with hF
    subst hF
    exact hQ _ _ _ _ _ rfl hO hL ⟨rfl, rfl⟩
  · refine wpn_cF (congrArg Value.bool hb1) ?_
    refine wpn_sk ?_
    refine wpn_q hO 1 [] [(0, .slice A0 p0.length c0), (1, .int .i64 p1), (20, .slice A0 p0.length c0)] (And.intro rfl (And.intro rfl (And.intro rfl trivial))) fun j => ?_
    obtain ⟨c6, h7, hF⟩ := bind_some hF
    refine wpn_c0 hO (w_law01_mine r0 h7) rfl fun _ σ _ _ hO h8 h9 => ?_
    have hL := hL.trans h8
    have r0 := r0.le h8
    obtain ⟨v10, rfl, rfl, r13, f14⟩ := h9
    obtain ⟨A11, n15, rfl, f14⟩ := f14
    obtain ⟨_, _, h16, -⟩ := r13.form
    injection h16 with _ h16 _
    subst h16
    have f14 : Full Ty.u8 _ (.slice A11 c6.1.length c6.2.length) c6.2 := ⟨_, _, rfl, f14⟩
    have hO : Obs _ _ [] := hO
    refine wpn_qa hO [] [(0, .slice A0 p0.length c0), (1, .int .i64 p1), (5, .slice A11 c6.1.length c6.2.length)] (And.intro rfl (And.intro rfl (And.intro rfl trivial))) fun j => ?_
    refine wpn_q hO 2 [] [(0, .slice A0 p0.length c0), (1, .int .i64 p1), (5, .slice A11 c6.1.length c6.2.length), (23, .slice A11 c6.1.length c6.2.length), (24, .int .i64 p1)] (And.intro rfl (And.intro rfl (And.intro rfl (And.intro rfl (And.intro rfl trivial))))) fun j => ?_
    obtain ⟨c17, h18, hF⟩ := bind_some hF
    refine wpn_c0 hO (w_octet_One r13 h18) rfl fun _ σ _ _ hO h19 h20 => ?_
    have hL := hL.trans h19
    have r0 := r0.le h19
    have r13 := r13.le h19
    have f14 := f14.le h19
    obtain ⟨rfl, rfl⟩ := h20
    have hO : Obs _ _ [] := hO
    refine wpn_qa hO [] [(0, .slice A0 p0.length c0), (1, .int .i64 p1), (5, .slice A11 c6.1.length c6.2.length), (6, .int .u8 c17.1), (7, .int .i64 c17.2.1), (8, .int .i64 c17.2.2)] (And.intro rfl (And.intro rfl (And.intro rfl (And.intro rfl (And.intro rfl (And.intro rfl trivial)))))) fun j => ?_
    refine wpn_q hO 2 [] [(0, .slice A0 p0.length c0), (1, .int .i64 p1), (5, .slice A11 c6.1.length c6.2.length), (6, .int .u8 c17.1), (7, .int .i64 c17.2.1), (8, .int .i64 c17.2.2), (30, .slice A0 p0.length c0), (31, .int .i64 p1)] (And.intro rfl (And.intro rfl (And.intro rfl (And.intro rfl (And.intro rfl (And.intro rfl (And.intro rfl (And.intro rfl trivial)))))))) fun j => ?_
    obtain ⟨c21, h22, hF⟩ := bind_some hF
    refine wpn_c0 hO (w_ref01_One r0 h22) rfl fun _ σ _ _ hO h23 h24 => ?_
    have hL := hL.trans h23
    have r0 := r0.le h23
    have r13 := r13.le h23
    have f14 := f14.le h23
    obtain ⟨rfl, rfl⟩ := h24
    have hO : Obs _ _ [] := hO
    refine wpn_qa hO [] [(0, .slice A0 p0.length c0), (1, .int .i64 p1), (5, .slice A11 c6.1.length c6.2.length), (6, .int .u8 c17.1), (7, .int .i64 c17.2.1), (8, .int .i64 c17.2.2), (9, .int .u8 c21.1), (10, .int .i64 c21.2.1), (11, .int .i64 c21.2.2)] (And.intro rfl (And.intro rfl (And.intro rfl (And.intro rfl (And.intro rfl (And.intro rfl (And.intro rfl (And.intro rfl (And.intro rfl trivial))))))))) fun j => ?_
    refine wpn_assoc ?_
    refine wpn_qa hO [] [(0, .slice A0 p0.length c0), (1, .int .i64 p1), (5, .slice A11 c6.1.length c6.2.length), (48, .bool (((c17.1 != c21.1) || (c17.2.1 != c21.2.1)) || (c17.2.2 != c21.2.2)))] (And.intro (And.intro rfl rfl) (fun _ => And.intro (And.intro rfl rfl) (fun _ => And.intro rfl (And.intro rfl (And.intro rfl (And.intro rfl trivial)))))) fun j => ?_
    rcases ite_some hF with ⟨hb25, hF⟩ | ⟨hb25, hF⟩
    · refine wpn_cT (congrArg Value.bool hb25) ?_
      refine wpn_assoc ?_
      refine wpn_qa hO [] [(4, .bool false)] (And.intro rfl trivial) fun j => ?_
      refine wpn_rt ?_
      injection hF with hF
      subst hF
      exact hQ _ _ _ _ _ rfl hO hL ⟨rfl, rfl⟩
    · refine wpn_cF (congrArg Value.bool hb25) ?_
      refine wpn_sk ?_
      refine wpn_q hO 2 [] [(0, .slice A0 p0.length c0), (1, .int .i64 p1), (5, .slice A11 c6.1.length c6.2.length), (50, .slice A11 c6.1.length c6.2.length), (51, .int .i64 p1)] (And.intro rfl (And.intro rfl (And.intro rfl (And.intro rfl (And.intro rfl trivial))))) fun j => ?_
      obtain ⟨c26, h27, hF⟩ := bind_some hF
      refine wpn_c0 hO (w_octet_Place r13 h27) rfl fun _ σ _ _ hO h28 h29 => ?_
      have hL := hL.trans h28
      have r0 := r0.le h28
      have r13 := r13.le h28
      have f14 := f14.le h28
      obtain ⟨rfl, rfl⟩ := h29
      have hO : Obs _ _ [] := hO
      refine wpn_qa hO [] [(0, .slice A0 p0.length c0), (1, .int .i64 p1), (5, .slice A11 c6.1.length c6.2.length), (7, .int .i64 c26.2.1), (8, .int .i64 c26.2.2), (12, .int .i64 c26.1)] (And.intro rfl (And.intro rfl (And.intro rfl (And.intro rfl (And.intro rfl (And.intro rfl trivial)))))) fun j => ?_
      refine wpn_q hO 2 [] [(0, .slice A0 p0.length c0), (1, .int .i64 p1), (5, .slice A11 c6.1.length c6.2.length), (7, .int .i64 c26.2.1), (8, .int .i64 c26.2.2), (12, .int .i64 c26.1), (57, .slice A0 p0.length c0), (58, .int .i64 p1)] (And.intro rfl (And.intro rfl (And.intro rfl (And.intro rfl (And.intro rfl (And.intro rfl (And.intro rfl (And.intro rfl trivial)))))))) fun j => ?_
      obtain ⟨c30, h31, hF⟩ := bind_some hF
      refine wpn_c0 hO (w_ref01_Place r0 h31) rfl fun _ σ _ _ hO h32 h33 => ?_
      have hL := hL.trans h32
      have r0 := r0.le h32
      have r13 := r13.le h32
      have f14 := f14.le h32
      obtain ⟨rfl, rfl⟩ := h33
      have hO : Obs _ _ [] := hO
      refine wpn_qa hO [] [(0, .slice A0 p0.length c0), (1, .int .i64 p1), (5, .slice A11 c6.1.length c6.2.length), (7, .int .i64 c26.2.1), (8, .int .i64 c26.2.2), (10, .int .i64 c30.2.1), (11, .int .i64 c30.2.2), (12, .int .i64 c26.1), (13, .int .i64 c30.1)] (And.intro rfl (And.intro rfl (And.intro rfl (And.intro rfl (And.intro rfl (And.intro rfl (And.intro rfl (And.intro rfl (And.intro rfl trivial))))))))) fun j => ?_
      refine wpn_assoc ?_
      refine wpn_qa hO [] [(0, .slice A0 p0.length c0), (1, .int .i64 p1), (5, .slice A11 c6.1.length c6.2.length), (75, .bool (((c26.1 != c30.1) || (c26.2.1 != c30.2.1)) || (c26.2.2 != c30.2.2)))] (And.intro (And.intro rfl rfl) (fun _ => And.intro (And.intro rfl rfl) (fun _ => And.intro rfl (And.intro rfl (And.intro rfl (And.intro rfl trivial)))))) fun j => ?_
      rcases ite_some hF with ⟨hb34, hF⟩ | ⟨hb34, hF⟩
      · refine wpn_cT (congrArg Value.bool hb34) ?_
        refine wpn_assoc ?_
        refine wpn_qa hO [] [(4, .bool false)] (And.intro rfl trivial) fun j => ?_
        refine wpn_rt ?_
        injection hF with hF
        subst hF
        exact hQ _ _ _ _ _ rfl hO hL ⟨rfl, rfl⟩
      · refine wpn_cF (congrArg Value.bool hb34) ?_
        refine wpn_sk ?_
        refine wpn_q hO 2 [] [(0, .slice A0 p0.length c0), (1, .int .i64 p1), (5, .slice A11 c6.1.length c6.2.length), (77, .slice A11 c6.1.length c6.2.length), (78, .int .i64 p1)] (And.intro rfl (And.intro rfl (And.intro rfl (And.intro rfl (And.intro rfl trivial))))) fun j => ?_
        obtain ⟨c35, h36, hF⟩ := bind_some hF
        refine wpn_c0 hO (w_octet_Text r13 h36) rfl fun _ σ _ _ hO h37 h38 => ?_
        have hL := hL.trans h37
        have r0 := r0.le h37
        have r13 := r13.le h37
        have f14 := f14.le h37
        obtain ⟨rfl, rfl⟩ := h38
        have hO : Obs _ _ [] := hO
        refine wpn_qa hO [] [(0, .slice A0 p0.length c0), (1, .int .i64 p1), (5, .slice A11 c6.1.length c6.2.length), (7, .int .i64 c35.2.1), (8, .int .i64 c35.2.2), (14, .string c35.1)] (And.intro rfl (And.intro rfl (And.intro rfl (And.intro rfl (And.intro rfl (And.intro rfl trivial)))))) fun j => ?_
        refine wpn_q hO 2 [] [(0, .slice A0 p0.length c0), (5, .slice A11 c6.1.length c6.2.length), (7, .int .i64 c35.2.1), (8, .int .i64 c35.2.2), (14, .string c35.1), (84, .slice A0 p0.length c0), (85, .int .i64 p1)] (And.intro rfl (And.intro rfl (And.intro rfl (And.intro rfl (And.intro rfl (And.intro rfl (And.intro rfl trivial))))))) fun j => ?_
        obtain ⟨c39, h40, hF⟩ := bind_some hF
        refine wpn_c0 hO (w_ref01_Text r0 h40) rfl fun _ σ _ _ hO h41 h42 => ?_
        have hL := hL.trans h41
        have r0 := r0.le h41
        have r13 := r13.le h41
        have f14 := f14.le h41
        obtain ⟨rfl, rfl⟩ := h42
        have hO : Obs _ _ [] := hO
        refine wpn_qa hO [] [(0, .slice A0 p0.length c0), (5, .slice A11 c6.1.length c6.2.length), (7, .int .i64 c35.2.1), (8, .int .i64 c35.2.2), (10, .int .i64 c39.2.1), (11, .int .i64 c39.2.2), (14, .string c35.1), (15, .string c39.1)] (And.intro rfl (And.intro rfl (And.intro rfl (And.intro rfl (And.intro rfl (And.intro rfl (And.intro rfl (And.intro rfl trivial)))))))) fun j => ?_
        refine wpn_q hO 10 [] [(0, .slice A0 p0.length c0), (5, .slice A11 c6.1.length c6.2.length), (103, .bool (((strEq c35.1 c39.1) && (c35.2.1 == c39.2.1)) && (c35.2.2 == c39.2.2)))] (And.intro (And.intro rfl rfl) (fun _ => And.intro (And.intro rfl rfl) (fun _ => And.intro rfl (And.intro rfl (And.intro rfl trivial))))) fun j => ?_
        obtain ⟨c43, h44, hF⟩ := bind_some hF
        refine wpn_mid 2 (fun e' σ' => ∃ (τ' : Hp), agr [(107, .bool c43)] e' ∧ Obs τ' σ' [] ∧ Hp.le τ τ') ?_ ?_
        · have hF := h44
          rcases ite_some hF with ⟨hb45, hF⟩ | ⟨hb45, hF⟩
          · refine wpn_gT (congrArg (fun x => isB (.bool x) true) hb45) ?_
            refine wpn_q hO 2 [] [(103, .bool (((strEq c35.1 c39.1) && (c35.2.1 == c39.2.1)) && (c35.2.2 == c39.2.2))), (104, .slice A11 c6.1.length c6.2.length), (105, .slice A0 p0.length c0)] (And.intro rfl (And.intro rfl (And.intro rfl trivial))) fun j => ?_
            obtain ⟨c46, h47, hF⟩ := bind_some hF
            refine wpn_c0 hO (w_law01_still r13 f14 r0 h47) rfl fun _ σ _ _ hO h48 h49 => ?_
            have hL := hL.trans h48
            have r13 := r13.le h48
            have f14 := f14.le h48
            have r0 := r0.le h48
            obtain ⟨rfl, rfl⟩ := h49
            have hO : Obs _ _ [] := hO
            refine wpn_pk (congrArg Value.bool hb45) ?_
            refine wpn_nil ?_
            injection hF with hF
            subst hF
            refine wpn_end ?_
            exact ⟨rfl, _, And.intro rfl (trivial), hO, hL⟩
          · refine wpn_gF (congrArg (fun x => isB (.bool x) true) hb45) ?_
            refine wpn_pk (congrArg Value.bool hb45) ?_
            refine wpn_nil ?_
            injection hF with hF
            subst hF
            refine wpn_end ?_
            exact ⟨rfl, _, And.intro rfl (trivial), hO, hL⟩
        · rintro e σ ⟨_, hA, hO, hL⟩
          rw [← sets_agr _ _ hA]
          refine wpn_q hO 1 [] [(108, .bool c43)] (And.intro rfl trivial) fun j => ?_
          obtain ⟨c50, h51, hF⟩ := bind_some hF
          refine wpn_mid 2 (fun e' σ' => ∃ (τ' : Hp), agr [(110, .bool c50)] e' ∧ Obs τ' σ' [] ∧ Hp.le τ τ') ?_ ?_
          · have hF := h51
            rcases ite_some hF with ⟨hb52, hF⟩ | ⟨hb52, hF⟩
            · refine wpn_gT (congrArg (fun x => isB (.bool x) true) hb52) ?_
              obtain ⟨c53, h54, hF⟩ := bind_some hF
              refine wpn_c0 hO (w_law01_works h54) rfl fun _ σ _ _ hO h55 h56 => ?_
              have hL := hL.trans h55
              obtain ⟨rfl, rfl⟩ := h56
              have hO : Obs _ _ [] := hO
              refine wpn_pk (congrArg Value.bool hb52) ?_
              refine wpn_nil ?_
              injection hF with hF
              subst hF
              refine wpn_end ?_
              exact ⟨rfl, _, And.intro rfl (trivial), hO, hL⟩
            · refine wpn_gF (congrArg (fun x => isB (.bool x) true) hb52) ?_
              refine wpn_pk (congrArg Value.bool hb52) ?_
              refine wpn_nil ?_
              injection hF with hF
              subst hF
              refine wpn_end ?_
              exact ⟨rfl, _, And.intro rfl (trivial), hO, hL⟩
          · rintro e σ ⟨_, hA, hO, hL⟩
            rw [← sets_agr _ _ hA]
            refine wpn_qa hO [] [(4, .bool c50)] (And.intro rfl trivial) fun j => ?_
            refine wpn_r1 ?_
            injection hF with hF
            subst hF
            exact hQ _ _ _ _ _ rfl hO hL ⟨rfl, rfl⟩

/-! theodolite/theodoliteref01.PutPlace -/
theorem w_ref01_PutPlace {τ : Hp} {v0 : Value} {p0 : (List UInt8)} {p1 : Int} (r0 : RdT Ty.u8 τ v0 p0) {rr : (List UInt8) × Int} (hF : F_ref01_PutPlace p0 p1 = some rr) :
    Ctr Try.prog 40 #[v0, .int .i64 p1] τ [] (fun v τ' vs' => ∃ (v0 : Value) (o0 : Ob), v = .tuple #[v0, .int .i64 rr.2] ∧ vs' = [o0] ∧ OwnO Ty.u8 5 τ' v0 rr.1 o0) := by
  obtain ⟨A0, c0, rfl, -⟩ := r0.form
  refine ctr_of (args := [.slice A0 p0.length c0, .int .i64 p1]) hm Try.func40 s40 rfl fun w0 σ hO Q hQ => ?_
  unfold F_ref01_PutPlace at hF
  have hL := Hp.le.refl τ
  show wpn _ _ a40.body _ _ _
  unfold a40
  dsimp only
  refine wpn_qa hO [] [(0, .slice A0 p0.length c0), (1, .int .i64 p1)] (And.intro rfl (And.intro rfl trivial)) fun j => ?_
  refine wpn_assoc ?_
  refine wpn_qa hO [] [(0, .slice A0 p0.length c0), (1, .int .i64 p1), (11, .bool ((decide (p1 < 0)) || (decide (p1 ≥ 16777216))))] (And.intro (And.intro rfl rfl) (fun _ => And.intro rfl (And.intro rfl (And.intro rfl trivial)))) fun j => ?_
  rcases ite_some hF with ⟨hb1, hF⟩ | ⟨hb1, hF⟩
  · refine wpn_cT (congrArg Value.bool hb1) ?_
    refine wpn_assoc ?_
    refine wpn_qa hO [] [(4, .slice none 0 0), (5, .int .i64 1)] (And.intro rfl (And.intro rfl trivial)) fun j => ?_
    refine wpn_rt ?_
    have hO := hO.no
    have hO : Obs _ _ [_] := hO
    injection hF with hF
    subst hF
    exact hQ _ _ _ _ _ rfl hO hL ⟨_, _, rfl, rfl, (OwnO.nil _ _ _)⟩
  · refine wpn_cF (congrArg Value.bool hb1) ?_
    refine wpn_sk ?_
    refine wpn_lit (T := Ty.u8) (l := ([] : List UInt8)) (cs := []) hO rfl rfl rfl (by decide) fun _ σ o4 w5 hO => ?_
    obtain ⟨A2, c3, rfl, -⟩ := w5.form
    have hO : Obs _ _ [_] := hO
    refine wpn_q hO 1 [] [(1, .int .i64 p1), (12, .slice A2 ([] : List UInt8).length c3), (13, .slice A0 p0.length c0)] (And.intro rfl (And.intro rfl (And.intro rfl trivial))) fun j => ?_
    obtain ⟨_, hr, hF⟩ := bind_some hF
    refine wpn_apl (T := Ty.u8) hO w5 (i := 0) rfl rfl rfl r0 hr (by decide) fun _ σ o8 w9 hO => ?_
    obtain ⟨A6, c7, rfl, -⟩ := w9.form
    have hO : Obs _ _ [_] := hO
    refine wpn_q hO 10 [] [(14, .slice A6 (([] : List UInt8) ++ p0).length c7), (17, .int .u8 (IntKind.u8.wrap (IntKind.i64.wrap (Int.tdiv p1 65536)))), (21, .int .u8 (IntKind.u8.wrap (Int.tmod (IntKind.i64.wrap (Int.tdiv p1 256)) 256))), (24, .int .u8 (IntKind.u8.wrap (Int.tmod p1 256)))] (And.intro rfl (And.intro rfl (And.intro rfl (And.intro rfl trivial)))) fun j => ?_
    obtain ⟨z10, hz10, hF⟩ := bind_some hF
    obtain ⟨z11, hz11, hF⟩ := bind_some hF
    obtain ⟨z12, hz12, hF⟩ := bind_some hF
    refine wpn_lit (T := Ty.u8) (l := ([z10, z11, z12] : List UInt8)) (cs := [.int .u8 (IntKind.u8.wrap (IntKind.i64.wrap (Int.tdiv p1 65536))), .int .u8 (IntKind.u8.wrap (Int.tmod (IntKind.i64.wrap (Int.tdiv p1 256)) 256)), .int .u8 (IntKind.u8.wrap (Int.tmod p1 256))]) hO rfl ⟨[.int .u8 (IntKind.u8.wrap (IntKind.i64.wrap (Int.tdiv p1 65536)))], _, rfl, (u8R hz10), ⟨[.int .u8 (IntKind.u8.wrap (Int.tmod (IntKind.i64.wrap (Int.tdiv p1 256)) 256))], _, rfl, (u8R hz11), ⟨[.int .u8 (IntKind.u8.wrap (Int.tmod p1 256))], _, rfl, (u8R hz12), rfl⟩⟩⟩ rfl (by decide) fun _ σ o15 w16 hO => ?_
    obtain ⟨A13, c14, rfl, -⟩ := w16.form
    have hO : Obs _ _ [_, _] := hO
    obtain ⟨_, hr, hF⟩ := bind_some hF
    refine wpn_apf (T := Ty.u8) u8_flat hO w9 (i := 0) rfl rfl rfl (w16.rd hO (i := 1) rfl) hr (by decide) fun _ σ o19 w20 hO => ?_
    obtain ⟨A17, c18, rfl, -⟩ := w20.form
    have hO : Obs _ _ [_, _] := hO
    refine wpn_qa hO [] [(4, .slice A17 ((([] : List UInt8) ++ p0) ++ ([z10, z11, z12] : List UInt8)).length c18), (5, .int .i64 0)] (And.intro rfl (And.intro rfl trivial)) fun j => ?_
    refine wpn_r1 ?_
    injection hF with hF
    subst hF
    have hO := hO.sel [0] (by decide)
    exact hQ _ _ _ _ _ rfl hO hL ⟨_, _, rfl, rfl, w20⟩

/-! theodolite/theodoliteref01.PutText -/
theorem w_ref01_PutText {τ : Hp} {v0 : Value} {p0 : (List UInt8)} {p1 : ByteArray} (r0 : RdT Ty.u8 τ v0 p0) {rr : (List UInt8) × Int} (hF : F_ref01_PutText p0 p1 = some rr) :
    Ctr Try.prog 42 #[v0, .string p1] τ [] (fun v τ' vs' => ∃ (v0 : Value) (o0 : Ob), v = .tuple #[v0, .int .i64 rr.2] ∧ vs' = [o0] ∧ OwnO Ty.u8 5 τ' v0 rr.1 o0) := by
  obtain ⟨A0, c0, rfl, -⟩ := r0.form
  refine ctr_of (args := [.slice A0 p0.length c0, .string p1]) hm Try.func42 s42 rfl fun w0 σ hO Q hQ => ?_
  unfold F_ref01_PutText at hF
  have hL := Hp.le.refl τ
  show wpn _ _ a42.body _ _ _
  unfold a42
  dsimp only
  refine wpn_qa hO [] [(0, .slice A0 p0.length c0), (1, .string p1)] (And.intro rfl (And.intro rfl trivial)) fun j => ?_
  refine wpn_assoc ?_
  refine wpn_qa hO [] [(0, .slice A0 p0.length c0), (1, .string p1), (8, .bool (decide ((p1.size : Int) > 255)))] (And.intro rfl (And.intro rfl (And.intro rfl trivial))) fun j => ?_
  rcases ite_some hF with ⟨hb1, hF⟩ | ⟨hb1, hF⟩
  · refine wpn_cT (congrArg Value.bool hb1) ?_
    refine wpn_assoc ?_
    refine wpn_qa hO [] [(4, .slice none 0 0), (5, .int .i64 1)] (And.intro rfl (And.intro rfl trivial)) fun j => ?_
    refine wpn_rt ?_
    have hO := hO.no
    have hO : Obs _ _ [_] := hO
    injection hF with hF
    subst hF
    exact hQ _ _ _ _ _ rfl hO hL ⟨_, _, rfl, rfl, (OwnO.nil _ _ _)⟩
  · refine wpn_cF (congrArg Value.bool hb1) ?_
    refine wpn_sk ?_
    refine wpn_lit (T := Ty.u8) (l := ([] : List UInt8)) (cs := []) hO rfl rfl rfl (by decide) fun _ σ o4 w5 hO => ?_
    obtain ⟨A2, c3, rfl, -⟩ := w5.form
    have hO : Obs _ _ [_] := hO
    refine wpn_q hO 1 [] [(1, .string p1), (9, .slice A2 ([] : List UInt8).length c3), (10, .slice A0 p0.length c0)] (And.intro rfl (And.intro rfl (And.intro rfl trivial))) fun j => ?_
    obtain ⟨_, hr, hF⟩ := bind_some hF
    refine wpn_apl (T := Ty.u8) hO w5 (i := 0) rfl rfl rfl r0 hr (by decide) fun _ σ o8 w9 hO => ?_
    obtain ⟨A6, c7, rfl, -⟩ := w9.form
    have hO : Obs _ _ [_] := hO
    refine wpn_q hO 3 [] [(1, .string p1), (11, .slice A6 (([] : List UInt8) ++ p0).length c7), (14, .int .u8 (IntKind.u8.wrap (p1.size : Int)))] (And.intro rfl (And.intro rfl (And.intro rfl trivial))) fun j => ?_
    obtain ⟨z10, hz10, hF⟩ := bind_some hF
    obtain ⟨_, hr, hF⟩ := bind_some hF
    refine wpn_ap1 (T := Ty.u8) hO w9 (i := 0) rfl rfl (fun _ => rfl) rfl (u8R hz10) rfl hr (by decide) fun u _ σ o13 w14 hO => ?_
    obtain ⟨A11, c12, rfl, -⟩ := w14.form
    have hO : Obs _ _ [_] := hO
    refine wpn_q hO 1 [] [(16, .slice A11 ((([] : List UInt8) ++ p0) ++ [z10]).length c12), (17, .string p1)] (And.intro rfl (And.intro rfl trivial)) fun j => ?_
    obtain ⟨_, hr, hF⟩ := bind_some hF
    refine wpn_aps hO w14 (i := 0) rfl rfl rfl hr (by decide) fun _ σ o17 w18 hO => ?_
    obtain ⟨A15, c16, rfl, -⟩ := w18.form
    have hO : Obs _ _ [_] := hO
    refine wpn_qa hO [] [(4, .slice A15 (((([] : List UInt8) ++ p0) ++ [z10]) ++ p1.data.toList).length c16), (5, .int .i64 0)] (And.intro rfl (And.intro rfl trivial)) fun j => ?_
    refine wpn_r1 ?_
    injection hF with hF
    subst hF
    exact hQ _ _ _ _ _ rfl hO hL ⟨_, _, rfl, rfl, w18⟩

/-! theodolite/theodolitelaw01.OctetPuts -/
theorem w_law01_OctetPuts {τ : Hp} {v0 : Value} {p0 : (List UInt8)} {p1 : Int} {p2 : ByteArray} (r0 : RdT Ty.u8 τ v0 p0) {rr : Bool} (hF : F_law01_OctetPuts p0 p1 p2 = some rr) :
    Ctr Try.prog 10 #[v0, .int .i64 p1, .string p2] τ [] (fun v τ' vs' => v = .bool rr ∧ vs' = []) := by
  obtain ⟨A0, c0, rfl, -⟩ := r0.form
  refine ctr_of (args := [.slice A0 p0.length c0, .int .i64 p1, .string p2]) hm Try.func10 s10 rfl fun w0 σ hO Q hQ => ?_
  unfold F_law01_OctetPuts at hF
  have hL := Hp.le.refl τ
  show wpn _ _ a10.body _ _ _
  unfold a10
  dsimp only
  refine wpn_qa hO [] [(0, .slice A0 p0.length c0), (1, .int .i64 p1), (2, .string p2)] (And.intro rfl (And.intro rfl (And.intro rfl trivial))) fun j => ?_
  refine wpn_assoc ?_
  refine wpn_qa hO [] [(0, .slice A0 p0.length c0), (1, .int .i64 p1), (2, .string p2), (24, .bool ((decide ((p0.length : Int) > 65536)) || (decide ((p2.size : Int) > 65536))))] (And.intro (And.intro rfl rfl) (fun _ => And.intro rfl (And.intro rfl (And.intro rfl (And.intro rfl trivial))))) fun j => ?_
  rcases ite_some hF with ⟨hb1, hF⟩ | ⟨hb1, hF⟩
  · refine wpn_cT (congrArg Value.bool hb1) ?_
    refine wpn_assoc ?_
    obtain ⟨c2, h3, hF⟩ := bind_some hF
    refine wpn_c0 hO (w_law01_works h3) rfl fun _ σ _ _ hO h4 h5 => ?_
    have hL := hL.trans h4
    have r0 := r0.le h4
    obtain ⟨rfl, rfl⟩ := h5
    have hO : Obs _ _ [] := hO
    refine wpn_qa hO [] [(6, .bool c2)] (And.intro rfl trivial) fun j => ?_
    refine wpn_rt ?_
    injection hF with hF
    subst hF
    exact hQ _ _ _ _ _ rfl hO hL ⟨rfl, rfl⟩
  · refine wpn_cF (congrArg Value.bool hb1) ?_
    refine wpn_sk ?_
    refine wpn_q hO 1 [] [(0, .slice A0 p0.length c0), (1, .int .i64 p1), (2, .string p2), (26, .slice A0 p0.length c0)] (And.intro rfl (And.intro rfl (And.intro rfl (And.intro rfl trivial)))) fun j => ?_
    obtain ⟨c6, h7, hF⟩ := bind_some hF
    refine wpn_c0 hO (w_law01_mine r0 h7) rfl fun _ σ _ _ hO h8 h9 => ?_
    have hL := hL.trans h8
    have r0 := r0.le h8
    obtain ⟨v10, rfl, rfl, r13, f14⟩ := h9
    obtain ⟨A11, n15, rfl, f14⟩ := f14
    obtain ⟨_, _, h16, -⟩ := r13.form
    injection h16 with _ h16 _
    subst h16
    have f14 : Full Ty.u8 _ (.slice A11 c6.1.length c6.2.length) c6.2 := ⟨_, _, rfl, f14⟩
    have hO : Obs _ _ [] := hO
    refine wpn_qa hO [] [(0, .slice A0 p0.length c0), (1, .int .i64 p1), (2, .string p2), (7, .slice A11 c6.1.length c6.2.length)] (And.intro rfl (And.intro rfl (And.intro rfl (And.intro rfl trivial)))) fun j => ?_
    refine wpn_q hO 2 [] [(0, .slice A0 p0.length c0), (1, .int .i64 p1), (2, .string p2), (7, .slice A11 c6.1.length c6.2.length), (29, .slice A11 c6.1.length c6.2.length), (30, .int .i64 p1)] (And.intro rfl (And.intro rfl (And.intro rfl (And.intro rfl (And.intro rfl (And.intro rfl trivial)))))) fun j => ?_
    obtain ⟨c17, h18, hF⟩ := bind_some hF
    refine wpn_c0 hO (w_octet_PutPlace r13 h18) rfl fun _ σ _ _ hO h19 h20 => ?_
    have hL := hL.trans h19
    have r0 := r0.le h19
    have r13 := r13.le h19
    have f14 := f14.le h19
    obtain ⟨v21, o24, rfl, rfl, w25⟩ := h20
    obtain ⟨A22, c23, rfl, -⟩ := w25.form
    have hO : Obs _ _ [_] := hO
    refine wpn_qa hO [] [(0, .slice A0 p0.length c0), (1, .int .i64 p1), (2, .string p2), (7, .slice A11 c6.1.length c6.2.length), (8, .slice A22 c17.1.length c23), (9, .int .i64 c17.2)] (And.intro rfl (And.intro rfl (And.intro rfl (And.intro rfl (And.intro rfl (And.intro rfl trivial)))))) fun j => ?_
    refine wpn_q hO 2 [] [(0, .slice A0 p0.length c0), (2, .string p2), (7, .slice A11 c6.1.length c6.2.length), (8, .slice A22 c17.1.length c23), (9, .int .i64 c17.2), (35, .slice A0 p0.length c0), (36, .int .i64 p1)] (And.intro rfl (And.intro rfl (And.intro rfl (And.intro rfl (And.intro rfl (And.intro rfl (And.intro rfl trivial))))))) fun j => ?_
    obtain ⟨c26, h27, hF⟩ := bind_some hF
    refine wpn_c0 hO (w_ref01_PutPlace r0 h27) rfl fun _ σ _ _ hO h28 h29 => ?_
    have hL := hL.trans h28
    have r0 := r0.le h28
    have r13 := r13.le h28
    have f14 := f14.le h28
    have w25 := w25.le h28
    obtain ⟨v30, o33, rfl, rfl, w34⟩ := h29
    obtain ⟨A31, c32, rfl, -⟩ := w34.form
    have hO : Obs _ _ [_, _] := hO
    refine wpn_qa hO [] [(0, .slice A0 p0.length c0), (2, .string p2), (7, .slice A11 c6.1.length c6.2.length), (8, .slice A22 c17.1.length c23), (9, .int .i64 c17.2), (10, .slice A31 c26.1.length c32), (11, .int .i64 c26.2)] (And.intro rfl (And.intro rfl (And.intro rfl (And.intro rfl (And.intro rfl (And.intro rfl (And.intro rfl trivial))))))) fun j => ?_
    refine wpn_q hO 2 [] [(0, .slice A0 p0.length c0), (2, .string p2), (7, .slice A11 c6.1.length c6.2.length), (8, .slice A22 c17.1.length c23), (9, .int .i64 c17.2), (10, .slice A31 c26.1.length c32), (11, .int .i64 c26.2), (41, .slice A11 c6.1.length c6.2.length), (42, .string p2)] (And.intro rfl (And.intro rfl (And.intro rfl (And.intro rfl (And.intro rfl (And.intro rfl (And.intro rfl (And.intro rfl (And.intro rfl trivial))))))))) fun j => ?_
    obtain ⟨c35, h36, hF⟩ := bind_some hF
    refine wpn_c0 hO (w_octet_PutText r13 h36) rfl fun _ σ _ _ hO h37 h38 => ?_
    have hL := hL.trans h37
    have r0 := r0.le h37
    have r13 := r13.le h37
    have f14 := f14.le h37
    have w25 := w25.le h37
    have w34 := w34.le h37
    obtain ⟨v39, o42, rfl, rfl, w43⟩ := h38
    obtain ⟨A40, c41, rfl, -⟩ := w43.form
    have hO : Obs _ _ [_, _, _] := hO
    refine wpn_qa hO [] [(0, .slice A0 p0.length c0), (2, .string p2), (7, .slice A11 c6.1.length c6.2.length), (8, .slice A22 c17.1.length c23), (9, .int .i64 c17.2), (10, .slice A31 c26.1.length c32), (11, .int .i64 c26.2), (12, .slice A40 c35.1.length c41), (13, .int .i64 c35.2)] (And.intro rfl (And.intro rfl (And.intro rfl (And.intro rfl (And.intro rfl (And.intro rfl (And.intro rfl (And.intro rfl (And.intro rfl trivial))))))))) fun j => ?_
    refine wpn_q hO 2 [] [(0, .slice A0 p0.length c0), (7, .slice A11 c6.1.length c6.2.length), (8, .slice A22 c17.1.length c23), (9, .int .i64 c17.2), (10, .slice A31 c26.1.length c32), (11, .int .i64 c26.2), (12, .slice A40 c35.1.length c41), (13, .int .i64 c35.2), (47, .slice A0 p0.length c0), (48, .string p2)] (And.intro rfl (And.intro rfl (And.intro rfl (And.intro rfl (And.intro rfl (And.intro rfl (And.intro rfl (And.intro rfl (And.intro rfl (And.intro rfl trivial)))))))))) fun j => ?_
    obtain ⟨c44, h45, hF⟩ := bind_some hF
    refine wpn_c0 hO (w_ref01_PutText r0 h45) rfl fun _ σ _ _ hO h46 h47 => ?_
    have hL := hL.trans h46
    have r0 := r0.le h46
    have r13 := r13.le h46
    have f14 := f14.le h46
    have w25 := w25.le h46
    have w34 := w34.le h46
    have w43 := w43.le h46
    obtain ⟨v48, o51, rfl, rfl, w52⟩ := h47
    obtain ⟨A49, c50, rfl, -⟩ := w52.form
    have hO : Obs _ _ [_, _, _, _] := hO
    refine wpn_qa hO [] [(0, .slice A0 p0.length c0), (7, .slice A11 c6.1.length c6.2.length), (8, .slice A22 c17.1.length c23), (9, .int .i64 c17.2), (10, .slice A31 c26.1.length c32), (11, .int .i64 c26.2), (12, .slice A40 c35.1.length c41), (13, .int .i64 c35.2), (14, .slice A49 c44.1.length c50), (15, .int .i64 c44.2)] (And.intro rfl (And.intro rfl (And.intro rfl (And.intro rfl (And.intro rfl (And.intro rfl (And.intro rfl (And.intro rfl (And.intro rfl (And.intro rfl trivial)))))))))) fun j => ?_
    refine wpn_assoc ?_
    refine wpn_q hO 4 [] [(0, .slice A0 p0.length c0), (7, .slice A11 c6.1.length c6.2.length), (8, .slice A22 c17.1.length c23), (10, .slice A31 c26.1.length c32), (12, .slice A40 c35.1.length c41), (13, .int .i64 c35.2), (14, .slice A49 c44.1.length c50), (15, .int .i64 c44.2), (55, .bool (c17.2 != c26.2))] (And.intro rfl (And.intro rfl (And.intro rfl (And.intro rfl (And.intro rfl (And.intro rfl (And.intro rfl (And.intro rfl (And.intro rfl trivial))))))))) fun j => ?_
    obtain ⟨c53, h54, hF⟩ := bind_some hF
    refine wpn_midq 2 [(61, .bool c53), (0, .slice A0 p0.length c0), (7, .slice A11 c6.1.length c6.2.length), (8, .slice A22 c17.1.length c23), (12, .slice A40 c35.1.length c41), (13, .int .i64 c35.2), (14, .slice A49 c44.1.length c50), (15, .int .i64 c44.2)] (fun Q hQ => ?_) fun j => ?_
    · have hF := h54
      rcases ite_some hF with ⟨hb55, hF⟩ | ⟨hb55, hF⟩
      · refine wpn_gF (congrArg (fun x => isB (.bool x) false) hb55) ?_
        refine wpn_pk (congrArg Value.bool hb55) ?_
        refine wpn_nil ?_
        injection hF with hF
        subst hF
        refine wpn_end ?_
        exact hQ _ (And.intro rfl (And.intro rfl (And.intro rfl (And.intro rfl (And.intro rfl (And.intro rfl (And.intro rfl (And.intro rfl trivial))))))))
      · refine wpn_gT (congrArg (fun x => isB (.bool x) false) hb55) ?_
        refine wpn_q hO 1 [] [(0, .slice A0 p0.length c0), (7, .slice A11 c6.1.length c6.2.length), (8, .slice A22 c17.1.length c23), (10, .slice A31 c26.1.length c32), (12, .slice A40 c35.1.length c41), (13, .int .i64 c35.2), (14, .slice A49 c44.1.length c50), (15, .int .i64 c44.2), (55, .bool (c17.2 != c26.2)), (56, .slice A22 c17.1.length c23)] (And.intro rfl (And.intro rfl (And.intro rfl (And.intro rfl (And.intro rfl (And.intro rfl (And.intro rfl (And.intro rfl (And.intro rfl (And.intro rfl trivial)))))))))) fun j => ?_
        refine wpn_ts (l := c17.1) ((w25.rd hO (i := 0) rfl).le (Hp.le.refl _)) rfl ?_
        refine wpn_q hO 1 [] [(0, .slice A0 p0.length c0), (7, .slice A11 c6.1.length c6.2.length), (8, .slice A22 c17.1.length c23), (12, .slice A40 c35.1.length c41), (13, .int .i64 c35.2), (14, .slice A49 c44.1.length c50), (15, .int .i64 c44.2), (55, .bool (c17.2 != c26.2)), (57, .string (⟨c17.1.toArray⟩ : ByteArray)), (58, .slice A31 c26.1.length c32)] (And.intro rfl (And.intro rfl (And.intro rfl (And.intro rfl (And.intro rfl (And.intro rfl (And.intro rfl (And.intro rfl (And.intro rfl (And.intro rfl trivial)))))))))) fun j => ?_
        refine wpn_ts (l := c26.1) ((w34.rd hO (i := 1) rfl).le (Hp.le.refl _)) rfl ?_
        refine wpn_q hO 1 [] [(0, .slice A0 p0.length c0), (7, .slice A11 c6.1.length c6.2.length), (8, .slice A22 c17.1.length c23), (12, .slice A40 c35.1.length c41), (13, .int .i64 c35.2), (14, .slice A49 c44.1.length c50), (15, .int .i64 c44.2), (55, .bool (c17.2 != c26.2)), (60, .bool (!(strEq (⟨c17.1.toArray⟩ : ByteArray) (⟨c26.1.toArray⟩ : ByteArray))))] (And.intro rfl (And.intro rfl (And.intro rfl (And.intro rfl (And.intro rfl (And.intro rfl (And.intro rfl (And.intro rfl (And.intro rfl trivial))))))))) fun j => ?_
        refine wpn_pk (congrArg Value.bool hb55) ?_
        refine wpn_nil ?_
        injection hF with hF
        subst hF
        refine wpn_end ?_
        exact hQ _ (And.intro rfl (And.intro rfl (And.intro rfl (And.intro rfl (And.intro rfl (And.intro rfl (And.intro rfl (And.intro rfl trivial))))))))
    · refine wpn_q hO 4 [] [(0, .slice A0 p0.length c0), (7, .slice A11 c6.1.length c6.2.length), (8, .slice A22 c17.1.length c23), (12, .slice A40 c35.1.length c41), (14, .slice A49 c44.1.length c50), (67, .bool (c53 || (c35.2 != c44.2)))] (And.intro (And.intro rfl rfl) (fun _ => And.intro rfl (And.intro rfl (And.intro rfl (And.intro rfl (And.intro rfl (And.intro rfl trivial))))))) fun j => ?_
      obtain ⟨c56, h57, hF⟩ := bind_some hF
      refine wpn_midq 2 [(73, .bool c56), (0, .slice A0 p0.length c0), (7, .slice A11 c6.1.length c6.2.length), (8, .slice A22 c17.1.length c23), (12, .slice A40 c35.1.length c41), (14, .slice A49 c44.1.length c50)] (fun Q hQ => ?_) fun j => ?_
      · have hF := h57
        rcases ite_some hF with ⟨hb58, hF⟩ | ⟨hb58, hF⟩
        · refine wpn_gF (congrArg (fun x => isB (.bool x) false) hb58) ?_
          refine wpn_pk (congrArg Value.bool hb58) ?_
          refine wpn_nil ?_
          injection hF with hF
          subst hF
          refine wpn_end ?_
          exact hQ _ (And.intro rfl (And.intro rfl (And.intro rfl (And.intro rfl (And.intro rfl (And.intro rfl trivial))))))
        · refine wpn_gT (congrArg (fun x => isB (.bool x) false) hb58) ?_
          refine wpn_q hO 1 [] [(0, .slice A0 p0.length c0), (7, .slice A11 c6.1.length c6.2.length), (8, .slice A22 c17.1.length c23), (12, .slice A40 c35.1.length c41), (14, .slice A49 c44.1.length c50), (67, .bool (c53 || (c35.2 != c44.2))), (68, .slice A40 c35.1.length c41)] (And.intro rfl (And.intro rfl (And.intro rfl (And.intro rfl (And.intro rfl (And.intro rfl (And.intro rfl trivial))))))) fun j => ?_
          refine wpn_ts (l := c35.1) ((w43.rd hO (i := 2) rfl).le (Hp.le.refl _)) rfl ?_
          refine wpn_q hO 1 [] [(0, .slice A0 p0.length c0), (7, .slice A11 c6.1.length c6.2.length), (8, .slice A22 c17.1.length c23), (12, .slice A40 c35.1.length c41), (14, .slice A49 c44.1.length c50), (67, .bool (c53 || (c35.2 != c44.2))), (69, .string (⟨c35.1.toArray⟩ : ByteArray)), (70, .slice A49 c44.1.length c50)] (And.intro rfl (And.intro rfl (And.intro rfl (And.intro rfl (And.intro rfl (And.intro rfl (And.intro rfl (And.intro rfl trivial)))))))) fun j => ?_
          refine wpn_ts (l := c44.1) ((w52.rd hO (i := 3) rfl).le (Hp.le.refl _)) rfl ?_
          refine wpn_q hO 1 [] [(0, .slice A0 p0.length c0), (7, .slice A11 c6.1.length c6.2.length), (8, .slice A22 c17.1.length c23), (12, .slice A40 c35.1.length c41), (14, .slice A49 c44.1.length c50), (67, .bool (c53 || (c35.2 != c44.2))), (72, .bool (!(strEq (⟨c35.1.toArray⟩ : ByteArray) (⟨c44.1.toArray⟩ : ByteArray))))] (And.intro rfl (And.intro rfl (And.intro rfl (And.intro rfl (And.intro rfl (And.intro rfl (And.intro rfl trivial))))))) fun j => ?_
          refine wpn_pk (congrArg Value.bool hb58) ?_
          refine wpn_nil ?_
          injection hF with hF
          subst hF
          refine wpn_end ?_
          exact hQ _ (And.intro rfl (And.intro rfl (And.intro rfl (And.intro rfl (And.intro rfl (And.intro rfl trivial))))))
      · refine wpn_q hO 1 [] [(0, .slice A0 p0.length c0), (7, .slice A11 c6.1.length c6.2.length), (8, .slice A22 c17.1.length c23), (12, .slice A40 c35.1.length c41), (14, .slice A49 c44.1.length c50), (74, .bool c56)] (And.intro rfl (And.intro rfl (And.intro rfl (And.intro rfl (And.intro rfl (And.intro rfl trivial)))))) fun j => ?_
        have hO := hO.sel [0, 2, 3] (by decide)
        have hO : Obs _ _ [_, _, _] := hO
        obtain ⟨c59, h60, hF⟩ := bind_some hF
        refine wpn_mid 2 (fun e' σ' => ∃ (τ' : Hp), agr [(79, .bool c59), (0, .slice A0 p0.length c0), (7, .slice A11 c6.1.length c6.2.length), (8, .slice A22 c17.1.length c23), (12, .slice A40 c35.1.length c41), (14, .slice A49 c44.1.length c50)] e' ∧ Obs τ' σ' [o24, o42, o51] ∧ Hp.le τ τ' ∧ RdT Ty.u8 τ' (.slice A0 p0.length c0) p0 ∧ RdT Ty.u8 τ' (.slice A11 c6.1.length c6.2.length) c6.1 ∧ Full Ty.u8 τ' (.slice A11 c6.1.length c6.2.length) c6.2 ∧ OwnO Ty.u8 5 τ' (.slice A22 c17.1.length c23) c17.1 o24 ∧ OwnO Ty.u8 5 τ' (.slice A40 c35.1.length c41) c35.1 o42 ∧ OwnO Ty.u8 5 τ' (.slice A49 c44.1.length c50) c44.1 o51) ?_ ?_
        · have hF := h60
          rcases ite_some hF with ⟨hb61, hF⟩ | ⟨hb61, hF⟩
          · refine wpn_gF (congrArg (fun x => isB (.bool x) false) hb61) ?_
            refine wpn_pk (congrArg Value.bool hb61) ?_
            refine wpn_nil ?_
            injection hF with hF
            subst hF
            refine wpn_end ?_
            exact ⟨rfl, _, And.intro rfl (And.intro rfl (And.intro rfl (And.intro rfl (And.intro rfl (And.intro rfl trivial))))), hO, hL, r0, r13, f14, w25, w43, w52⟩
          · refine wpn_gT (congrArg (fun x => isB (.bool x) false) hb61) ?_
            refine wpn_q hO 2 [] [(0, .slice A0 p0.length c0), (7, .slice A11 c6.1.length c6.2.length), (8, .slice A22 c17.1.length c23), (12, .slice A40 c35.1.length c41), (14, .slice A49 c44.1.length c50), (74, .bool c56), (75, .slice A11 c6.1.length c6.2.length), (76, .slice A0 p0.length c0)] (And.intro rfl (And.intro rfl (And.intro rfl (And.intro rfl (And.intro rfl (And.intro rfl (And.intro rfl (And.intro rfl trivial)))))))) fun j => ?_
            obtain ⟨c62, h63, hF⟩ := bind_some hF
            refine wpn_c0 hO (w_law01_still r13 f14 r0 h63) rfl fun _ σ _ _ hO h64 h65 => ?_
            have hL := hL.trans h64
            have r0 := r0.le h64
            have r13 := r13.le h64
            have f14 := f14.le h64
            have w25 := w25.le h64
            have w43 := w43.le h64
            have w52 := w52.le h64
            obtain ⟨rfl, rfl⟩ := h65
            have hO : Obs _ _ [_, _, _] := hO
            refine wpn_q hO 1 [] [(0, .slice A0 p0.length c0), (7, .slice A11 c6.1.length c6.2.length), (8, .slice A22 c17.1.length c23), (12, .slice A40 c35.1.length c41), (14, .slice A49 c44.1.length c50), (74, .bool c56), (78, .bool (!c62))] (And.intro rfl (And.intro rfl (And.intro rfl (And.intro rfl (And.intro rfl (And.intro rfl (And.intro rfl trivial))))))) fun j => ?_
            refine wpn_pk (congrArg Value.bool hb61) ?_
            refine wpn_nil ?_
            injection hF with hF
            subst hF
            refine wpn_end ?_
            exact ⟨rfl, _, And.intro rfl (And.intro rfl (And.intro rfl (And.intro rfl (And.intro rfl (And.intro rfl trivial))))), hO, hL, r0, r13, f14, w25, w43, w52⟩
        · rintro e σ ⟨_, hA, hO, hL, r0, r13, f14, w25, w43, w52⟩
          rw [← sets_agr _ _ hA]
          refine wpn_nil ?_
          rcases ite_some hF with ⟨hb66, hF⟩ | ⟨hb66, hF⟩
          · refine wpn_cT (congrArg Value.bool hb66) ?_
            refine wpn_assoc ?_
            refine wpn_qa hO [] [(6, .bool false)] (And.intro rfl trivial) fun j => ?_
            refine wpn_rt ?_
            injection hF with hF
            subst hF
            have hO := hO.sel [] (by decide)
            exact hQ _ _ _ _ _ rfl hO hL ⟨rfl, rfl⟩
          · refine wpn_cF (congrArg Value.bool hb66) ?_
            refine wpn_sk ?_
            refine wpn_assoc ?_
            refine wpn_qa hO [] [(0, .slice A0 p0.length c0), (7, .slice A11 c6.1.length c6.2.length), (8, .slice A22 c17.1.length c23), (12, .slice A40 c35.1.length c41), (14, .slice A49 c44.1.length c50), (16, .int .i64 0)] (And.intro rfl (And.intro rfl (And.intro rfl (And.intro rfl (And.intro rfl (And.intro rfl trivial)))))) fun j => ?_
            refine wpn_bl ?_
            refine wpn_lp (fun (n : Nat) e' σ' => ∃ (k120 : Nat) (A121 : Option Addr) (c122 : Nat) (o123 : Ob) (x124 : List UInt8) (A127 : Option Addr) (c128 : Nat) (o129 : Ob) (x130 : List UInt8) (A132 : Option Addr) (c133 : Nat) (o134 : Ob) (x135 : List UInt8) (x137 : Int) (τ' : Hp), agr [(0, .slice A0 p0.length c0), (7, .slice A11 c6.1.length c6.2.length), (8, .slice A121 k120 c122), (12, .slice A127 x130.length c128), (14, .slice A132 x135.length c133), (16, .int .i64 x137)] e' ∧ Obs τ' σ' [o123, o129, o134] ∧ Hp.le τ τ' ∧ RdT Ty.u8 τ' (.slice A0 p0.length c0) p0 ∧ RdT Ty.u8 τ' (.slice A11 c6.1.length c6.2.length) c6.1 ∧ Full Ty.u8 τ' (.slice A11 c6.1.length c6.2.length) c6.2 ∧ k120 = x124.length ∧ OwnO Ty.u8 5 τ' (.slice A121 k120 c122) x124 o123 ∧ OwnO Ty.u8 5 τ' (.slice A127 x130.length c128) x130 o129 ∧ OwnO Ty.u8 5 τ' (.slice A132 x135.length c133) x135 o134 ∧ F_law01_OctetPuts_l3 p0 c6 n x124 x130 x135 x137 = some rr) big ⟨c17.1.length, A22, c23, o24, c17.1, A40, c41, o42, c35.1, A49, c50, o51, c44.1, 0, _, And.intro rfl (And.intro rfl (And.intro rfl (And.intro rfl (And.intro rfl (And.intro rfl trivial))))), hO, hL, r0, r13, f14, w25.len, w25, w43, w52, hF⟩ ?_
            clear hF hO hL
            rintro n170 e σ ⟨k120, A121, c122, o123, x124, A127, c128, o129, x130, A132, c133, o134, x135, x137, _, hA, hO, hL, r117, r118, f119, hk125, w126, w131, w136, hF⟩
            rw [← sets_agr _ _ hA]
            cases n170 with
            | zero => exact nomatch (show none = some rr from hF)
            | succ n170 =>
              replace hF : F_law01_OctetPuts_l3B (F_law01_OctetPuts_l3 p0 c6 n170) p0 c6 x124 x130 x135 x137 = some rr := hF
              unfold F_law01_OctetPuts_l3B at hF
              subst hk125
              refine wpn_assoc ?_
              refine wpn_qa hO [] [(0, .slice A0 p0.length c0), (7, .slice A11 c6.1.length c6.2.length), (8, .slice A121 x124.length c122), (12, .slice A127 x130.length c128), (14, .slice A132 x135.length c133), (16, .int .i64 x137), (83, .bool (decide (x137 < (x124.length : Int))))] (And.intro rfl (And.intro rfl (And.intro rfl (And.intro rfl (And.intro rfl (And.intro rfl (And.intro rfl trivial))))))) fun j => ?_
              rcases ite_some hF with ⟨hb171, hF⟩ | ⟨hb171, hF⟩
              · refine wpn_cT (congrArg Value.bool hb171) ?_
                refine wpn_sk ?_
                refine wpn_bl ?_
                refine wpn_rlast ?_
                refine wpn_q hO 2 [] [(0, .slice A0 p0.length c0), (7, .slice A11 c6.1.length c6.2.length), (8, .slice A121 x124.length c122), (12, .slice A127 x130.length c128), (14, .slice A132 x135.length c133), (16, .int .i64 x137), (86, .slice A121 x124.length c122), (87, .int .i64 x137)] (And.intro rfl (And.intro rfl (And.intro rfl (And.intro rfl (And.intro rfl (And.intro rfl (And.intro rfl (And.intro rfl trivial)))))))) fun j => ?_
                obtain ⟨y172, g173, hF⟩ := bind_some hF
                refine wpn_ido (T := Ty.u8) hO w126 (i := 0) rfl rfl rfl g173 (by decide) fun a174 _ k175 m176 i177 => ?_
                have k178 := k175
                obtain rfl : _ = ([.int .u8 y172.toNat] : List Value) := k178
                refine wpn_ld rfl m176.fst ?_
                refine wpn_q hO 1 [] [(0, .slice A0 p0.length c0), (7, .slice A11 c6.1.length c6.2.length), (8, .slice A121 x124.length c122), (12, .slice A127 x130.length c128), (14, .slice A132 x135.length c133), (16, .int .i64 x137), (86, .slice A121 x124.length c122), (87, .int .i64 x137), (90, .int .u8 (IntKind.u8.wrap ((y172.toNat : Int) + 1)))] (And.intro rfl (And.intro rfl (And.intro rfl (And.intro rfl (And.intro rfl (And.intro rfl (And.intro rfl (And.intro rfl (And.intro rfl trivial))))))))) fun j => ?_
                obtain ⟨y179, g180, hF⟩ := bind_some hF
                refine wpn_ido (T := Ty.u8) hO w126 (i := 0) rfl rfl rfl g180 (by decide) fun a181 _ k182 m183 i184 => ?_
                have k185 := k182
                obtain rfl : _ = ([.int .u8 y179.toNat] : List Value) := k185
                obtain ⟨z186, hz186, hF⟩ := bind_some hF
                refine wpn_sto (T := Ty.u8) (off := 0) (vs := [.int .u8 (IntKind.u8.wrap ((y172.toNat : Int) + 1))]) hO w126 (i := 0) rfl (by rw [add_zero]; rfl) i184 g180 k182 m183 rfl rfl rfl rfl (by decide) (u8R hz186) fun σ o187 w188 hO => ?_
                have hO : Obs _ _ [_, _, _] := hO
                refine wpn_nil ?_
                refine wpn_end ?_
                refine inb_i ?_
                refine thn_i ?_
                refine wpn_rlast ?_
                refine wpn_qa hO [] [(0, .slice A0 p0.length c0), (7, .slice A11 c6.1.length c6.2.length), (8, .slice A121 x124.length c122), (12, .slice A127 x130.length c128), (14, .slice A132 x135.length c133), (16, .int .i64 (IntKind.i64.wrap (x137 + 1)))] (And.intro rfl (And.intro rfl (And.intro rfl (And.intro rfl (And.intro rfl (And.intro rfl trivial)))))) fun j => ?_
                refine wpn_end ?_
                refine thn_i ?_
                exact ⟨n170, Nat.lt_succ_self _, x124.length, A121, c122, o187, (x124.set (Int.toNat x137) z186), A127, c128, o129, x130, A132, c133, o134, x135, (IntKind.i64.wrap (x137 + 1)), _, And.intro rfl (And.intro rfl (And.intro rfl (And.intro rfl (And.intro rfl (And.intro rfl trivial))))), hO, hL, r117, r118, f119, w188.len, w188, w131, w136, hF⟩
              · refine wpn_cF (congrArg Value.bool hb171) ?_
                refine wpn_ex ?_
                refine thn_x ?_
                refine inb_x ?_
                refine thn_i ?_
                refine wpn_q hO 1 [] [(0, .slice A0 p0.length c0), (7, .slice A11 c6.1.length c6.2.length), (14, .slice A132 x135.length c133), (92, .slice A127 x130.length c128)] (And.intro rfl (And.intro rfl (And.intro rfl (And.intro rfl trivial)))) fun j => ?_
                refine wpn_ts (l := x130) ((w131.rd hO (i := 1) rfl).le (Hp.le.refl _)) rfl ?_
                refine wpn_q hO 1 [] [(0, .slice A0 p0.length c0), (7, .slice A11 c6.1.length c6.2.length), (93, .string (⟨x130.toArray⟩ : ByteArray)), (94, .slice A132 x135.length c133)] (And.intro rfl (And.intro rfl (And.intro rfl (And.intro rfl trivial)))) fun j => ?_
                refine wpn_ts (l := x135) ((w136.rd hO (i := 2) rfl).le (Hp.le.refl _)) rfl ?_
                refine wpn_q hO 2 [] [(0, .slice A0 p0.length c0), (7, .slice A11 c6.1.length c6.2.length), (97, .bool (strEq (⟨x130.toArray⟩ : ByteArray) (⟨x135.toArray⟩ : ByteArray)))] (And.intro rfl (And.intro rfl (And.intro rfl trivial))) fun j => ?_
                have hO := hO.sel [] (by decide)
                have hO : Obs _ _ [] := hO
                obtain ⟨c189, h190, hF⟩ := bind_some hF
                refine wpn_mid 2 (fun e' σ' => ∃ (τ' : Hp), agr [(101, .bool c189)] e' ∧ Obs τ' σ' [] ∧ Hp.le τ τ') ?_ ?_
                · have hF := h190
                  rcases ite_some hF with ⟨hb191, hF⟩ | ⟨hb191, hF⟩
                  · refine wpn_gT (congrArg (fun x => isB (.bool x) true) hb191) ?_
                    refine wpn_q hO 2 [] [(97, .bool (strEq (⟨x130.toArray⟩ : ByteArray) (⟨x135.toArray⟩ : ByteArray))), (98, .slice A11 c6.1.length c6.2.length), (99, .slice A0 p0.length c0)] (And.intro rfl (And.intro rfl (And.intro rfl trivial))) fun j => ?_
                    obtain ⟨c192, h193, hF⟩ := bind_some hF
                    refine wpn_c0 hO (w_law01_still r118 f119 r117 h193) rfl fun _ σ _ _ hO h194 h195 => ?_
                    have hL := hL.trans h194
                    have r118 := r118.le h194
                    have f119 := f119.le h194
                    have r117 := r117.le h194
                    obtain ⟨rfl, rfl⟩ := h195
                    have hO : Obs _ _ [] := hO
                    refine wpn_pk (congrArg Value.bool hb191) ?_
                    refine wpn_nil ?_
                    injection hF with hF
                    subst hF
                    refine wpn_end ?_
                    exact ⟨rfl, _, And.intro rfl (trivial), hO, hL⟩
                  · refine wpn_gF (congrArg (fun x => isB (.bool x) true) hb191) ?_
                    refine wpn_pk (congrArg Value.bool hb191) ?_
                    refine wpn_nil ?_
                    injection hF with hF
                    subst hF
                    refine wpn_end ?_
                    exact ⟨rfl, _, And.intro rfl (trivial), hO, hL⟩
                · rintro e σ ⟨_, hA, hO, hL⟩
                  rw [← sets_agr _ _ hA]
                  refine wpn_q hO 1 [] [(102, .bool c189)] (And.intro rfl trivial) fun j => ?_
                  obtain ⟨c196, h197, hF⟩ := bind_some hF
                  refine wpn_mid 2 (fun e' σ' => ∃ (τ' : Hp), agr [(104, .bool c196)] e' ∧ Obs τ' σ' [] ∧ Hp.le τ τ') ?_ ?_
                  · have hF := h197
                    rcases ite_some hF with ⟨hb198, hF⟩ | ⟨hb198, hF⟩
                    · refine wpn_gT (congrArg (fun x => isB (.bool x) true) hb198) ?_
                      obtain ⟨c199, h200, hF⟩ := bind_some hF
                      refine wpn_c0 hO (w_law01_works h200) rfl fun _ σ _ _ hO h201 h202 => ?_
                      have hL := hL.trans h201
                      obtain ⟨rfl, rfl⟩ := h202
                      have hO : Obs _ _ [] := hO
                      refine wpn_pk (congrArg Value.bool hb198) ?_
                      refine wpn_nil ?_
                      injection hF with hF
                      subst hF
                      refine wpn_end ?_
                      exact ⟨rfl, _, And.intro rfl (trivial), hO, hL⟩
                    · refine wpn_gF (congrArg (fun x => isB (.bool x) true) hb198) ?_
                      refine wpn_pk (congrArg Value.bool hb198) ?_
                      refine wpn_nil ?_
                      injection hF with hF
                      subst hF
                      refine wpn_end ?_
                      exact ⟨rfl, _, And.intro rfl (trivial), hO, hL⟩
                  · rintro e σ ⟨_, hA, hO, hL⟩
                    rw [← sets_agr _ _ hA]
                    refine wpn_qa hO [] [(6, .bool c196)] (And.intro rfl trivial) fun j => ?_
                    refine wpn_r1 ?_
                    injection hF with hF
                    subst hF
                    exact hQ _ _ _ _ _ rfl hO hL ⟨rfl, rfl⟩

/-! theodolite/theodolitelaw01.put -/
theorem w_law01_put {τ : Hp} {v0 : Value} {p0 : (List UInt8)} {o0 : Ob} {p1 : S_law01_Thing} (wp0 : OwnO Ty.u8 5 τ v0 p0 o0) {rr : (List UInt8) × Bool} (hF : F_law01_put p0 p1 = some rr) :
    Ctr Try.prog 43 #[v0, .agg #[.int .u8 p1.Kind.toNat, .int .i64 p1.High, .int .i64 p1.Low, .int .i64 p1.Place, .string p1.Text]] τ [o0] (fun v τ' vs' => ∃ (v0 : Value) (o0 : Ob), v = .tuple #[v0, .bool rr.2] ∧ vs' = [o0] ∧ OwnO Ty.u8 5 τ' v0 rr.1 o0) := by
  obtain ⟨A0, c0, rfl, -⟩ := wp0.form
  refine ctr_of (args := [.slice A0 p0.length c0, .agg #[.int .u8 p1.Kind.toNat, .int .i64 p1.High, .int .i64 p1.Low, .int .i64 p1.Place, .string p1.Text]]) hm Try.func43 s43 rfl fun w0 σ hO Q hQ => ?_
  unfold F_law01_put at hF
  have hL := Hp.le.refl τ
  show wpn _ _ a43.body _ _ _
  unfold a43
  dsimp only
  refine wpn_bx (n := 5) hO rfl rfl fun b1 σ hO => ?_
  have hO : Obs _ _ [_, _] := hO
  refine wpn_qa hO [] [(0, .slice A0 p0.length c0), (3, .pointer (some ⟨b1, 0, none⟩))] (And.intro rfl (And.intro rfl trivial)) fun j => ?_
  refine wpn_assoc ?_
  refine wpn_qa hO [1] [(0, .slice A0 p0.length c0), (3, .pointer (some ⟨b1, 0, none⟩)), (14, .int .u8 (Int.tmod (p1.Kind.toNat : Int) 3))] (And.intro (And.intro rfl rfl) (And.intro rfl (And.intro rfl (And.intro rfl trivial)))) fun j => ?_
  refine wpn_bl ?_
  refine wpn_qa hO [] [(0, .slice A0 p0.length c0), (3, .pointer (some ⟨b1, 0, none⟩)), (14, .int .u8 (Int.tmod (p1.Kind.toNat : Int) 3)), (15, .bool ((Int.tmod (p1.Kind.toNat : Int) 3) == 0))] (And.intro rfl (And.intro rfl (And.intro rfl (And.intro rfl trivial)))) fun j => ?_
  refine wpn_clast ?_
  rcases ite_some hF with ⟨hb2, hF⟩ | ⟨hb2, hF⟩
  · refine wpn_cT (congrArg Value.bool hb2) ?_
    refine wpn_assoc ?_
    refine wpn_q hO 4 [1, 1] [(0, .slice A0 p0.length c0), (19, .int .i64 p1.High), (21, .int .i64 p1.Low)] (And.intro (And.intro rfl rfl) (And.intro (And.intro rfl rfl) (And.intro rfl (And.intro rfl (And.intro rfl trivial))))) fun j => ?_
    obtain ⟨c3, h4, hF⟩ := bind_some hF
    refine wpn_c0 hO (w_octet_Pair h4) rfl fun _ σ _ _ hO h5 h6 => ?_
    have hL := hL.trans h5
    have wp0 := wp0.le h5
    obtain ⟨rfl, rfl⟩ := h6
    have hO : Obs _ _ [_, _] := hO
    refine wpn_qa hO [] [(0, .slice A0 p0.length c0), (6, .int .u8 c3.1), (7, .bool c3.2)] (And.intro rfl (And.intro rfl (And.intro rfl trivial))) fun j => ?_
    refine wpn_assoc ?_
    refine wpn_q hO 2 [] [(7, .bool c3.2), (25, .slice A0 p0.length c0), (26, .int .u8 c3.1)] (And.intro rfl (And.intro rfl (And.intro rfl trivial))) fun j => ?_
    obtain ⟨z7, hz7, hF⟩ := bind_some hF
    obtain ⟨_, hr, hF⟩ := bind_some hF
    refine wpn_ap1 (T := Ty.u8) hO wp0 (i := 0) rfl rfl (fun _ => rfl) rfl (u8R hz7) rfl hr (by decide) fun u _ σ o10 w11 hO => ?_
    obtain ⟨A8, c9, rfl, -⟩ := w11.form
    have hO : Obs _ _ [_, _] := hO
    refine wpn_qa hO [] [(4, .slice A8 (p0 ++ [z7]).length c9), (5, .bool c3.2)] (And.intro rfl (And.intro rfl trivial)) fun j => ?_
    refine wpn_rt ?_
    refine inb_r1 ?_
    refine thn_r1 ?_
    injection hF with hF
    subst hF
    have hO := hO.sel [0] (by decide)
    exact hQ _ _ _ _ _ rfl hO hL ⟨_, _, rfl, rfl, w11⟩
  · refine wpn_cF (congrArg Value.bool hb2) ?_
    refine wpn_assoc ?_
    refine wpn_qa hO [] [(0, .slice A0 p0.length c0), (3, .pointer (some ⟨b1, 0, none⟩)), (30, .bool ((Int.tmod (p1.Kind.toNat : Int) 3) == 1))] (And.intro rfl (And.intro rfl (And.intro rfl trivial))) fun j => ?_
    rcases ite_some hF with ⟨hb12, hF⟩ | ⟨hb12, hF⟩
    · refine wpn_cT (congrArg Value.bool hb12) ?_
      refine wpn_assoc ?_
      refine wpn_q hO 3 [1] [(33, .slice A0 p0.length c0), (35, .int .i64 p1.Place)] (And.intro (And.intro rfl rfl) (And.intro rfl (And.intro rfl trivial))) fun j => ?_
      obtain ⟨_, h14, r13, hO⟩ := wp0.share hO (i := 0) rfl
      have hL := hL.trans h14
      have hO : Obs _ _ [_, _] := hO
      obtain ⟨c15, h16, hF⟩ := bind_some hF
      refine wpn_c0 hO (w_octet_PutPlace r13 h16) rfl fun _ σ _ _ hO h17 h18 => ?_
      have hL := hL.trans h17
      have r13 := r13.le h17
      obtain ⟨v19, o22, rfl, rfl, w23⟩ := h18
      obtain ⟨A20, c21, rfl, -⟩ := w23.form
      have hO : Obs _ _ [_, _, _] := hO
      refine wpn_qa hO [] [(8, .slice A20 c15.1.length c21), (9, .int .i64 c15.2)] (And.intro rfl (And.intro rfl trivial)) fun j => ?_
      refine wpn_assoc ?_
      refine wpn_qa hO [] [(4, .slice A20 c15.1.length c21), (5, .bool (c15.2 == 0))] (And.intro rfl (And.intro rfl trivial)) fun j => ?_
      refine wpn_rt ?_
      refine inb_r1 ?_
      refine thn_r1 ?_
      injection hF with hF
      subst hF
      have hO := hO.sel [2] (by decide)
      exact hQ _ _ _ _ _ rfl hO hL ⟨_, _, rfl, rfl, w23⟩
    · refine wpn_cF (congrArg Value.bool hb12) ?_
      refine wpn_sk ?_
      refine wpn_end ?_
      refine inb_i ?_
      refine thn_i ?_
      refine wpn_q hO 3 [1] [(43, .slice A0 p0.length c0), (45, .string p1.Text)] (And.intro (And.intro rfl rfl) (And.intro rfl (And.intro rfl trivial))) fun j => ?_
      obtain ⟨_, h25, r24, hO⟩ := wp0.share hO (i := 0) rfl
      have hL := hL.trans h25
      have hO : Obs _ _ [_, _] := hO
      obtain ⟨c26, h27, hF⟩ := bind_some hF
      refine wpn_c0 hO (w_octet_PutText r24 h27) rfl fun _ σ _ _ hO h28 h29 => ?_
      have hL := hL.trans h28
      have r24 := r24.le h28
      obtain ⟨v30, o33, rfl, rfl, w34⟩ := h29
      obtain ⟨A31, c32, rfl, -⟩ := w34.form
      have hO : Obs _ _ [_, _, _] := hO
      refine wpn_qa hO [] [(10, .slice A31 c26.1.length c32), (11, .int .i64 c26.2)] (And.intro rfl (And.intro rfl trivial)) fun j => ?_
      refine wpn_qa hO [] [(4, .slice A31 c26.1.length c32), (5, .bool (c26.2 == 0))] (And.intro rfl (And.intro rfl trivial)) fun j => ?_
      refine wpn_r1 ?_
      injection hF with hF
      subst hF
      have hO := hO.sel [2] (by decide)
      exact hQ _ _ _ _ _ rfl hO hL ⟨_, _, rfl, rfl, w34⟩

/-! theodolite/theodolitelaw01.got -/
theorem w_law01_got {τ : Hp} {v0 : Value} {p0 : (List UInt8)} {p1 : Int} {p2 : S_law01_Thing} (r0 : RdT Ty.u8 τ v0 p0) {rr : Int × Bool} (hF : F_law01_got p0 p1 p2 = some rr) :
    Ctr Try.prog 44 #[v0, .int .i64 p1, .agg #[.int .u8 p2.Kind.toNat, .int .i64 p2.High, .int .i64 p2.Low, .int .i64 p2.Place, .string p2.Text]] τ [] (fun v τ' vs' => v = .tuple #[.int .i64 rr.1, .bool rr.2] ∧ vs' = []) := by
  obtain ⟨A0, c0, rfl, -⟩ := r0.form
  refine ctr_of (args := [.slice A0 p0.length c0, .int .i64 p1, .agg #[.int .u8 p2.Kind.toNat, .int .i64 p2.High, .int .i64 p2.Low, .int .i64 p2.Place, .string p2.Text]]) hm Try.func44 s44 rfl fun w0 σ hO Q hQ => ?_
  unfold F_law01_got at hF
  have hL := Hp.le.refl τ
  show wpn _ _ a44.body _ _ _
  unfold a44
  dsimp only
  refine wpn_bx (n := 5) hO rfl rfl fun b1 σ hO => ?_
  have hO : Obs _ _ [_] := hO
  refine wpn_qa hO [] [(0, .slice A0 p0.length c0), (1, .int .i64 p1), (5, .pointer (some ⟨b1, 0, none⟩))] (And.intro rfl (And.intro rfl (And.intro rfl trivial))) fun j => ?_
  refine wpn_assoc ?_
  refine wpn_qa hO [0] [(0, .slice A0 p0.length c0), (1, .int .i64 p1), (5, .pointer (some ⟨b1, 0, none⟩)), (21, .int .u8 (Int.tmod (p2.Kind.toNat : Int) 3))] (And.intro (And.intro rfl rfl) (And.intro rfl (And.intro rfl (And.intro rfl (And.intro rfl trivial))))) fun j => ?_
  refine wpn_bl ?_
  refine wpn_qa hO [] [(0, .slice A0 p0.length c0), (1, .int .i64 p1), (5, .pointer (some ⟨b1, 0, none⟩)), (21, .int .u8 (Int.tmod (p2.Kind.toNat : Int) 3)), (22, .bool ((Int.tmod (p2.Kind.toNat : Int) 3) == 0))] (And.intro rfl (And.intro rfl (And.intro rfl (And.intro rfl (And.intro rfl trivial))))) fun j => ?_
  refine wpn_clast ?_
  rcases ite_some hF with ⟨hb2, hF⟩ | ⟨hb2, hF⟩
  · refine wpn_cT (congrArg Value.bool hb2) ?_
    refine wpn_assoc ?_
    refine wpn_q hO 2 [] [(5, .pointer (some ⟨b1, 0, none⟩)), (25, .slice A0 p0.length c0), (26, .int .i64 p1)] (And.intro rfl (And.intro rfl (And.intro rfl trivial))) fun j => ?_
    obtain ⟨c3, h4, hF⟩ := bind_some hF
    refine wpn_c0 hO (w_octet_One r0 h4) rfl fun _ σ _ _ hO h5 h6 => ?_
    have hL := hL.trans h5
    have r0 := r0.le h5
    obtain ⟨rfl, rfl⟩ := h6
    have hO : Obs _ _ [_] := hO
    refine wpn_qa hO [] [(5, .pointer (some ⟨b1, 0, none⟩)), (8, .int .u8 c3.1), (9, .int .i64 c3.2.1), (10, .int .i64 c3.2.2)] (And.intro rfl (And.intro rfl (And.intro rfl (And.intro rfl trivial)))) fun j => ?_
    refine wpn_assoc ?_
    refine wpn_q hO 1 [] [(5, .pointer (some ⟨b1, 0, none⟩)), (9, .int .i64 c3.2.1), (10, .int .i64 c3.2.2), (32, .int .u8 c3.1)] (And.intro rfl (And.intro rfl (And.intro rfl (And.intro rfl trivial)))) fun j => ?_
    obtain ⟨c7, h8, hF⟩ := bind_some hF
    refine wpn_c0 hO (w_octet_Halves h8) rfl fun _ σ _ _ hO h9 h10 => ?_
    have hL := hL.trans h9
    obtain ⟨rfl, rfl⟩ := h10
    have hO : Obs _ _ [_] := hO
    refine wpn_qa hO [] [(5, .pointer (some ⟨b1, 0, none⟩)), (9, .int .i64 c3.2.1), (10, .int .i64 c3.2.2), (11, .int .i64 c7.1), (12, .int .i64 c7.2)] (And.intro rfl (And.intro rfl (And.intro rfl (And.intro rfl (And.intro rfl trivial))))) fun j => ?_
    refine wpn_assoc ?_
    refine wpn_p2r ?_
    refine wpn_qa hO [0, 0] [(6, .int .i64 c3.2.1), (7, .bool (((c3.2.2 == 0) && (c7.1 == p2.High)) && (c7.2 == p2.Low)))] (And.intro (And.intro rfl rfl) (And.intro (And.intro rfl rfl) (fun _ => And.intro (And.intro rfl rfl) (And.intro (And.intro rfl rfl) (fun _ => And.intro rfl (And.intro rfl trivial)))))) fun j => ?_
    refine wpn_rt ?_
    refine inb_r1 ?_
    refine thn_r1 ?_
    injection hF with hF
    subst hF
    have hO := hO.sel [] (by decide)
    exact hQ _ _ _ _ _ rfl hO hL ⟨rfl, rfl⟩
  · refine wpn_cF (congrArg Value.bool hb2) ?_
    refine wpn_assoc ?_
    refine wpn_qa hO [] [(0, .slice A0 p0.length c0), (1, .int .i64 p1), (5, .pointer (some ⟨b1, 0, none⟩)), (51, .bool ((Int.tmod (p2.Kind.toNat : Int) 3) == 1))] (And.intro rfl (And.intro rfl (And.intro rfl (And.intro rfl trivial)))) fun j => ?_
    rcases ite_some hF with ⟨hb11, hF⟩ | ⟨hb11, hF⟩
    · refine wpn_cT (congrArg Value.bool hb11) ?_
      refine wpn_assoc ?_
      refine wpn_q hO 2 [] [(5, .pointer (some ⟨b1, 0, none⟩)), (54, .slice A0 p0.length c0), (55, .int .i64 p1)] (And.intro rfl (And.intro rfl (And.intro rfl trivial))) fun j => ?_
      obtain ⟨c12, h13, hF⟩ := bind_some hF
      refine wpn_c0 hO (w_octet_Place r0 h13) rfl fun _ σ _ _ hO h14 h15 => ?_
      have hL := hL.trans h14
      have r0 := r0.le h14
      obtain ⟨rfl, rfl⟩ := h15
      have hO : Obs _ _ [_] := hO
      refine wpn_qa hO [] [(5, .pointer (some ⟨b1, 0, none⟩)), (13, .int .i64 c12.1), (14, .int .i64 c12.2.1), (15, .int .i64 c12.2.2)] (And.intro rfl (And.intro rfl (And.intro rfl (And.intro rfl trivial)))) fun j => ?_
      refine wpn_assoc ?_
      refine wpn_p2r ?_
      refine wpn_qa hO [0] [(6, .int .i64 c12.2.1), (7, .bool ((c12.2.2 == 0) && (c12.1 == p2.Place)))] (And.intro (And.intro rfl rfl) (And.intro (And.intro rfl rfl) (fun _ => And.intro rfl (And.intro rfl trivial)))) fun j => ?_
      refine wpn_rt ?_
      refine inb_r1 ?_
      refine thn_r1 ?_
      injection hF with hF
      subst hF
      have hO := hO.sel [] (by decide)
      exact hQ _ _ _ _ _ rfl hO hL ⟨rfl, rfl⟩
    · refine wpn_cF (congrArg Value.bool hb11) ?_
      refine wpn_sk ?_
      refine wpn_end ?_
      refine inb_i ?_
      refine thn_i ?_
      refine wpn_q hO 2 [] [(5, .pointer (some ⟨b1, 0, none⟩)), (70, .slice A0 p0.length c0), (71, .int .i64 p1)] (And.intro rfl (And.intro rfl (And.intro rfl trivial))) fun j => ?_
      obtain ⟨c16, h17, hF⟩ := bind_some hF
      refine wpn_c0 hO (w_octet_Text r0 h17) rfl fun _ σ _ _ hO h18 h19 => ?_
      have hL := hL.trans h18
      have r0 := r0.le h18
      obtain ⟨rfl, rfl⟩ := h19
      have hO : Obs _ _ [_] := hO
      refine wpn_qa hO [] [(5, .pointer (some ⟨b1, 0, none⟩)), (16, .string c16.1), (17, .int .i64 c16.2.1), (18, .int .i64 c16.2.2)] (And.intro rfl (And.intro rfl (And.intro rfl (And.intro rfl trivial)))) fun j => ?_
      refine wpn_p2r ?_
      refine wpn_qa hO [0] [(6, .int .i64 c16.2.1), (7, .bool ((c16.2.2 == 0) && (strEq c16.1 p2.Text)))] (And.intro (And.intro rfl rfl) (And.intro (And.intro rfl rfl) (fun _ => And.intro rfl (And.intro rfl trivial)))) fun j => ?_
      refine wpn_r1 ?_
      injection hF with hF
      subst hF
      have hO := hO.sel [] (by decide)
      exact hQ _ _ _ _ _ rfl hO hL ⟨rfl, rfl⟩

/-! theodolite/theodolitelaw01.OctetOrder -/
theorem w_law01_OctetOrder {τ : Hp} {p0 : Int} {p1 : Int}  {rr : Bool} (hF : F_law01_OctetOrder p0 p1 = some rr) :
    Ctr Try.prog 12 #[.int .i64 p0, .int .i64 p1] τ [] (fun v τ' vs' => v = .bool rr ∧ vs' = []) := by
  refine ctr_of (args := [.int .i64 p0, .int .i64 p1]) hm Try.func12 s12 rfl fun w0 σ hO Q hQ => ?_
  unfold F_law01_OctetOrder at hF
  have hL := Hp.le.refl τ
  show wpn _ _ a12.body _ _ _
  unfold a12
  dsimp only
  refine wpn_qa hO [] [(0, .int .i64 p0), (1, .int .i64 p1)] (And.intro rfl (And.intro rfl trivial)) fun j => ?_
  refine wpn_q hO 1 [] [(0, .int .i64 p0), (1, .int .i64 p1), (10, .int .i64 p0)] (And.intro rfl (And.intro rfl (And.intro rfl trivial))) fun j => ?_
  obtain ⟨c1, h2, hF⟩ := bind_some hF
  refine wpn_c0 hO (w_octet_PutPlace (RdT.nil Ty.u8 _) h2) rfl fun _ σ _ _ hO h3 h4 => ?_
  have hL := hL.trans h3
  obtain ⟨v5, o8, rfl, rfl, w9⟩ := h4
  obtain ⟨A6, c7, rfl, -⟩ := w9.form
  have hO : Obs _ _ [_] := hO
  refine wpn_qa hO [] [(0, .int .i64 p0), (1, .int .i64 p1), (5, .slice A6 c1.1.length c7), (6, .int .i64 c1.2)] (And.intro rfl (And.intro rfl (And.intro rfl (And.intro rfl trivial)))) fun j => ?_
  refine wpn_q hO 1 [] [(0, .int .i64 p0), (1, .int .i64 p1), (5, .slice A6 c1.1.length c7), (6, .int .i64 c1.2), (15, .int .i64 p1)] (And.intro rfl (And.intro rfl (And.intro rfl (And.intro rfl (And.intro rfl trivial))))) fun j => ?_
  obtain ⟨c10, h11, hF⟩ := bind_some hF
  refine wpn_c0 hO (w_octet_PutPlace (RdT.nil Ty.u8 _) h11) rfl fun _ σ _ _ hO h12 h13 => ?_
  have hL := hL.trans h12
  have w9 := w9.le h12
  obtain ⟨v14, o17, rfl, rfl, w18⟩ := h13
  obtain ⟨A15, c16, rfl, -⟩ := w18.form
  have hO : Obs _ _ [_, _] := hO
  refine wpn_qa hO [] [(0, .int .i64 p0), (1, .int .i64 p1), (5, .slice A6 c1.1.length c7), (6, .int .i64 c1.2), (7, .slice A15 c10.1.length c16), (8, .int .i64 c10.2)] (And.intro rfl (And.intro rfl (And.intro rfl (And.intro rfl (And.intro rfl (And.intro rfl trivial)))))) fun j => ?_
  refine wpn_assoc ?_
  refine wpn_q hO 9 [] [(0, .int .i64 p0), (1, .int .i64 p1), (5, .slice A6 c1.1.length c7), (6, .int .i64 c1.2), (7, .slice A15 c10.1.length c16), (8, .int .i64 c10.2), (28, .bool (!((c1.2 == 0) == ((decide (p0 ≥ 0)) && (decide (p0 < 16777216))))))] (And.intro (And.intro rfl rfl) (fun _ => And.intro rfl (And.intro rfl (And.intro rfl (And.intro rfl (And.intro rfl (And.intro rfl (And.intro rfl trivial)))))))) fun j => ?_
  obtain ⟨c19, h20, hF⟩ := bind_some hF
  refine wpn_midq 4 [(38, .bool c19), (0, .int .i64 p0), (1, .int .i64 p1), (5, .slice A6 c1.1.length c7), (6, .int .i64 c1.2), (7, .slice A15 c10.1.length c16), (8, .int .i64 c10.2)] (fun Q hQ => ?_) fun j => ?_
  · have hF := h20
    rcases ite_some hF with ⟨hb21, hF⟩ | ⟨hb21, hF⟩
    · refine wpn_gF (congrArg (fun x => isB (.bool x) false) hb21) ?_
      refine wpn_gF rfl ?_
      refine wpn_gF (congrArg (fun x => isB (.bool x) false) hb21) ?_
      refine wpn_pk (congrArg Value.bool hb21) ?_
      refine wpn_nil ?_
      injection hF with hF
      subst hF
      refine wpn_end ?_
      exact hQ _ (And.intro rfl (And.intro rfl (And.intro rfl (And.intro rfl (And.intro rfl (And.intro rfl (And.intro rfl trivial)))))))
    · refine wpn_gT (congrArg (fun x => isB (.bool x) false) hb21) ?_
      refine wpn_q hO 5 [] [(0, .int .i64 p0), (1, .int .i64 p1), (5, .slice A6 c1.1.length c7), (6, .int .i64 c1.2), (7, .slice A15 c10.1.length c16), (8, .int .i64 c10.2), (28, .bool (!((c1.2 == 0) == ((decide (p0 ≥ 0)) && (decide (p0 < 16777216)))))), (30, .bool (c10.2 == 0)), (33, .bool (decide (p1 ≥ 0)))] (And.intro rfl (And.intro rfl (And.intro rfl (And.intro rfl (And.intro rfl (And.intro rfl (And.intro rfl (And.intro rfl (And.intro rfl trivial))))))))) fun j => ?_
      rcases ite_some hF with ⟨hb22, hF⟩ | ⟨hb22, hF⟩
      · refine wpn_gT (congrArg (fun x => isB (.bool x) true) hb22) ?_
        refine wpn_q hO 2 [] [(0, .int .i64 p0), (1, .int .i64 p1), (5, .slice A6 c1.1.length c7), (6, .int .i64 c1.2), (7, .slice A15 c10.1.length c16), (8, .int .i64 c10.2), (28, .bool (!((c1.2 == 0) == ((decide (p0 ≥ 0)) && (decide (p0 < 16777216)))))), (30, .bool (c10.2 == 0)), (33, .bool (decide (p1 ≥ 0))), (35, .bool (decide (p1 < 16777216)))] (And.intro rfl (And.intro rfl (And.intro rfl (And.intro rfl (And.intro rfl (And.intro rfl (And.intro rfl (And.intro rfl (And.intro rfl (And.intro rfl trivial)))))))))) fun j => ?_
        refine wpn_gT (congrArg (fun x => isB (.bool x) false) hb21) ?_
        refine wpn_pk (congrArg Value.bool hb22) ?_
        refine wpn_q hO 1 [] [(0, .int .i64 p0), (1, .int .i64 p1), (5, .slice A6 c1.1.length c7), (6, .int .i64 c1.2), (7, .slice A15 c10.1.length c16), (8, .int .i64 c10.2), (28, .bool (!((c1.2 == 0) == ((decide (p0 ≥ 0)) && (decide (p0 < 16777216)))))), (37, .bool (!((c10.2 == 0) == (decide (p1 < 16777216)))))] (And.intro rfl (And.intro rfl (And.intro rfl (And.intro rfl (And.intro rfl (And.intro rfl (And.intro rfl (And.intro rfl trivial)))))))) fun j => ?_
        refine wpn_pk (congrArg Value.bool hb21) ?_
        refine wpn_nil ?_
        injection hF with hF
        subst hF
        refine wpn_end ?_
        exact hQ _ (And.intro rfl (And.intro rfl (And.intro rfl (And.intro rfl (And.intro rfl (And.intro rfl (And.intro rfl trivial)))))))
      · refine wpn_gF (congrArg (fun x => isB (.bool x) true) hb22) ?_
        refine wpn_gT (congrArg (fun x => isB (.bool x) false) hb21) ?_
        refine wpn_pk (congrArg Value.bool hb22) ?_
        refine wpn_q hO 1 [] [(0, .int .i64 p0), (1, .int .i64 p1), (5, .slice A6 c1.1.length c7), (6, .int .i64 c1.2), (7, .slice A15 c10.1.length c16), (8, .int .i64 c10.2), (28, .bool (!((c1.2 == 0) == ((decide (p0 ≥ 0)) && (decide (p0 < 16777216)))))), (37, .bool (!((c10.2 == 0) == false)))] (And.intro rfl (And.intro rfl (And.intro rfl (And.intro rfl (And.intro rfl (And.intro rfl (And.intro rfl (And.intro rfl trivial)))))))) fun j => ?_
        refine wpn_pk (congrArg Value.bool hb21) ?_
        refine wpn_nil ?_
        injection hF with hF
        subst hF
        refine wpn_end ?_
        exact hQ _ (And.intro rfl (And.intro rfl (And.intro rfl (And.intro rfl (And.intro rfl (And.intro rfl (And.intro rfl trivial)))))))
  · refine wpn_nil ?_
    rcases ite_some hF with ⟨hb23, hF⟩ | ⟨hb23, hF⟩
    · refine wpn_cT (congrArg Value.bool hb23) ?_
      refine wpn_assoc ?_
      refine wpn_qa hO [] [(4, .bool false)] (And.intro rfl trivial) fun j => ?_
      refine wpn_rt ?_
      injection hF with hF
      subst hF
      have hO := hO.sel [] (by decide)
      exact hQ _ _ _ _ _ rfl hO hL ⟨rfl, rfl⟩
    · refine wpn_cF (congrArg Value.bool hb23) ?_
      refine wpn_sk ?_
      refine wpn_assoc ?_
      refine wpn_qa hO [] [(0, .int .i64 p0), (1, .int .i64 p1), (5, .slice A6 c1.1.length c7), (7, .slice A15 c10.1.length c16), (44, .bool ((c1.2 != 0) || (c10.2 != 0)))] (And.intro (And.intro rfl rfl) (fun _ => And.intro rfl (And.intro rfl (And.intro rfl (And.intro rfl (And.intro rfl trivial)))))) fun j => ?_
      rcases ite_some hF with ⟨hb24, hF⟩ | ⟨hb24, hF⟩
      · refine wpn_cT (congrArg Value.bool hb24) ?_
        refine wpn_assoc ?_
        obtain ⟨c25, h26, hF⟩ := bind_some hF
        refine wpn_c0 hO (w_law01_works h26) rfl fun _ σ _ _ hO h27 h28 => ?_
        have hL := hL.trans h27
        have w9 := w9.le h27
        have w18 := w18.le h27
        obtain ⟨rfl, rfl⟩ := h28
        have hO : Obs _ _ [_, _] := hO
        refine wpn_qa hO [] [(4, .bool c25)] (And.intro rfl trivial) fun j => ?_
        refine wpn_rt ?_
        injection hF with hF
        subst hF
        have hO := hO.sel [] (by decide)
        exact hQ _ _ _ _ _ rfl hO hL ⟨rfl, rfl⟩
      · refine wpn_cF (congrArg Value.bool hb24) ?_
        refine wpn_sk ?_
        refine wpn_q hO 7 [] [(0, .int .i64 p0), (1, .int .i64 p1), (5, .slice A6 c1.1.length c7), (7, .slice A15 c10.1.length c16), (54, .bool (((c1.1.length : Int) == 3) && ((c10.1.length : Int) == 3)))] (And.intro (And.intro rfl rfl) (fun _ => And.intro rfl (And.intro rfl (And.intro rfl (And.intro rfl (And.intro rfl trivial)))))) fun j => ?_
        obtain ⟨c29, h30, hF⟩ := bind_some hF
        refine wpn_midq 2 [(64, .bool c29)] (fun Q hQ => ?_) fun j => ?_
        · have hF := h30
          rcases ite_some hF with ⟨hb31, hF⟩ | ⟨hb31, hF⟩
          · refine wpn_gT (congrArg (fun x => isB (.bool x) true) hb31) ?_
            refine wpn_q hO 1 [] [(0, .int .i64 p0), (1, .int .i64 p1), (7, .slice A15 c10.1.length c16), (54, .bool (((c1.1.length : Int) == 3) && ((c10.1.length : Int) == 3))), (55, .slice A6 c1.1.length c7)] (And.intro rfl (And.intro rfl (And.intro rfl (And.intro rfl (And.intro rfl trivial))))) fun j => ?_
            refine wpn_ts (l := c1.1) ((w9.rd hO (i := 0) rfl).le (Hp.le.refl _)) rfl ?_
            refine wpn_q hO 1 [] [(0, .int .i64 p0), (1, .int .i64 p1), (54, .bool (((c1.1.length : Int) == 3) && ((c10.1.length : Int) == 3))), (56, .string (⟨c1.1.toArray⟩ : ByteArray)), (57, .slice A15 c10.1.length c16)] (And.intro rfl (And.intro rfl (And.intro rfl (And.intro rfl (And.intro rfl trivial))))) fun j => ?_
            refine wpn_ts (l := c10.1) ((w18.rd hO (i := 1) rfl).le (Hp.le.refl _)) rfl ?_
            refine wpn_q hO 5 [] [(54, .bool (((c1.1.length : Int) == 3) && ((c10.1.length : Int) == 3))), (63, .bool ((strLt (⟨c1.1.toArray⟩ : ByteArray) (⟨c10.1.toArray⟩ : ByteArray)) == (decide (p0 < p1))))] (And.intro rfl (And.intro rfl trivial)) fun j => ?_
            refine wpn_pk (congrArg Value.bool hb31) ?_
            refine wpn_nil ?_
            injection hF with hF
            subst hF
            refine wpn_end ?_
            exact hQ _ (And.intro rfl (trivial))
          · refine wpn_gF (congrArg (fun x => isB (.bool x) true) hb31) ?_
            refine wpn_pk (congrArg Value.bool hb31) ?_
            refine wpn_nil ?_
            injection hF with hF
            subst hF
            refine wpn_end ?_
            exact hQ _ (And.intro rfl (trivial))
        · refine wpn_q hO 1 [] [(65, .bool c29)] (And.intro rfl trivial) fun j => ?_
          have hO := hO.sel [] (by decide)
          have hO : Obs _ _ [] := hO
          obtain ⟨c32, h33, hF⟩ := bind_some hF
          refine wpn_mid 2 (fun e' σ' => ∃ (τ' : Hp), agr [(67, .bool c32)] e' ∧ Obs τ' σ' [] ∧ Hp.le τ τ') ?_ ?_
          · have hF := h33
            rcases ite_some hF with ⟨hb34, hF⟩ | ⟨hb34, hF⟩
            · refine wpn_gT (congrArg (fun x => isB (.bool x) true) hb34) ?_
              obtain ⟨c35, h36, hF⟩ := bind_some hF
              refine wpn_c0 hO (w_law01_works h36) rfl fun _ σ _ _ hO h37 h38 => ?_
              have hL := hL.trans h37
              obtain ⟨rfl, rfl⟩ := h38
              have hO : Obs _ _ [] := hO
              refine wpn_pk (congrArg Value.bool hb34) ?_
              refine wpn_nil ?_
              injection hF with hF
              subst hF
              refine wpn_end ?_
              exact ⟨rfl, _, And.intro rfl (trivial), hO, hL⟩
            · refine wpn_gF (congrArg (fun x => isB (.bool x) true) hb34) ?_
              refine wpn_pk (congrArg Value.bool hb34) ?_
              refine wpn_nil ?_
              injection hF with hF
              subst hF
              refine wpn_end ?_
              exact ⟨rfl, _, And.intro rfl (trivial), hO, hL⟩
          · rintro e σ ⟨_, hA, hO, hL⟩
            rw [← sets_agr _ _ hA]
            refine wpn_qa hO [] [(4, .bool c32)] (And.intro rfl trivial) fun j => ?_
            refine wpn_r1 ?_
            injection hF with hF
            subst hF
            exact hQ _ _ _ _ _ rfl hO hL ⟨rfl, rfl⟩

end Go.Proofs.Ytmcfgapknoiohaa
