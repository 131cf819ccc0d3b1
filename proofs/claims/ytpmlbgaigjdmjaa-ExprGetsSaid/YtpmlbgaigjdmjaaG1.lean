import Derived.Test.YtpmlbgaigjdmjaaF
import Derived.Test.YtpmlbgaigjdmjaaAc0
import Derived.Test.YtpmlbgaigjdmjaaM00
import Derived.Test.YtpmlbgaigjdmjaaM02
import Derived.Test.YtpmlbgaigjdmjaaG0
namespace Go.Proofs.Ytpmlbgaigjdmjaa
open Go.Ab Go.RowKit
set_option linter.unusedVariables false
set_option linter.unusedSimpArgs false
set_option maxRecDepth 10000
theorem w_ref00_Kept {τ : Hp} {v0 : Value} {p0 : (List UInt8)} {q0 : (List UInt8)} {v1 : Value} {p1 : (List UInt8)} (r0 : RdT Ty.u8 τ v0 p0) (f0 : Full Ty.u8 τ v0 q0) (r1 : RdT Ty.u8 τ v1 p1) {rr : Bool} (hF : F_ref00_Kept p0 q0 p1 = some rr) :
    Ctr Try.prog 13 #[v0, v1] τ [] (fun v τ' vs' => v = .bool rr ∧ vs' = []) := by
  obtain ⟨A0, n0, rfl, f0⟩ := f0
  obtain ⟨_, _, hv0, -⟩ := r0.form
  injection hv0 with _ hv0 _
  subst hv0
  have f0 : Full Ty.u8 τ (.slice A0 p0.length q0.length) q0 := ⟨_, _, rfl, f0⟩
  obtain ⟨A1, c1, rfl, -⟩ := r1.form
  refine ctr_of (args := [.slice A0 p0.length q0.length, .slice A1 p1.length c1]) hm Try.func13 s13 rfl fun w0 σ hO Q hQ => ?_
  unfold F_ref00_Kept at hF
  have hL := Hp.le.refl τ
  show wpn _ _ a13.body _ _ _
  unfold a13
  dsimp only
  refine wpn_qa hO [] [(0, .slice A0 p0.length q0.length), (1, .slice A1 p1.length c1)] (And.intro rfl (And.intro rfl trivial)) fun j => ?_
  refine wpn_assoc ?_
  refine wpn_qa hO [] [(0, .slice A0 p0.length q0.length), (1, .slice A1 p1.length c1), (20, .bool (((p0.length : Int) != (p1.length : Int)) || (decide ((q0.length : Int) < (IntKind.i64.wrap ((p0.length : Int) + 8))))))] (And.intro (And.intro rfl rfl) (fun _ => And.intro rfl (And.intro rfl (And.intro rfl trivial)))) fun j => ?_
  rcases ite_some hF with ⟨hb3, hF⟩ | ⟨hb3, hF⟩
  · refine wpn_cT (congrArg Value.bool hb3) ?_
    refine wpn_assoc ?_
    refine wpn_qa hO [] [(4, .bool false)] (And.intro rfl trivial) fun j => ?_
    refine wpn_rt ?_
    injection hF with hF
    subst hF
    exact hQ _ _ _ _ _ rfl hO hL ⟨rfl, rfl⟩
  · refine wpn_cF (congrArg Value.bool hb3) ?_
    refine wpn_sk ?_
    refine wpn_assoc ?_
    refine wpn_q hO 4 [] [(1, .slice A1 p1.length c1), (21, .slice A0 p0.length q0.length), (24, .int .i64 (IntKind.i64.wrap ((p0.length : Int) + 8)))] (And.intro rfl (And.intro rfl (And.intro rfl trivial))) fun j => ?_
    obtain ⟨y4, g5, hF⟩ := bind_some hF
    refine wpn_slf (T := Ty.u8) f0 rfl rfl g5 fun _ r6 => ?_
    obtain ⟨A7, c8, rfl, -⟩ := r6.form
    refine wpn_qa hO [] [(1, .slice A1 p1.length c1), (25, .slice A7 y4.length c8), (26, .int .i64 (y4.length : Int)), (27, .int .i64 0)] (And.intro rfl (And.intro rfl (And.intro rfl (And.intro rfl trivial)))) fun j => ?_
    refine wpn_bl ?_
    refine wpn_lp (fun (n : Nat) e' σ' => ∃ (x27 : Int) (τ' : Hp), agr [(1, .slice A1 p1.length c1), (25, .slice A7 y4.length c8), (26, .int .i64 (y4.length : Int)), (27, .int .i64 x27)] e' ∧ Obs τ' σ' [] ∧ Hp.le τ τ' ∧ RdT Ty.u8 τ' (.slice A1 p1.length c1) p1 ∧ RdT Ty.u8 τ' (.slice A7 y4.length c8) y4 ∧ F_ref00_Kept_l3 p1 y4 n x27 = some rr) big ⟨0, _, And.intro rfl (And.intro rfl (And.intro rfl (And.intro rfl trivial))), hO, hL, r1, r6, hF⟩ ?_
    clear hF hO hL
    rintro n42 e σ ⟨x27, _, hA, hO, hL, r25, r26, hF⟩
    rw [← sets_agr _ _ hA]
    cases n42 with
    | zero => exact nomatch (show none = some rr from hF)
    | succ n42 =>
      replace hF : F_ref00_Kept_l3B (F_ref00_Kept_l3 p1 y4 n42) p1 y4 x27 = some rr := hF
      unfold F_ref00_Kept_l3B at hF
      refine wpn_qa hO [] [(1, .slice A1 p1.length c1), (25, .slice A7 y4.length c8), (26, .int .i64 (y4.length : Int)), (27, .int .i64 x27), (28, .bool (decide (x27 < (y4.length : Int))))] (And.intro rfl (And.intro rfl (And.intro rfl (And.intro rfl (And.intro rfl trivial))))) fun j => ?_
      rcases ite_some hF with ⟨hb43, hF⟩ | ⟨hb43, hF⟩
      · refine wpn_cT (congrArg Value.bool hb43) ?_
        refine wpn_sk ?_
        refine wpn_bl ?_
        refine wpn_q hO 1 [] [(1, .slice A1 p1.length c1), (25, .slice A7 y4.length c8), (26, .int .i64 (y4.length : Int)), (27, .int .i64 x27), (29, .int .i64 x27)] (And.intro rfl (And.intro rfl (And.intro rfl (And.intro rfl (And.intro rfl trivial))))) fun j => ?_
        obtain ⟨y44, g45, hF⟩ := bind_some hF
        refine wpn_idx (T := Ty.u8) r26 hO.base rfl rfl g45 (by decide) fun a46 _ k47 m48 => ?_
        obtain rfl : _ = ([.int .u8 y44.toNat] : List Value) := k47
        refine wpn_ld rfl (m48.le hO.base).fst ?_
        refine wpn_qa hO [] [(1, .slice A1 p1.length c1), (5, .int .i64 x27), (6, .int .u8 (y44.toNat : Int)), (25, .slice A7 y4.length c8), (26, .int .i64 (y4.length : Int)), (27, .int .i64 x27)] (And.intro rfl (And.intro rfl (And.intro rfl (And.intro rfl (And.intro rfl (And.intro rfl trivial)))))) fun j => ?_
        refine wpn_qa hO [] [(1, .slice A1 p1.length c1), (5, .int .i64 x27), (6, .int .u8 (y44.toNat : Int)), (7, .int .u8 (IntKind.u8.wrap (IntKind.i64.wrap ((IntKind.i64.wrap (8 + (p1.length : Int))) - x27)))), (25, .slice A7 y4.length c8), (26, .int .i64 (y4.length : Int)), (27, .int .i64 x27)] (And.intro rfl (And.intro rfl (And.intro rfl (And.intro rfl (And.intro rfl (And.intro rfl (And.intro rfl trivial))))))) fun j => ?_
        refine wpn_assoc ?_
        refine wpn_qa hO [] [(1, .slice A1 p1.length c1), (5, .int .i64 x27), (6, .int .u8 (y44.toNat : Int)), (7, .int .u8 (IntKind.u8.wrap (IntKind.i64.wrap ((IntKind.i64.wrap (8 + (p1.length : Int))) - x27)))), (25, .slice A7 y4.length c8), (26, .int .i64 (y4.length : Int)), (27, .int .i64 x27), (41, .bool (decide (x27 < (p1.length : Int))))] (And.intro rfl (And.intro rfl (And.intro rfl (And.intro rfl (And.intro rfl (And.intro rfl (And.intro rfl (And.intro rfl trivial)))))))) fun j => ?_
        rcases ite_some hF with ⟨hb49, hF⟩ | ⟨hb49, hF⟩
        · refine wpn_cT (congrArg Value.bool hb49) ?_
          refine wpn_q hO 2 [] [(1, .slice A1 p1.length c1), (6, .int .u8 (y44.toNat : Int)), (25, .slice A7 y4.length c8), (26, .int .i64 (y4.length : Int)), (27, .int .i64 x27), (42, .slice A1 p1.length c1), (43, .int .i64 x27)] (And.intro rfl (And.intro rfl (And.intro rfl (And.intro rfl (And.intro rfl (And.intro rfl (And.intro rfl trivial))))))) fun j => ?_
          obtain ⟨y50, g51, hF⟩ := bind_some hF
          refine wpn_idx (T := Ty.u8) r25 hO.base rfl rfl g51 (by decide) fun a52 _ k53 m54 => ?_
          obtain rfl : _ = ([.int .u8 y50.toNat] : List Value) := k53
          refine wpn_ld rfl (m54.le hO.base).fst ?_
          refine wpn_qa hO [] [(1, .slice A1 p1.length c1), (6, .int .u8 (y44.toNat : Int)), (7, .int .u8 (y50.toNat : Int)), (25, .slice A7 y4.length c8), (26, .int .i64 (y4.length : Int)), (27, .int .i64 x27)] (And.intro rfl (And.intro rfl (And.intro rfl (And.intro rfl (And.intro rfl (And.intro rfl trivial)))))) fun j => ?_
          refine wpn_qa hO [] [(1, .slice A1 p1.length c1), (25, .slice A7 y4.length c8), (26, .int .i64 (y4.length : Int)), (27, .int .i64 x27), (48, .bool ((y44.toNat : Int) != (y50.toNat : Int)))] (And.intro rfl (And.intro rfl (And.intro rfl (And.intro rfl (And.intro rfl trivial))))) fun j => ?_
          refine wpn_clast ?_
          rcases ite_some hF with ⟨hb55, hF⟩ | ⟨hb55, hF⟩
          · refine wpn_cT (congrArg Value.bool hb55) ?_
            refine wpn_assoc ?_
            refine wpn_qa hO [] [(4, .bool false)] (And.intro rfl trivial) fun j => ?_
            refine wpn_rt ?_
            refine inb_r1 ?_
            refine thn_r1 ?_
            refine thn_r1 ?_
            refine inb_r1 ?_
            refine thn_r1 ?_
            injection hF with hF
            subst hF
            exact hQ _ _ _ _ _ rfl hO hL ⟨rfl, rfl⟩
          · refine wpn_cF (congrArg Value.bool hb55) ?_
            refine wpn_sk ?_
            refine wpn_end ?_
            refine inb_i ?_
            refine thn_i ?_
            refine wpn_rlast ?_
            refine wpn_qa hO [] [(1, .slice A1 p1.length c1), (25, .slice A7 y4.length c8), (26, .int .i64 (y4.length : Int)), (27, .int .i64 (IntKind.i64.wrap (x27 + 1)))] (And.intro rfl (And.intro rfl (And.intro rfl (And.intro rfl trivial)))) fun j => ?_
            refine wpn_end ?_
            refine thn_i ?_
            exact ⟨n42, Nat.lt_succ_self _, (IntKind.i64.wrap (x27 + 1)), _, And.intro rfl (And.intro rfl (And.intro rfl (And.intro rfl trivial))), hO, hL, r25, r26, hF⟩
        · refine wpn_cF (congrArg Value.bool hb49) ?_
          refine wpn_sk ?_
          refine wpn_qa hO [] [(1, .slice A1 p1.length c1), (25, .slice A7 y4.length c8), (26, .int .i64 (y4.length : Int)), (27, .int .i64 x27), (48, .bool ((y44.toNat : Int) != (IntKind.u8.wrap (IntKind.i64.wrap ((IntKind.i64.wrap (8 + (p1.length : Int))) - x27)))))] (And.intro rfl (And.intro rfl (And.intro rfl (And.intro rfl (And.intro rfl trivial))))) fun j => ?_
          refine wpn_clast ?_
          rcases ite_some hF with ⟨hb56, hF⟩ | ⟨hb56, hF⟩
          · refine wpn_cT (congrArg Value.bool hb56) ?_
            refine wpn_assoc ?_
            refine wpn_qa hO [] [(4, .bool false)] (And.intro rfl trivial) fun j => ?_
            refine wpn_rt ?_
            refine inb_r1 ?_
            refine thn_r1 ?_
            refine thn_r1 ?_
            refine inb_r1 ?_
            refine thn_r1 ?_
            injection hF with hF
            subst hF
            exact hQ _ _ _ _ _ rfl hO hL ⟨rfl, rfl⟩
          · refine wpn_cF (congrArg Value.bool hb56) ?_
            refine wpn_sk ?_
            refine wpn_end ?_
            refine inb_i ?_
            refine thn_i ?_
            refine wpn_rlast ?_
            refine wpn_qa hO [] [(1, .slice A1 p1.length c1), (25, .slice A7 y4.length c8), (26, .int .i64 (y4.length : Int)), (27, .int .i64 (IntKind.i64.wrap (x27 + 1)))] (And.intro rfl (And.intro rfl (And.intro rfl (And.intro rfl trivial)))) fun j => ?_
            refine wpn_end ?_
            refine thn_i ?_
            exact ⟨n42, Nat.lt_succ_self _, (IntKind.i64.wrap (x27 + 1)), _, And.intro rfl (And.intro rfl (And.intro rfl (And.intro rfl trivial))), hO, hL, r25, r26, hF⟩
      · refine wpn_cF (congrArg Value.bool hb43) ?_
        refine wpn_ex ?_
        refine thn_x ?_
        refine inb_x ?_
        refine thn_i ?_
        refine wpn_qa hO [] [(4, .bool true)] (And.intro rfl trivial) fun j => ?_
        refine wpn_r1 ?_
        injection hF with hF
        subst hF
        exact hQ _ _ _ _ _ rfl hO hL ⟨rfl, rfl⟩
theorem w_ref06_Get {τ : Hp} {v0 : Value} {p0 : (List UInt8)} {p1 : Int} (r0 : RdT Ty.u8 τ v0 p0) {rr : (List S_api_Loc) × Int × Int} (hF : F_ref06_Get p0 p1 = some rr) :
    Ctr Try.prog 19 #[v0, .int .i64 p1] τ [] (fun v τ' vs' => ∃ (v0 : Value), v = .tuple #[v0, .int .i64 rr.2.1, .int .i64 rr.2.2] ∧ vs' = [] ∧ RdT TyS_api_Loc τ' v0 rr.1) := by
  obtain ⟨A0, c0, rfl, -⟩ := r0.form
  refine ctr_of (args := [.slice A0 p0.length c0, .int .i64 p1]) hm Try.func19 s19 rfl fun w0 σ hO Q hQ => ?_
  unfold F_ref06_Get at hF
  have hL := Hp.le.refl τ
  show wpn _ _ a19.body _ _ _
  unfold a19
  dsimp only
  refine wpn_qa hO [] [(0, .slice A0 p0.length c0), (1, .int .i64 p1)] (And.intro rfl (And.intro rfl trivial)) fun j => ?_
  refine wpn_assoc ?_
  refine wpn_qa hO [] [(0, .slice A0 p0.length c0), (1, .int .i64 p1), (20, .bool ((decide (p1 < 0)) || (decide (p1 > (p0.length : Int)))))] (And.intro (And.intro rfl rfl) (fun _ => And.intro rfl (And.intro rfl (And.intro rfl trivial)))) fun j => ?_
  rcases ite_some hF with ⟨hb3, hF⟩ | ⟨hb3, hF⟩
  · refine wpn_cT (congrArg Value.bool hb3) ?_
    refine wpn_assoc ?_
    refine wpn_qa hO [] [(4, .slice none 0 0), (5, .int .i64 0), (6, .int .i64 1)] (And.intro rfl (And.intro rfl (And.intro rfl trivial))) fun j => ?_
    refine wpn_rt ?_
    injection hF with hF
    subst hF
    exact hQ _ _ _ _ _ rfl hO hL ⟨_, rfl, rfl, (RdT.nil _ _)⟩
  · refine wpn_cF (congrArg Value.bool hb3) ?_
    refine wpn_sk ?_
    refine wpn_q hO 2 [] [(0, .slice A0 p0.length c0), (22, .slice A0 p0.length c0), (23, .int .i64 p1)] (And.intro rfl (And.intro rfl (And.intro rfl trivial))) fun j => ?_
    obtain ⟨c4, h5, hF⟩ := bind_some hF
    refine wpn_c0 hO (w_ref02_U r0 h5) rfl fun _ σ _ _ hO h6 h7 => ?_
    have hL := hL.trans h6
    have r0 := r0.le h6
    obtain ⟨rfl, rfl⟩ := h7
    have hO : Obs _ _ [] := hO
    refine wpn_qa hO [] [(0, .slice A0 p0.length c0), (7, .int .u64 c4.1), (8, .int .i64 c4.2.1), (9, .int .i64 c4.2.2)] (And.intro rfl (And.intro rfl (And.intro rfl (And.intro rfl trivial)))) fun j => ?_
    refine wpn_assoc ?_
    refine wpn_qa hO [] [(0, .slice A0 p0.length c0), (7, .int .u64 c4.1), (8, .int .i64 c4.2.1), (33, .bool ((c4.2.2 != 0) || (decide (c4.1 > 16))))] (And.intro (And.intro rfl rfl) (fun _ => And.intro rfl (And.intro rfl (And.intro rfl (And.intro rfl trivial))))) fun j => ?_
    rcases ite_some hF with ⟨hb8, hF⟩ | ⟨hb8, hF⟩
    · refine wpn_cT (congrArg Value.bool hb8) ?_
      refine wpn_assoc ?_
      refine wpn_qa hO [] [(4, .slice none 0 0), (5, .int .i64 0), (6, .int .i64 5)] (And.intro rfl (And.intro rfl (And.intro rfl trivial))) fun j => ?_
      refine wpn_rt ?_
      injection hF with hF
      subst hF
      exact hQ _ _ _ _ _ rfl hO hL ⟨_, rfl, rfl, (RdT.nil _ _)⟩
    · refine wpn_cF (congrArg Value.bool hb8) ?_
      refine wpn_sk ?_
      refine wpn_qa hO [] [(0, .slice A0 p0.length c0), (7, .int .u64 c4.1), (8, .int .i64 c4.2.1), (10, .slice none 0 0)] (And.intro rfl (And.intro rfl (And.intro rfl (And.intro rfl trivial)))) fun j => ?_
      refine wpn_assoc ?_
      refine wpn_qa hO [] [(0, .slice A0 p0.length c0), (7, .int .u64 c4.1), (8, .int .i64 c4.2.1), (10, .slice none 0 0), (11, .int .i64 0)] (And.intro rfl (And.intro rfl (And.intro rfl (And.intro rfl (And.intro rfl trivial))))) fun j => ?_
      refine wpn_bl ?_
      have hO := hO.no
      have hO : Obs _ _ [_] := hO
      refine wpn_lp (fun (n : Nat) e' σ' => ∃ (x40 : Int) (A41 : Option Addr) (c42 : Nat) (o43 : Ob) (x44 : List S_api_Loc) (x46 : Int) (τ' : Hp), agr [(0, .slice A0 p0.length c0), (7, .int .u64 c4.1), (8, .int .i64 x40), (10, .slice A41 x44.length c42), (11, .int .i64 x46)] e' ∧ Obs τ' σ' [o43] ∧ Hp.le τ τ' ∧ RdT Ty.u8 τ' (.slice A0 p0.length c0) p0 ∧ OwnO TyS_api_Loc 48 τ' (.slice A41 x44.length c42) x44 o43 ∧ F_ref06_Get_l3 p0 c4 n x40 x44 x46 = some rr) big ⟨c4.2.1, none, 0, none, [], 0, _, And.intro rfl (And.intro rfl (And.intro rfl (And.intro rfl (And.intro rfl trivial)))), hO, hL, r0, OwnO.nil _ _ _, hF⟩ ?_
      clear hF hO hL
      rintro n76 e σ ⟨x40, A41, c42, o43, x44, x46, _, hA, hO, hL, r39, w45, hF⟩
      rw [← sets_agr _ _ hA]
      cases n76 with
      | zero => exact nomatch (show none = some rr from hF)
      | succ n76 =>
        replace hF : F_ref06_Get_l3B (F_ref06_Get_l3 p0 c4 n76) p0 c4 x40 x44 x46 = some rr := hF
        unfold F_ref06_Get_l3B at hF
        refine wpn_assoc ?_
        refine wpn_qa hO [] [(0, .slice A0 p0.length c0), (7, .int .u64 c4.1), (8, .int .i64 x40), (10, .slice A41 x44.length c42), (11, .int .i64 x46), (37, .bool (decide (x46 < (IntKind.i64.wrap c4.1))))] (And.intro rfl (And.intro rfl (And.intro rfl (And.intro rfl (And.intro rfl (And.intro rfl trivial)))))) fun j => ?_
        rcases ite_some hF with ⟨hb77, hF⟩ | ⟨hb77, hF⟩
        · refine wpn_cT (congrArg Value.bool hb77) ?_
          refine wpn_sk ?_
          refine wpn_bl ?_
          refine wpn_assoc ?_
          refine wpn_qa hO [] [(0, .slice A0 p0.length c0), (7, .int .u64 c4.1), (8, .int .i64 x40), (10, .slice A41 x44.length c42), (11, .int .i64 x46), (43, .bool (decide (x40 ≥ (p0.length : Int))))] (And.intro rfl (And.intro rfl (And.intro rfl (And.intro rfl (And.intro rfl (And.intro rfl trivial)))))) fun j => ?_
          rcases ite_some hF with ⟨hb78, hF⟩ | ⟨hb78, hF⟩
          · refine wpn_cT (congrArg Value.bool hb78) ?_
            refine wpn_assoc ?_
            refine wpn_qa hO [] [(4, .slice none 0 0), (5, .int .i64 0), (6, .int .i64 5)] (And.intro rfl (And.intro rfl (And.intro rfl trivial))) fun j => ?_
            refine wpn_rt ?_
            refine inb_r1 ?_
            refine thn_r1 ?_
            refine thn_r1 ?_
            refine inb_r1 ?_
            refine thn_r1 ?_
            injection hF with hF
            subst hF
            have hO := hO.sel [] (by decide)
            exact hQ _ _ _ _ _ rfl hO hL ⟨_, rfl, rfl, (RdT.nil _ _)⟩
          · refine wpn_cF (congrArg Value.bool hb78) ?_
            refine wpn_sk ?_
            refine wpn_q hO 2 [] [(0, .slice A0 p0.length c0), (7, .int .u64 c4.1), (8, .int .i64 x40), (10, .slice A41 x44.length c42), (11, .int .i64 x46), (44, .slice A0 p0.length c0), (45, .int .i64 x40)] (And.intro rfl (And.intro rfl (And.intro rfl (And.intro rfl (And.intro rfl (And.intro rfl (And.intro rfl trivial))))))) fun j => ?_
            obtain ⟨y79, g80, hF⟩ := bind_some hF
            refine wpn_idx (T := Ty.u8) r39 hO.base rfl rfl g80 (by decide) fun a81 _ k82 m83 => ?_
            obtain rfl : _ = ([.int .u8 y79.toNat] : List Value) := k82
            refine wpn_ld rfl (m83.le hO.base).fst ?_
            refine wpn_q hO 1 [] [(0, .slice A0 p0.length c0), (7, .int .u64 c4.1), (8, .int .i64 x40), (10, .slice A41 x44.length c42), (11, .int .i64 x46), (48, .agg #[(.int .u8 (y79.toNat : Int)), (.int .i64 0)])] (And.intro rfl (And.intro rfl (And.intro rfl (And.intro rfl (And.intro rfl (And.intro rfl trivial)))))) fun j => ?_
            refine wpn_al hO fun b84 σ hO => ?_
            have hO : Obs _ _ [_, _] := hO
            refine wpn_st hO (i := 1) rfl (off := 0) rfl rfl rfl rfl (Nat.le_of_ble_eq_true rfl) rfl fun σ hO => ?_
            have hO : Obs _ _ [_, _] := hO
            refine wpn_nil ?_
            refine wpn_qa hO [] [(0, .slice A0 p0.length c0), (7, .int .u64 c4.1), (8, .int .i64 (IntKind.i64.wrap (x40 + 1))), (10, .slice A41 x44.length c42), (11, .int .i64 x46), (12, .pointer (some ⟨b84, 0, none⟩))] (And.intro rfl (And.intro rfl (And.intro rfl (And.intro rfl (And.intro rfl (And.intro rfl trivial)))))) fun j => ?_
            refine wpn_assoc ?_
            refine wpn_qa hO [1, 1, 1] [(0, .slice A0 p0.length c0), (7, .int .u64 c4.1), (8, .int .i64 (IntKind.i64.wrap (x40 + 1))), (10, .slice A41 x44.length c42), (11, .int .i64 x46), (12, .pointer (some ⟨b84, 0, none⟩)), (63, .bool ((((y79.toNat : Int) == 1) || ((y79.toNat : Int) == 2)) || ((y79.toNat : Int) == 3)))] (And.intro (And.intro rfl rfl) (And.intro (And.intro rfl rfl) (And.intro (And.intro rfl rfl) (fun _ => And.intro (And.intro rfl rfl) (And.intro (And.intro rfl rfl) (fun _ => And.intro rfl (And.intro rfl (And.intro rfl (And.intro rfl (And.intro rfl (And.intro rfl (And.intro rfl trivial)))))))))))) fun j => ?_
            rcases ite_some hF with ⟨hb85, hF⟩ | ⟨hb85, hF⟩
            · refine wpn_cT (congrArg Value.bool hb85) ?_
              refine wpn_assoc ?_
              refine wpn_q hO 2 [] [(0, .slice A0 p0.length c0), (7, .int .u64 c4.1), (10, .slice A41 x44.length c42), (11, .int .i64 x46), (12, .pointer (some ⟨b84, 0, none⟩)), (65, .slice A0 p0.length c0), (66, .int .i64 (IntKind.i64.wrap (x40 + 1)))] (And.intro rfl (And.intro rfl (And.intro rfl (And.intro rfl (And.intro rfl (And.intro rfl (And.intro rfl trivial))))))) fun j => ?_
              obtain ⟨c86, h87, hF⟩ := bind_some hF
              refine wpn_c0 hO (w_ref02_S r39 h87) rfl fun _ σ _ _ hO h88 h89 => ?_
              have hL := hL.trans h88
              have r39 := r39.le h88
              have w45 := w45.le h88
              obtain ⟨rfl, rfl⟩ := h89
              have hO : Obs _ _ [_, _] := hO
              refine wpn_q hO 5 [] [(0, .slice A0 p0.length c0), (7, .int .u64 c4.1), (10, .slice A41 x44.length c42), (11, .int .i64 x46), (12, .pointer (some ⟨b84, 0, none⟩)), (68, .int .i64 c86.1), (69, .int .i64 c86.2.1), (70, .int .i64 c86.2.2), (71, .pointer (some ⟨b84, 1, none⟩))] (And.intro rfl (And.intro rfl (And.intro rfl (And.intro rfl (And.intro rfl (And.intro rfl (And.intro rfl (And.intro rfl (And.intro rfl trivial))))))))) fun j => ?_
              refine wpn_st hO (i := 1) rfl (off := 1) rfl rfl rfl rfl (Nat.le_of_ble_eq_true rfl) rfl fun σ hO => ?_
              have hO : Obs _ _ [_, _] := hO
              refine wpn_qa hO [] [(0, .slice A0 p0.length c0), (7, .int .u64 c4.1), (8, .int .i64 c86.2.1), (9, .int .i64 c86.2.2), (10, .slice A41 x44.length c42), (11, .int .i64 x46), (12, .pointer (some ⟨b84, 0, none⟩))] (And.intro rfl (And.intro rfl (And.intro rfl (And.intro rfl (And.intro rfl (And.intro rfl (And.intro rfl trivial))))))) fun j => ?_
              refine wpn_assoc ?_
              refine wpn_qa hO [] [(0, .slice A0 p0.length c0), (7, .int .u64 c4.1), (8, .int .i64 c86.2.1), (10, .slice A41 x44.length c42), (11, .int .i64 x46), (12, .pointer (some ⟨b84, 0, none⟩)), (73, .bool (c86.2.2 != 0))] (And.intro rfl (And.intro rfl (And.intro rfl (And.intro rfl (And.intro rfl (And.intro rfl (And.intro rfl trivial))))))) fun j => ?_
              rcases ite_some hF with ⟨hb90, hF⟩ | ⟨hb90, hF⟩
              · refine wpn_cT (congrArg Value.bool hb90) ?_
                refine wpn_assoc ?_
                refine wpn_qa hO [] [(4, .slice none 0 0), (5, .int .i64 0), (6, .int .i64 5)] (And.intro rfl (And.intro rfl (And.intro rfl trivial))) fun j => ?_
                refine wpn_rt ?_
                refine inb_r1 ?_
                refine thn_r1 ?_
                refine thn_r1 ?_
                refine inb_r1 ?_
                refine thn_r1 ?_
                injection hF with hF
                subst hF
                have hO := hO.sel [] (by decide)
                exact hQ _ _ _ _ _ rfl hO hL ⟨_, rfl, rfl, (RdT.nil _ _)⟩
              · refine wpn_cF (congrArg Value.bool hb90) ?_
                refine wpn_sk ?_
                refine wpn_rlast ?_
                refine wpn_q hO 2 [1] [(0, .slice A0 p0.length c0), (7, .int .u64 c4.1), (8, .int .i64 c86.2.1), (11, .int .i64 x46), (74, .slice A41 x44.length c42), (75, .agg #[(.int .u8 (y79.toNat : Int)), (.int .i64 c86.1)])] (And.intro (And.intro rfl rfl) (And.intro rfl (And.intro rfl (And.intro rfl (And.intro rfl (And.intro rfl (And.intro rfl trivial))))))) fun j => ?_
                obtain ⟨_, hr, hF⟩ := bind_some hF
                refine wpn_ap1 (T := TyS_api_Loc) (y := (⟨y79, c86.1⟩ : S_api_Loc)) hO w45 (i := 0) rfl rfl (fun _ => rfl) rfl rfl rfl hr (by decide) fun u _ σ o93 w94 hO => ?_
                obtain ⟨A91, c92, rfl, -⟩ := w94.form
                have hO : Obs _ _ [_, _] := hO
                refine wpn_qa hO [] [(0, .slice A0 p0.length c0), (7, .int .u64 c4.1), (8, .int .i64 c86.2.1), (10, .slice A91 (x44 ++ [(⟨y79, c86.1⟩ : S_api_Loc)]).length c92), (11, .int .i64 x46)] (And.intro rfl (And.intro rfl (And.intro rfl (And.intro rfl (And.intro rfl trivial))))) fun j => ?_
                refine wpn_end ?_
                refine inb_i ?_
                refine thn_i ?_
                refine wpn_rlast ?_
                refine wpn_qa hO [] [(0, .slice A0 p0.length c0), (7, .int .u64 c4.1), (8, .int .i64 c86.2.1), (10, .slice A91 (x44 ++ [(⟨y79, c86.1⟩ : S_api_Loc)]).length c92), (11, .int .i64 (IntKind.i64.wrap (x46 + 1)))] (And.intro rfl (And.intro rfl (And.intro rfl (And.intro rfl (And.intro rfl trivial))))) fun j => ?_
                refine wpn_end ?_
                refine thn_i ?_
                have hO := hO.sel [0] (by decide)
                exact ⟨n76, Nat.lt_succ_self _, c86.2.1, A91, c92, o93, (x44 ++ [(⟨y79, c86.1⟩ : S_api_Loc)]), (IntKind.i64.wrap (x46 + 1)), _, And.intro rfl (And.intro rfl (And.intro rfl (And.intro rfl (And.intro rfl trivial)))), hO, hL, r39, w94, hF⟩
            · refine wpn_cF (congrArg Value.bool hb85) ?_
              refine wpn_sk ?_
              refine wpn_rlast ?_
              refine wpn_q hO 2 [1] [(0, .slice A0 p0.length c0), (7, .int .u64 c4.1), (8, .int .i64 (IntKind.i64.wrap (x40 + 1))), (11, .int .i64 x46), (74, .slice A41 x44.length c42), (75, .agg #[(.int .u8 (y79.toNat : Int)), (.int .i64 0)])] (And.intro (And.intro rfl rfl) (And.intro rfl (And.intro rfl (And.intro rfl (And.intro rfl (And.intro rfl (And.intro rfl trivial))))))) fun j => ?_
              obtain ⟨_, hr, hF⟩ := bind_some hF
              refine wpn_ap1 (T := TyS_api_Loc) (y := (⟨y79, 0⟩ : S_api_Loc)) hO w45 (i := 0) rfl rfl (fun _ => rfl) rfl rfl rfl hr (by decide) fun u _ σ o97 w98 hO => ?_
              obtain ⟨A95, c96, rfl, -⟩ := w98.form
              have hO : Obs _ _ [_, _] := hO
              refine wpn_qa hO [] [(0, .slice A0 p0.length c0), (7, .int .u64 c4.1), (8, .int .i64 (IntKind.i64.wrap (x40 + 1))), (10, .slice A95 (x44 ++ [(⟨y79, 0⟩ : S_api_Loc)]).length c96), (11, .int .i64 x46)] (And.intro rfl (And.intro rfl (And.intro rfl (And.intro rfl (And.intro rfl trivial))))) fun j => ?_
              refine wpn_end ?_
              refine inb_i ?_
              refine thn_i ?_
              refine wpn_rlast ?_
              refine wpn_qa hO [] [(0, .slice A0 p0.length c0), (7, .int .u64 c4.1), (8, .int .i64 (IntKind.i64.wrap (x40 + 1))), (10, .slice A95 (x44 ++ [(⟨y79, 0⟩ : S_api_Loc)]).length c96), (11, .int .i64 (IntKind.i64.wrap (x46 + 1)))] (And.intro rfl (And.intro rfl (And.intro rfl (And.intro rfl (And.intro rfl trivial))))) fun j => ?_
              refine wpn_end ?_
              refine thn_i ?_
              have hO := hO.sel [0] (by decide)
              exact ⟨n76, Nat.lt_succ_self _, (IntKind.i64.wrap (x40 + 1)), A95, c96, o97, (x44 ++ [(⟨y79, 0⟩ : S_api_Loc)]), (IntKind.i64.wrap (x46 + 1)), _, And.intro rfl (And.intro rfl (And.intro rfl (And.intro rfl (And.intro rfl trivial)))), hO, hL, r39, w98, hF⟩
        · refine wpn_cF (congrArg Value.bool hb77) ?_
          refine wpn_ex ?_
          refine thn_x ?_
          refine inb_x ?_
          refine thn_i ?_
          refine wpn_assoc ?_
          refine wpn_q hO 1 [] [(8, .int .i64 x40), (10, .slice A41 x44.length c42), (78, .slice A41 x44.length c42)] (And.intro rfl (And.intro rfl (And.intro rfl trivial))) fun j => ?_
          obtain ⟨_, h100, r99, hO⟩ := w45.share hO (i := 0) rfl
          have hL := hL.trans h100
          have hO : Obs _ _ [_] := hO
          obtain ⟨c101, h102, hF⟩ := bind_some hF
          refine wpn_c0 hO (w_ref06_Right r99 h102) rfl fun _ σ _ _ hO h103 h104 => ?_
          have hL := hL.trans h103
          have r99 := r99.le h103
          obtain ⟨rfl, rfl⟩ := h104
          have hO : Obs _ _ [_] := hO
          refine wpn_qa hO [] [(8, .int .i64 x40), (10, .slice A41 x44.length c42), (80, .bool (!c101))] (And.intro rfl (And.intro rfl (And.intro rfl trivial))) fun j => ?_
          rcases ite_some hF with ⟨hb105, hF⟩ | ⟨hb105, hF⟩
          · refine wpn_cT (congrArg Value.bool hb105) ?_
            refine wpn_assoc ?_
            refine wpn_qa hO [] [(4, .slice none 0 0), (5, .int .i64 0), (6, .int .i64 5)] (And.intro rfl (And.intro rfl (And.intro rfl trivial))) fun j => ?_
            refine wpn_rt ?_
            injection hF with hF
            subst hF
            have hO := hO.sel [] (by decide)
            exact hQ _ _ _ _ _ rfl hO hL ⟨_, rfl, rfl, (RdT.nil _ _)⟩
          · refine wpn_cF (congrArg Value.bool hb105) ?_
            refine wpn_sk ?_
            refine wpn_qa hO [] [(4, .slice A41 x44.length c42), (5, .int .i64 x40), (6, .int .i64 0)] (And.intro rfl (And.intro rfl (And.intro rfl trivial))) fun j => ?_
            refine wpn_r1 ?_
            injection hF with hF
            subst hF
            have hO := hO.sel [] (by decide)
            exact hQ _ _ _ _ _ rfl hO hL ⟨_, rfl, rfl, r99⟩
theorem w_law06_ExprGets {τ : Hp} {v0 : Value} {p0 : (List UInt8)} {p1 : Int} (r0 : RdT Ty.u8 τ v0 p0) {rr : Bool} (hF : F_law06_ExprGets p0 p1 = some rr) :
    Ctr Try.prog 4 #[v0, .int .i64 p1] τ [] (fun v τ' vs' => v = .bool rr ∧ vs' = []) := by
  obtain ⟨A0, c0, rfl, -⟩ := r0.form
  refine ctr_of (args := [.slice A0 p0.length c0, .int .i64 p1]) hm Try.func4 s4 rfl fun w0 σ hO Q hQ => ?_
  unfold F_law06_ExprGets at hF
  have hL := Hp.le.refl τ
  show wpn _ _ a4.body _ _ _
  unfold a4
  dsimp only
  refine wpn_qa hO [] [(0, .slice A0 p0.length c0), (1, .int .i64 p1)] (And.intro rfl (And.intro rfl trivial)) fun j => ?_
  refine wpn_assoc ?_
  refine wpn_qa hO [] [(0, .slice A0 p0.length c0), (1, .int .i64 p1), (14, .bool (decide ((p0.length : Int) > 4096)))] (And.intro rfl (And.intro rfl (And.intro rfl trivial))) fun j => ?_
  rcases ite_some hF with ⟨hb3, hF⟩ | ⟨hb3, hF⟩
  · refine wpn_cT (congrArg Value.bool hb3) ?_
    refine wpn_assoc ?_
    obtain ⟨c4, h5, hF⟩ := bind_some hF
    refine wpn_c0 hO (w_law06_works h5) rfl fun _ σ _ _ hO h6 h7 => ?_
    have hL := hL.trans h6
    have r0 := r0.le h6
    obtain ⟨rfl, rfl⟩ := h7
    have hO : Obs _ _ [] := hO
    refine wpn_qa hO [] [(4, .bool c4)] (And.intro rfl trivial) fun j => ?_
    refine wpn_rt ?_
    injection hF with hF
    subst hF
    exact hQ _ _ _ _ _ rfl hO hL ⟨rfl, rfl⟩
  · refine wpn_cF (congrArg Value.bool hb3) ?_
    refine wpn_sk ?_
    refine wpn_q hO 1 [] [(0, .slice A0 p0.length c0), (1, .int .i64 p1), (16, .slice A0 p0.length c0)] (And.intro rfl (And.intro rfl (And.intro rfl trivial))) fun j => ?_
    obtain ⟨c8, h9, hF⟩ := bind_some hF
    refine wpn_c0 hO (w_ref00_Roomy r0 h9) rfl fun _ σ _ _ hO h10 h11 => ?_
    have hL := hL.trans h10
    have r0 := r0.le h10
    obtain ⟨v12, rfl, rfl, r15, f16⟩ := h11
    obtain ⟨A13, n17, rfl, f16⟩ := f16
    obtain ⟨_, _, h18, -⟩ := r15.form
    injection h18 with _ h18 _
    subst h18
    have f16 : Full Ty.u8 _ (.slice A13 c8.1.length c8.2.length) c8.2 := ⟨_, _, rfl, f16⟩
    have hO : Obs _ _ [] := hO
    refine wpn_qa hO [] [(0, .slice A0 p0.length c0), (1, .int .i64 p1), (5, .slice A13 c8.1.length c8.2.length)] (And.intro rfl (And.intro rfl (And.intro rfl trivial))) fun j => ?_
    refine wpn_q hO 2 [] [(0, .slice A0 p0.length c0), (1, .int .i64 p1), (5, .slice A13 c8.1.length c8.2.length), (19, .slice A13 c8.1.length c8.2.length), (20, .int .i64 p1)] (And.intro rfl (And.intro rfl (And.intro rfl (And.intro rfl (And.intro rfl trivial))))) fun j => ?_
    obtain ⟨c19, h20, hF⟩ := bind_some hF
    refine wpn_c0 hO (w_expr_Get r15 h20) rfl fun _ σ _ _ hO h21 h22 => ?_
    have hL := hL.trans h21
    have r0 := r0.le h21
    have r15 := r15.le h21
    have f16 := f16.le h21
    obtain ⟨v23, rfl, rfl, r26⟩ := h22
    obtain ⟨A24, c25, rfl, -⟩ := r26.form
    have hO : Obs _ _ [] := hO
    refine wpn_qa hO [] [(0, .slice A0 p0.length c0), (1, .int .i64 p1), (5, .slice A13 c8.1.length c8.2.length), (6, .slice A24 c19.1.length c25), (7, .int .i64 c19.2.1), (8, .int .i64 c19.2.2)] (And.intro rfl (And.intro rfl (And.intro rfl (And.intro rfl (And.intro rfl (And.intro rfl trivial)))))) fun j => ?_
    refine wpn_q hO 2 [] [(0, .slice A0 p0.length c0), (5, .slice A13 c8.1.length c8.2.length), (6, .slice A24 c19.1.length c25), (7, .int .i64 c19.2.1), (8, .int .i64 c19.2.2), (26, .slice A0 p0.length c0), (27, .int .i64 p1)] (And.intro rfl (And.intro rfl (And.intro rfl (And.intro rfl (And.intro rfl (And.intro rfl (And.intro rfl trivial))))))) fun j => ?_
    obtain ⟨c27, h28, hF⟩ := bind_some hF
    refine wpn_c0 hO (w_ref06_Get r0 h28) rfl fun _ σ _ _ hO h29 h30 => ?_
    have hL := hL.trans h29
    have r0 := r0.le h29
    have r15 := r15.le h29
    have f16 := f16.le h29
    have r26 := r26.le h29
    obtain ⟨v31, rfl, rfl, r34⟩ := h30
    obtain ⟨A32, c33, rfl, -⟩ := r34.form
    have hO : Obs _ _ [] := hO
    refine wpn_qa hO [] [(0, .slice A0 p0.length c0), (5, .slice A13 c8.1.length c8.2.length), (6, .slice A24 c19.1.length c25), (7, .int .i64 c19.2.1), (8, .int .i64 c19.2.2), (9, .slice A32 c27.1.length c33), (10, .int .i64 c27.2.1), (11, .int .i64 c27.2.2)] (And.intro rfl (And.intro rfl (And.intro rfl (And.intro rfl (And.intro rfl (And.intro rfl (And.intro rfl (And.intro rfl trivial)))))))) fun j => ?_
    refine wpn_q hO 2 [] [(0, .slice A0 p0.length c0), (5, .slice A13 c8.1.length c8.2.length), (7, .int .i64 c19.2.1), (8, .int .i64 c19.2.2), (10, .int .i64 c27.2.1), (11, .int .i64 c27.2.2), (32, .slice A24 c19.1.length c25), (33, .slice A32 c27.1.length c33)] (And.intro rfl (And.intro rfl (And.intro rfl (And.intro rfl (And.intro rfl (And.intro rfl (And.intro rfl (And.intro rfl trivial)))))))) fun j => ?_
    obtain ⟨c35, h36, hF⟩ := bind_some hF
    refine wpn_c0 hO (w_ref06_Same r26 r34 h36) rfl fun _ σ _ _ hO h37 h38 => ?_
    have hL := hL.trans h37
    have r0 := r0.le h37
    have r15 := r15.le h37
    have f16 := f16.le h37
    have r26 := r26.le h37
    have r34 := r34.le h37
    obtain ⟨rfl, rfl⟩ := h38
    have hO : Obs _ _ [] := hO
    refine wpn_q hO 7 [] [(0, .slice A0 p0.length c0), (5, .slice A13 c8.1.length c8.2.length), (45, .bool ((c35 && (c19.2.1 == c27.2.1)) && (c19.2.2 == c27.2.2)))] (And.intro (And.intro rfl rfl) (fun _ => And.intro (And.intro rfl rfl) (fun _ => And.intro rfl (And.intro rfl (And.intro rfl trivial))))) fun j => ?_
    obtain ⟨c39, h40, hF⟩ := bind_some hF
    refine wpn_mid 2 (fun e' σ' => ∃ (τ' : Hp), agr [(49, .bool c39)] e' ∧ Obs τ' σ' [] ∧ Hp.le τ τ') ?_ ?_
    · have hF := h40
      rcases ite_some hF with ⟨hb41, hF⟩ | ⟨hb41, hF⟩
      · refine wpn_gT (congrArg (fun x => isB (.bool x) true) hb41) ?_
        refine wpn_q hO 2 [] [(45, .bool ((c35 && (c19.2.1 == c27.2.1)) && (c19.2.2 == c27.2.2))), (46, .slice A13 c8.1.length c8.2.length), (47, .slice A0 p0.length c0)] (And.intro rfl (And.intro rfl (And.intro rfl trivial))) fun j => ?_
        obtain ⟨c42, h43, hF⟩ := bind_some hF
        refine wpn_c0 hO (w_ref00_Kept r15 f16 r0 h43) rfl fun _ σ _ _ hO h44 h45 => ?_
        have hL := hL.trans h44
        have r15 := r15.le h44
        have f16 := f16.le h44
        have r0 := r0.le h44
        obtain ⟨rfl, rfl⟩ := h45
        have hO : Obs _ _ [] := hO
        refine wpn_pk (congrArg Value.bool hb41) ?_
        refine wpn_nil ?_
        injection hF with hF
        subst hF
        refine wpn_end ?_
        exact ⟨rfl, _, And.intro rfl (trivial), hO, hL⟩
      · refine wpn_gF (congrArg (fun x => isB (.bool x) true) hb41) ?_
        refine wpn_pk (congrArg Value.bool hb41) ?_
        refine wpn_nil ?_
        injection hF with hF
        subst hF
        refine wpn_end ?_
        exact ⟨rfl, _, And.intro rfl (trivial), hO, hL⟩
    · rintro e σ ⟨_, hA, hO, hL⟩
      rw [← sets_agr _ _ hA]
      refine wpn_q hO 1 [] [(50, .bool c39)] (And.intro rfl trivial) fun j => ?_
      obtain ⟨c46, h47, hF⟩ := bind_some hF
      refine wpn_mid 2 (fun e' σ' => ∃ (τ' : Hp), agr [(52, .bool c46)] e' ∧ Obs τ' σ' [] ∧ Hp.le τ τ') ?_ ?_
      · have hF := h47
        rcases ite_some hF with ⟨hb48, hF⟩ | ⟨hb48, hF⟩
        · refine wpn_gT (congrArg (fun x => isB (.bool x) true) hb48) ?_
          obtain ⟨c49, h50, hF⟩ := bind_some hF
          refine wpn_c0 hO (w_law06_works h50) rfl fun _ σ _ _ hO h51 h52 => ?_
          have hL := hL.trans h51
          obtain ⟨rfl, rfl⟩ := h52
          have hO : Obs _ _ [] := hO
          refine wpn_pk (congrArg Value.bool hb48) ?_
          refine wpn_nil ?_
          injection hF with hF
          subst hF
          refine wpn_end ?_
          exact ⟨rfl, _, And.intro rfl (trivial), hO, hL⟩
        · refine wpn_gF (congrArg (fun x => isB (.bool x) true) hb48) ?_
          refine wpn_pk (congrArg Value.bool hb48) ?_
          refine wpn_nil ?_
          injection hF with hF
          subst hF
          refine wpn_end ?_
          exact ⟨rfl, _, And.intro rfl (trivial), hO, hL⟩
      · rintro e σ ⟨_, hA, hO, hL⟩
        rw [← sets_agr _ _ hA]
        refine wpn_qa hO [] [(4, .bool c46)] (And.intro rfl trivial) fun j => ?_
        refine wpn_r1 ?_
        injection hF with hF
        subst hF
        exact hQ _ _ _ _ _ rfl hO hL ⟨rfl, rfl⟩
end Go.Proofs.Ytpmlbgaigjdmjaa
