import Derived.Test.YtnaafaopdefigaaF
import Derived.Test.YtnaafaopdefigaaAc0
import Derived.Test.YtnaafaopdefigaaM00
import Derived.Test.YtnaafaopdefigaaM02
import Derived.Test.YtnaafaopdefigaaG1
namespace Go.Proofs.Ytnaafaopdefigaa
open Go.Ab Go.RowKit
set_option linter.unusedVariables false
set_option linter.unusedSimpArgs false
set_option maxRecDepth 10000
theorem w_law03_IsaRow {τ : Hp} {v0 : Value} {p0 : (List S_api_Instr)} (r0 : RdT TyS_api_Instr τ v0 p0) {rr : Bool} (hF : F_law03_IsaRow p0 = some rr) :
    Ctr Try.prog 6 #[v0] τ [] (fun v τ' vs' => v = .bool rr ∧ vs' = []) := by
  obtain ⟨A0, c0, rfl, -⟩ := r0.form
  refine ctr_of (args := [.slice A0 p0.length c0]) hm Try.func6 s6 rfl fun w0 σ hO Q hQ => ?_
  unfold F_law03_IsaRow at hF
  have hL := Hp.le.refl τ
  show wpn _ _ a6.body _ _ _
  unfold a6
  dsimp only
  refine wpn_qa hO [] [(0, .slice A0 p0.length c0)] (And.intro rfl trivial) fun j => ?_
  refine wpn_assoc ?_
  refine wpn_qa hO [] [(0, .slice A0 p0.length c0), (13, .bool (decide ((p0.length : Int) > 100)))] (And.intro rfl (And.intro rfl trivial)) fun j => ?_
  rcases ite_some hF with ⟨hb2, hF⟩ | ⟨hb2, hF⟩
  · refine wpn_cT (congrArg Value.bool hb2) ?_
    refine wpn_assoc ?_
    obtain ⟨c3, h4, hF⟩ := bind_some hF
    refine wpn_c0 hO (w_law03_works h4) rfl fun _ σ _ _ hO h5 h6 => ?_
    have hL := hL.trans h5
    have r0 := r0.le h5
    obtain ⟨rfl, rfl⟩ := h6
    have hO : Obs _ _ [] := hO
    refine wpn_qa hO [] [(2, .bool c3)] (And.intro rfl trivial) fun j => ?_
    refine wpn_rt ?_
    injection hF with hF
    subst hF
    exact hQ _ _ _ _ _ rfl hO hL ⟨rfl, rfl⟩
  · refine wpn_cF (congrArg Value.bool hb2) ?_
    refine wpn_sk ?_
    refine wpn_qa hO [] [(0, .slice A0 p0.length c0), (3, .slice none 0 0)] (And.intro rfl (And.intro rfl trivial)) fun j => ?_
    refine wpn_qa hO [] [(0, .slice A0 p0.length c0), (3, .slice none 0 0), (4, .slice none 0 0)] (And.intro rfl (And.intro rfl (And.intro rfl trivial))) fun j => ?_
    refine wpn_assoc ?_
    refine wpn_qa hO [] [(0, .slice A0 p0.length c0), (3, .slice none 0 0), (4, .slice none 0 0), (5, .int .i64 0)] (And.intro rfl (And.intro rfl (And.intro rfl (And.intro rfl trivial)))) fun j => ?_
    refine wpn_bl ?_
    have hO := hO.no
    have hO : Obs _ _ [_] := hO
    have hO := hO.no
    have hO : Obs _ _ [_, _] := hO
    refine wpn_lp (fun (n : Nat) e' σ' => ∃ (A119 : Option Addr) (c120 : Nat) (o121 : Ob) (x122 : List UInt8) (A124 : Option Addr) (c125 : Nat) (o126 : Ob) (x127 : List S_api_Instr) (x129 : Int) (τ' : Hp), agr [(0, .slice A0 p0.length c0), (3, .slice A119 x122.length c120), (4, .slice A124 x127.length c125), (5, .int .i64 x129)] e' ∧ Obs τ' σ' [o121, o126] ∧ Hp.le τ τ' ∧ RdT TyS_api_Instr τ' (.slice A0 p0.length c0) p0 ∧ OwnO Ty.u8 5 τ' (.slice A119 x122.length c120) x122 o121 ∧ OwnO TyS_api_Instr 24 τ' (.slice A124 x127.length c125) x127 o126 ∧ F_law03_IsaRow_l13 p0 n x122 x127 x129 = some rr) big ⟨none, 0, none, [], none, 0, none, [], 0, _, And.intro rfl (And.intro rfl (And.intro rfl (And.intro rfl trivial))), hO, hL, r0, OwnO.nil _ _ _, OwnO.nil _ _ _, hF⟩ ?_
    clear hF hO hL
    rintro n319 e σ ⟨A119, c120, o121, x122, A124, c125, o126, x127, x129, _, hA, hO, hL, r118, w123, w128, hF⟩
    rw [← sets_agr _ _ hA]
    cases n319 with
    | zero => exact nomatch (show none = some rr from hF)
    | succ n319 =>
      replace hF : F_law03_IsaRow_l13B (F_law03_IsaRow_l13 p0 n319) p0 x122 x127 x129 = some rr := hF
      unfold F_law03_IsaRow_l13B at hF
      refine wpn_assoc ?_
      refine wpn_qa hO [] [(0, .slice A0 p0.length c0), (3, .slice A119 x122.length c120), (4, .slice A124 x127.length c125), (5, .int .i64 x129), (18, .bool (decide (x129 < (p0.length : Int))))] (And.intro rfl (And.intro rfl (And.intro rfl (And.intro rfl (And.intro rfl trivial))))) fun j => ?_
      rcases ite_some hF with ⟨hb320, hF⟩ | ⟨hb320, hF⟩
      · refine wpn_cT (congrArg Value.bool hb320) ?_
        refine wpn_sk ?_
        refine wpn_bl ?_
        refine wpn_q hO 2 [] [(0, .slice A0 p0.length c0), (3, .slice A119 x122.length c120), (4, .slice A124 x127.length c125), (5, .int .i64 x129), (21, .slice A0 p0.length c0), (22, .int .i64 x129)] (And.intro rfl (And.intro rfl (And.intro rfl (And.intro rfl (And.intro rfl (And.intro rfl trivial)))))) fun j => ?_
        obtain ⟨y321, g322, hF⟩ := bind_some hF
        refine wpn_idx (T := TyS_api_Instr) r118 hO.base rfl rfl g322 (by decide) fun a323 _ k324 m325 => ?_
        obtain rfl : _ = ([.int .u8 y321.Kind.toNat, .int .u8 y321.Op.toNat, .int .i64 y321.R, .int .i64 y321.S, .int .i64 y321.T, .int .i64 y321.N, .int .i64 y321.M] : List Value) := k324
        refine wpn_ld rfl ((m325.le hO.base).all rfl) ?_
        obtain ⟨c326, h327, hF⟩ := bind_some hF
        refine wpn_c0 hO (w_isa_Right h327) rfl fun _ σ _ _ hO h328 h329 => ?_
        have hL := hL.trans h328
        have r118 := r118.le h328
        have w123 := w123.le h328
        have w128 := w128.le h328
        have m325 := m325.le h328
        obtain ⟨rfl, rfl⟩ := h329
        have hO : Obs _ _ [_, _] := hO
        refine wpn_nil ?_
        refine wpn_clast ?_
        rcases ite_some hF with ⟨hb330, hF⟩ | ⟨hb330, hF⟩
        · refine wpn_cT (congrArg Value.bool hb330) ?_
          refine wpn_assoc ?_
          refine wpn_q hO 3 [] [(0, .slice A0 p0.length c0), (3, .slice A119 x122.length c120), (5, .int .i64 x129), (26, .slice A124 x127.length c125), (27, .slice A0 p0.length c0), (28, .int .i64 x129)] (And.intro rfl (And.intro rfl (And.intro rfl (And.intro rfl (And.intro rfl (And.intro rfl trivial)))))) fun j => ?_
          obtain ⟨y331, g332, hF⟩ := bind_some hF
          refine wpn_idx (T := TyS_api_Instr) r118 hO.base rfl rfl g332 (by decide) fun a333 _ k334 m335 => ?_
          obtain rfl : _ = ([.int .u8 y331.Kind.toNat, .int .u8 y331.Op.toNat, .int .i64 y331.R, .int .i64 y331.S, .int .i64 y331.T, .int .i64 y331.N, .int .i64 y331.M] : List Value) := k334
          refine wpn_ld rfl ((m335.le hO.base).all rfl) ?_
          obtain ⟨_, hr, hF⟩ := bind_some hF
          refine wpn_ap1 (T := TyS_api_Instr) (y := (⟨y331.Kind, y331.Op, y331.R, y331.S, y331.T, y331.N, y331.M⟩ : S_api_Instr)) hO w128 (i := 1) rfl rfl (fun _ => rfl) rfl rfl rfl hr (by decide) fun u _ σ o338 w339 hO => ?_
          obtain ⟨A336, c337, rfl, -⟩ := w339.form
          have hO : Obs _ _ [_, _] := hO
          refine wpn_qa hO [] [(0, .slice A0 p0.length c0), (3, .slice A119 x122.length c120), (4, .slice A336 (x127 ++ [(⟨y331.Kind, y331.Op, y331.R, y331.S, y331.T, y331.N, y331.M⟩ : S_api_Instr)]).length c337), (5, .int .i64 x129)] (And.intro rfl (And.intro rfl (And.intro rfl (And.intro rfl trivial)))) fun j => ?_
          refine wpn_q hO 3 [] [(0, .slice A0 p0.length c0), (4, .slice A336 (x127 ++ [(⟨y331.Kind, y331.Op, y331.R, y331.S, y331.T, y331.N, y331.M⟩ : S_api_Instr)]).length c337), (5, .int .i64 x129), (33, .slice A119 x122.length c120), (34, .slice A0 p0.length c0), (35, .int .i64 x129)] (And.intro rfl (And.intro rfl (And.intro rfl (And.intro rfl (And.intro rfl (And.intro rfl trivial)))))) fun j => ?_
          obtain ⟨y340, g341, hF⟩ := bind_some hF
          refine wpn_idx (T := TyS_api_Instr) r118 hO.base rfl rfl g341 (by decide) fun a342 _ k343 m344 => ?_
          obtain rfl : _ = ([.int .u8 y340.Kind.toNat, .int .u8 y340.Op.toNat, .int .i64 y340.R, .int .i64 y340.S, .int .i64 y340.T, .int .i64 y340.N, .int .i64 y340.M] : List Value) := k343
          refine wpn_ld rfl ((m344.le hO.base).all rfl) ?_
          obtain ⟨_, h346, r345, hO⟩ := w123.share hO (i := 0) rfl
          have hL := hL.trans h346
          have r118 := r118.le h346
          have w339 := w339.le h346
          have m344 := m344.le h346
          have hO : Obs _ _ [_, _] := hO
          obtain ⟨c347, h348, hF⟩ := bind_some hF
          refine wpn_c0 hO (w_isa_Put r345 h348) rfl fun _ σ _ _ hO h349 h350 => ?_
          have hL := hL.trans h349
          have r118 := r118.le h349
          have w339 := w339.le h349
          have r345 := r345.le h349
          have m344 := m344.le h349
          obtain ⟨v351, o354, rfl, rfl, w355⟩ := h350
          obtain ⟨A352, c353, rfl, -⟩ := w355.form
          have hO : Obs _ _ [_, _, _] := hO
          refine wpn_qa hO [] [(0, .slice A0 p0.length c0), (3, .slice A352 c347.length c353), (4, .slice A336 (x127 ++ [(⟨y331.Kind, y331.Op, y331.R, y331.S, y331.T, y331.N, y331.M⟩ : S_api_Instr)]).length c337), (5, .int .i64 x129)] (And.intro rfl (And.intro rfl (And.intro rfl (And.intro rfl trivial)))) fun j => ?_
          refine wpn_end ?_
          refine inb_i ?_
          refine thn_i ?_
          refine wpn_rlast ?_
          refine wpn_qa hO [] [(0, .slice A0 p0.length c0), (3, .slice A352 c347.length c353), (4, .slice A336 (x127 ++ [(⟨y331.Kind, y331.Op, y331.R, y331.S, y331.T, y331.N, y331.M⟩ : S_api_Instr)]).length c337), (5, .int .i64 (IntKind.i64.wrap (x129 + 1)))] (And.intro rfl (And.intro rfl (And.intro rfl (And.intro rfl trivial)))) fun j => ?_
          refine wpn_end ?_
          refine thn_i ?_
          have hO := hO.sel [2, 1] (by decide)
          exact ⟨n319, Nat.lt_succ_self _, A352, c353, o354, c347, A336, c337, o338, (x127 ++ [(⟨y331.Kind, y331.Op, y331.R, y331.S, y331.T, y331.N, y331.M⟩ : S_api_Instr)]), (IntKind.i64.wrap (x129 + 1)), _, And.intro rfl (And.intro rfl (And.intro rfl (And.intro rfl trivial))), hO, hL, r118, w355, w339, hF⟩
        · refine wpn_cF (congrArg Value.bool hb330) ?_
          refine wpn_sk ?_
          refine wpn_end ?_
          refine inb_i ?_
          refine thn_i ?_
          refine wpn_rlast ?_
          refine wpn_qa hO [] [(0, .slice A0 p0.length c0), (3, .slice A119 x122.length c120), (4, .slice A124 x127.length c125), (5, .int .i64 (IntKind.i64.wrap (x129 + 1)))] (And.intro rfl (And.intro rfl (And.intro rfl (And.intro rfl trivial)))) fun j => ?_
          refine wpn_end ?_
          refine thn_i ?_
          exact ⟨n319, Nat.lt_succ_self _, A119, c120, o121, x122, A124, c125, o126, x127, (IntKind.i64.wrap (x129 + 1)), _, And.intro rfl (And.intro rfl (And.intro rfl (And.intro rfl trivial))), hO, hL, r118, w123, w128, hF⟩
      · refine wpn_cF (congrArg Value.bool hb320) ?_
        refine wpn_ex ?_
        refine thn_x ?_
        refine inb_x ?_
        refine thn_i ?_
        refine wpn_qa hO [] [(3, .slice A119 x122.length c120), (4, .slice A124 x127.length c125), (6, .int .i64 0)] (And.intro rfl (And.intro rfl (And.intro rfl trivial))) fun j => ?_
        refine wpn_assoc ?_
        refine wpn_qa hO [] [(3, .slice A119 x122.length c120), (4, .slice A124 x127.length c125), (6, .int .i64 0), (7, .int .i64 0)] (And.intro rfl (And.intro rfl (And.intro rfl (And.intro rfl trivial)))) fun j => ?_
        refine wpn_bl ?_
        obtain ⟨_, h400, r399, hO⟩ := w123.share hO (i := 0) rfl
        have hL := hL.trans h400
        have w128 := w128.le h400
        have hO : Obs _ _ [_, _] := hO
        have hO := hO.sel [1] (by decide)
        refine wpn_lp (fun (n : Nat) e' σ' => ∃ (A439 : Option Addr) (c440 : Nat) (o441 : Ob) (x442 : List S_api_Instr) (x444 : Int) (x445 : Int) (τ' : Hp), agr [(3, .slice A119 x122.length c120), (4, .slice A439 x442.length c440), (6, .int .i64 x444), (7, .int .i64 x445)] e' ∧ Obs τ' σ' [o441] ∧ Hp.le τ τ' ∧ RdT Ty.u8 τ' (.slice A119 x122.length c120) x122 ∧ OwnO TyS_api_Instr 24 τ' (.slice A439 x442.length c440) x442 o441 ∧ F_law03_IsaRow_l15 x122 n x442 x444 x445 = some rr) big ⟨A124, c125, o126, x127, 0, 0, _, And.intro rfl (And.intro rfl (And.intro rfl (And.intro rfl trivial))), hO, hL, r399, w128, hF⟩ ?_
        clear hF hO hL
        rintro n477 e σ ⟨A439, c440, o441, x442, x444, x445, _, hA, hO, hL, r438, w443, hF⟩
        rw [← sets_agr _ _ hA]
        cases n477 with
        | zero => exact nomatch (show none = some rr from hF)
        | succ n477 =>
          replace hF : F_law03_IsaRow_l15B (F_law03_IsaRow_l15 x122 n477) x122 x442 x444 x445 = some rr := hF
          unfold F_law03_IsaRow_l15B at hF
          refine wpn_assoc ?_
          refine wpn_qa hO [] [(3, .slice A119 x122.length c120), (4, .slice A439 x442.length c440), (6, .int .i64 x444), (7, .int .i64 x445), (42, .bool (decide (x445 < (x442.length : Int))))] (And.intro rfl (And.intro rfl (And.intro rfl (And.intro rfl (And.intro rfl trivial))))) fun j => ?_
          rcases ite_some hF with ⟨hb478, hF⟩ | ⟨hb478, hF⟩
          · refine wpn_cT (congrArg Value.bool hb478) ?_
            refine wpn_sk ?_
            refine wpn_bl ?_
            refine wpn_q hO 2 [] [(3, .slice A119 x122.length c120), (4, .slice A439 x442.length c440), (6, .int .i64 x444), (7, .int .i64 x445), (46, .slice A119 x122.length c120), (47, .int .i64 x444)] (And.intro rfl (And.intro rfl (And.intro rfl (And.intro rfl (And.intro rfl (And.intro rfl trivial)))))) fun j => ?_
            obtain ⟨c479, h480, hF⟩ := bind_some hF
            refine wpn_c0 hO (w_isa_Get r438 h480) rfl fun _ σ _ _ hO h481 h482 => ?_
            have hL := hL.trans h481
            have r438 := r438.le h481
            have w443 := w443.le h481
            obtain ⟨rfl, rfl⟩ := h482
            have hO : Obs _ _ [_] := hO
            refine wpn_q hO 4 [] [(3, .slice A119 x122.length c120), (4, .slice A439 x442.length c440), (6, .int .i64 x444), (7, .int .i64 x445), (49, .agg #[(.int .u8 (c479.1.Kind.toNat : Int)), (.int .u8 (c479.1.Op.toNat : Int)), (.int .i64 c479.1.R), (.int .i64 c479.1.S), (.int .i64 c479.1.T), (.int .i64 c479.1.N), (.int .i64 c479.1.M)]), (50, .int .i64 c479.2.1), (51, .int .i64 c479.2.2)] (And.intro rfl (And.intro rfl (And.intro rfl (And.intro rfl (And.intro rfl (And.intro rfl (And.intro rfl trivial))))))) fun j => ?_
            refine wpn_al hO fun b483 σ hO => ?_
            have hO : Obs _ _ [_, _] := hO
            refine wpn_st hO (i := 1) rfl (off := 0) rfl rfl rfl rfl (Nat.le_of_ble_eq_true rfl) rfl fun σ hO => ?_
            have hO : Obs _ _ [_, _] := hO
            refine wpn_qa hO [] [(3, .slice A119 x122.length c120), (4, .slice A439 x442.length c440), (6, .int .i64 x444), (7, .int .i64 x445), (8, .pointer (some ⟨b483, 0, none⟩)), (9, .int .i64 c479.2.1), (10, .int .i64 c479.2.2)] (And.intro rfl (And.intro rfl (And.intro rfl (And.intro rfl (And.intro rfl (And.intro rfl (And.intro rfl trivial))))))) fun j => ?_
            refine wpn_assoc ?_
            refine wpn_p2r ?_
            refine wpn_q hO 3 [] [(3, .slice A119 x122.length c120), (4, .slice A439 x442.length c440), (6, .int .i64 x444), (7, .int .i64 x445), (8, .pointer (some ⟨b483, 0, none⟩)), (9, .int .i64 c479.2.1), (54, .bool (c479.2.2 != 0))] (And.intro rfl (And.intro rfl (And.intro rfl (And.intro rfl (And.intro rfl (And.intro rfl (And.intro rfl trivial))))))) fun j => ?_
            obtain ⟨c484, h485, hF⟩ := bind_some hF
            refine wpn_midq 2 [(61, .bool c484), (3, .slice A119 x122.length c120), (4, .slice A439 x442.length c440), (6, .int .i64 x444), (7, .int .i64 x445), (8, .pointer (some ⟨b483, 0, none⟩)), (9, .int .i64 c479.2.1)] (fun Q hQ => ?_) fun j => ?_
            · have hF := h485
              rcases ite_some hF with ⟨hb486, hF⟩ | ⟨hb486, hF⟩
              · refine wpn_gF (congrArg (fun x => isB (.bool x) false) hb486) ?_
                refine wpn_pk (congrArg Value.bool hb486) ?_
                refine wpn_nil ?_
                injection hF with hF
                subst hF
                refine wpn_end ?_
                exact hQ _ (And.intro rfl (And.intro rfl (And.intro rfl (And.intro rfl (And.intro rfl (And.intro rfl (And.intro rfl trivial)))))))
              · refine wpn_gT (congrArg (fun x => isB (.bool x) false) hb486) ?_
                refine wpn_q hO 3 [1] [(3, .slice A119 x122.length c120), (4, .slice A439 x442.length c440), (6, .int .i64 x444), (7, .int .i64 x445), (8, .pointer (some ⟨b483, 0, none⟩)), (9, .int .i64 c479.2.1), (54, .bool (c479.2.2 != 0)), (55, .agg #[(.int .u8 (c479.1.Kind.toNat : Int)), (.int .u8 (c479.1.Op.toNat : Int)), (.int .i64 c479.1.R), (.int .i64 c479.1.S), (.int .i64 c479.1.T), (.int .i64 c479.1.N), (.int .i64 c479.1.M)]), (56, .slice A439 x442.length c440), (57, .int .i64 x445)] (And.intro (And.intro rfl rfl) (And.intro rfl (And.intro rfl (And.intro rfl (And.intro rfl (And.intro rfl (And.intro rfl (And.intro rfl (And.intro rfl (And.intro rfl (And.intro rfl trivial))))))))))) fun j => ?_
                obtain ⟨y487, g488, hF⟩ := bind_some hF
                refine wpn_ido (T := TyS_api_Instr) hO w443 (i := 0) rfl rfl rfl g488 (by decide) fun a489 _ k490 m491 i492 => ?_
                have k493 := k490
                obtain rfl : _ = ([.int .u8 y487.Kind.toNat, .int .u8 y487.Op.toNat, .int .i64 y487.R, .int .i64 y487.S, .int .i64 y487.T, .int .i64 y487.N, .int .i64 y487.M] : List Value) := k493
                refine wpn_ld rfl (m491.all rfl) ?_
                refine wpn_q hO 1 [] [(3, .slice A119 x122.length c120), (4, .slice A439 x442.length c440), (6, .int .i64 x444), (7, .int .i64 x445), (8, .pointer (some ⟨b483, 0, none⟩)), (9, .int .i64 c479.2.1), (54, .bool (c479.2.2 != 0)), (60, .bool (!(( (c479.1.Kind.toNat : Int) == (y487.Kind.toNat : Int)) && (( (c479.1.Op.toNat : Int) == (y487.Op.toNat : Int)) && (( c479.1.R == y487.R) && (( c479.1.S == y487.S) && (( c479.1.T == y487.T) && (( c479.1.N == y487.N) && (( c479.1.M == y487.M) && true)))))))))] (And.intro rfl (And.intro rfl (And.intro rfl (And.intro rfl (And.intro rfl (And.intro rfl (And.intro rfl (And.intro rfl trivial)))))))) fun j => ?_
                refine wpn_pk (congrArg Value.bool hb486) ?_
                refine wpn_nil ?_
                injection hF with hF
                subst hF
                refine wpn_end ?_
                exact hQ _ (And.intro rfl (And.intro rfl (And.intro rfl (And.intro rfl (And.intro rfl (And.intro rfl (And.intro rfl trivial)))))))
            · refine wpn_q hO 1 [] [(3, .slice A119 x122.length c120), (4, .slice A439 x442.length c440), (6, .int .i64 x444), (7, .int .i64 x445), (8, .pointer (some ⟨b483, 0, none⟩)), (9, .int .i64 c479.2.1), (62, .bool c484)] (And.intro rfl (And.intro rfl (And.intro rfl (And.intro rfl (And.intro rfl (And.intro rfl (And.intro rfl trivial))))))) fun j => ?_
              obtain ⟨c494, h495, hF⟩ := bind_some hF
              refine wpn_mid 2 (fun e' σ' => ∃ (τ' : Hp), agr [(69, .bool c494), (3, .slice A119 x122.length c120), (4, .slice A439 x442.length c440), (7, .int .i64 x445), (9, .int .i64 c479.2.1)] e' ∧ Obs τ' σ' [o441, some (b483, ⟨[.int .u8 (c479.1.Kind.toNat : Int), .int .u8 (c479.1.Op.toNat : Int), .int .i64 c479.1.R, .int .i64 c479.1.S, .int .i64 c479.1.T, .int .i64 c479.1.N, .int .i64 c479.1.M], 24, 7, true⟩)] ∧ Hp.le τ τ' ∧ RdT Ty.u8 τ' (.slice A119 x122.length c120) x122 ∧ OwnO TyS_api_Instr 24 τ' (.slice A439 x442.length c440) x442 o441) ?_ ?_
              · have hF := h495
                rcases ite_some hF with ⟨hb496, hF⟩ | ⟨hb496, hF⟩
                · refine wpn_gF (congrArg (fun x => isB (.bool x) false) hb496) ?_
                  refine wpn_pk (congrArg Value.bool hb496) ?_
                  refine wpn_nil ?_
                  injection hF with hF
                  subst hF
                  refine wpn_end ?_
                  exact ⟨rfl, _, And.intro rfl (And.intro rfl (And.intro rfl (And.intro rfl (And.intro rfl trivial)))), hO, hL, r438, w443⟩
                · refine wpn_gT (congrArg (fun x => isB (.bool x) false) hb496) ?_
                  refine wpn_q hO 3 [1] [(3, .slice A119 x122.length c120), (4, .slice A439 x442.length c440), (7, .int .i64 x445), (9, .int .i64 c479.2.1), (62, .bool c484), (63, .int .i64 c479.2.1), (64, .int .i64 x444), (65, .agg #[(.int .u8 (c479.1.Kind.toNat : Int)), (.int .u8 (c479.1.Op.toNat : Int)), (.int .i64 c479.1.R), (.int .i64 c479.1.S), (.int .i64 c479.1.T), (.int .i64 c479.1.N), (.int .i64 c479.1.M)])] (And.intro (And.intro rfl rfl) (And.intro rfl (And.intro rfl (And.intro rfl (And.intro rfl (And.intro rfl (And.intro rfl (And.intro rfl (And.intro rfl trivial))))))))) fun j => ?_
                  obtain ⟨c497, h498, hF⟩ := bind_some hF
                  refine wpn_c0 hO (w_isa_Size h498) rfl fun _ σ _ _ hO h499 h500 => ?_
                  have hL := hL.trans h499
                  have r438 := r438.le h499
                  have w443 := w443.le h499
                  obtain ⟨rfl, rfl⟩ := h500
                  have hO : Obs _ _ [_, _] := hO
                  refine wpn_q hO 2 [] [(3, .slice A119 x122.length c120), (4, .slice A439 x442.length c440), (7, .int .i64 x445), (9, .int .i64 c479.2.1), (62, .bool c484), (68, .bool (c479.2.1 != (IntKind.i64.wrap (x444 + c497))))] (And.intro rfl (And.intro rfl (And.intro rfl (And.intro rfl (And.intro rfl (And.intro rfl trivial)))))) fun j => ?_
                  refine wpn_pk (congrArg Value.bool hb496) ?_
                  refine wpn_nil ?_
                  injection hF with hF
                  subst hF
                  refine wpn_end ?_
                  exact ⟨rfl, _, And.intro rfl (And.intro rfl (And.intro rfl (And.intro rfl (And.intro rfl trivial)))), hO, hL, r438, w443⟩
              · rintro e σ ⟨_, hA, hO, hL, r438, w443⟩
                rw [← sets_agr _ _ hA]
                refine wpn_nil ?_
                rcases ite_some hF with ⟨hb501, hF⟩ | ⟨hb501, hF⟩
                · refine wpn_cT (congrArg Value.bool hb501) ?_
                  refine wpn_assoc ?_
                  refine wpn_qa hO [] [(2, .bool false)] (And.intro rfl trivial) fun j => ?_
                  refine wpn_rt ?_
                  refine inb_r1 ?_
                  refine thn_r1 ?_
                  refine thn_r1 ?_
                  refine inb_r1 ?_
                  refine thn_r1 ?_
                  injection hF with hF
                  subst hF
                  have hO := hO.sel [] (by decide)
                  exact hQ _ _ _ _ _ rfl hO hL ⟨rfl, rfl⟩
                · refine wpn_cF (congrArg Value.bool hb501) ?_
                  refine wpn_sk ?_
                  refine wpn_rlast ?_
                  refine wpn_qa hO [] [(3, .slice A119 x122.length c120), (4, .slice A439 x442.length c440), (6, .int .i64 c479.2.1), (7, .int .i64 x445)] (And.intro rfl (And.intro rfl (And.intro rfl (And.intro rfl trivial)))) fun j => ?_
                  refine wpn_end ?_
                  refine inb_i ?_
                  refine thn_i ?_
                  refine wpn_rlast ?_
                  refine wpn_qa hO [] [(3, .slice A119 x122.length c120), (4, .slice A439 x442.length c440), (6, .int .i64 c479.2.1), (7, .int .i64 (IntKind.i64.wrap (x445 + 1)))] (And.intro rfl (And.intro rfl (And.intro rfl (And.intro rfl trivial)))) fun j => ?_
                  refine wpn_end ?_
                  refine thn_i ?_
                  have hO := hO.sel [0] (by decide)
                  exact ⟨n477, Nat.lt_succ_self _, A439, c440, o441, x442, c479.2.1, (IntKind.i64.wrap (x445 + 1)), _, And.intro rfl (And.intro rfl (And.intro rfl (And.intro rfl trivial))), hO, hL, r438, w443, hF⟩
          · refine wpn_cF (congrArg Value.bool hb478) ?_
            refine wpn_ex ?_
            refine thn_x ?_
            refine inb_x ?_
            refine thn_i ?_
            refine wpn_q hO 5 [] [(75, .bool (x444 == (x122.length : Int)))] (And.intro rfl trivial) fun j => ?_
            have hO := hO.sel [] (by decide)
            have hO : Obs _ _ [] := hO
            obtain ⟨c502, h503, hF⟩ := bind_some hF
            refine wpn_mid 2 (fun e' σ' => ∃ (τ' : Hp), agr [(77, .bool c502)] e' ∧ Obs τ' σ' [] ∧ Hp.le τ τ') ?_ ?_
            · have hF := h503
              rcases ite_some hF with ⟨hb504, hF⟩ | ⟨hb504, hF⟩
              · refine wpn_gT (congrArg (fun x => isB (.bool x) true) hb504) ?_
                obtain ⟨c505, h506, hF⟩ := bind_some hF
                refine wpn_c0 hO (w_law03_works h506) rfl fun _ σ _ _ hO h507 h508 => ?_
                have hL := hL.trans h507
                obtain ⟨rfl, rfl⟩ := h508
                have hO : Obs _ _ [] := hO
                refine wpn_pk (congrArg Value.bool hb504) ?_
                refine wpn_nil ?_
                injection hF with hF
                subst hF
                refine wpn_end ?_
                exact ⟨rfl, _, And.intro rfl (trivial), hO, hL⟩
              · refine wpn_gF (congrArg (fun x => isB (.bool x) true) hb504) ?_
                refine wpn_pk (congrArg Value.bool hb504) ?_
                refine wpn_nil ?_
                injection hF with hF
                subst hF
                refine wpn_end ?_
                exact ⟨rfl, _, And.intro rfl (trivial), hO, hL⟩
            · rintro e σ ⟨_, hA, hO, hL⟩
              rw [← sets_agr _ _ hA]
              refine wpn_qa hO [] [(2, .bool c502)] (And.intro rfl trivial) fun j => ?_
              refine wpn_r1 ?_
              injection hF with hF
              subst hF
              exact hQ _ _ _ _ _ rfl hO hL ⟨rfl, rfl⟩
end Go.Proofs.Ytnaafaopdefigaa
