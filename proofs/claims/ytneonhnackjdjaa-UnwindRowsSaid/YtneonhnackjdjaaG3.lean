import Derived.Test.YtneonhnackjdjaaF
import Derived.Test.YtneonhnackjdjaaAc0
import Derived.Test.YtneonhnackjdjaaM00
import Derived.Test.YtneonhnackjdjaaM01
import Derived.Test.YtneonhnackjdjaaG2
namespace Go.Proofs.Ytneonhnackjdjaa
open Go.Ab Go.RowKit
set_option linter.unusedVariables false
set_option linter.unusedSimpArgs false
set_option maxRecDepth 10000
theorem zbS {τ : Hp} {v0 : Value} {p0 : (List UInt8)} {v1 : Value} {p1 : (List UInt8)} {v2 : Value} {p2 : (List Int)} (r0 : RdT Ty.u8 τ v0 p0) (r1 : RdT Ty.u8 τ v1 p1) (r2 : RdT (Ty.int .i64) τ v2 p2) {rr : Bool} (hF : zbt p0 p1 p2 = some rr) :
    Ctr Try.prog 6 #[v0, v1, v2] τ [] (fun v τ' vs' => v = .bool rr ∧ vs' = []) := by
  obtain ⟨A0, c0, rfl, -⟩ := r0.form
  obtain ⟨A1, c1, rfl, -⟩ := r1.form
  obtain ⟨A2, c2, rfl, -⟩ := r2.form
  refine ctr_of (args := [.slice A0 p0.length c0, .slice A1 p1.length c1, .slice A2 p2.length c2]) hm Try.func6 s6 rfl fun w0 σ hO Q hQ => ?_
  unfold zbt at hF
  have hL := Hp.le.refl τ
  show wpn _ _ a6.body _ _ _
  unfold a6
  dsimp only
  refine wpn_qa hO [] [(0, .slice A0 p0.length c0), (1, .slice A1 p1.length c1), (2, .slice A2 p2.length c2)] (ar (ar (ar trivial))) fun j => ?_
  refine wpn_assoc ?_
  refine wpn_qa hO [] [(0, .slice A0 p0.length c0), (1, .slice A1 p1.length c1), (2, .slice A2 p2.length c2), (42, .bool (((decide ((p0.length : Int) > 20)) || (decide ((p1.length : Int) < (p0.length : Int)))) || (decide ((p2.length : Int) < 6))))] (And.intro (And.intro rfl rfl) (fun _ => And.intro (And.intro rfl rfl) (fun _ => ar (ar (ar (ar trivial)))))) fun j => ?_
  rcases ite_some hF with ⟨hb4, hF⟩ | ⟨hb4, hF⟩
  · refine wpn_cT (congrArg Value.bool hb4) ?_
    refine wpn_assoc ?_
    obtain ⟨c5, h6, hF⟩ := bind_some hF
    refine wpn_c0 hO (zbM h6) rfl fun _ σ _ _ hO h7 h8 => ?_
    have hL := hL.trans h7
    have r0 := r0.le h7
    have r1 := r1.le h7
    have r2 := r2.le h7
    obtain ⟨rfl, rfl⟩ := h8
    have hO : Obs _ _ [] := hO
    refine wpn_qa hO [] [(6, .bool c5)] (ar trivial) fun j => ?_
    refine wpn_rt ?_
    injection hF with hF
    subst hF
    exact hQ _ _ _ _ _ rfl hO hL ⟨rfl, rfl⟩
  · refine wpn_cF (congrArg Value.bool hb4) ?_
    refine wpn_sk ?_
    obtain ⟨y9, g10, hF⟩ := bind_some hF
    refine wpn_mkb (T := (Ty.int .i64)) hO rfl rfl g10 (show _ = _ from rfl) (by decide) fun b15 c12 σ o13 w14 hO => ?_
    have hO : Obs _ _ [_] := hO
    refine wpn_qa hO [] [(0, .slice A0 p0.length c0), (1, .slice A1 p1.length c1), (2, .slice A2 p2.length c2), (7, .slice (some ⟨b15, 0, none⟩) y9.length c12)] (ar (ar (ar (ar trivial)))) fun j => ?_
    obtain ⟨y16, g17, hF⟩ := bind_some hF
    refine wpn_mkb (T := (Ty.int .i64)) hO rfl rfl g17 (show _ = _ from rfl) (by decide) fun b22 c19 σ o20 w21 hO => ?_
    have hO : Obs _ _ [_, _] := hO
    refine wpn_qa hO [] [(0, .slice A0 p0.length c0), (1, .slice A1 p1.length c1), (2, .slice A2 p2.length c2), (7, .slice (some ⟨b15, 0, none⟩) y9.length c12), (8, .slice (some ⟨b22, 0, none⟩) y16.length c19)] (ar (ar (ar (ar (ar trivial))))) fun j => ?_
    refine wpn_assoc ?_
    refine wpn_qa hO [] [(0, .slice A0 p0.length c0), (1, .slice A1 p1.length c1), (2, .slice A2 p2.length c2), (7, .slice (some ⟨b15, 0, none⟩) y9.length c12), (8, .slice (some ⟨b22, 0, none⟩) y16.length c19), (9, .int .i64 0)] (ar (ar (ar (ar (ar (ar trivial)))))) fun j => ?_
    refine wpn_bl ?_
    refine wpn_lp (fun (n : Nat) e' σ' => ∃ (A24398 : Option Addr) (c24399 : Nat) (o24400 : Ob) (x24401 : List Int) (k24403 : Nat) (A24404 : Option Addr) (c24405 : Nat) (o24406 : Ob) (x24407 : List Int) (x24410 : Int) (τ' : Hp), agr [(0, .slice A0 p0.length c0), (1, .slice A1 p1.length c1), (2, .slice A2 p2.length c2), (7, .slice A24398 x24401.length c24399), (8, .slice A24404 k24403 c24405), (9, .int .i64 x24410)] e' ∧ Obs τ' σ' [o24400, o24406] ∧ Hp.le τ τ' ∧ RdT Ty.u8 τ' (.slice A0 p0.length c0) p0 ∧ RdT Ty.u8 τ' (.slice A1 p1.length c1) p1 ∧ RdT (Ty.int .i64) τ' (.slice A2 p2.length c2) p2 ∧ OwnO (Ty.int .i64) 2 τ' (.slice A24398 x24401.length c24399) x24401 o24400 ∧ k24403 = x24407.length ∧ OwnO (Ty.int .i64) 2 τ' (.slice A24404 k24403 c24405) x24407 o24406 ∧ zbh p0 p1 p2 n x24401 x24407 x24410 = some rr) big ⟨(some ⟨b15, 0, none⟩), c12, o13, y9, y16.length, (some ⟨b22, 0, none⟩), c19, o20, y16, 0, _, ar (ar (ar (ar (ar (ar trivial))))), hO, hL, r0, r1, r2, w14, w21.len, w21, hF⟩ ?_
    clear hF hO hL
    rintro n48770 e σ ⟨A24398, c24399, o24400, x24401, k24403, A24404, c24405, o24406, x24407, x24410, _, hA, hO, hL, r24395, r24396, r24397, w24402, hk24408, w24409, hF⟩
    rw [← sets_agr _ _ hA]
    cases n48770 with
    | zero => exact nomatch (show none = some rr from hF)
    | succ n48770 =>
      replace hF : zC (zbh p0 p1 p2 n48770) p0 p1 p2 x24401 x24407 x24410 = some rr := hF
      unfold zC at hF
      subst hk24408
      refine wpn_assoc ?_
      refine wpn_qa hO [] [(0, .slice A0 p0.length c0), (1, .slice A1 p1.length c1), (2, .slice A2 p2.length c2), (7, .slice A24398 x24401.length c24399), (8, .slice A24404 x24407.length c24405), (9, .int .i64 x24410), (47, .bool (decide (x24410 < 6)))] (ar (ar (ar (ar (ar (ar (ar trivial))))))) fun j => ?_
      rcases ite_some hF with ⟨hb48771, hF⟩ | ⟨hb48771, hF⟩
      · refine wpn_cT (congrArg Value.bool hb48771) ?_
        refine wpn_sk ?_
        refine wpn_bl ?_
        refine wpn_rlast ?_
        refine wpn_q hO 5 [] [(0, .slice A0 p0.length c0), (1, .slice A1 p1.length c1), (2, .slice A2 p2.length c2), (7, .slice A24398 x24401.length c24399), (8, .slice A24404 x24407.length c24405), (9, .int .i64 x24410), (50, .slice A24404 x24407.length c24405), (52, .int .i64 (IntKind.i64.wrap (6 + x24410))), (53, .slice A2 p2.length c2), (54, .int .i64 x24410)] (ar (ar (ar (ar (ar (ar (ar (ar (ar (ar trivial)))))))))) fun j => ?_
        obtain ⟨y48772, g48773, hF⟩ := bind_some hF
        refine wpn_idx (T := (Ty.int .i64)) r24397 hO.base rfl rfl g48773 (by decide) fun a48774 _ k48775 m48776 => ?_
        obtain rfl : _ = ([.int .i64 y48772] : List Value) := k48775
        refine wpn_ld rfl (m48776.le hO.base).fst ?_
        obtain ⟨y48777, g48778, hF⟩ := bind_some hF
        refine wpn_ido (T := (Ty.int .i64)) hO w24409 (i := 1) rfl rfl rfl g48778 (by decide) fun a48779 _ k48780 m48781 i48782 => ?_
        have k48783 := k48780
        obtain rfl : _ = ([.int .i64 y48777] : List Value) := k48783
        refine wpn_sto (T := (Ty.int .i64)) (off := 0) (vs := [.int .i64 y48772]) hO w24409 (i := 1) rfl (by rw [add_zero]; rfl) i48782 g48778 k48780 m48781 rfl rfl rfl rfl (by decide) (show _ = _ from rfl) fun σ o48784 w48785 hO => ?_
        have hO : Obs _ _ [_, _] := hO
        refine wpn_nil ?_
        refine wpn_end ?_
        refine inb_i ?_
        refine thn_i ?_
        refine wpn_rlast ?_
        refine wpn_qa hO [] [(0, .slice A0 p0.length c0), (1, .slice A1 p1.length c1), (2, .slice A2 p2.length c2), (7, .slice A24398 x24401.length c24399), (8, .slice A24404 x24407.length c24405), (9, .int .i64 (IntKind.i64.wrap (x24410 + 1)))] (ar (ar (ar (ar (ar (ar trivial)))))) fun j => ?_
        refine wpn_end ?_
        refine thn_i ?_
        exact ⟨n48770, Nat.lt_succ_self _, A24398, c24399, o24400, x24401, x24407.length, A24404, c24405, o48784, (x24407.set (Int.toNat (IntKind.i64.wrap (6 + x24410))) y48772), (IntKind.i64.wrap (x24410 + 1)), _, ar (ar (ar (ar (ar (ar trivial))))), hO, hL, r24395, r24396, r24397, w24402, w48785.len, w48785, hF⟩
      · refine wpn_cF (congrArg Value.bool hb48771) ?_
        refine wpn_ex ?_
        refine thn_x ?_
        refine inb_x ?_
        refine thn_i ?_
        refine wpn_q hO 1 [] [(0, .slice A0 p0.length c0), (1, .slice A1 p1.length c1), (7, .slice A24398 x24401.length c24399), (8, .slice A24404 x24407.length c24405), (58, .slice A24404 x24407.length c24405)] (ar (ar (ar (ar (ar trivial))))) fun j => ?_
        obtain ⟨y48786, g48787, hF⟩ := bind_some hF
        refine wpn_ido (T := (Ty.int .i64)) hO w24409 (i := 1) rfl rfl rfl g48787 (by decide) fun a48788 _ k48789 m48790 i48791 => ?_
        have k48792 := k48789
        obtain rfl : _ = ([.int .i64 y48786] : List Value) := k48792
        refine wpn_sto (T := (Ty.int .i64)) (off := 0) (vs := [.int .i64 600]) hO w24409 (i := 1) rfl (by rw [add_zero]; rfl) i48791 g48787 k48789 m48790 rfl rfl rfl rfl (by decide) (show _ = _ from rfl) fun σ o48793 w48794 hO => ?_
        have hO : Obs _ _ [_, _] := hO
        refine wpn_nil ?_
        refine wpn_qa hO [] [(0, .slice A0 p0.length c0), (1, .slice A1 p1.length c1), (7, .slice A24398 x24401.length c24399), (8, .slice A24404 x24407.length c24405), (10, .slice none 0 0)] (ar (ar (ar (ar (ar trivial))))) fun j => ?_
        refine wpn_qa hO [] [(0, .slice A0 p0.length c0), (1, .slice A1 p1.length c1), (7, .slice A24398 x24401.length c24399), (8, .slice A24404 x24407.length c24405), (10, .slice none 0 0), (11, .slice none 0 0)] (ar (ar (ar (ar (ar (ar trivial)))))) fun j => ?_
        refine wpn_assoc ?_
        refine wpn_qa hO [] [(0, .slice A0 p0.length c0), (1, .slice A1 p1.length c1), (7, .slice A24398 x24401.length c24399), (8, .slice A24404 x24407.length c24405), (10, .slice none 0 0), (11, .slice none 0 0), (12, .int .i64 0)] (ar (ar (ar (ar (ar (ar (ar trivial))))))) fun j => ?_
        refine wpn_bl ?_
        have hO := hO.no
        have hO : Obs _ _ [_, _, _] := hO
        have hO := hO.no
        have hO : Obs _ _ [_, _, _, _] := hO
        refine wpn_lp (fun (n : Nat) e' σ' => ∃ (A54434 : Option Addr) (c54435 : Nat) (o54436 : Ob) (x54437 : List Int) (k54439 : Nat) (A54440 : Option Addr) (c54441 : Nat) (o54442 : Ob) (x54443 : List Int) (A54446 : Option Addr) (c54447 : Nat) (o54448 : Ob) (x54449 : List za) (A54451 : Option Addr) (c54452 : Nat) (o54453 : Ob) (x54454 : List (List Int)) (x54456 : Int) (τ' : Hp), agr [(0, .slice A0 p0.length c0), (1, .slice A1 p1.length c1), (7, .slice A54434 x54437.length c54435), (8, .slice A54440 k54439 c54441), (10, .slice A54446 x54449.length c54447), (11, .slice A54451 x54454.length c54452), (12, .int .i64 x54456)] e' ∧ Obs τ' σ' [o54436, o54442, o54448, o54453] ∧ Hp.le τ τ' ∧ RdT Ty.u8 τ' (.slice A0 p0.length c0) p0 ∧ RdT Ty.u8 τ' (.slice A1 p1.length c1) p1 ∧ OwnO (Ty.int .i64) 2 τ' (.slice A54434 x54437.length c54435) x54437 o54436 ∧ k54439 = x54443.length ∧ OwnO (Ty.int .i64) 2 τ' (.slice A54440 k54439 c54441) x54443 o54442 ∧ OwnO zd 48 τ' (.slice A54446 x54449.length c54447) x54449 o54448 ∧ OwnO (Ty.slice (Ty.int .i64)) 26 τ' (.slice A54451 x54454.length c54452) x54454 o54453 ∧ zi p0 p1 n x54437 x54443 x54449 x54454 x54456 = some rr) big ⟨A24398, c24399, o24400, x24401, x24407.length, A24404, c24405, o48793, (x24407.set (Int.toNat 15) 600), none, 0, none, [], none, 0, none, [], 0, _, ar (ar (ar (ar (ar (ar (ar trivial)))))), hO, hL, r24395, r24396, w24402, w48794.len, w48794, OwnO.nil _ _ _, OwnO.nil _ _ _, hF⟩ ?_
        clear hF hO hL
        rintro n63793 e σ ⟨A54434, c54435, o54436, x54437, k54439, A54440, c54441, o54442, x54443, A54446, c54447, o54448, x54449, A54451, c54452, o54453, x54454, x54456, _, hA, hO, hL, r54432, r54433, w54438, hk54444, w54445, w54450, w54455, hF⟩
        rw [← sets_agr _ _ hA]
        cases n63793 with
        | zero => exact nomatch (show none = some rr from hF)
        | succ n63793 =>
          replace hF : z3 (zi p0 p1 n63793) p0 p1 x54437 x54443 x54449 x54454 x54456 = some rr := hF
          unfold z3 at hF
          subst hk54444
          refine wpn_assoc ?_
          refine wpn_qa hO [] [(0, .slice A0 p0.length c0), (1, .slice A1 p1.length c1), (7, .slice A54434 x54437.length c54435), (8, .slice A54440 x54443.length c54441), (10, .slice A54446 x54449.length c54447), (11, .slice A54451 x54454.length c54452), (12, .int .i64 x54456), (63, .bool (decide (x54456 < (p0.length : Int))))] (ar (ar (ar (ar (ar (ar (ar (ar trivial)))))))) fun j => ?_
          rcases ite_some hF with ⟨hb63794, hF⟩ | ⟨hb63794, hF⟩
          · refine wpn_cT (congrArg Value.bool hb63794) ?_
            refine wpn_sk ?_
            refine wpn_bl ?_
            refine wpn_q hO 1 [] [(0, .slice A0 p0.length c0), (1, .slice A1 p1.length c1), (7, .slice A54434 x54437.length c54435), (8, .slice A54440 x54443.length c54441), (10, .slice A54446 x54449.length c54447), (12, .int .i64 x54456), (66, .slice A54451 x54454.length c54452)] (ar (ar (ar (ar (ar (ar (ar trivial))))))) fun j => ?_
            refine wpn_lit (T := (Ty.int .i64)) (l := ([] : List Int)) (cs := []) hO rfl rfl rfl (by decide) fun _ σ o63797 w63798 hO => ?_
            obtain ⟨A63795, c63796, rfl, -⟩ := w63798.form
            have hO : Obs _ _ [_, _, _, _, _] := hO
            refine wpn_q hO 1 [] [(0, .slice A0 p0.length c0), (1, .slice A1 p1.length c1), (7, .slice A54434 x54437.length c54435), (8, .slice A54440 x54443.length c54441), (10, .slice A54446 x54449.length c54447), (12, .int .i64 x54456), (66, .slice A54451 x54454.length c54452), (67, .slice A63795 ([] : List Int).length c63796), (68, .slice A54440 x54443.length c54441)] (ar (ar (ar (ar (ar (ar (ar (ar (ar trivial))))))))) fun j => ?_
            obtain ⟨_, hr, hF⟩ := bind_some hF
            refine wpn_apf (T := (Ty.int .i64)) (Ty.sc_flat _ _) hO w63798 (i := 4) rfl rfl rfl (w54445.rd hO (i := 1) rfl) hr (by decide) fun _ σ o63801 w63802 hO => ?_
            obtain ⟨A63799, c63800, rfl, -⟩ := w63802.form
            have hO : Obs _ _ [_, _, _, _, _] := hO
            obtain ⟨_, h63804, r63803, hO⟩ := w63802.share hO (i := 4) rfl
            have hL := hL.trans h63804
            have r54432 := r54432.le h63804
            have r54433 := r54433.le h63804
            have w54438 := w54438.le h63804
            have w54445 := w54445.le h63804
            have w54450 := w54450.le h63804
            have w54455 := w54455.le h63804
            have hO : Obs _ _ [_, _, _, _, _] := hO
            obtain ⟨_, hr, hF⟩ := bind_some hF
            refine wpn_ap1 (T := (Ty.slice (Ty.int .i64))) (y := (([] : List Int) ++ x54443)) hO w54455 (i := 3) rfl rfl (fun _ => rfl) rfl ⟨_, rfl, r63803⟩ rfl hr (by decide) fun u _ σ o63807 w63808 hO => ?_
            obtain ⟨A63805, c63806, rfl, -⟩ := w63808.form
            have hO : Obs _ _ [_, _, _, _, _] := hO
            refine wpn_qa hO [] [(0, .slice A0 p0.length c0), (1, .slice A1 p1.length c1), (7, .slice A54434 x54437.length c54435), (8, .slice A54440 x54443.length c54441), (10, .slice A54446 x54449.length c54447), (11, .slice A63805 (x54454 ++ [(([] : List Int) ++ x54443)]).length c63806), (12, .int .i64 x54456)] (ar (ar (ar (ar (ar (ar (ar trivial))))))) fun j => ?_
            refine wpn_q hO 7 [] [(0, .slice A0 p0.length c0), (1, .slice A1 p1.length c1), (7, .slice A54434 x54437.length c54435), (8, .slice A54440 x54443.length c54441), (10, .slice A54446 x54449.length c54447), (11, .slice A63805 (x54454 ++ [(([] : List Int) ++ x54443)]).length c63806), (12, .int .i64 x54456), (73, .int .i64 (IntKind.i64.wrap (10 * x54456))), (76, .int .i64 (IntKind.i64.wrap ((IntKind.i64.wrap (10 * x54456)) + 10))), (77, .slice A0 p0.length c0), (78, .int .i64 x54456)] (ar (ar (ar (ar (ar (ar (ar (ar (ar (ar (ar trivial))))))))))) fun j => ?_
            obtain ⟨y63809, g63810, hF⟩ := bind_some hF
            refine wpn_idx (T := Ty.u8) r54432 hO.base rfl rfl g63810 (by decide) fun a63811 _ k63812 m63813 => ?_
            obtain rfl : _ = ([.int .u8 y63809.toNat] : List Value) := k63812
            refine wpn_ld rfl (m63813.le hO.base).fst ?_
            refine wpn_q hO 4 [] [(0, .slice A0 p0.length c0), (1, .slice A1 p1.length c1), (7, .slice A54434 x54437.length c54435), (8, .slice A54440 x54443.length c54441), (10, .slice A54446 x54449.length c54447), (11, .slice A63805 (x54454 ++ [(([] : List Int) ++ x54443)]).length c63806), (12, .int .i64 x54456), (84, .agg #[(.int .i64 (IntKind.i64.wrap (10 * x54456))), (.int .i64 (IntKind.i64.wrap ((IntKind.i64.wrap (10 * x54456)) + 10))), (.int .i64 (IntKind.i64.wrap (10 + (IntKind.i64.wrap (Int.tmod (y63809.toNat : Int) 10))))), (.slice none 0 0)])] (ar (ar (ar (ar (ar (ar (ar (ar trivial)))))))) fun j => ?_
            refine wpn_al hO fun b63814 σ hO => ?_
            have hO : Obs _ _ [_, _, _, _, _, _] := hO
            refine wpn_st hO (i := 5) rfl (off := 0) rfl rfl rfl rfl (Nat.le_of_ble_eq_true rfl) rfl fun σ hO => ?_
            have hO : Obs _ _ [_, _, _, _, _, _] := hO
            refine wpn_nil ?_
            refine wpn_q hO 1 [] [(0, .slice A0 p0.length c0), (1, .slice A1 p1.length c1), (7, .slice A54434 x54437.length c54435), (8, .slice A54440 x54443.length c54441), (10, .slice A54446 x54449.length c54447), (11, .slice A63805 (x54454 ++ [(([] : List Int) ++ x54443)]).length c63806), (12, .int .i64 x54456), (13, .pointer (some ⟨b63814, 0, none⟩)), (85, .slice A54440 x54443.length c54441)] (ar (ar (ar (ar (ar (ar (ar (ar (ar trivial))))))))) fun j => ?_
            obtain ⟨y63815, g63816, hF⟩ := bind_some hF
            refine wpn_ido (T := (Ty.int .i64)) hO w54445 (i := 1) rfl rfl rfl g63816 (by decide) fun a63817 _ k63818 m63819 i63820 => ?_
            have k63821 := k63818
            obtain rfl : _ = ([.int .i64 y63815] : List Value) := k63821
            refine wpn_ld rfl m63819.fst ?_
            refine wpn_qa hO [] [(0, .slice A0 p0.length c0), (1, .slice A1 p1.length c1), (7, .slice A54434 x54437.length c54435), (8, .slice A54440 x54443.length c54441), (10, .slice A54446 x54449.length c54447), (11, .slice A63805 (x54454 ++ [(([] : List Int) ++ x54443)]).length c63806), (12, .int .i64 x54456), (13, .pointer (some ⟨b63814, 0, none⟩)), (14, .int .i64 y63815)] (ar (ar (ar (ar (ar (ar (ar (ar (ar trivial))))))))) fun j => ?_
            refine wpn_q hO 3 [] [(0, .slice A0 p0.length c0), (1, .slice A1 p1.length c1), (7, .slice A54434 x54437.length c54435), (8, .slice A54440 x54443.length c54441), (10, .slice A54446 x54449.length c54447), (11, .slice A63805 (x54454 ++ [(([] : List Int) ++ x54443)]).length c63806), (12, .int .i64 x54456), (13, .pointer (some ⟨b63814, 0, none⟩)), (14, .int .i64 y63815), (88, .slice A54434 x54437.length c54435), (90, .int .i64 (IntKind.i64.wrap (y63815 - 1)))] (ar (ar (ar (ar (ar (ar (ar (ar (ar (ar (ar trivial))))))))))) fun j => ?_
            obtain ⟨y63822, g63823, hF⟩ := bind_some hF
            refine wpn_ido (T := (Ty.int .i64)) hO w54438 (i := 0) rfl rfl rfl g63823 (by decide) fun a63824 _ k63825 m63826 i63827 => ?_
            have k63828 := k63825
            obtain rfl : _ = ([.int .i64 y63822] : List Value) := k63828
            refine wpn_sto (T := (Ty.int .i64)) (off := 0) (vs := [.int .i64 9999]) hO w54438 (i := 0) rfl (by rw [add_zero]; rfl) i63827 g63823 k63825 m63826 rfl rfl rfl rfl (by decide) (show _ = _ from rfl) fun σ o63829 w63830 hO => ?_
            have hO : Obs _ _ [_, _, _, _, _, _] := hO
            refine wpn_nil ?_
            refine wpn_assoc ?_
            refine wpn_qa hO [] [(0, .slice A0 p0.length c0), (1, .slice A1 p1.length c1), (7, .slice A54434 x54437.length c54435), (8, .slice A54440 x54443.length c54441), (10, .slice A54446 x54449.length c54447), (11, .slice A63805 (x54454 ++ [(([] : List Int) ++ x54443)]).length c63806), (12, .int .i64 x54456), (13, .pointer (some ⟨b63814, 0, none⟩)), (14, .int .i64 y63815), (93, .bool (decide (x54456 > 0)))] (ar (ar (ar (ar (ar (ar (ar (ar (ar (ar trivial)))))))))) fun j => ?_
            refine wpn_cut (fun e' σ' => ∃ (k63843 : Nat) (A63844 : Option Addr) (c63845 : Nat) (o63846 : Ob) (x63847 : List Int) (A63850 : Option Addr) (c63851 : Nat) (o63852 : Ob) (x63853 : List Int) (A63855 : Option Addr) (c63856 : Nat) (o63857 : Ob) (x63858 : List za) (A63860 : Option Addr) (c63861 : Nat) (o63862 : Ob) (x63863 : List (List Int)) (τ' : Hp), agr [(0, .slice A0 p0.length c0), (1, .slice A1 p1.length c1), (7, .slice A63844 k63843 c63845), (8, .slice A63850 x63853.length c63851), (10, .slice A63855 x63858.length c63856), (11, .slice A63860 x63863.length c63861), (12, .int .i64 x54456), (13, .pointer (some ⟨b63814, 0, none⟩)), (14, .int .i64 y63815)] e' ∧ Obs τ' σ' [o63846, o63852, o63857, o63862, some (b63814, ⟨[.int .i64 (IntKind.i64.wrap (10 * x54456)), .int .i64 (IntKind.i64.wrap ((IntKind.i64.wrap (10 * x54456)) + 10)), .int .i64 (IntKind.i64.wrap (10 + (IntKind.i64.wrap (Int.tmod (y63809.toNat : Int) 10)))), .slice none 0 0], 48, 4, true⟩)] ∧ Hp.le τ τ' ∧ RdT Ty.u8 τ' (.slice A0 p0.length c0) p0 ∧ RdT Ty.u8 τ' (.slice A1 p1.length c1) p1 ∧ k63843 = x63847.length ∧ OwnO (Ty.int .i64) 2 τ' (.slice A63844 k63843 c63845) x63847 o63846 ∧ OwnO (Ty.int .i64) 2 τ' (.slice A63850 x63853.length c63851) x63853 o63852 ∧ OwnO zd 48 τ' (.slice A63855 x63858.length c63856) x63858 o63857 ∧ OwnO (Ty.slice (Ty.int .i64)) 26 τ' (.slice A63860 x63863.length c63861) x63863 o63862 ∧ zA (zi p0 p1 n63793) p1 x54456 y63809 y63815 x63847 x63853 x63858 x63863 = some rr) ?_ ?_
            · refine wpn_clast ?_
              rcases ite_some hF with ⟨hb64076, hF⟩ | ⟨hb64076, hF⟩
              · refine wpn_cT (congrArg Value.bool hb64076) ?_
                refine wpn_q hO 7 [] [(0, .slice A0 p0.length c0), (1, .slice A1 p1.length c1), (7, .slice A54434 x54437.length c54435), (8, .slice A54440 x54443.length c54441), (10, .slice A54446 x54449.length c54447), (11, .slice A63805 (x54454 ++ [(([] : List Int) ++ x54443)]).length c63806), (12, .int .i64 x54456), (13, .pointer (some ⟨b63814, 0, none⟩)), (14, .int .i64 y63815), (94, .slice A54434 x54437.length c54435), (96, .int .i64 (IntKind.i64.wrap (y63815 - 1))), (100, .int .i64 (IntKind.i64.wrap ((IntKind.i64.wrap (10 * (IntKind.i64.wrap (x54456 - 1)))) + 5)))] (ar (ar (ar (ar (ar (ar (ar (ar (ar (ar (ar (ar trivial)))))))))))) fun j => ?_
                obtain ⟨y64077, g64078, hF⟩ := bind_some hF
                refine wpn_ido (T := (Ty.int .i64)) hO w63830 (i := 0) rfl rfl rfl g64078 (by decide) fun a64079 _ k64080 m64081 i64082 => ?_
                have k64083 := k64080
                obtain rfl : _ = ([.int .i64 y64077] : List Value) := k64083
                refine wpn_sto (T := (Ty.int .i64)) (off := 0) (vs := [.int .i64 (IntKind.i64.wrap ((IntKind.i64.wrap (10 * (IntKind.i64.wrap (x54456 - 1)))) + 5))]) hO w63830 (i := 0) rfl (by rw [add_zero]; rfl) i64082 g64078 k64080 m64081 rfl rfl rfl rfl (by decide) (show _ = _ from rfl) fun σ o64084 w64085 hO => ?_
                have hO : Obs _ _ [_, _, _, _, _, _] := hO
                refine wpn_nil ?_
                refine wpn_end ?_
                refine thn_i ?_
                have hO := hO.sel [0, 1, 2, 3, 5] (by decide)
                exact ⟨x54437.length, A54434, c54435, o64084, ((x54437.set (Int.toNat (IntKind.i64.wrap (y63815 - 1))) 9999).set (Int.toNat (IntKind.i64.wrap (y63815 - 1))) (IntKind.i64.wrap ((IntKind.i64.wrap (10 * (IntKind.i64.wrap (x54456 - 1)))) + 5))), A54440, c54441, o54442, x54443, A54446, c54447, o54448, x54449, A63805, c63806, o63807, (x54454 ++ [(([] : List Int) ++ x54443)]), _, ar (ar (ar (ar (ar (ar (ar (ar (ar trivial)))))))), hO, hL, r54432, r54433, w64085.len, w64085, w54445, w54450, w63808, hF⟩
              · refine wpn_cF (congrArg Value.bool hb64076) ?_
                refine wpn_sk ?_
                refine wpn_end ?_
                refine thn_i ?_
                have hO := hO.sel [0, 1, 2, 3, 5] (by decide)
                exact ⟨x54437.length, A54434, c54435, o63829, (x54437.set (Int.toNat (IntKind.i64.wrap (y63815 - 1))) 9999), A54440, c54441, o54442, x54443, A54446, c54447, o54448, x54449, A63805, c63806, o63807, (x54454 ++ [(([] : List Int) ++ x54443)]), _, ar (ar (ar (ar (ar (ar (ar (ar (ar trivial)))))))), hO, hL, r54432, r54433, w63830.len, w63830, w54445, w54450, w63808, hF⟩
            · rintro e σ ⟨k63843, A63844, c63845, o63846, x63847, A63850, c63851, o63852, x63853, A63855, c63856, o63857, x63858, A63860, c63861, o63862, x63863, _, hA, hO, hL, r63841, r63842, hk63848, w63849, w63854, w63859, w63864, hF⟩
              rw [← sets_agr _ _ hA]
              unfold zA at hF
              subst hk63848
              refine wpn_assoc ?_
              refine wpn_qa hO [] [(0, .slice A0 p0.length c0), (1, .slice A1 p1.length c1), (7, .slice A63844 x63847.length c63845), (8, .slice A63850 x63853.length c63851), (10, .slice A63855 x63858.length c63856), (11, .slice A63860 x63863.length c63861), (12, .int .i64 x54456), (13, .pointer (some ⟨b63814, 0, none⟩)), (14, .int .i64 y63815), (15, .int .i64 0)] (ar (ar (ar (ar (ar (ar (ar (ar (ar (ar trivial)))))))))) fun j => ?_
              refine wpn_bl ?_
              have hO := hO.no
              have hO : Obs _ _ [_, _, _, _, _, _] := hO
              refine wpn_lp (fun (n : Nat) e' σ' => ∃ (k63939 : Nat) (A63940 : Option Addr) (c63941 : Nat) (o63942 : Ob) (x63943 : List Int) (k63946 : Nat) (A63947 : Option Addr) (c63948 : Nat) (o63949 : Ob) (x63950 : List Int) (A63953 : Option Addr) (c63954 : Nat) (o63955 : Ob) (x63956 : List za) (A63958 : Option Addr) (c63959 : Nat) (o63960 : Ob) (x63961 : List (List Int)) (A63963 : Option Addr) (c63964 : Nat) (o63965 : Ob) (x63966 : List zb) (x63968 : Int) (τ' : Hp), agr [(0, .slice A0 p0.length c0), (1, .slice A1 p1.length c1), (7, .slice A63940 k63939 c63941), (8, .slice A63947 k63946 c63948), (10, .slice A63953 x63956.length c63954), (11, .slice A63958 x63961.length c63959), (12, .int .i64 x54456), (13, .pointer (some ⟨b63814, 0, none⟩)), (14, .int .i64 y63815), (15, .int .i64 x63968)] e' ∧ Obs τ' σ' [o63942, o63949, o63955, o63960, some (b63814, ⟨[.int .i64 (IntKind.i64.wrap (10 * x54456)), .int .i64 (IntKind.i64.wrap ((IntKind.i64.wrap (10 * x54456)) + 10)), .int .i64 (IntKind.i64.wrap (10 + (IntKind.i64.wrap (Int.tmod (y63809.toNat : Int) 10)))), .slice A63963 x63966.length c63964], 48, 4, true⟩), o63965] ∧ Hp.le τ τ' ∧ RdT Ty.u8 τ' (.slice A0 p0.length c0) p0 ∧ RdT Ty.u8 τ' (.slice A1 p1.length c1) p1 ∧ k63939 = x63943.length ∧ OwnO (Ty.int .i64) 2 τ' (.slice A63940 k63939 c63941) x63943 o63942 ∧ k63946 = x63950.length ∧ OwnO (Ty.int .i64) 2 τ' (.slice A63947 k63946 c63948) x63950 o63949 ∧ OwnO zd 48 τ' (.slice A63953 x63956.length c63954) x63956 o63955 ∧ OwnO (Ty.slice (Ty.int .i64)) 26 τ' (.slice A63958 x63961.length c63959) x63961 o63960 ∧ OwnO zf 50 τ' (.slice A63963 x63966.length c63964) x63966 o63965 ∧ zbi (zi p0 p1 n63793) p1 x54456 y63809 y63815 n x63943 x63950 x63956 x63961 x63966 x63968 = some rr) big ⟨x63847.length, A63844, c63845, o63846, x63847, x63853.length, A63850, c63851, o63852, x63853, A63855, c63856, o63857, x63858, A63860, c63861, o63862, x63863, none, 0, none, [], 0, _, ar (ar (ar (ar (ar (ar (ar (ar (ar (ar trivial))))))))), hO, hL, r63841, r63842, w63849.len, w63849, w63854.len, w63854, w63859, w63864, OwnO.nil _ _ _, hF⟩ ?_
              clear hF hO hL
              rintro n64022 e σ ⟨k63939, A63940, c63941, o63942, x63943, k63946, A63947, c63948, o63949, x63950, A63953, c63954, o63955, x63956, A63958, c63959, o63960, x63961, A63963, c63964, o63965, x63966, x63968, _, hA, hO, hL, r63937, r63938, hk63944, w63945, hk63951, w63952, w63957, w63962, w63967, hF⟩
              rw [← sets_agr _ _ hA]
              cases n64022 with
              | zero => exact nomatch (show none = some rr from hF)
              | succ n64022 =>
                replace hF : z5 (zbi (zi p0 p1 n63793) p1 x54456 y63809 y63815 n64022) (zi p0 p1 n63793) p1 x54456 y63809 y63815 x63943 x63950 x63956 x63961 x63966 x63968 = some rr := hF
                unfold z5 at hF
                subst hk63944
                subst hk63951
                refine wpn_assoc ?_
                refine wpn_qa hO [] [(0, .slice A0 p0.length c0), (1, .slice A1 p1.length c1), (7, .slice A63940 x63943.length c63941), (8, .slice A63947 x63950.length c63948), (10, .slice A63953 x63956.length c63954), (11, .slice A63958 x63961.length c63959), (12, .int .i64 x54456), (13, .pointer (some ⟨b63814, 0, none⟩)), (14, .int .i64 y63815), (15, .int .i64 x63968), (103, .bool (decide (x63968 < 6)))] (ar (ar (ar (ar (ar (ar (ar (ar (ar (ar (ar trivial))))))))))) fun j => ?_
                rcases ite_some hF with ⟨hb64023, hF⟩ | ⟨hb64023, hF⟩
                · refine wpn_cT (congrArg Value.bool hb64023) ?_
                  refine wpn_sk ?_
                  refine wpn_bl ?_
                  refine wpn_q hO 2 [] [(0, .slice A0 p0.length c0), (1, .slice A1 p1.length c1), (7, .slice A63940 x63943.length c63941), (8, .slice A63947 x63950.length c63948), (10, .slice A63953 x63956.length c63954), (11, .slice A63958 x63961.length c63959), (12, .int .i64 x54456), (13, .pointer (some ⟨b63814, 0, none⟩)), (14, .int .i64 y63815), (15, .int .i64 x63968), (106, .slice A1 p1.length c1), (107, .int .i64 x54456)] (ar (ar (ar (ar (ar (ar (ar (ar (ar (ar (ar (ar trivial)))))))))))) fun j => ?_
                  obtain ⟨y64024, g64025, hF⟩ := bind_some hF
                  refine wpn_idx (T := Ty.u8) r63938 hO.base rfl rfl g64025 (by decide) fun a64026 _ k64027 m64028 => ?_
                  obtain rfl : _ = ([.int .u8 y64024.toNat] : List Value) := k64027
                  refine wpn_ld rfl (m64028.le hO.base).fst ?_
                  refine wpn_q hO 1 [] [(0, .slice A0 p0.length c0), (1, .slice A1 p1.length c1), (7, .slice A63940 x63943.length c63941), (8, .slice A63947 x63950.length c63948), (10, .slice A63953 x63956.length c63954), (11, .slice A63958 x63961.length c63959), (12, .int .i64 x54456), (13, .pointer (some ⟨b63814, 0, none⟩)), (14, .int .i64 y63815), (15, .int .i64 x63968), (109, .int .u8 (y64024.toNat : Int)), (110, .int .i64 x63968)] (ar (ar (ar (ar (ar (ar (ar (ar (ar (ar (ar (ar trivial)))))))))))) fun j => ?_
                  obtain ⟨y64029, g64030, hF⟩ := bind_some hF
                  refine wpn_bn (shrO_bin g64030) ?_
                  refine wpn_qa hO [] [(0, .slice A0 p0.length c0), (1, .slice A1 p1.length c1), (7, .slice A63940 x63943.length c63941), (8, .slice A63947 x63950.length c63948), (10, .slice A63953 x63956.length c63954), (11, .slice A63958 x63961.length c63959), (12, .int .i64 x54456), (13, .pointer (some ⟨b63814, 0, none⟩)), (14, .int .i64 y63815), (15, .int .i64 x63968), (113, .bool ((andI .u8 y64029 1) == 1))] (ar (ar (ar (ar (ar (ar (ar (ar (ar (ar (ar trivial))))))))))) fun j => ?_
                  refine wpn_clast ?_
                  rcases ite_some hF with ⟨hb64031, hF⟩ | ⟨hb64031, hF⟩
                  · refine wpn_cT (congrArg Value.bool hb64031) ?_
                    refine wpn_assoc ?_
                    refine wpn_qa hO [4] [(0, .slice A0 p0.length c0), (1, .slice A1 p1.length c1), (7, .slice A63940 x63943.length c63941), (8, .slice A63947 x63950.length c63948), (10, .slice A63953 x63956.length c63954), (11, .slice A63958 x63961.length c63959), (12, .int .i64 x54456), (13, .pointer (some ⟨b63814, 0, none⟩)), (14, .int .i64 y63815), (15, .int .i64 x63968), (16, .int .i64 (IntKind.i64.wrap ((-2) - (x63966.length : Int))))] (And.intro (And.intro rfl rfl) (ar (ar (ar (ar (ar (ar (ar (ar (ar (ar (ar trivial)))))))))))) fun j => ?_
                    refine wpn_assoc ?_
                    refine wpn_q hO 7 [] [(0, .slice A0 p0.length c0), (1, .slice A1 p1.length c1), (7, .slice A63940 x63943.length c63941), (8, .slice A63947 x63950.length c63948), (10, .slice A63953 x63956.length c63954), (11, .slice A63958 x63961.length c63959), (12, .int .i64 x54456), (13, .pointer (some ⟨b63814, 0, none⟩)), (14, .int .i64 y63815), (15, .int .i64 x63968), (16, .int .i64 (IntKind.i64.wrap ((-2) - (x63966.length : Int)))), (118, .slice A63940 x63943.length c63941), (121, .int .i64 (IntKind.i64.wrap (y63815 + (IntKind.i64.wrap ((-2) - (x63966.length : Int)))))), (122, .slice A63947 x63950.length c63948), (124, .int .i64 (IntKind.i64.wrap (6 + x63968)))] (ar (ar (ar (ar (ar (ar (ar (ar (ar (ar (ar (ar (ar (ar (ar trivial))))))))))))))) fun j => ?_
                    obtain ⟨y64032, g64033, hF⟩ := bind_some hF
                    refine wpn_ido (T := (Ty.int .i64)) hO w63952 (i := 1) rfl rfl rfl g64033 (by decide) fun a64034 _ k64035 m64036 i64037 => ?_
                    have k64038 := k64035
                    obtain rfl : _ = ([.int .i64 y64032] : List Value) := k64038
                    refine wpn_ld rfl m64036.fst ?_
                    obtain ⟨y64039, g64040, hF⟩ := bind_some hF
                    refine wpn_ido (T := (Ty.int .i64)) hO w63945 (i := 0) rfl rfl rfl g64040 (by decide) fun a64041 _ k64042 m64043 i64044 => ?_
                    have k64045 := k64042
                    obtain rfl : _ = ([.int .i64 y64039] : List Value) := k64045
                    refine wpn_sto (T := (Ty.int .i64)) (off := 0) (vs := [.int .i64 y64032]) hO w63945 (i := 0) rfl (by rw [add_zero]; rfl) i64044 g64040 k64042 m64043 rfl rfl rfl rfl (by decide) (show _ = _ from rfl) fun σ o64046 w64047 hO => ?_
                    have hO : Obs _ _ [_, _, _, _, _, _] := hO
                    refine wpn_nil ?_
                    refine wpn_assoc ?_
                    refine wpn_q hO 6 [4] [(0, .slice A0 p0.length c0), (1, .slice A1 p1.length c1), (7, .slice A63940 x63943.length c63941), (8, .slice A63947 x63950.length c63948), (10, .slice A63953 x63956.length c63954), (11, .slice A63958 x63961.length c63959), (12, .int .i64 x54456), (13, .pointer (some ⟨b63814, 0, none⟩)), (14, .int .i64 y63815), (15, .int .i64 x63968), (129, .slice A63963 x63966.length c63964), (133, .agg #[(.int .i64 (IntKind.i64.wrap (6 + x63968))), (.int .i64 (IntKind.i64.wrap ((-2) - (x63966.length : Int))))])] (And.intro (And.intro rfl rfl) (ar (ar (ar (ar (ar (ar (ar (ar (ar (ar (ar (ar trivial))))))))))))) fun j => ?_
                    obtain ⟨_, hr, hF⟩ := bind_some hF
                    refine wpn_ap1 (T := zf) (y := (⟨(IntKind.i64.wrap (6 + x63968)), (IntKind.i64.wrap ((-2) - (x63966.length : Int)))⟩ : zb)) hO w63967 (i := 5) rfl rfl (fun _ => rfl) rfl rfl rfl hr (by decide) fun u _ σ o64050 w64051 hO => ?_
                    obtain ⟨A64048, c64049, rfl, -⟩ := w64051.form
                    have hO : Obs _ _ [_, _, _, _, _, _] := hO
                    refine wpn_q hO 1 [] [(0, .slice A0 p0.length c0), (1, .slice A1 p1.length c1), (7, .slice A63940 x63943.length c63941), (8, .slice A63947 x63950.length c63948), (10, .slice A63953 x63956.length c63954), (11, .slice A63958 x63961.length c63959), (12, .int .i64 x54456), (13, .pointer (some ⟨b63814, 0, none⟩)), (14, .int .i64 y63815), (15, .int .i64 x63968), (135, .slice A64048 (x63966 ++ [(⟨(IntKind.i64.wrap (6 + x63968)), (IntKind.i64.wrap ((-2) - (x63966.length : Int)))⟩ : zb)]).length c64049), (136, .pointer (some ⟨b63814, 3, none⟩))] (ar (ar (ar (ar (ar (ar (ar (ar (ar (ar (ar (ar trivial)))))))))))) fun j => ?_
                    refine wpn_st hO (i := 4) rfl (off := 3) rfl rfl rfl rfl (Nat.le_of_ble_eq_true rfl) rfl fun σ hO => ?_
                    have hO : Obs _ _ [_, _, _, _, _, _] := hO
                    refine wpn_nil ?_
                    refine wpn_q hO 7 [] [(0, .slice A0 p0.length c0), (1, .slice A1 p1.length c1), (7, .slice A63940 x63943.length c63941), (8, .slice A63947 x63950.length c63948), (10, .slice A63953 x63956.length c63954), (11, .slice A63958 x63961.length c63959), (12, .int .i64 x54456), (13, .pointer (some ⟨b63814, 0, none⟩)), (14, .int .i64 y63815), (15, .int .i64 x63968), (137, .slice A63947 x63950.length c63948), (139, .int .i64 (IntKind.i64.wrap (6 + x63968))), (143, .int .i64 (IntKind.i64.wrap ((IntKind.i64.wrap (1000 * x54456)) + x63968)))] (ar (ar (ar (ar (ar (ar (ar (ar (ar (ar (ar (ar (ar trivial))))))))))))) fun j => ?_
                    obtain ⟨y64052, g64053, hF⟩ := bind_some hF
                    refine wpn_ido (T := (Ty.int .i64)) hO w63952 (i := 1) rfl rfl rfl g64053 (by decide) fun a64054 _ k64055 m64056 i64057 => ?_
                    have k64058 := k64055
                    obtain rfl : _ = ([.int .i64 y64052] : List Value) := k64058
                    refine wpn_sto (T := (Ty.int .i64)) (off := 0) (vs := [.int .i64 (IntKind.i64.wrap ((IntKind.i64.wrap (1000 * x54456)) + x63968))]) hO w63952 (i := 1) rfl (by rw [add_zero]; rfl) i64057 g64053 k64055 m64056 rfl rfl rfl rfl (by decide) (show _ = _ from rfl) fun σ o64059 w64060 hO => ?_
                    have hO : Obs _ _ [_, _, _, _, _, _] := hO
                    refine wpn_nil ?_
                    refine wpn_end ?_
                    refine inb_i ?_
                    refine thn_i ?_
                    refine wpn_rlast ?_
                    refine wpn_qa hO [] [(0, .slice A0 p0.length c0), (1, .slice A1 p1.length c1), (7, .slice A63940 x63943.length c63941), (8, .slice A63947 x63950.length c63948), (10, .slice A63953 x63956.length c63954), (11, .slice A63958 x63961.length c63959), (12, .int .i64 x54456), (13, .pointer (some ⟨b63814, 0, none⟩)), (14, .int .i64 y63815), (15, .int .i64 (IntKind.i64.wrap (x63968 + 1)))] (ar (ar (ar (ar (ar (ar (ar (ar (ar (ar trivial)))))))))) fun j => ?_
                    refine wpn_end ?_
                    refine thn_i ?_
                    exact ⟨n64022, Nat.lt_succ_self _, x63943.length, A63940, c63941, o64046, (x63943.set (Int.toNat (IntKind.i64.wrap (y63815 + (IntKind.i64.wrap ((-2) - (x63966.length : Int)))))) y64032), x63950.length, A63947, c63948, o64059, (x63950.set (Int.toNat (IntKind.i64.wrap (6 + x63968))) (IntKind.i64.wrap ((IntKind.i64.wrap (1000 * x54456)) + x63968))), A63953, c63954, o63955, x63956, A63958, c63959, o63960, x63961, A64048, c64049, o64050, (x63966 ++ [(⟨(IntKind.i64.wrap (6 + x63968)), (IntKind.i64.wrap ((-2) - (x63966.length : Int)))⟩ : zb)]), (IntKind.i64.wrap (x63968 + 1)), _, ar (ar (ar (ar (ar (ar (ar (ar (ar (ar trivial))))))))), hO, hL, r63937, r63938, w64047.len, w64047, w64060.len, w64060, w63957, w63962, w64051, hF⟩
                  · refine wpn_cF (congrArg Value.bool hb64031) ?_
                    refine wpn_sk ?_
                    refine wpn_end ?_
                    refine inb_i ?_
                    refine thn_i ?_
                    refine wpn_rlast ?_
                    refine wpn_qa hO [] [(0, .slice A0 p0.length c0), (1, .slice A1 p1.length c1), (7, .slice A63940 x63943.length c63941), (8, .slice A63947 x63950.length c63948), (10, .slice A63953 x63956.length c63954), (11, .slice A63958 x63961.length c63959), (12, .int .i64 x54456), (13, .pointer (some ⟨b63814, 0, none⟩)), (14, .int .i64 y63815), (15, .int .i64 (IntKind.i64.wrap (x63968 + 1)))] (ar (ar (ar (ar (ar (ar (ar (ar (ar (ar trivial)))))))))) fun j => ?_
                    refine wpn_end ?_
                    refine thn_i ?_
                    exact ⟨n64022, Nat.lt_succ_self _, x63943.length, A63940, c63941, o63942, x63943, x63950.length, A63947, c63948, o63949, x63950, A63953, c63954, o63955, x63956, A63958, c63959, o63960, x63961, A63963, c63964, o63965, x63966, (IntKind.i64.wrap (x63968 + 1)), _, ar (ar (ar (ar (ar (ar (ar (ar (ar (ar trivial))))))))), hO, hL, r63937, r63938, w63945.len, w63945, w63952.len, w63952, w63957, w63962, w63967, hF⟩
                · refine wpn_cF (congrArg Value.bool hb64023) ?_
                  refine wpn_ex ?_
                  refine thn_x ?_
                  refine inb_x ?_
                  refine thn_i ?_
                  refine wpn_q hO 5 [4] [(0, .slice A0 p0.length c0), (1, .slice A1 p1.length c1), (7, .slice A63940 x63943.length c63941), (8, .slice A63947 x63950.length c63948), (10, .slice A63953 x63956.length c63954), (11, .slice A63958 x63961.length c63959), (12, .int .i64 x54456), (13, .pointer (some ⟨b63814, 0, none⟩)), (145, .slice A63947 x63950.length c63948), (149, .int .i64 (IntKind.i64.wrap (y63815 - (IntKind.i64.wrap (10 + (IntKind.i64.wrap (Int.tmod (y63809.toNat : Int) 10)))))))] (And.intro (And.intro rfl rfl) (ar (ar (ar (ar (ar (ar (ar (ar (ar (ar trivial))))))))))) fun j => ?_
                  obtain ⟨y64061, g64062, hF⟩ := bind_some hF
                  refine wpn_ido (T := (Ty.int .i64)) hO w63952 (i := 1) rfl rfl rfl g64062 (by decide) fun a64063 _ k64064 m64065 i64066 => ?_
                  have k64067 := k64064
                  obtain rfl : _ = ([.int .i64 y64061] : List Value) := k64067
                  refine wpn_sto (T := (Ty.int .i64)) (off := 0) (vs := [.int .i64 (IntKind.i64.wrap (y63815 - (IntKind.i64.wrap (10 + (IntKind.i64.wrap (Int.tmod (y63809.toNat : Int) 10))))))]) hO w63952 (i := 1) rfl (by rw [add_zero]; rfl) i64066 g64062 k64064 m64065 rfl rfl rfl rfl (by decide) (show _ = _ from rfl) fun σ o64068 w64069 hO => ?_
                  have hO : Obs _ _ [_, _, _, _, _, _] := hO
                  refine wpn_nil ?_
                  refine wpn_rlast ?_
                  refine wpn_q hO 2 [4] [(0, .slice A0 p0.length c0), (1, .slice A1 p1.length c1), (7, .slice A63940 x63943.length c63941), (8, .slice A63947 x63950.length c63948), (11, .slice A63958 x63961.length c63959), (12, .int .i64 x54456), (151, .slice A63953 x63956.length c63954), (152, .agg #[(.int .i64 (IntKind.i64.wrap (10 * x54456))), (.int .i64 (IntKind.i64.wrap ((IntKind.i64.wrap (10 * x54456)) + 10))), (.int .i64 (IntKind.i64.wrap (10 + (IntKind.i64.wrap (Int.tmod (y63809.toNat : Int) 10))))), (.slice A63963 x63966.length c63964)])] (And.intro (And.intro rfl rfl) (ar (ar (ar (ar (ar (ar (ar (ar trivial))))))))) fun j => ?_
                  obtain ⟨_, h64071, r64070, hO⟩ := w63967.share hO (i := 5) rfl
                  have hL := hL.trans h64071
                  have r63937 := r63937.le h64071
                  have r63938 := r63938.le h64071
                  have w63945 := w63945.le h64071
                  have w64069 := w64069.le h64071
                  have w63962 := w63962.le h64071
                  have w63957 := w63957.le h64071
                  have hO : Obs _ _ [_, _, _, _, _, _] := hO
                  obtain ⟨_, hr, hF⟩ := bind_some hF
                  refine wpn_ap1 (T := zd) (y := (⟨(IntKind.i64.wrap (10 * x54456)), (IntKind.i64.wrap ((IntKind.i64.wrap (10 * x54456)) + 10)), (IntKind.i64.wrap (10 + (IntKind.i64.wrap (Int.tmod (y63809.toNat : Int) 10)))), x63966⟩ : za)) hO w63957 (i := 2) rfl rfl (fun _ => rfl) rfl ⟨_, rfl, r64070⟩ rfl hr (by decide) fun u _ σ o64074 w64075 hO => ?_
                  obtain ⟨A64072, c64073, rfl, -⟩ := w64075.form
                  have hO : Obs _ _ [_, _, _, _, _, _] := hO
                  refine wpn_qa hO [] [(0, .slice A0 p0.length c0), (1, .slice A1 p1.length c1), (7, .slice A63940 x63943.length c63941), (8, .slice A63947 x63950.length c63948), (10, .slice A64072 (x63956 ++ [(⟨(IntKind.i64.wrap (10 * x54456)), (IntKind.i64.wrap ((IntKind.i64.wrap (10 * x54456)) + 10)), (IntKind.i64.wrap (10 + (IntKind.i64.wrap (Int.tmod (y63809.toNat : Int) 10)))), x63966⟩ : za)]).length c64073), (11, .slice A63958 x63961.length c63959), (12, .int .i64 x54456)] (ar (ar (ar (ar (ar (ar (ar trivial))))))) fun j => ?_
                  refine wpn_end ?_
                  refine inb_i ?_
                  refine thn_i ?_
                  refine wpn_rlast ?_
                  refine wpn_qa hO [] [(0, .slice A0 p0.length c0), (1, .slice A1 p1.length c1), (7, .slice A63940 x63943.length c63941), (8, .slice A63947 x63950.length c63948), (10, .slice A64072 (x63956 ++ [(⟨(IntKind.i64.wrap (10 * x54456)), (IntKind.i64.wrap ((IntKind.i64.wrap (10 * x54456)) + 10)), (IntKind.i64.wrap (10 + (IntKind.i64.wrap (Int.tmod (y63809.toNat : Int) 10)))), x63966⟩ : za)]).length c64073), (11, .slice A63958 x63961.length c63959), (12, .int .i64 (IntKind.i64.wrap (x54456 + 1)))] (ar (ar (ar (ar (ar (ar (ar trivial))))))) fun j => ?_
                  refine wpn_end ?_
                  refine thn_i ?_
                  have hO := hO.sel [0, 1, 2, 3] (by decide)
                  exact ⟨n63793, Nat.lt_succ_self _, A63940, c63941, o63942, x63943, x63950.length, A63947, c63948, o64068, (x63950.set (Int.toNat 15) (IntKind.i64.wrap (y63815 - (IntKind.i64.wrap (10 + (IntKind.i64.wrap (Int.tmod (y63809.toNat : Int) 10))))))), A64072, c64073, o64074, (x63956 ++ [(⟨(IntKind.i64.wrap (10 * x54456)), (IntKind.i64.wrap ((IntKind.i64.wrap (10 * x54456)) + 10)), (IntKind.i64.wrap (10 + (IntKind.i64.wrap (Int.tmod (y63809.toNat : Int) 10)))), x63966⟩ : za)]), A63958, c63959, o63960, x63961, (IntKind.i64.wrap (x54456 + 1)), _, ar (ar (ar (ar (ar (ar (ar trivial)))))), hO, hL, r63937, r63938, w63945, w64069.len, w64069, w64075, w63962, hF⟩
          · refine wpn_cF (congrArg Value.bool hb63794) ?_
            refine wpn_ex ?_
            refine thn_x ?_
            refine inb_x ?_
            refine thn_i ?_
            refine wpn_q hO 3 [] [(0, .slice A0 p0.length c0), (10, .slice A54446 x54449.length c54447), (11, .slice A54451 x54454.length c54452), (157, .agg #[(.slice none 0 0), (.slice A54440 x54443.length c54441), (.int .i64 0), (.slice A54434 x54437.length c54435)])] (ar (ar (ar (ar trivial)))) fun j => ?_
            refine wpn_al hO fun b64086 σ hO => ?_
            have hO : Obs _ _ [_, _, _, _, _] := hO
            refine wpn_st hO (i := 4) rfl (off := 0) rfl rfl rfl rfl (Nat.le_of_ble_eq_true rfl) rfl fun σ hO => ?_
            have hO : Obs _ _ [_, _, _, _, _] := hO
            refine wpn_nil ?_
            refine wpn_assoc ?_
            refine wpn_qa hO [] [(0, .slice A0 p0.length c0), (10, .slice A54446 x54449.length c54447), (11, .slice A54451 x54454.length c54452), (17, .pointer (some ⟨b64086, 0, none⟩)), (18, .int .i64 0)] (ar (ar (ar (ar (ar trivial))))) fun j => ?_
            refine wpn_bl ?_
            have hO := hO.no
            have hO : Obs _ _ [_, _, _, _, _, _] := hO
            have hO := hO.sel [2, 3, 4, 5, 1, 0] (by decide)
            refine wpn_lp (fun (n : Nat) e' σ' => ∃ (A66771 : Option Addr) (c66772 : Nat) (o66773 : Ob) (x66774 : List za) (A66776 : Option Addr) (c66777 : Nat) (o66778 : Ob) (x66779 : List (List Int)) (A66781 : Option Addr) (c66782 : Nat) (o66783 : Ob) (x66784 : List Bool) (A66786 : Option Addr) (c66787 : Nat) (o66788 : Ob) (x66789 : List Int) (A66791 : Option Addr) (c66792 : Nat) (o66793 : Ob) (x66794 : List Int) (x66796 : Int) (τ' : Hp), agr [(0, .slice A0 p0.length c0), (10, .slice A66771 x66774.length c66772), (11, .slice A66776 x66779.length c66777), (17, .pointer (some ⟨b64086, 0, none⟩)), (18, .int .i64 x66796)] e' ∧ Obs τ' σ' [o66773, o66778, some (b64086, ⟨[.slice A66781 x66784.length c66782, .slice A66786 x66789.length c66787, .int .i64 0, .slice A66791 x66794.length c66792], 28, 4, true⟩), o66783, o66788, o66793] ∧ Hp.le τ τ' ∧ RdT Ty.u8 τ' (.slice A0 p0.length c0) p0 ∧ OwnO zd 48 τ' (.slice A66771 x66774.length c66772) x66774 o66773 ∧ OwnO (Ty.slice (Ty.int .i64)) 26 τ' (.slice A66776 x66779.length c66777) x66779 o66778 ∧ OwnO Ty.bool 4 τ' (.slice A66781 x66784.length c66782) x66784 o66783 ∧ OwnO (Ty.int .i64) 2 τ' (.slice A66786 x66789.length c66787) x66789 o66788 ∧ OwnO (Ty.int .i64) 2 τ' (.slice A66791 x66794.length c66792) x66794 o66793 ∧ zbk p0 n x66774 x66779 x66784 x66789 x66794 x66796 = some rr) big ⟨A54446, c54447, o54448, x54449, A54451, c54452, o54453, x54454, none, 0, none, [], A54440, c54441, o54442, x54443, A54434, c54435, o54436, x54437, 0, _, ar (ar (ar (ar (ar trivial)))), hO, hL, r54432, w54450, w54455, OwnO.nil _ _ _, w54445, w54438, hF⟩ ?_
            clear hF hO hL
            rintro n69963 e σ ⟨A66771, c66772, o66773, x66774, A66776, c66777, o66778, x66779, A66781, c66782, o66783, x66784, A66786, c66787, o66788, x66789, A66791, c66792, o66793, x66794, x66796, _, hA, hO, hL, r66770, w66775, w66780, w66785, w66790, w66795, hF⟩
            rw [← sets_agr _ _ hA]
            cases n69963 with
            | zero => exact nomatch (show none = some rr from hF)
            | succ n69963 =>
              replace hF : zbg (zbk p0 n69963) p0 x66774 x66779 x66784 x66789 x66794 x66796 = some rr := hF
              unfold zbg at hF
              refine wpn_assoc ?_
              refine wpn_qa hO [] [(0, .slice A0 p0.length c0), (10, .slice A66771 x66774.length c66772), (11, .slice A66776 x66779.length c66777), (17, .pointer (some ⟨b64086, 0, none⟩)), (18, .int .i64 x66796), (159, .bool (decide (x66796 < 16)))] (ar (ar (ar (ar (ar (ar trivial)))))) fun j => ?_
              rcases ite_some hF with ⟨hb69964, hF⟩ | ⟨hb69964, hF⟩
              · refine wpn_cT (congrArg Value.bool hb69964) ?_
                refine wpn_sk ?_
                refine wpn_bl ?_
                refine wpn_rlast ?_
                refine wpn_q hO 2 [2] [(0, .slice A0 p0.length c0), (10, .slice A66771 x66774.length c66772), (11, .slice A66776 x66779.length c66777), (17, .pointer (some ⟨b64086, 0, none⟩)), (18, .int .i64 x66796), (163, .slice A66781 x66784.length c66782)] (And.intro (And.intro rfl rfl) (ar (ar (ar (ar (ar (ar trivial))))))) fun j => ?_
                obtain ⟨_, hr, hF⟩ := bind_some hF
                refine wpn_ap1 (T := Ty.bool) (y := true) hO w66785 (i := 3) rfl rfl (fun _ => rfl) rfl rfl rfl hr (by decide) fun u _ σ o69967 w69968 hO => ?_
                obtain ⟨A69965, c69966, rfl, -⟩ := w69968.form
                have hO : Obs _ _ [_, _, _, _, _, _] := hO
                refine wpn_q hO 1 [] [(0, .slice A0 p0.length c0), (10, .slice A66771 x66774.length c66772), (11, .slice A66776 x66779.length c66777), (17, .pointer (some ⟨b64086, 0, none⟩)), (18, .int .i64 x66796), (165, .slice A69965 (x66784 ++ [true]).length c69966), (166, .pointer (some ⟨b64086, 0, none⟩))] (ar (ar (ar (ar (ar (ar (ar trivial))))))) fun j => ?_
                refine wpn_st hO (i := 2) rfl (off := 0) rfl rfl rfl rfl (Nat.le_of_ble_eq_true rfl) rfl fun σ hO => ?_
                have hO : Obs _ _ [_, _, _, _, _, _] := hO
                refine wpn_nil ?_
                refine wpn_end ?_
                refine inb_i ?_
                refine thn_i ?_
                refine wpn_rlast ?_
                refine wpn_qa hO [] [(0, .slice A0 p0.length c0), (10, .slice A66771 x66774.length c66772), (11, .slice A66776 x66779.length c66777), (17, .pointer (some ⟨b64086, 0, none⟩)), (18, .int .i64 (IntKind.i64.wrap (x66796 + 1)))] (ar (ar (ar (ar (ar trivial))))) fun j => ?_
                refine wpn_end ?_
                refine thn_i ?_
                exact ⟨n69963, Nat.lt_succ_self _, A66771, c66772, o66773, x66774, A66776, c66777, o66778, x66779, A69965, c69966, o69967, (x66784 ++ [true]), A66786, c66787, o66788, x66789, A66791, c66792, o66793, x66794, (IntKind.i64.wrap (x66796 + 1)), _, ar (ar (ar (ar (ar trivial)))), hO, hL, r66770, w66775, w66780, w69968, w66790, w66795, hF⟩
              · refine wpn_cF (congrArg Value.bool hb69964) ?_
                refine wpn_ex ?_
                refine thn_x ?_
                refine inb_x ?_
                refine thn_i ?_
                refine wpn_assoc ?_
                refine wpn_qa hO [] [(10, .slice A66771 x66774.length c66772), (11, .slice A66776 x66779.length c66777), (17, .pointer (some ⟨b64086, 0, none⟩)), (19, .int .i64 (IntKind.i64.wrap ((p0.length : Int) - 1)))] (ar (ar (ar (ar trivial)))) fun j => ?_
                refine wpn_bl ?_
                obtain ⟨_, h70431, r70430, hO⟩ := w66775.share hO (i := 0) rfl
                have hL := hL.trans h70431
                have w66780 := w66780.le h70431
                have w66785 := w66785.le h70431
                have w66790 := w66790.le h70431
                have w66795 := w66795.le h70431
                have hO : Obs _ _ [_, _, _, _, _, _] := hO
                obtain ⟨_, h70894, r70893, hO⟩ := w66785.share hO (i := 3) rfl
                have hL := hL.trans h70894
                have r70430 := r70430.le h70894
                have w66780 := w66780.le h70894
                have w66790 := w66790.le h70894
                have w66795 := w66795.le h70894
                have hO : Obs _ _ [_, _, _, _, _, _] := hO
                obtain ⟨_, h71355, r71354, hO⟩ := w66790.share hO (i := 4) rfl
                have hL := hL.trans h71355
                have r70430 := r70430.le h71355
                have w66780 := w66780.le h71355
                have r70893 := r70893.le h71355
                have w66795 := w66795.le h71355
                have hO : Obs _ _ [_, _, _, _, _, _] := hO
                obtain ⟨_, h71815, r71814, hO⟩ := w66795.share hO (i := 5) rfl
                have hL := hL.trans h71815
                have r70430 := r70430.le h71815
                have w66780 := w66780.le h71815
                have r70893 := r70893.le h71815
                have r71354 := r71354.le h71815
                have hO : Obs _ _ [_, _, _, _, _, _] := hO
                have hO := hO.sel [1, 2] (by decide)
                refine wpn_lp (fun (n : Nat) e' σ' => ∃ (A72254 : Option Addr) (c72255 : Nat) (o72256 : Ob) (x72257 : List (List Int)) (A72259 : Option Addr) (c72260 : Nat) (x72261 : List Bool) (A72263 : Option Addr) (c72264 : Nat) (x72265 : List Int) (x72267 : Int) (A72268 : Option Addr) (c72269 : Nat) (x72270 : List Int) (x72272 : Int) (τ' : Hp), agr [(10, .slice A66771 x66774.length c66772), (11, .slice A72254 x72257.length c72255), (17, .pointer (some ⟨b64086, 0, none⟩)), (19, .int .i64 x72272)] e' ∧ Obs τ' σ' [o72256, some (b64086, ⟨[.slice A72259 x72261.length c72260, .slice A72263 x72265.length c72264, .int .i64 x72267, .slice A72268 x72270.length c72269], 28, 4, true⟩)] ∧ Hp.le τ τ' ∧ RdT zd τ' (.slice A66771 x66774.length c66772) x66774 ∧ OwnO (Ty.slice (Ty.int .i64)) 26 τ' (.slice A72254 x72257.length c72255) x72257 o72256 ∧ RdT Ty.bool τ' (.slice A72259 x72261.length c72260) x72261 ∧ RdT (Ty.int .i64) τ' (.slice A72263 x72265.length c72264) x72265 ∧ RdT (Ty.int .i64) τ' (.slice A72268 x72270.length c72269) x72270 ∧ zg x66774 n x72257 x72261 x72265 x72267 x72270 x72272 = some rr) big ⟨A66776, c66777, o66778, x66779, A66781, c66782, x66784, A66786, c66787, x66789, 0, A66791, c66792, x66794, (IntKind.i64.wrap ((p0.length : Int) - 1)), _, ar (ar (ar (ar trivial))), hO, hL, r70430, w66780, r70893, r71354, r71814, hF⟩ ?_
                clear hF hO hL
                rintro n72701 e σ ⟨A72254, c72255, o72256, x72257, A72259, c72260, x72261, A72263, c72264, x72265, x72267, A72268, c72269, x72270, x72272, _, hA, hO, hL, r72253, w72258, r72262, r72266, r72271, hF⟩
                rw [← sets_agr _ _ hA]
                cases n72701 with
                | zero => exact nomatch (show none = some rr from hF)
                | succ n72701 =>
                  replace hF : zM (zg x66774 n72701) x66774 x72257 x72261 x72265 x72267 x72270 x72272 = some rr := hF
                  unfold zM at hF
                  refine wpn_assoc ?_
                  refine wpn_qa hO [] [(10, .slice A66771 x66774.length c66772), (11, .slice A72254 x72257.length c72255), (17, .pointer (some ⟨b64086, 0, none⟩)), (19, .int .i64 x72272), (171, .bool (decide (x72272 ≥ 0)))] (ar (ar (ar (ar (ar trivial))))) fun j => ?_
                  rcases ite_some hF with ⟨hb72702, hF⟩ | ⟨hb72702, hF⟩
                  · refine wpn_cT (congrArg Value.bool hb72702) ?_
                    refine wpn_sk ?_
                    refine wpn_bl ?_
                    refine wpn_qa hO [] [(10, .slice A66771 x66774.length c66772), (11, .slice A72254 x72257.length c72255), (17, .pointer (some ⟨b64086, 0, none⟩)), (19, .int .i64 x72272), (20, .int .i64 (IntKind.i64.wrap ((IntKind.i64.wrap (10 * x72272)) + 5)))] (ar (ar (ar (ar (ar trivial))))) fun j => ?_
                    refine wpn_q hO 3 [1] [(10, .slice A66771 x66774.length c66772), (11, .slice A72254 x72257.length c72255), (17, .pointer (some ⟨b64086, 0, none⟩)), (19, .int .i64 x72272), (20, .int .i64 (IntKind.i64.wrap ((IntKind.i64.wrap (10 * x72272)) + 5))), (178, .slice A66771 x66774.length c66772), (179, .int .i64 (IntKind.i64.wrap ((IntKind.i64.wrap (10 * x72272)) + 5))), (180, .agg #[(.slice A72259 x72261.length c72260), (.slice A72263 x72265.length c72264), (.int .i64 x72267), (.slice A72268 x72270.length c72269)])] (And.intro (And.intro rfl rfl) (ar (ar (ar (ar (ar (ar (ar (ar trivial))))))))) fun j => ?_
                    obtain ⟨c72703, h72704, hF⟩ := bind_some hF
                    refine wpn_c0 hO (zbL r72253 r72262 r72266 r72271 h72704) rfl fun _ σ _ _ hO h72705 h72706 => ?_
                    have hL := hL.trans h72705
                    have r72253 := r72253.le h72705
                    have w72258 := w72258.le h72705
                    have r72262 := r72262.le h72705
                    have r72266 := r72266.le h72705
                    have r72271 := r72271.le h72705
                    obtain ⟨v72707, v72711, v72715, rfl, rfl, r72708, r72712, r72716⟩ := h72706
                    obtain ⟨A72709, c72710, rfl, -⟩ := r72708.form
                    obtain ⟨A72713, c72714, rfl, -⟩ := r72712.form
                    obtain ⟨A72717, c72718, rfl, -⟩ := r72716.form
                    have hO : Obs _ _ [_, _] := hO
                    refine wpn_q hO 3 [] [(10, .slice A66771 x66774.length c66772), (11, .slice A72254 x72257.length c72255), (17, .pointer (some ⟨b64086, 0, none⟩)), (19, .int .i64 x72272), (20, .int .i64 (IntKind.i64.wrap ((IntKind.i64.wrap (10 * x72272)) + 5))), (182, .agg #[(.slice A72709 c72703.1.Known.length c72710), (.slice A72713 c72703.1.Regs.length c72714), (.int .i64 c72703.1.Base), (.slice A72717 c72703.1.Words.length c72718)]), (183, .int .i64 c72703.2)] (ar (ar (ar (ar (ar (ar (ar trivial))))))) fun j => ?_
                    refine wpn_al hO fun b72719 σ hO => ?_
                    have hO : Obs _ _ [_, _, _] := hO
                    refine wpn_st hO (i := 2) rfl (off := 0) rfl rfl rfl rfl (Nat.le_of_ble_eq_true rfl) rfl fun σ hO => ?_
                    have hO : Obs _ _ [_, _, _] := hO
                    refine wpn_qa hO [] [(10, .slice A66771 x66774.length c66772), (11, .slice A72254 x72257.length c72255), (17, .pointer (some ⟨b64086, 0, none⟩)), (19, .int .i64 x72272), (20, .int .i64 (IntKind.i64.wrap ((IntKind.i64.wrap (10 * x72272)) + 5))), (21, .pointer (some ⟨b72719, 0, none⟩)), (22, .int .i64 c72703.2)] (ar (ar (ar (ar (ar (ar (ar trivial))))))) fun j => ?_
                    refine wpn_q hO 3 [1] [(10, .slice A66771 x66774.length c66772), (11, .slice A72254 x72257.length c72255), (17, .pointer (some ⟨b64086, 0, none⟩)), (19, .int .i64 x72272), (21, .pointer (some ⟨b72719, 0, none⟩)), (22, .int .i64 c72703.2), (185, .slice A66771 x66774.length c66772), (186, .int .i64 (IntKind.i64.wrap ((IntKind.i64.wrap (10 * x72272)) + 5))), (187, .agg #[(.slice A72259 x72261.length c72260), (.slice A72263 x72265.length c72264), (.int .i64 x72267), (.slice A72268 x72270.length c72269)])] (And.intro (And.intro rfl rfl) (ar (ar (ar (ar (ar (ar (ar (ar (ar trivial)))))))))) fun j => ?_
                    obtain ⟨c72720, h72721, hF⟩ := bind_some hF
                    refine wpn_c0 hO (zbF r72253 r72262 r72266 r72271 h72721) rfl fun _ σ _ _ hO h72722 h72723 => ?_
                    have hL := hL.trans h72722
                    have r72253 := r72253.le h72722
                    have w72258 := w72258.le h72722
                    have r72262 := r72262.le h72722
                    have r72266 := r72266.le h72722
                    have r72271 := r72271.le h72722
                    have r72708 := r72708.le h72722
                    have r72712 := r72712.le h72722
                    have r72716 := r72716.le h72722
                    obtain ⟨v72724, v72728, v72732, rfl, rfl, r72725, r72729, r72733⟩ := h72723
                    obtain ⟨A72726, c72727, rfl, -⟩ := r72725.form
                    obtain ⟨A72730, c72731, rfl, -⟩ := r72729.form
                    obtain ⟨A72734, c72735, rfl, -⟩ := r72733.form
                    have hO : Obs _ _ [_, _, _] := hO
                    refine wpn_q hO 4 [] [(10, .slice A66771 x66774.length c66772), (11, .slice A72254 x72257.length c72255), (17, .pointer (some ⟨b64086, 0, none⟩)), (19, .int .i64 x72272), (21, .pointer (some ⟨b72719, 0, none⟩)), (22, .int .i64 c72703.2), (189, .int .i64 c72720.1), (190, .agg #[(.slice A72726 c72720.2.1.Known.length c72727), (.slice A72730 c72720.2.1.Regs.length c72731), (.int .i64 c72720.2.1.Base), (.slice A72734 c72720.2.1.Words.length c72735)]), (191, .int .i64 c72720.2.2)] (ar (ar (ar (ar (ar (ar (ar (ar (ar trivial))))))))) fun j => ?_
                    refine wpn_al hO fun b72736 σ hO => ?_
                    have hO : Obs _ _ [_, _, _, _] := hO
                    refine wpn_q hO 1 [] [(10, .slice A66771 x66774.length c66772), (11, .slice A72254 x72257.length c72255), (17, .pointer (some ⟨b64086, 0, none⟩)), (19, .int .i64 x72272), (21, .pointer (some ⟨b72719, 0, none⟩)), (22, .int .i64 c72703.2), (23, .int .i64 c72720.1), (24, .pointer (some ⟨b72736, 0, none⟩)), (190, .agg #[(.slice A72726 c72720.2.1.Known.length c72727), (.slice A72730 c72720.2.1.Regs.length c72731), (.int .i64 c72720.2.1.Base), (.slice A72734 c72720.2.1.Words.length c72735)]), (191, .int .i64 c72720.2.2)] (ar (ar (ar (ar (ar (ar (ar (ar (ar (ar trivial)))))))))) fun j => ?_
                    refine wpn_st hO (i := 3) rfl (off := 0) rfl rfl rfl rfl (Nat.le_of_ble_eq_true rfl) rfl fun σ hO => ?_
                    have hO : Obs _ _ [_, _, _, _] := hO
                    refine wpn_qa hO [] [(10, .slice A66771 x66774.length c66772), (11, .slice A72254 x72257.length c72255), (17, .pointer (some ⟨b64086, 0, none⟩)), (19, .int .i64 x72272), (21, .pointer (some ⟨b72719, 0, none⟩)), (22, .int .i64 c72703.2), (23, .int .i64 c72720.1), (24, .pointer (some ⟨b72736, 0, none⟩)), (25, .int .i64 c72720.2.2)] (ar (ar (ar (ar (ar (ar (ar (ar (ar trivial))))))))) fun j => ?_
                    refine wpn_assoc ?_
                    refine wpn_p2r ?_
                    refine wpn_q hO 6 [] [(10, .slice A66771 x66774.length c66772), (11, .slice A72254 x72257.length c72255), (17, .pointer (some ⟨b64086, 0, none⟩)), (19, .int .i64 x72272), (21, .pointer (some ⟨b72719, 0, none⟩)), (23, .int .i64 c72720.1), (24, .pointer (some ⟨b72736, 0, none⟩)), (198, .bool ((c72703.2 != 0) || (c72720.2.2 != 0)))] (And.intro (And.intro rfl rfl) (fun _ => ar (ar (ar (ar (ar (ar (ar (ar trivial))))))))) fun j => ?_
                    obtain ⟨c72737, h72738, hF⟩ := bind_some hF
                    refine wpn_midq 2 [(208, .bool c72737), (10, .slice A66771 x66774.length c66772), (11, .slice A72254 x72257.length c72255), (17, .pointer (some ⟨b64086, 0, none⟩)), (19, .int .i64 x72272), (23, .int .i64 c72720.1), (24, .pointer (some ⟨b72736, 0, none⟩))] (fun Q hQ => ?_) fun j => ?_
                    · have hF := h72738
                      rcases ite_some hF with ⟨hb72739, hF⟩ | ⟨hb72739, hF⟩
                      · refine wpn_gF (congrArg (fun x => isB (.bool x) false) hb72739) ?_
                        refine wpn_pk (congrArg Value.bool hb72739) ?_
                        refine wpn_nil ?_
                        injection hF with hF
                        subst hF
                        refine wpn_end ?_
                        exact hQ _ (ar (ar (ar (ar (ar (ar (ar trivial)))))))
                      · refine wpn_gT (congrArg (fun x => isB (.bool x) false) hb72739) ?_
                        refine wpn_q hO 4 [2] [(10, .slice A66771 x66774.length c66772), (11, .slice A72254 x72257.length c72255), (17, .pointer (some ⟨b64086, 0, none⟩)), (19, .int .i64 x72272), (23, .int .i64 c72720.1), (24, .pointer (some ⟨b72736, 0, none⟩)), (198, .bool ((c72703.2 != 0) || (c72720.2.2 != 0))), (200, .int .i64 c72703.1.Base), (201, .slice A72254 x72257.length c72255), (202, .int .i64 x72272)] (And.intro (And.intro rfl rfl) (ar (ar (ar (ar (ar (ar (ar (ar (ar (ar trivial))))))))))) fun j => ?_
                        obtain ⟨y72740, g72741, hF⟩ := bind_some hF
                        refine wpn_ido (T := (Ty.slice (Ty.int .i64))) hO w72258 (i := 0) rfl rfl rfl g72741 (by decide) fun a72742 _ k72743 m72744 i72745 => ?_
                        have k72746 := k72743
                        obtain ⟨v72747, rfl, r72748⟩ := k72746
                        obtain ⟨A72749, c72750, rfl, -⟩ := r72748.form
                        refine wpn_ld rfl m72744.fst ?_
                        obtain ⟨y72751, g72752, hF⟩ := bind_some hF
                        refine wpn_idx (T := (Ty.int .i64)) r72748 hO.base rfl rfl g72752 (by decide) fun a72753 _ k72754 m72755 => ?_
                        obtain rfl : _ = ([.int .i64 y72751] : List Value) := k72754
                        refine wpn_ld rfl (m72755.le hO.base).fst ?_
                        refine wpn_q hO 1 [] [(10, .slice A66771 x66774.length c66772), (11, .slice A72254 x72257.length c72255), (17, .pointer (some ⟨b64086, 0, none⟩)), (19, .int .i64 x72272), (23, .int .i64 c72720.1), (24, .pointer (some ⟨b72736, 0, none⟩)), (198, .bool ((c72703.2 != 0) || (c72720.2.2 != 0))), (207, .bool (c72703.1.Base != y72751))] (ar (ar (ar (ar (ar (ar (ar (ar trivial)))))))) fun j => ?_
                        refine wpn_pk (congrArg Value.bool hb72739) ?_
                        refine wpn_nil ?_
                        injection hF with hF
                        subst hF
                        refine wpn_end ?_
                        exact hQ _ (ar (ar (ar (ar (ar (ar (ar trivial)))))))
                    · refine wpn_q hO 7 [3, 3] [(10, .slice A66771 x66774.length c66772), (11, .slice A72254 x72257.length c72255), (17, .pointer (some ⟨b64086, 0, none⟩)), (19, .int .i64 x72272), (23, .int .i64 c72720.1), (24, .pointer (some ⟨b72736, 0, none⟩)), (221, .bool ((c72737 || ((c72720.2.1.Regs.length : Int) != 16)) || ((c72720.2.1.Known.length : Int) != 16)))] (And.intro (And.intro rfl rfl) (And.intro (And.intro rfl rfl) (fun _ => And.intro (And.intro rfl rfl) (And.intro (And.intro rfl rfl) (fun _ => ar (ar (ar (ar (ar (ar (ar trivial))))))))))) fun j => ?_
                      obtain ⟨c72756, h72757, hF⟩ := bind_some hF
                      refine wpn_midq 2 [(233, .bool c72756), (10, .slice A66771 x66774.length c66772), (11, .slice A72254 x72257.length c72255), (17, .pointer (some ⟨b64086, 0, none⟩)), (19, .int .i64 x72272), (23, .int .i64 c72720.1), (24, .pointer (some ⟨b72736, 0, none⟩))] (fun Q hQ => ?_) fun j => ?_
                      · have hF := h72757
                        rcases ite_some hF with ⟨hb72758, hF⟩ | ⟨hb72758, hF⟩
                        · refine wpn_gF (congrArg (fun x => isB (.bool x) false) hb72758) ?_
                          refine wpn_pk (congrArg Value.bool hb72758) ?_
                          refine wpn_nil ?_
                          injection hF with hF
                          subst hF
                          refine wpn_end ?_
                          exact hQ _ (ar (ar (ar (ar (ar (ar (ar trivial)))))))
                        · refine wpn_gT (congrArg (fun x => isB (.bool x) false) hb72758) ?_
                          refine wpn_q hO 2 [3] [(10, .slice A66771 x66774.length c66772), (11, .slice A72254 x72257.length c72255), (17, .pointer (some ⟨b64086, 0, none⟩)), (19, .int .i64 x72272), (23, .int .i64 c72720.1), (24, .pointer (some ⟨b72736, 0, none⟩)), (221, .bool ((c72737 || ((c72720.2.1.Regs.length : Int) != 16)) || ((c72720.2.1.Known.length : Int) != 16))), (223, .slice A72730 c72720.2.1.Regs.length c72731)] (And.intro (And.intro rfl rfl) (ar (ar (ar (ar (ar (ar (ar (ar trivial))))))))) fun j => ?_
                          obtain ⟨y72759, g72760, hF⟩ := bind_some hF
                          refine wpn_idx (T := (Ty.int .i64)) r72729 hO.base rfl rfl g72760 (by decide) fun a72761 _ k72762 m72763 => ?_
                          obtain rfl : _ = ([.int .i64 y72759] : List Value) := k72762
                          refine wpn_ld rfl (m72763.le hO.base).fst ?_
                          refine wpn_q hO 2 [] [(10, .slice A66771 x66774.length c66772), (11, .slice A72254 x72257.length c72255), (17, .pointer (some ⟨b64086, 0, none⟩)), (19, .int .i64 x72272), (23, .int .i64 c72720.1), (24, .pointer (some ⟨b72736, 0, none⟩)), (221, .bool ((c72737 || ((c72720.2.1.Regs.length : Int) != 16)) || ((c72720.2.1.Known.length : Int) != 16))), (225, .int .i64 y72759), (226, .slice A72254 x72257.length c72255), (227, .int .i64 x72272)] (ar (ar (ar (ar (ar (ar (ar (ar (ar (ar trivial)))))))))) fun j => ?_
                          obtain ⟨y72764, g72765, hF⟩ := bind_some hF
                          refine wpn_ido (T := (Ty.slice (Ty.int .i64))) hO w72258 (i := 0) rfl rfl rfl g72765 (by decide) fun a72766 _ k72767 m72768 i72769 => ?_
                          have k72770 := k72767
                          obtain ⟨v72771, rfl, r72772⟩ := k72770
                          obtain ⟨A72773, c72774, rfl, -⟩ := r72772.form
                          refine wpn_ld rfl m72768.fst ?_
                          obtain ⟨y72775, g72776, hF⟩ := bind_some hF
                          refine wpn_idx (T := (Ty.int .i64)) r72772 hO.base rfl rfl g72776 (by decide) fun a72777 _ k72778 m72779 => ?_
                          obtain rfl : _ = ([.int .i64 y72775] : List Value) := k72778
                          refine wpn_ld rfl (m72779.le hO.base).fst ?_
                          refine wpn_q hO 1 [] [(10, .slice A66771 x66774.length c66772), (11, .slice A72254 x72257.length c72255), (17, .pointer (some ⟨b64086, 0, none⟩)), (19, .int .i64 x72272), (23, .int .i64 c72720.1), (24, .pointer (some ⟨b72736, 0, none⟩)), (221, .bool ((c72737 || ((c72720.2.1.Regs.length : Int) != 16)) || ((c72720.2.1.Known.length : Int) != 16))), (232, .bool (y72759 != y72775))] (ar (ar (ar (ar (ar (ar (ar (ar trivial)))))))) fun j => ?_
                          refine wpn_pk (congrArg Value.bool hb72758) ?_
                          refine wpn_nil ?_
                          injection hF with hF
                          subst hF
                          refine wpn_end ?_
                          exact hQ _ (ar (ar (ar (ar (ar (ar (ar trivial)))))))
                      · refine wpn_q hO 1 [] [(10, .slice A66771 x66774.length c66772), (11, .slice A72254 x72257.length c72255), (17, .pointer (some ⟨b64086, 0, none⟩)), (19, .int .i64 x72272), (23, .int .i64 c72720.1), (24, .pointer (some ⟨b72736, 0, none⟩)), (234, .bool c72756)] (ar (ar (ar (ar (ar (ar (ar trivial))))))) fun j => ?_
                        obtain ⟨c72780, h72781, hF⟩ := bind_some hF
                        refine wpn_midq 2 [(240, .bool c72780), (10, .slice A66771 x66774.length c66772), (11, .slice A72254 x72257.length c72255), (17, .pointer (some ⟨b64086, 0, none⟩)), (19, .int .i64 x72272), (23, .int .i64 c72720.1), (24, .pointer (some ⟨b72736, 0, none⟩))] (fun Q hQ => ?_) fun j => ?_
                        · have hF := h72781
                          rcases ite_some hF with ⟨hb72782, hF⟩ | ⟨hb72782, hF⟩
                          · refine wpn_gF (congrArg (fun x => isB (.bool x) false) hb72782) ?_
                            refine wpn_pk (congrArg Value.bool hb72782) ?_
                            refine wpn_nil ?_
                            injection hF with hF
                            subst hF
                            refine wpn_end ?_
                            exact hQ _ (ar (ar (ar (ar (ar (ar (ar trivial)))))))
                          · refine wpn_gT (congrArg (fun x => isB (.bool x) false) hb72782) ?_
                            refine wpn_q hO 2 [3] [(10, .slice A66771 x66774.length c66772), (11, .slice A72254 x72257.length c72255), (17, .pointer (some ⟨b64086, 0, none⟩)), (19, .int .i64 x72272), (23, .int .i64 c72720.1), (24, .pointer (some ⟨b72736, 0, none⟩)), (234, .bool c72756), (236, .slice A72726 c72720.2.1.Known.length c72727)] (And.intro (And.intro rfl rfl) (ar (ar (ar (ar (ar (ar (ar (ar trivial))))))))) fun j => ?_
                            obtain ⟨y72783, g72784, hF⟩ := bind_some hF
                            refine wpn_idx (T := Ty.bool) r72725 hO.base rfl rfl g72784 (by decide) fun a72785 _ k72786 m72787 => ?_
                            obtain rfl : _ = ([.bool y72783] : List Value) := k72786
                            refine wpn_ld rfl (m72787.le hO.base).fst ?_
                            refine wpn_q hO 1 [] [(10, .slice A66771 x66774.length c66772), (11, .slice A72254 x72257.length c72255), (17, .pointer (some ⟨b64086, 0, none⟩)), (19, .int .i64 x72272), (23, .int .i64 c72720.1), (24, .pointer (some ⟨b72736, 0, none⟩)), (234, .bool c72756), (239, .bool (!y72783))] (ar (ar (ar (ar (ar (ar (ar (ar trivial)))))))) fun j => ?_
                            refine wpn_pk (congrArg Value.bool hb72782) ?_
                            refine wpn_nil ?_
                            injection hF with hF
                            subst hF
                            refine wpn_end ?_
                            exact hQ _ (ar (ar (ar (ar (ar (ar (ar trivial)))))))
                        · refine wpn_nil ?_
                          rcases ite_some hF with ⟨hb72788, hF⟩ | ⟨hb72788, hF⟩
                          · refine wpn_cT (congrArg Value.bool hb72788) ?_
                            refine wpn_assoc ?_
                            refine wpn_qa hO [] [(6, .bool false)] (ar trivial) fun j => ?_
                            refine wpn_rt ?_
                            refine inb_r1 ?_
                            refine thn_r1 ?_
                            refine thn_r1 ?_
                            refine inb_r1 ?_
                            refine thn_r1 ?_
                            injection hF with hF
                            subst hF
                            have hO := hO.sel [] (by decide)
                            exact hQ _ _ _ _ _ rfl hO hL ⟨rfl, rfl⟩
                          · refine wpn_cF (congrArg Value.bool hb72788) ?_
                            refine wpn_sk ?_
                            refine wpn_assoc ?_
                            refine wpn_q hO 6 [] [(10, .slice A66771 x66774.length c66772), (11, .slice A72254 x72257.length c72255), (17, .pointer (some ⟨b64086, 0, none⟩)), (19, .int .i64 x72272), (23, .int .i64 c72720.1), (24, .pointer (some ⟨b72736, 0, none⟩)), (251, .bool ((decide (x72272 > 0)) && (c72720.1 != (IntKind.i64.wrap ((IntKind.i64.wrap (10 * (IntKind.i64.wrap (x72272 - 1)))) + 5)))))] (And.intro (And.intro rfl rfl) (fun _ => ar (ar (ar (ar (ar (ar (ar trivial)))))))) fun j => ?_
                            obtain ⟨c72789, h72790, hF⟩ := bind_some hF
                            refine wpn_midq 4 [(258, .bool c72789), (10, .slice A66771 x66774.length c66772), (11, .slice A72254 x72257.length c72255), (17, .pointer (some ⟨b64086, 0, none⟩)), (19, .int .i64 x72272), (24, .pointer (some ⟨b72736, 0, none⟩))] (fun Q hQ => ?_) fun j => ?_
                            · have hF := h72790
                              rcases ite_some hF with ⟨hb72791, hF⟩ | ⟨hb72791, hF⟩
                              · refine wpn_gF (congrArg (fun x => isB (.bool x) false) hb72791) ?_
                                refine wpn_gF rfl ?_
                                refine wpn_gF (congrArg (fun x => isB (.bool x) false) hb72791) ?_
                                refine wpn_pk (congrArg Value.bool hb72791) ?_
                                refine wpn_nil ?_
                                injection hF with hF
                                subst hF
                                refine wpn_end ?_
                                exact hQ _ (ar (ar (ar (ar (ar (ar trivial))))))
                              · refine wpn_gT (congrArg (fun x => isB (.bool x) false) hb72791) ?_
                                refine wpn_q hO 3 [] [(10, .slice A66771 x66774.length c66772), (11, .slice A72254 x72257.length c72255), (17, .pointer (some ⟨b64086, 0, none⟩)), (19, .int .i64 x72272), (23, .int .i64 c72720.1), (24, .pointer (some ⟨b72736, 0, none⟩)), (251, .bool ((decide (x72272 > 0)) && (c72720.1 != (IntKind.i64.wrap ((IntKind.i64.wrap (10 * (IntKind.i64.wrap (x72272 - 1)))) + 5))))), (254, .bool (x72272 == 0))] (ar (ar (ar (ar (ar (ar (ar (ar trivial)))))))) fun j => ?_
                                rcases ite_some hF with ⟨hb72792, hF⟩ | ⟨hb72792, hF⟩
                                · refine wpn_gT (congrArg (fun x => isB (.bool x) true) hb72792) ?_
                                  refine wpn_q hO 2 [] [(10, .slice A66771 x66774.length c66772), (11, .slice A72254 x72257.length c72255), (17, .pointer (some ⟨b64086, 0, none⟩)), (19, .int .i64 x72272), (24, .pointer (some ⟨b72736, 0, none⟩)), (251, .bool ((decide (x72272 > 0)) && (c72720.1 != (IntKind.i64.wrap ((IntKind.i64.wrap (10 * (IntKind.i64.wrap (x72272 - 1)))) + 5))))), (254, .bool (x72272 == 0)), (256, .bool (c72720.1 != 9999))] (ar (ar (ar (ar (ar (ar (ar (ar trivial)))))))) fun j => ?_
                                  refine wpn_gT (congrArg (fun x => isB (.bool x) false) hb72791) ?_
                                  refine wpn_pk (congrArg Value.bool hb72792) ?_
                                  refine wpn_pk (congrArg Value.bool hb72791) ?_
                                  refine wpn_nil ?_
                                  injection hF with hF
                                  subst hF
                                  refine wpn_end ?_
                                  exact hQ _ (ar (ar (ar (ar (ar (ar trivial))))))
                                · refine wpn_gF (congrArg (fun x => isB (.bool x) true) hb72792) ?_
                                  refine wpn_gT (congrArg (fun x => isB (.bool x) false) hb72791) ?_
                                  refine wpn_pk (congrArg Value.bool hb72792) ?_
                                  refine wpn_pk (congrArg Value.bool hb72791) ?_
                                  refine wpn_nil ?_
                                  injection hF with hF
                                  subst hF
                                  refine wpn_end ?_
                                  exact hQ _ (ar (ar (ar (ar (ar (ar trivial))))))
                            · refine wpn_nil ?_
                              rcases ite_some hF with ⟨hb72793, hF⟩ | ⟨hb72793, hF⟩
                              · refine wpn_cT (congrArg Value.bool hb72793) ?_
                                refine wpn_assoc ?_
                                refine wpn_qa hO [] [(6, .bool false)] (ar trivial) fun j => ?_
                                refine wpn_rt ?_
                                refine inb_r1 ?_
                                refine thn_r1 ?_
                                refine thn_r1 ?_
                                refine inb_r1 ?_
                                refine thn_r1 ?_
                                injection hF with hF
                                subst hF
                                have hO := hO.sel [] (by decide)
                                exact hQ _ _ _ _ _ rfl hO hL ⟨rfl, rfl⟩
                              · refine wpn_cF (congrArg Value.bool hb72793) ?_
                                refine wpn_sk ?_
                                refine wpn_assoc ?_
                                refine wpn_qa hO [] [(10, .slice A66771 x66774.length c66772), (11, .slice A72254 x72257.length c72255), (17, .pointer (some ⟨b64086, 0, none⟩)), (19, .int .i64 x72272), (24, .pointer (some ⟨b72736, 0, none⟩)), (26, .int .i64 6)] (ar (ar (ar (ar (ar (ar trivial)))))) fun j => ?_
                                refine wpn_bl ?_
                                have hO := hO.sel [0, 1, 3] (by decide)
                                refine wpn_lp (fun (n : Nat) e' σ' => ∃ (A72909 : Option Addr) (c72910 : Nat) (o72911 : Ob) (x72912 : List (List Int)) (x72920 : Int) (τ' : Hp), agr [(10, .slice A66771 x66774.length c66772), (11, .slice A72909 x72912.length c72910), (17, .pointer (some ⟨b64086, 0, none⟩)), (19, .int .i64 x72272), (24, .pointer (some ⟨b72736, 0, none⟩)), (26, .int .i64 x72920)] e' ∧ Obs τ' σ' [o72911, some (b64086, ⟨[.slice A72259 x72261.length c72260, .slice A72263 x72265.length c72264, .int .i64 x72267, .slice A72268 x72270.length c72269], 28, 4, true⟩), some (b72736, ⟨[.slice A72726 c72720.2.1.Known.length c72727, .slice A72730 c72720.2.1.Regs.length c72731, .int .i64 c72720.2.1.Base, .slice A72734 c72720.2.1.Words.length c72735], 28, 4, true⟩)] ∧ Hp.le τ τ' ∧ RdT zd τ' (.slice A66771 x66774.length c66772) x66774 ∧ OwnO (Ty.slice (Ty.int .i64)) 26 τ' (.slice A72909 x72912.length c72910) x72912 o72911 ∧ RdT Ty.bool τ' (.slice A72259 x72261.length c72260) x72261 ∧ RdT (Ty.int .i64) τ' (.slice A72263 x72265.length c72264) x72265 ∧ RdT (Ty.int .i64) τ' (.slice A72268 x72270.length c72269) x72270 ∧ RdT Ty.bool τ' (.slice A72726 c72720.2.1.Known.length c72727) c72720.2.1.Known ∧ RdT (Ty.int .i64) τ' (.slice A72730 c72720.2.1.Regs.length c72731) c72720.2.1.Regs ∧ RdT (Ty.int .i64) τ' (.slice A72734 c72720.2.1.Words.length c72735) c72720.2.1.Words ∧ zN (zg x66774 n72701) x72272 c72720 n x72912 x72920 = some rr) big ⟨A72254, c72255, o72256, x72257, 6, _, ar (ar (ar (ar (ar (ar trivial))))), hO, hL, r72253, w72258, r72262, r72266, r72271, r72725, r72729, r72733, hF⟩ ?_
                                clear hF hO hL
                                rintro n73023 e σ ⟨A72909, c72910, o72911, x72912, x72920, _, hA, hO, hL, r72908, w72913, r72914, r72915, r72916, r72917, r72918, r72919, hF⟩
                                rw [← sets_agr _ _ hA]
                                cases n73023 with
                                | zero => exact nomatch (show none = some rr from hF)
                                | succ n73023 =>
                                  replace hF : z6 (zN (zg x66774 n72701) x72272 c72720 n73023) (zg x66774 n72701) x72272 c72720 x72912 x72920 = some rr := hF
                                  unfold z6 at hF
                                  refine wpn_assoc ?_
                                  refine wpn_qa hO [] [(10, .slice A66771 x66774.length c66772), (11, .slice A72909 x72912.length c72910), (17, .pointer (some ⟨b64086, 0, none⟩)), (19, .int .i64 x72272), (24, .pointer (some ⟨b72736, 0, none⟩)), (26, .int .i64 x72920), (260, .bool (decide (x72920 ≤ 11)))] (ar (ar (ar (ar (ar (ar (ar trivial))))))) fun j => ?_
                                  rcases ite_some hF with ⟨hb73024, hF⟩ | ⟨hb73024, hF⟩
                                  · refine wpn_cT (congrArg Value.bool hb73024) ?_
                                    refine wpn_sk ?_
                                    refine wpn_bl ?_
                                    refine wpn_p2r ?_
                                    refine wpn_q hO 3 [2] [(10, .slice A66771 x66774.length c66772), (11, .slice A72909 x72912.length c72910), (17, .pointer (some ⟨b64086, 0, none⟩)), (19, .int .i64 x72272), (24, .pointer (some ⟨b72736, 0, none⟩)), (26, .int .i64 x72920), (264, .slice A72726 c72720.2.1.Known.length c72727), (265, .int .i64 x72920)] (And.intro (And.intro rfl rfl) (ar (ar (ar (ar (ar (ar (ar (ar trivial))))))))) fun j => ?_
                                    obtain ⟨y73025, g73026, hF⟩ := bind_some hF
                                    refine wpn_idx (T := Ty.bool) r72917 hO.base rfl rfl g73026 (by decide) fun a73027 _ k73028 m73029 => ?_
                                    obtain rfl : _ = ([.bool y73025] : List Value) := k73028
                                    refine wpn_ld rfl (m73029.le hO.base).fst ?_
                                    refine wpn_q hO 2 [] [(10, .slice A66771 x66774.length c66772), (11, .slice A72909 x72912.length c72910), (17, .pointer (some ⟨b64086, 0, none⟩)), (19, .int .i64 x72272), (24, .pointer (some ⟨b72736, 0, none⟩)), (26, .int .i64 x72920), (269, .bool (!y73025))] (ar (ar (ar (ar (ar (ar (ar trivial))))))) fun j => ?_
                                    obtain ⟨c73030, h73031, hF⟩ := bind_some hF
                                    refine wpn_midq 2 [(283, .bool c73030), (10, .slice A66771 x66774.length c66772), (11, .slice A72909 x72912.length c72910), (17, .pointer (some ⟨b64086, 0, none⟩)), (19, .int .i64 x72272), (24, .pointer (some ⟨b72736, 0, none⟩)), (26, .int .i64 x72920)] (fun Q hQ => ?_) fun j => ?_
                                    · have hF := h73031
                                      rcases ite_some hF with ⟨hb73032, hF⟩ | ⟨hb73032, hF⟩
                                      · refine wpn_gF (congrArg (fun x => isB (.bool x) false) hb73032) ?_
                                        refine wpn_pk (congrArg Value.bool hb73032) ?_
                                        refine wpn_nil ?_
                                        injection hF with hF
                                        subst hF
                                        refine wpn_end ?_
                                        exact hQ _ (ar (ar (ar (ar (ar (ar (ar trivial)))))))
                                      · refine wpn_gT (congrArg (fun x => isB (.bool x) false) hb73032) ?_
                                        refine wpn_q hO 3 [2] [(10, .slice A66771 x66774.length c66772), (11, .slice A72909 x72912.length c72910), (17, .pointer (some ⟨b64086, 0, none⟩)), (19, .int .i64 x72272), (24, .pointer (some ⟨b72736, 0, none⟩)), (26, .int .i64 x72920), (269, .bool (!y73025)), (271, .slice A72730 c72720.2.1.Regs.length c72731), (272, .int .i64 x72920)] (And.intro (And.intro rfl rfl) (ar (ar (ar (ar (ar (ar (ar (ar (ar trivial)))))))))) fun j => ?_
                                        obtain ⟨y73033, g73034, hF⟩ := bind_some hF
                                        refine wpn_idx (T := (Ty.int .i64)) r72918 hO.base rfl rfl g73034 (by decide) fun a73035 _ k73036 m73037 => ?_
                                        obtain rfl : _ = ([.int .i64 y73033] : List Value) := k73036
                                        refine wpn_ld rfl (m73037.le hO.base).fst ?_
                                        refine wpn_q hO 2 [] [(10, .slice A66771 x66774.length c66772), (11, .slice A72909 x72912.length c72910), (17, .pointer (some ⟨b64086, 0, none⟩)), (19, .int .i64 x72272), (24, .pointer (some ⟨b72736, 0, none⟩)), (26, .int .i64 x72920), (269, .bool (!y73025)), (274, .int .i64 y73033), (275, .slice A72909 x72912.length c72910), (276, .int .i64 x72272)] (ar (ar (ar (ar (ar (ar (ar (ar (ar (ar trivial)))))))))) fun j => ?_
                                        obtain ⟨y73038, g73039, hF⟩ := bind_some hF
                                        refine wpn_ido (T := (Ty.slice (Ty.int .i64))) hO w72913 (i := 0) rfl rfl rfl g73039 (by decide) fun a73040 _ k73041 m73042 i73043 => ?_
                                        have k73044 := k73041
                                        obtain ⟨v73045, rfl, r73046⟩ := k73044
                                        obtain ⟨A73047, c73048, rfl, -⟩ := r73046.form
                                        refine wpn_ld rfl m73042.fst ?_
                                        refine wpn_q hO 1 [] [(10, .slice A66771 x66774.length c66772), (11, .slice A72909 x72912.length c72910), (17, .pointer (some ⟨b64086, 0, none⟩)), (19, .int .i64 x72272), (24, .pointer (some ⟨b72736, 0, none⟩)), (26, .int .i64 x72920), (269, .bool (!y73025)), (274, .int .i64 y73033), (278, .slice A73047 y73038.length c73048), (279, .int .i64 x72920)] (ar (ar (ar (ar (ar (ar (ar (ar (ar (ar trivial)))))))))) fun j => ?_
                                        obtain ⟨y73049, g73050, hF⟩ := bind_some hF
                                        refine wpn_idx (T := (Ty.int .i64)) r73046 hO.base rfl rfl g73050 (by decide) fun a73051 _ k73052 m73053 => ?_
                                        obtain rfl : _ = ([.int .i64 y73049] : List Value) := k73052
                                        refine wpn_ld rfl (m73053.le hO.base).fst ?_
                                        refine wpn_q hO 1 [] [(10, .slice A66771 x66774.length c66772), (11, .slice A72909 x72912.length c72910), (17, .pointer (some ⟨b64086, 0, none⟩)), (19, .int .i64 x72272), (24, .pointer (some ⟨b72736, 0, none⟩)), (26, .int .i64 x72920), (269, .bool (!y73025)), (282, .bool (y73033 != y73049))] (ar (ar (ar (ar (ar (ar (ar (ar trivial)))))))) fun j => ?_
                                        refine wpn_pk (congrArg Value.bool hb73032) ?_
                                        refine wpn_nil ?_
                                        injection hF with hF
                                        subst hF
                                        refine wpn_end ?_
                                        exact hQ _ (ar (ar (ar (ar (ar (ar (ar trivial)))))))
                                    · refine wpn_nil ?_
                                      refine wpn_clast ?_
                                      rcases ite_some hF with ⟨hb73054, hF⟩ | ⟨hb73054, hF⟩
                                      · refine wpn_cT (congrArg Value.bool hb73054) ?_
                                        refine wpn_assoc ?_
                                        refine wpn_qa hO [] [(6, .bool false)] (ar trivial) fun j => ?_
                                        refine wpn_rt ?_
                                        refine inb_r1 ?_
                                        refine thn_r1 ?_
                                        refine thn_r1 ?_
                                        refine inb_r1 ?_
                                        refine thn_r1 ?_
                                        refine inb_r1 ?_
                                        refine thn_r1 ?_
                                        refine thn_r1 ?_
                                        refine inb_r1 ?_
                                        refine thn_r1 ?_
                                        injection hF with hF
                                        subst hF
                                        have hO := hO.sel [] (by decide)
                                        exact hQ _ _ _ _ _ rfl hO hL ⟨rfl, rfl⟩
                                      · refine wpn_cF (congrArg Value.bool hb73054) ?_
                                        refine wpn_sk ?_
                                        refine wpn_end ?_
                                        refine inb_i ?_
                                        refine thn_i ?_
                                        refine wpn_rlast ?_
                                        refine wpn_qa hO [] [(10, .slice A66771 x66774.length c66772), (11, .slice A72909 x72912.length c72910), (17, .pointer (some ⟨b64086, 0, none⟩)), (19, .int .i64 x72272), (24, .pointer (some ⟨b72736, 0, none⟩)), (26, .int .i64 (IntKind.i64.wrap (x72920 + 1)))] (ar (ar (ar (ar (ar (ar trivial)))))) fun j => ?_
                                        refine wpn_end ?_
                                        refine thn_i ?_
                                        exact ⟨n73023, Nat.lt_succ_self _, A72909, c72910, o72911, x72912, (IntKind.i64.wrap (x72920 + 1)), _, ar (ar (ar (ar (ar (ar trivial))))), hO, hL, r72908, w72913, r72914, r72915, r72916, r72917, r72918, r72919, hF⟩
                                  · refine wpn_cF (congrArg Value.bool hb73024) ?_
                                    refine wpn_ex ?_
                                    refine thn_x ?_
                                    refine inb_x ?_
                                    refine thn_i ?_
                                    refine wpn_assoc ?_
                                    refine wpn_qa hO [] [(10, .slice A66771 x66774.length c66772), (11, .slice A72909 x72912.length c72910), (17, .pointer (some ⟨b64086, 0, none⟩)), (19, .int .i64 x72272), (24, .pointer (some ⟨b72736, 0, none⟩)), (27, .int .i64 0)] (ar (ar (ar (ar (ar (ar trivial)))))) fun j => ?_
                                    refine wpn_bl ?_
                                    refine wpn_lp (fun (n : Nat) e' σ' => ∃ (A73083 : Option Addr) (c73084 : Nat) (o73085 : Ob) (x73086 : List (List Int)) (x73094 : Int) (τ' : Hp), agr [(10, .slice A66771 x66774.length c66772), (11, .slice A73083 x73086.length c73084), (17, .pointer (some ⟨b64086, 0, none⟩)), (19, .int .i64 x72272), (24, .pointer (some ⟨b72736, 0, none⟩)), (27, .int .i64 x73094)] e' ∧ Obs τ' σ' [o73085, some (b64086, ⟨[.slice A72259 x72261.length c72260, .slice A72263 x72265.length c72264, .int .i64 x72267, .slice A72268 x72270.length c72269], 28, 4, true⟩), some (b72736, ⟨[.slice A72726 c72720.2.1.Known.length c72727, .slice A72730 c72720.2.1.Regs.length c72731, .int .i64 c72720.2.1.Base, .slice A72734 c72720.2.1.Words.length c72735], 28, 4, true⟩)] ∧ Hp.le τ τ' ∧ RdT zd τ' (.slice A66771 x66774.length c66772) x66774 ∧ OwnO (Ty.slice (Ty.int .i64)) 26 τ' (.slice A73083 x73086.length c73084) x73086 o73085 ∧ RdT Ty.bool τ' (.slice A72259 x72261.length c72260) x72261 ∧ RdT (Ty.int .i64) τ' (.slice A72263 x72265.length c72264) x72265 ∧ RdT (Ty.int .i64) τ' (.slice A72268 x72270.length c72269) x72270 ∧ RdT Ty.bool τ' (.slice A72726 c72720.2.1.Known.length c72727) c72720.2.1.Known ∧ RdT (Ty.int .i64) τ' (.slice A72730 c72720.2.1.Regs.length c72731) c72720.2.1.Regs ∧ RdT (Ty.int .i64) τ' (.slice A72734 c72720.2.1.Words.length c72735) c72720.2.1.Words ∧ zQ (zg x66774 n72701) x72272 c72720 n x73086 x73094 = some rr) big ⟨A72909, c72910, o72911, x72912, 0, _, ar (ar (ar (ar (ar (ar trivial))))), hO, hL, r72908, w72913, r72914, r72915, r72916, r72917, r72918, r72919, hF⟩ ?_
                                    clear hF hO hL
                                    rintro n73110 e σ ⟨A73083, c73084, o73085, x73086, x73094, _, hA, hO, hL, r73082, w73087, r73088, r73089, r73090, r73091, r73092, r73093, hF⟩
                                    rw [← sets_agr _ _ hA]
                                    cases n73110 with
                                    | zero => exact nomatch (show none = some rr from hF)
                                    | succ n73110 =>
                                      replace hF : zbf (zQ (zg x66774 n72701) x72272 c72720 n73110) (zg x66774 n72701) x72272 c72720 x73086 x73094 = some rr := hF
                                      unfold zbf at hF
                                      refine wpn_assoc ?_
                                      refine wpn_qa hO [] [(10, .slice A66771 x66774.length c66772), (11, .slice A73083 x73086.length c73084), (17, .pointer (some ⟨b64086, 0, none⟩)), (19, .int .i64 x72272), (24, .pointer (some ⟨b72736, 0, none⟩)), (27, .int .i64 x73094), (285, .bool (decide (x73094 < 6)))] (ar (ar (ar (ar (ar (ar (ar trivial))))))) fun j => ?_
                                      rcases ite_some hF with ⟨hb73111, hF⟩ | ⟨hb73111, hF⟩
                                      · refine wpn_cT (congrArg Value.bool hb73111) ?_
                                        refine wpn_sk ?_
                                        refine wpn_bl ?_
                                        refine wpn_q hO 3 [2] [(10, .slice A66771 x66774.length c66772), (11, .slice A73083 x73086.length c73084), (17, .pointer (some ⟨b64086, 0, none⟩)), (19, .int .i64 x72272), (24, .pointer (some ⟨b72736, 0, none⟩)), (27, .int .i64 x73094), (289, .slice A72726 c72720.2.1.Known.length c72727), (290, .int .i64 x73094)] (And.intro (And.intro rfl rfl) (ar (ar (ar (ar (ar (ar (ar (ar trivial))))))))) fun j => ?_
                                        obtain ⟨y73112, g73113, hF⟩ := bind_some hF
                                        refine wpn_idx (T := Ty.bool) r73091 hO.base rfl rfl g73113 (by decide) fun a73114 _ k73115 m73116 => ?_
                                        obtain rfl : _ = ([.bool y73112] : List Value) := k73115
                                        refine wpn_ld rfl (m73116.le hO.base).fst ?_
                                        refine wpn_q hO 1 [] [(10, .slice A66771 x66774.length c66772), (11, .slice A73083 x73086.length c73084), (17, .pointer (some ⟨b64086, 0, none⟩)), (19, .int .i64 x72272), (24, .pointer (some ⟨b72736, 0, none⟩)), (27, .int .i64 x73094), (293, .bool y73112)] (ar (ar (ar (ar (ar (ar (ar trivial))))))) fun j => ?_
                                        obtain ⟨c73117, h73118, hF⟩ := bind_some hF
                                        refine wpn_midq 2 [(301, .bool c73117), (10, .slice A66771 x66774.length c66772), (11, .slice A73083 x73086.length c73084), (17, .pointer (some ⟨b64086, 0, none⟩)), (19, .int .i64 x72272), (24, .pointer (some ⟨b72736, 0, none⟩)), (27, .int .i64 x73094)] (fun Q hQ => ?_) fun j => ?_
                                        · have hF := h73118
                                          rcases ite_some hF with ⟨hb73119, hF⟩ | ⟨hb73119, hF⟩
                                          · refine wpn_gF (congrArg (fun x => isB (.bool x) false) hb73119) ?_
                                            refine wpn_pk (congrArg Value.bool hb73119) ?_
                                            refine wpn_nil ?_
                                            injection hF with hF
                                            subst hF
                                            refine wpn_end ?_
                                            exact hQ _ (ar (ar (ar (ar (ar (ar (ar trivial)))))))
                                          · refine wpn_gT (congrArg (fun x => isB (.bool x) false) hb73119) ?_
                                            refine wpn_q hO 5 [2] [(10, .slice A66771 x66774.length c66772), (11, .slice A73083 x73086.length c73084), (17, .pointer (some ⟨b64086, 0, none⟩)), (19, .int .i64 x72272), (24, .pointer (some ⟨b72736, 0, none⟩)), (27, .int .i64 x73094), (293, .bool y73112), (295, .slice A72726 c72720.2.1.Known.length c72727), (298, .int .i64 (IntKind.i64.wrap (12 + (Int.tmod x73094 3))))] (And.intro (And.intro rfl rfl) (ar (ar (ar (ar (ar (ar (ar (ar (ar trivial)))))))))) fun j => ?_
                                            obtain ⟨y73120, g73121, hF⟩ := bind_some hF
                                            refine wpn_idx (T := Ty.bool) r73091 hO.base rfl rfl g73121 (by decide) fun a73122 _ k73123 m73124 => ?_
                                            obtain rfl : _ = ([.bool y73120] : List Value) := k73123
                                            refine wpn_ld rfl (m73124.le hO.base).fst ?_
                                            refine wpn_pk (congrArg Value.bool hb73119) ?_
                                            refine wpn_nil ?_
                                            injection hF with hF
                                            subst hF
                                            refine wpn_end ?_
                                            exact hQ _ (ar (ar (ar (ar (ar (ar (ar trivial)))))))
                                        · refine wpn_nil ?_
                                          refine wpn_clast ?_
                                          rcases ite_some hF with ⟨hb73125, hF⟩ | ⟨hb73125, hF⟩
                                          · refine wpn_cT (congrArg Value.bool hb73125) ?_
                                            refine wpn_assoc ?_
                                            refine wpn_qa hO [] [(6, .bool false)] (ar trivial) fun j => ?_
                                            refine wpn_rt ?_
                                            refine inb_r1 ?_
                                            refine thn_r1 ?_
                                            refine thn_r1 ?_
                                            refine inb_r1 ?_
                                            refine thn_r1 ?_
                                            refine inb_r1 ?_
                                            refine thn_r1 ?_
                                            refine thn_r1 ?_
                                            refine inb_r1 ?_
                                            refine thn_r1 ?_
                                            injection hF with hF
                                            subst hF
                                            have hO := hO.sel [] (by decide)
                                            exact hQ _ _ _ _ _ rfl hO hL ⟨rfl, rfl⟩
                                          · refine wpn_cF (congrArg Value.bool hb73125) ?_
                                            refine wpn_sk ?_
                                            refine wpn_end ?_
                                            refine inb_i ?_
                                            refine thn_i ?_
                                            refine wpn_rlast ?_
                                            refine wpn_qa hO [] [(10, .slice A66771 x66774.length c66772), (11, .slice A73083 x73086.length c73084), (17, .pointer (some ⟨b64086, 0, none⟩)), (19, .int .i64 x72272), (24, .pointer (some ⟨b72736, 0, none⟩)), (27, .int .i64 (IntKind.i64.wrap (x73094 + 1)))] (ar (ar (ar (ar (ar (ar trivial)))))) fun j => ?_
                                            refine wpn_end ?_
                                            refine thn_i ?_
                                            exact ⟨n73110, Nat.lt_succ_self _, A73083, c73084, o73085, x73086, (IntKind.i64.wrap (x73094 + 1)), _, ar (ar (ar (ar (ar (ar trivial))))), hO, hL, r73082, w73087, r73088, r73089, r73090, r73091, r73092, r73093, hF⟩
                                      · refine wpn_cF (congrArg Value.bool hb73111) ?_
                                        refine wpn_ex ?_
                                        refine thn_x ?_
                                        refine inb_x ?_
                                        refine thn_i ?_
                                        refine wpn_rlast ?_
                                        refine wpn_q hO 1 [2] [(10, .slice A66771 x66774.length c66772), (11, .slice A73083 x73086.length c73084), (17, .pointer (some ⟨b64086, 0, none⟩)), (19, .int .i64 x72272), (302, .agg #[(.slice A72726 c72720.2.1.Known.length c72727), (.slice A72730 c72720.2.1.Regs.length c72731), (.int .i64 c72720.2.1.Base), (.slice A72734 c72720.2.1.Words.length c72735)])] (And.intro (And.intro rfl rfl) (ar (ar (ar (ar (ar trivial)))))) fun j => ?_
                                        refine wpn_st hO (i := 1) rfl (off := 0) rfl rfl rfl rfl (Nat.le_of_ble_eq_true rfl) rfl fun σ hO => ?_
                                        have hO : Obs _ _ [_, _, _] := hO
                                        refine wpn_nil ?_
                                        refine wpn_end ?_
                                        refine inb_i ?_
                                        refine thn_i ?_
                                        refine wpn_rlast ?_
                                        refine wpn_qa hO [] [(10, .slice A66771 x66774.length c66772), (11, .slice A73083 x73086.length c73084), (17, .pointer (some ⟨b64086, 0, none⟩)), (19, .int .i64 (IntKind.i64.wrap (x72272 - 1)))] (ar (ar (ar (ar trivial)))) fun j => ?_
                                        refine wpn_end ?_
                                        refine thn_i ?_
                                        have hO := hO.sel [0, 1] (by decide)
                                        exact ⟨n72701, Nat.lt_succ_self _, A73083, c73084, o73085, x73086, A72726, c72727, c72720.2.1.Known, A72730, c72731, c72720.2.1.Regs, c72720.2.1.Base, A72734, c72735, c72720.2.1.Words, (IntKind.i64.wrap (x72272 - 1)), _, ar (ar (ar (ar trivial))), hO, hL, r73082, w73087, r73091, r73092, r73093, hF⟩
                  · refine wpn_cF (congrArg Value.bool hb72702) ?_
                    refine wpn_ex ?_
                    refine thn_x ?_
                    refine inb_x ?_
                    refine thn_i ?_
                    obtain ⟨c73126, h73127, hF⟩ := bind_some hF
                    refine wpn_c0 hO (zbM h73127) rfl fun _ σ _ _ hO h73128 h73129 => ?_
                    have hL := hL.trans h73128
                    have r72253 := r72253.le h73128
                    have w72258 := w72258.le h73128
                    have r72262 := r72262.le h73128
                    have r72266 := r72266.le h73128
                    have r72271 := r72271.le h73128
                    obtain ⟨rfl, rfl⟩ := h73129
                    have hO : Obs _ _ [_, _] := hO
                    refine wpn_qa hO [] [(6, .bool c73126)] (ar trivial) fun j => ?_
                    refine wpn_r1 ?_
                    injection hF with hF
                    subst hF
                    have hO := hO.sel [] (by decide)
                    exact hQ _ _ _ _ _ rfl hO hL ⟨rfl, rfl⟩
end Go.Proofs.Ytneonhnackjdjaa
