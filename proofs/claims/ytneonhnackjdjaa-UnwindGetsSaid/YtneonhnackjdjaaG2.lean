import Derived.Test.YtneonhnackjdjaaF
import Derived.Test.YtneonhnackjdjaaAc0
import Derived.Test.YtneonhnackjdjaaM00
import Derived.Test.YtneonhnackjdjaaM02
import Derived.Test.YtneonhnackjdjaaG1
namespace Go.Proofs.Ytneonhnackjdjaa
open Go.Ab Go.RowKit
set_option linter.unusedVariables false
set_option linter.unusedSimpArgs false
set_option maxRecDepth 10000
theorem w_ref08_Get {τ : Hp} {v0 : Value} {p0 : (List UInt8)} {p1 : Int} (r0 : RdT Ty.u8 τ v0 p0) {rr : (List S_api_Unwind) × Int × Int} (hF : F_ref08_Get p0 p1 = some rr) :
    Ctr Try.prog 20 #[v0, .int .i64 p1] τ [] (fun v τ' vs' => ∃ (v0 : Value), v = .tuple #[v0, .int .i64 rr.2.1, .int .i64 rr.2.2] ∧ vs' = [] ∧ RdT TyS_api_Unwind τ' v0 rr.1) := by
  obtain ⟨A0, c0, rfl, -⟩ := r0.form
  refine ctr_of (args := [.slice A0 p0.length c0, .int .i64 p1]) hm Try.func20 s20 rfl fun w0 σ hO Q hQ => ?_
  unfold F_ref08_Get at hF
  have hL := Hp.le.refl τ
  show wpn _ _ a20.body _ _ _
  unfold a20
  dsimp only
  refine wpn_qa hO [] [(0, .slice A0 p0.length c0), (1, .int .i64 p1)] (And.intro rfl (And.intro rfl trivial)) fun j => ?_
  refine wpn_assoc ?_
  refine wpn_qa hO [] [(0, .slice A0 p0.length c0), (1, .int .i64 p1), (28, .bool ((decide (p1 < 0)) || (decide (p1 > (p0.length : Int)))))] (And.intro (And.intro rfl rfl) (fun _ => And.intro rfl (And.intro rfl (And.intro rfl trivial)))) fun j => ?_
  rcases ite_some hF with ⟨hb3, hF⟩ | ⟨hb3, hF⟩
  · refine wpn_cT (congrArg Value.bool hb3) ?_
    refine wpn_assoc ?_
    refine wpn_qa hO [] [(4, .slice none 0 0), (5, .int .i64 0), (6, .int .i64 1)] (And.intro rfl (And.intro rfl (And.intro rfl trivial))) fun j => ?_
    refine wpn_rt ?_
    injection hF with hF
    subst hF
    exact hQ _ _ _ _ _ rfl hO hL ⟨_, rfl, rfl, (RdT.nil _ _)⟩
  · refine wpn_cF (congrArg Value.bool hb3) ?_
    refine wpn_sk ?_
    refine wpn_q hO 2 [] [(0, .slice A0 p0.length c0), (30, .slice A0 p0.length c0), (31, .int .i64 p1)] (And.intro rfl (And.intro rfl (And.intro rfl trivial))) fun j => ?_
    obtain ⟨c4, h5, hF⟩ := bind_some hF
    refine wpn_c0 hO (w_ref08_numbers r0 h5) rfl fun _ σ _ _ hO h6 h7 => ?_
    have hL := hL.trans h6
    have r0 := r0.le h6
    obtain ⟨v8, o11, rfl, rfl, w12⟩ := h7
    obtain ⟨A9, c10, rfl, -⟩ := w12.form
    have hO : Obs _ _ [_] := hO
    refine wpn_qa hO [] [(0, .slice A0 p0.length c0), (7, .slice A9 c4.1.length c10), (8, .int .i64 c4.2.1), (9, .bool c4.2.2)] (And.intro rfl (And.intro rfl (And.intro rfl (And.intro rfl trivial)))) fun j => ?_
    refine wpn_assoc ?_
    refine wpn_q hO 3 [] [(0, .slice A0 p0.length c0), (7, .slice A9 c4.1.length c10), (8, .int .i64 c4.2.1), (38, .bool (!c4.2.2))] (And.intro rfl (And.intro rfl (And.intro rfl (And.intro rfl trivial)))) fun j => ?_
    obtain ⟨c13, h14, hF⟩ := bind_some hF
    refine wpn_midq 2 [(43, .bool c13), (0, .slice A0 p0.length c0), (7, .slice A9 c4.1.length c10), (8, .int .i64 c4.2.1)] (fun Q hQ => ?_) fun j => ?_
    · have hF := h14
      rcases ite_some hF with ⟨hb15, hF⟩ | ⟨hb15, hF⟩
      · refine wpn_gF (congrArg (fun x => isB (.bool x) false) hb15) ?_
        refine wpn_pk (congrArg Value.bool hb15) ?_
        refine wpn_nil ?_
        injection hF with hF
        subst hF
        refine wpn_end ?_
        exact hQ _ (And.intro rfl (And.intro rfl (And.intro rfl (And.intro rfl trivial))))
      · refine wpn_gT (congrArg (fun x => isB (.bool x) false) hb15) ?_
        refine wpn_q hO 1 [] [(0, .slice A0 p0.length c0), (7, .slice A9 c4.1.length c10), (8, .int .i64 c4.2.1), (38, .bool (!c4.2.2)), (39, .slice A9 c4.1.length c10)] (And.intro rfl (And.intro rfl (And.intro rfl (And.intro rfl (And.intro rfl trivial))))) fun j => ?_
        obtain ⟨y16, g17, hF⟩ := bind_some hF
        refine wpn_ido (T := (Ty.int .i64)) hO w12 (i := 0) rfl rfl rfl g17 (by decide) fun a18 _ k19 m20 i21 => ?_
        have k22 := k19
        obtain rfl : _ = ([.int .i64 y16] : List Value) := k22
        refine wpn_ld rfl m20.fst ?_
        refine wpn_q hO 1 [] [(0, .slice A0 p0.length c0), (7, .slice A9 c4.1.length c10), (8, .int .i64 c4.2.1), (38, .bool (!c4.2.2)), (42, .bool (decide (y16 > 4000)))] (And.intro rfl (And.intro rfl (And.intro rfl (And.intro rfl (And.intro rfl trivial))))) fun j => ?_
        refine wpn_pk (congrArg Value.bool hb15) ?_
        refine wpn_nil ?_
        injection hF with hF
        subst hF
        refine wpn_end ?_
        exact hQ _ (And.intro rfl (And.intro rfl (And.intro rfl (And.intro rfl trivial))))
    · refine wpn_nil ?_
      rcases ite_some hF with ⟨hb23, hF⟩ | ⟨hb23, hF⟩
      · refine wpn_cT (congrArg Value.bool hb23) ?_
        refine wpn_assoc ?_
        refine wpn_qa hO [] [(4, .slice none 0 0), (5, .int .i64 0), (6, .int .i64 5)] (And.intro rfl (And.intro rfl (And.intro rfl trivial))) fun j => ?_
        refine wpn_rt ?_
        injection hF with hF
        subst hF
        have hO := hO.sel [] (by decide)
        exact hQ _ _ _ _ _ rfl hO hL ⟨_, rfl, rfl, (RdT.nil _ _)⟩
      · refine wpn_cF (congrArg Value.bool hb23) ?_
        refine wpn_sk ?_
        refine wpn_qa hO [] [(0, .slice A0 p0.length c0), (7, .slice A9 c4.1.length c10), (8, .int .i64 c4.2.1), (10, .slice none 0 0)] (And.intro rfl (And.intro rfl (And.intro rfl (And.intro rfl trivial)))) fun j => ?_
        refine wpn_qa hO [] [(0, .slice A0 p0.length c0), (7, .slice A9 c4.1.length c10), (8, .int .i64 c4.2.1), (10, .slice none 0 0), (11, .int .i64 0)] (And.intro rfl (And.intro rfl (And.intro rfl (And.intro rfl (And.intro rfl trivial))))) fun j => ?_
        refine wpn_assoc ?_
        refine wpn_qa hO [] [(0, .slice A0 p0.length c0), (7, .slice A9 c4.1.length c10), (8, .int .i64 c4.2.1), (10, .slice none 0 0), (11, .int .i64 0), (12, .int .i64 0)] (And.intro rfl (And.intro rfl (And.intro rfl (And.intro rfl (And.intro rfl (And.intro rfl trivial)))))) fun j => ?_
        refine wpn_bl ?_
        have hO := hO.no
        have hO : Obs _ _ [_, _] := hO
        refine wpn_lp (fun (n : Nat) e' σ' => ∃ (A241 : Option Addr) (c242 : Nat) (o243 : Ob) (x244 : List Int) (x246 : Int) (A247 : Option Addr) (c248 : Nat) (o249 : Ob) (x250 : List S_api_Unwind) (x252 : Int) (x253 : Int) (τ' : Hp), agr [(0, .slice A0 p0.length c0), (7, .slice A241 x244.length c242), (8, .int .i64 x246), (10, .slice A247 x250.length c248), (11, .int .i64 x252), (12, .int .i64 x253)] e' ∧ Obs τ' σ' [o243, o249] ∧ Hp.le τ τ' ∧ RdT Ty.u8 τ' (.slice A0 p0.length c0) p0 ∧ OwnO (Ty.int .i64) 3 τ' (.slice A241 x244.length c242) x244 o243 ∧ OwnO TyS_api_Unwind 48 τ' (.slice A247 x250.length c248) x250 o249 ∧ F_ref08_Get_l17 p0 n x244 x246 x250 x252 x253 = some rr) big ⟨A9, c10, o11, c4.1, c4.2.1, none, 0, none, [], 0, 0, _, And.intro rfl (And.intro rfl (And.intro rfl (And.intro rfl (And.intro rfl (And.intro rfl trivial))))), hO, hL, r0, w12, OwnO.nil _ _ _, hF⟩ ?_
        clear hF hO hL
        rintro n473 e σ ⟨A241, c242, o243, x244, x246, A247, c248, o249, x250, x252, x253, _, hA, hO, hL, r240, w245, w251, hF⟩
        rw [← sets_agr _ _ hA]
        cases n473 with
        | zero => exact nomatch (show none = some rr from hF)
        | succ n473 =>
          replace hF : F_ref08_Get_l17B (F_ref08_Get_l17 p0 n473) p0 x244 x246 x250 x252 x253 = some rr := hF
          unfold F_ref08_Get_l17B at hF
          refine wpn_assoc ?_
          refine wpn_q hO 2 [] [(0, .slice A0 p0.length c0), (7, .slice A241 x244.length c242), (8, .int .i64 x246), (10, .slice A247 x250.length c248), (11, .int .i64 x252), (12, .int .i64 x253), (44, .int .i64 x253), (45, .slice A241 x244.length c242)] (And.intro rfl (And.intro rfl (And.intro rfl (And.intro rfl (And.intro rfl (And.intro rfl (And.intro rfl (And.intro rfl trivial)))))))) fun j => ?_
          obtain ⟨y474, g475, hF⟩ := bind_some hF
          refine wpn_ido (T := (Ty.int .i64)) hO w245 (i := 0) rfl rfl rfl g475 (by decide) fun a476 _ k477 m478 i479 => ?_
          have k480 := k477
          obtain rfl : _ = ([.int .i64 y474] : List Value) := k480
          refine wpn_ld rfl m478.fst ?_
          refine wpn_qa hO [] [(0, .slice A0 p0.length c0), (7, .slice A241 x244.length c242), (8, .int .i64 x246), (10, .slice A247 x250.length c248), (11, .int .i64 x252), (12, .int .i64 x253), (48, .bool (decide (x253 < y474)))] (And.intro rfl (And.intro rfl (And.intro rfl (And.intro rfl (And.intro rfl (And.intro rfl (And.intro rfl trivial))))))) fun j => ?_
          rcases ite_some hF with ⟨hb481, hF⟩ | ⟨hb481, hF⟩
          · refine wpn_cT (congrArg Value.bool hb481) ?_
            refine wpn_sk ?_
            refine wpn_bl ?_
            refine wpn_q hO 2 [] [(0, .slice A0 p0.length c0), (7, .slice A241 x244.length c242), (10, .slice A247 x250.length c248), (11, .int .i64 x252), (12, .int .i64 x253), (52, .slice A0 p0.length c0), (53, .int .i64 x246)] (And.intro rfl (And.intro rfl (And.intro rfl (And.intro rfl (And.intro rfl (And.intro rfl (And.intro rfl trivial))))))) fun j => ?_
            obtain ⟨c482, h483, hF⟩ := bind_some hF
            refine wpn_c0 hO (w_ref08_numbers r240 h483) rfl fun _ σ _ _ hO h484 h485 => ?_
            have hL := hL.trans h484
            have r240 := r240.le h484
            have w245 := w245.le h484
            have w251 := w251.le h484
            obtain ⟨v486, o489, rfl, rfl, w490⟩ := h485
            obtain ⟨A487, c488, rfl, -⟩ := w490.form
            have hO : Obs _ _ [_, _, _] := hO
            refine wpn_qa hO [] [(0, .slice A0 p0.length c0), (7, .slice A241 x244.length c242), (10, .slice A247 x250.length c248), (11, .int .i64 x252), (12, .int .i64 x253), (13, .slice A487 c482.1.length c488), (14, .int .i64 c482.2.1), (15, .bool c482.2.2)] (And.intro rfl (And.intro rfl (And.intro rfl (And.intro rfl (And.intro rfl (And.intro rfl (And.intro rfl (And.intro rfl trivial)))))))) fun j => ?_
            refine wpn_assoc ?_
            refine wpn_q hO 3 [] [(0, .slice A0 p0.length c0), (7, .slice A241 x244.length c242), (10, .slice A247 x250.length c248), (11, .int .i64 x252), (12, .int .i64 x253), (13, .slice A487 c482.1.length c488), (14, .int .i64 c482.2.1), (60, .bool (!c482.2.2))] (And.intro rfl (And.intro rfl (And.intro rfl (And.intro rfl (And.intro rfl (And.intro rfl (And.intro rfl (And.intro rfl trivial)))))))) fun j => ?_
            obtain ⟨c491, h492, hF⟩ := bind_some hF
            refine wpn_midq 2 [(65, .bool c491), (0, .slice A0 p0.length c0), (7, .slice A241 x244.length c242), (10, .slice A247 x250.length c248), (11, .int .i64 x252), (12, .int .i64 x253), (13, .slice A487 c482.1.length c488), (14, .int .i64 c482.2.1)] (fun Q hQ => ?_) fun j => ?_
            · have hF := h492
              rcases ite_some hF with ⟨hb493, hF⟩ | ⟨hb493, hF⟩
              · refine wpn_gF (congrArg (fun x => isB (.bool x) false) hb493) ?_
                refine wpn_pk (congrArg Value.bool hb493) ?_
                refine wpn_nil ?_
                injection hF with hF
                subst hF
                refine wpn_end ?_
                exact hQ _ (And.intro rfl (And.intro rfl (And.intro rfl (And.intro rfl (And.intro rfl (And.intro rfl (And.intro rfl (And.intro rfl trivial))))))))
              · refine wpn_gT (congrArg (fun x => isB (.bool x) false) hb493) ?_
                refine wpn_q hO 1 [] [(0, .slice A0 p0.length c0), (7, .slice A241 x244.length c242), (10, .slice A247 x250.length c248), (11, .int .i64 x252), (12, .int .i64 x253), (13, .slice A487 c482.1.length c488), (14, .int .i64 c482.2.1), (60, .bool (!c482.2.2)), (61, .slice A487 c482.1.length c488)] (And.intro rfl (And.intro rfl (And.intro rfl (And.intro rfl (And.intro rfl (And.intro rfl (And.intro rfl (And.intro rfl (And.intro rfl trivial))))))))) fun j => ?_
                obtain ⟨y494, g495, hF⟩ := bind_some hF
                refine wpn_ido (T := (Ty.int .i64)) hO w490 (i := 2) rfl rfl rfl g495 (by decide) fun a496 _ k497 m498 i499 => ?_
                have k500 := k497
                obtain rfl : _ = ([.int .i64 y494] : List Value) := k500
                refine wpn_ld rfl m498.fst ?_
                refine wpn_q hO 1 [] [(0, .slice A0 p0.length c0), (7, .slice A241 x244.length c242), (10, .slice A247 x250.length c248), (11, .int .i64 x252), (12, .int .i64 x253), (13, .slice A487 c482.1.length c488), (14, .int .i64 c482.2.1), (60, .bool (!c482.2.2)), (64, .bool (decide (y494 > 16)))] (And.intro rfl (And.intro rfl (And.intro rfl (And.intro rfl (And.intro rfl (And.intro rfl (And.intro rfl (And.intro rfl (And.intro rfl trivial))))))))) fun j => ?_
                refine wpn_pk (congrArg Value.bool hb493) ?_
                refine wpn_nil ?_
                injection hF with hF
                subst hF
                refine wpn_end ?_
                exact hQ _ (And.intro rfl (And.intro rfl (And.intro rfl (And.intro rfl (And.intro rfl (And.intro rfl (And.intro rfl (And.intro rfl trivial))))))))
            · refine wpn_nil ?_
              rcases ite_some hF with ⟨hb501, hF⟩ | ⟨hb501, hF⟩
              · refine wpn_cT (congrArg Value.bool hb501) ?_
                refine wpn_assoc ?_
                refine wpn_qa hO [] [(4, .slice none 0 0), (5, .int .i64 0), (6, .int .i64 5)] (And.intro rfl (And.intro rfl (And.intro rfl trivial))) fun j => ?_
                refine wpn_rt ?_
                refine inb_r1 ?_
                refine thn_r1 ?_
                refine thn_r1 ?_
                refine inb_r1 ?_
                refine thn_r1 ?_
                injection hF with hF
                subst hF
                have hO := hO.sel [] (by decide)
                exact hQ _ _ _ _ _ rfl hO hL ⟨_, rfl, rfl, (RdT.nil _ _)⟩
              · refine wpn_cF (congrArg Value.bool hb501) ?_
                refine wpn_sk ?_
                refine wpn_qa hO [] [(0, .slice A0 p0.length c0), (7, .slice A241 x244.length c242), (8, .int .i64 c482.2.1), (10, .slice A247 x250.length c248), (11, .int .i64 x252), (12, .int .i64 x253), (13, .slice A487 c482.1.length c488)] (And.intro rfl (And.intro rfl (And.intro rfl (And.intro rfl (And.intro rfl (And.intro rfl (And.intro rfl trivial))))))) fun j => ?_
                refine wpn_p2r ?_
                refine wpn_q hO 2 [] [(0, .slice A0 p0.length c0), (7, .slice A241 x244.length c242), (8, .int .i64 c482.2.1), (10, .slice A247 x250.length c248), (11, .int .i64 x252), (12, .int .i64 x253), (13, .slice A487 c482.1.length c488), (67, .int .i64 x252), (68, .slice A487 c482.1.length c488)] (And.intro rfl (And.intro rfl (And.intro rfl (And.intro rfl (And.intro rfl (And.intro rfl (And.intro rfl (And.intro rfl (And.intro rfl trivial))))))))) fun j => ?_
                obtain ⟨_, h503, r502, hO⟩ := w490.share hO (i := 2) rfl
                have hL := hL.trans h503
                have r240 := r240.le h503
                have w245 := w245.le h503
                have w251 := w251.le h503
                have hO : Obs _ _ [_, _, _] := hO
                obtain ⟨y504, g505, hF⟩ := bind_some hF
                refine wpn_idx (T := (Ty.int .i64)) r502 hO.base rfl rfl g505 (by decide) fun a506 _ k507 m508 => ?_
                obtain rfl : _ = ([.int .i64 y504] : List Value) := k507
                refine wpn_ld rfl (m508.le hO.base).fst ?_
                refine wpn_q hO 3 [] [(0, .slice A0 p0.length c0), (7, .slice A241 x244.length c242), (8, .int .i64 c482.2.1), (10, .slice A247 x250.length c248), (12, .int .i64 x253), (13, .slice A487 c482.1.length c488), (69, .pointer (some a506)), (70, .int .i64 y504), (71, .int .i64 (IntKind.i64.wrap (x252 + y504))), (72, .int .i64 x252), (73, .slice A487 c482.1.length c488)] (And.intro rfl (And.intro rfl (And.intro rfl (And.intro rfl (And.intro rfl (And.intro rfl (And.intro rfl (And.intro rfl (And.intro rfl (And.intro rfl (And.intro rfl trivial))))))))))) fun j => ?_
                obtain ⟨y509, g510, hF⟩ := bind_some hF
                refine wpn_idx (T := (Ty.int .i64)) r502 hO.base rfl rfl g510 (by decide) fun a511 _ k512 m513 => ?_
                obtain rfl : _ = ([.int .i64 y509] : List Value) := k512
                refine wpn_ld rfl (m513.le hO.base).fst ?_
                refine wpn_q hO 2 [] [(0, .slice A0 p0.length c0), (7, .slice A241 x244.length c242), (8, .int .i64 c482.2.1), (10, .slice A247 x250.length c248), (12, .int .i64 x253), (13, .slice A487 c482.1.length c488), (69, .pointer (some a506)), (70, .int .i64 y504), (71, .int .i64 (IntKind.i64.wrap (x252 + y504))), (74, .pointer (some a511)), (75, .int .i64 y509), (76, .int .i64 (IntKind.i64.wrap (x252 + y509))), (77, .slice A487 c482.1.length c488)] (And.intro rfl (And.intro rfl (And.intro rfl (And.intro rfl (And.intro rfl (And.intro rfl (And.intro rfl (And.intro rfl (And.intro rfl (And.intro rfl (And.intro rfl (And.intro rfl (And.intro rfl trivial))))))))))))) fun j => ?_
                obtain ⟨y514, g515, hF⟩ := bind_some hF
                refine wpn_idx (T := (Ty.int .i64)) r502 hO.base rfl rfl g515 (by decide) fun a516 _ k517 m518 => ?_
                obtain rfl : _ = ([.int .i64 y514] : List Value) := k517
                refine wpn_ld rfl (m518.le hO.base).fst ?_
                refine wpn_q hO 2 [] [(0, .slice A0 p0.length c0), (7, .slice A241 x244.length c242), (8, .int .i64 c482.2.1), (10, .slice A247 x250.length c248), (12, .int .i64 x253), (13, .slice A487 c482.1.length c488), (69, .pointer (some a506)), (70, .int .i64 y504), (71, .int .i64 (IntKind.i64.wrap (x252 + y504))), (74, .pointer (some a511)), (75, .int .i64 y509), (78, .pointer (some a516)), (79, .int .i64 y514), (80, .int .i64 (IntKind.i64.wrap ((IntKind.i64.wrap (x252 + y509)) + y514))), (81, .slice A487 c482.1.length c488)] (And.intro rfl (And.intro rfl (And.intro rfl (And.intro rfl (And.intro rfl (And.intro rfl (And.intro rfl (And.intro rfl (And.intro rfl (And.intro rfl (And.intro rfl (And.intro rfl (And.intro rfl (And.intro rfl (And.intro rfl trivial))))))))))))))) fun j => ?_
                obtain ⟨y519, g520, hF⟩ := bind_some hF
                refine wpn_idx (T := (Ty.int .i64)) r502 hO.base rfl rfl g520 (by decide) fun a521 _ k522 m523 => ?_
                obtain rfl : _ = ([.int .i64 y519] : List Value) := k522
                refine wpn_ld rfl (m523.le hO.base).fst ?_
                refine wpn_q hO 1 [] [(0, .slice A0 p0.length c0), (7, .slice A241 x244.length c242), (8, .int .i64 c482.2.1), (10, .slice A247 x250.length c248), (12, .int .i64 x253), (13, .slice A487 c482.1.length c488), (69, .pointer (some a506)), (70, .int .i64 y504), (74, .pointer (some a511)), (75, .int .i64 y509), (78, .pointer (some a516)), (79, .int .i64 y514), (82, .pointer (some a521)), (83, .int .i64 y519), (84, .agg #[(.int .i64 (IntKind.i64.wrap (x252 + y504))), (.int .i64 (IntKind.i64.wrap ((IntKind.i64.wrap (x252 + y509)) + y514))), (.int .i64 y519), (.slice none 0 0)])] (And.intro rfl (And.intro rfl (And.intro rfl (And.intro rfl (And.intro rfl (And.intro rfl (And.intro rfl (And.intro rfl (And.intro rfl (And.intro rfl (And.intro rfl (And.intro rfl (And.intro rfl (And.intro rfl (And.intro rfl trivial))))))))))))))) fun j => ?_
                refine wpn_late ?_
                refine wpn_al hO fun b524 σ hO => ?_
                have hO : Obs _ _ [_, _, _, _] := hO
                refine wpn_nil ?_
                refine wpn_ag ⟨again_ld rfl (m523.le hO.base).fst rfl, again_ld rfl (m518.le hO.base).fst rfl, again_ld rfl (m513.le hO.base).fst rfl, again_ld rfl (m508.le hO.base).fst rfl, trivial⟩ ?_
                refine wpn_st hO (i := 3) rfl (off := 0) rfl rfl rfl rfl (Nat.le_of_ble_eq_true rfl) rfl fun σ hO => ?_
                have hO : Obs _ _ [_, _, _, _] := hO
                refine wpn_nil ?_
                refine wpn_qa hO [3] [(0, .slice A0 p0.length c0), (7, .slice A241 x244.length c242), (8, .int .i64 c482.2.1), (10, .slice A247 x250.length c248), (11, .int .i64 (IntKind.i64.wrap ((IntKind.i64.wrap (x252 + y509)) + y514))), (12, .int .i64 x253), (13, .slice A487 c482.1.length c488), (16, .pointer (some ⟨b524, 0, none⟩))] (And.intro (And.intro rfl rfl) (And.intro rfl (And.intro rfl (And.intro rfl (And.intro rfl (And.intro rfl (And.intro rfl (And.intro rfl (And.intro rfl trivial))))))))) fun j => ?_
                refine wpn_assoc ?_
                refine wpn_qa hO [] [(0, .slice A0 p0.length c0), (7, .slice A241 x244.length c242), (8, .int .i64 c482.2.1), (10, .slice A247 x250.length c248), (11, .int .i64 (IntKind.i64.wrap ((IntKind.i64.wrap (x252 + y509)) + y514))), (12, .int .i64 x253), (13, .slice A487 c482.1.length c488), (16, .pointer (some ⟨b524, 0, none⟩)), (88, .bool (decide ((IntKind.i64.wrap ((IntKind.i64.wrap (x252 + y509)) + y514)) > 16777216)))] (And.intro rfl (And.intro rfl (And.intro rfl (And.intro rfl (And.intro rfl (And.intro rfl (And.intro rfl (And.intro rfl (And.intro rfl trivial))))))))) fun j => ?_
                rcases ite_some hF with ⟨hb525, hF⟩ | ⟨hb525, hF⟩
                · refine wpn_cT (congrArg Value.bool hb525) ?_
                  refine wpn_assoc ?_
                  refine wpn_qa hO [] [(4, .slice none 0 0), (5, .int .i64 0), (6, .int .i64 5)] (And.intro rfl (And.intro rfl (And.intro rfl trivial))) fun j => ?_
                  refine wpn_rt ?_
                  refine inb_r1 ?_
                  refine thn_r1 ?_
                  refine thn_r1 ?_
                  refine inb_r1 ?_
                  refine thn_r1 ?_
                  injection hF with hF
                  subst hF
                  have hO := hO.sel [] (by decide)
                  exact hQ _ _ _ _ _ rfl hO hL ⟨_, rfl, rfl, (RdT.nil _ _)⟩
                · refine wpn_cF (congrArg Value.bool hb525) ?_
                  refine wpn_sk ?_
                  refine wpn_assoc ?_
                  refine wpn_qa hO [] [(0, .slice A0 p0.length c0), (7, .slice A241 x244.length c242), (8, .int .i64 c482.2.1), (10, .slice A247 x250.length c248), (11, .int .i64 (IntKind.i64.wrap ((IntKind.i64.wrap (x252 + y509)) + y514))), (12, .int .i64 x253), (13, .slice A487 c482.1.length c488), (16, .pointer (some ⟨b524, 0, none⟩)), (17, .int .i64 0)] (And.intro rfl (And.intro rfl (And.intro rfl (And.intro rfl (And.intro rfl (And.intro rfl (And.intro rfl (And.intro rfl (And.intro rfl trivial))))))))) fun j => ?_
                  refine wpn_bl ?_
                  have hO := hO.no
                  have hO : Obs _ _ [_, _, _, _, _] := hO
                  have hO := hO.sel [0, 1, 3, 4] (by decide)
                  refine wpn_lp (fun (n : Nat) e' σ' => ∃ (A581 : Option Addr) (c582 : Nat) (o583 : Ob) (x584 : List Int) (x586 : Int) (A587 : Option Addr) (c588 : Nat) (o589 : Ob) (x590 : List S_api_Unwind) (A593 : Option Addr) (c594 : Nat) (o595 : Ob) (x596 : List S_api_Saved) (x598 : Int) (τ' : Hp), agr [(0, .slice A0 p0.length c0), (7, .slice A581 x584.length c582), (8, .int .i64 x586), (10, .slice A587 x590.length c588), (11, .int .i64 (IntKind.i64.wrap ((IntKind.i64.wrap (x252 + y509)) + y514))), (12, .int .i64 x253), (13, .slice A487 c482.1.length c488), (16, .pointer (some ⟨b524, 0, none⟩)), (17, .int .i64 x598)] e' ∧ Obs τ' σ' [o583, o589, some (b524, ⟨[.int .i64 (IntKind.i64.wrap (x252 + y504)), .int .i64 (IntKind.i64.wrap ((IntKind.i64.wrap (x252 + y509)) + y514)), .int .i64 y519, .slice A593 x596.length c594], 48, 4, true⟩), o595] ∧ Hp.le τ τ' ∧ RdT Ty.u8 τ' (.slice A0 p0.length c0) p0 ∧ OwnO (Ty.int .i64) 3 τ' (.slice A581 x584.length c582) x584 o583 ∧ OwnO TyS_api_Unwind 48 τ' (.slice A587 x590.length c588) x590 o589 ∧ RdT (Ty.int .i64) τ' (.slice A487 c482.1.length c488) c482.1 ∧ OwnO TyS_api_Saved 50 τ' (.slice A593 x596.length c594) x596 o595 ∧ F_ref08_Get_l19 (F_ref08_Get_l17 p0 n473) p0 x252 x253 c482 y504 y509 y514 y519 n x584 x586 x590 x596 x598 = some rr) big ⟨A241, c242, o243, x244, c482.2.1, A247, c248, o249, x250, none, 0, none, [], 0, _, And.intro rfl (And.intro rfl (And.intro rfl (And.intro rfl (And.intro rfl (And.intro rfl (And.intro rfl (And.intro rfl (And.intro rfl trivial)))))))), hO, hL, r240, w245, w251, r502, OwnO.nil _ _ _, hF⟩ ?_
                  clear hF hO hL
                  rintro n642 e σ ⟨A581, c582, o583, x584, x586, A587, c588, o589, x590, A593, c594, o595, x596, x598, _, hA, hO, hL, r580, w585, w591, r592, w597, hF⟩
                  rw [← sets_agr _ _ hA]
                  cases n642 with
                  | zero => exact nomatch (show none = some rr from hF)
                  | succ n642 =>
                    replace hF : F_ref08_Get_l19B (F_ref08_Get_l19 (F_ref08_Get_l17 p0 n473) p0 x252 x253 c482 y504 y509 y514 y519 n642) (F_ref08_Get_l17 p0 n473) p0 x252 x253 c482 y504 y509 y514 y519 x584 x586 x590 x596 x598 = some rr := hF
                    unfold F_ref08_Get_l19B at hF
                    refine wpn_assoc ?_
                    refine wpn_q hO 2 [] [(0, .slice A0 p0.length c0), (7, .slice A581 x584.length c582), (8, .int .i64 x586), (10, .slice A587 x590.length c588), (11, .int .i64 (IntKind.i64.wrap ((IntKind.i64.wrap (x252 + y509)) + y514))), (12, .int .i64 x253), (13, .slice A487 c482.1.length c488), (16, .pointer (some ⟨b524, 0, none⟩)), (17, .int .i64 x598), (89, .int .i64 x598), (90, .slice A487 c482.1.length c488)] (And.intro rfl (And.intro rfl (And.intro rfl (And.intro rfl (And.intro rfl (And.intro rfl (And.intro rfl (And.intro rfl (And.intro rfl (And.intro rfl (And.intro rfl trivial))))))))))) fun j => ?_
                    obtain ⟨y643, g644, hF⟩ := bind_some hF
                    refine wpn_idx (T := (Ty.int .i64)) r592 hO.base rfl rfl g644 (by decide) fun a645 _ k646 m647 => ?_
                    obtain rfl : _ = ([.int .i64 y643] : List Value) := k646
                    refine wpn_ld rfl (m647.le hO.base).fst ?_
                    refine wpn_qa hO [] [(0, .slice A0 p0.length c0), (7, .slice A581 x584.length c582), (8, .int .i64 x586), (10, .slice A587 x590.length c588), (11, .int .i64 (IntKind.i64.wrap ((IntKind.i64.wrap (x252 + y509)) + y514))), (12, .int .i64 x253), (13, .slice A487 c482.1.length c488), (16, .pointer (some ⟨b524, 0, none⟩)), (17, .int .i64 x598), (93, .bool (decide (x598 < y643)))] (And.intro rfl (And.intro rfl (And.intro rfl (And.intro rfl (And.intro rfl (And.intro rfl (And.intro rfl (And.intro rfl (And.intro rfl (And.intro rfl trivial)))))))))) fun j => ?_
                    rcases ite_some hF with ⟨hb648, hF⟩ | ⟨hb648, hF⟩
                    · refine wpn_cT (congrArg Value.bool hb648) ?_
                      refine wpn_sk ?_
                      refine wpn_bl ?_
                      refine wpn_assoc ?_
                      refine wpn_qa hO [] [(0, .slice A0 p0.length c0), (7, .slice A581 x584.length c582), (8, .int .i64 x586), (10, .slice A587 x590.length c588), (11, .int .i64 (IntKind.i64.wrap ((IntKind.i64.wrap (x252 + y509)) + y514))), (12, .int .i64 x253), (13, .slice A487 c482.1.length c488), (16, .pointer (some ⟨b524, 0, none⟩)), (17, .int .i64 x598), (99, .bool (decide (x586 ≥ (p0.length : Int))))] (And.intro rfl (And.intro rfl (And.intro rfl (And.intro rfl (And.intro rfl (And.intro rfl (And.intro rfl (And.intro rfl (And.intro rfl (And.intro rfl trivial)))))))))) fun j => ?_
                      rcases ite_some hF with ⟨hb649, hF⟩ | ⟨hb649, hF⟩
                      · refine wpn_cT (congrArg Value.bool hb649) ?_
                        refine wpn_assoc ?_
                        refine wpn_qa hO [] [(4, .slice none 0 0), (5, .int .i64 0), (6, .int .i64 5)] (And.intro rfl (And.intro rfl (And.intro rfl trivial))) fun j => ?_
                        refine wpn_rt ?_
                        refine inb_r1 ?_
                        refine thn_r1 ?_
                        refine thn_r1 ?_
                        refine inb_r1 ?_
                        refine thn_r1 ?_
                        refine inb_r1 ?_
                        refine thn_r1 ?_
                        refine thn_r1 ?_
                        refine inb_r1 ?_
                        refine thn_r1 ?_
                        injection hF with hF
                        subst hF
                        have hO := hO.sel [] (by decide)
                        exact hQ _ _ _ _ _ rfl hO hL ⟨_, rfl, rfl, (RdT.nil _ _)⟩
                      · refine wpn_cF (congrArg Value.bool hb649) ?_
                        refine wpn_sk ?_
                        refine wpn_q hO 3 [] [(0, .slice A0 p0.length c0), (7, .slice A581 x584.length c582), (8, .int .i64 x586), (10, .slice A587 x590.length c588), (11, .int .i64 (IntKind.i64.wrap ((IntKind.i64.wrap (x252 + y509)) + y514))), (12, .int .i64 x253), (13, .slice A487 c482.1.length c488), (16, .pointer (some ⟨b524, 0, none⟩)), (17, .int .i64 x598), (101, .slice A0 p0.length c0), (103, .int .i64 (IntKind.i64.wrap (x586 + 1)))] (And.intro rfl (And.intro rfl (And.intro rfl (And.intro rfl (And.intro rfl (And.intro rfl (And.intro rfl (And.intro rfl (And.intro rfl (And.intro rfl (And.intro rfl trivial))))))))))) fun j => ?_
                        obtain ⟨c650, h651, hF⟩ := bind_some hF
                        refine wpn_c0 hO (w_ref08_numbers r580 h651) rfl fun _ σ _ _ hO h652 h653 => ?_
                        have hL := hL.trans h652
                        have r580 := r580.le h652
                        have w585 := w585.le h652
                        have w591 := w591.le h652
                        have r592 := r592.le h652
                        have w597 := w597.le h652
                        obtain ⟨v654, o657, rfl, rfl, w658⟩ := h653
                        obtain ⟨A655, c656, rfl, -⟩ := w658.form
                        have hO : Obs _ _ [_, _, _, _, _] := hO
                        refine wpn_qa hO [] [(0, .slice A0 p0.length c0), (7, .slice A581 x584.length c582), (8, .int .i64 x586), (10, .slice A587 x590.length c588), (11, .int .i64 (IntKind.i64.wrap ((IntKind.i64.wrap (x252 + y509)) + y514))), (12, .int .i64 x253), (13, .slice A487 c482.1.length c488), (16, .pointer (some ⟨b524, 0, none⟩)), (17, .int .i64 x598), (18, .slice A655 c650.1.length c656), (19, .int .i64 c650.2.1), (20, .bool c650.2.2)] (And.intro rfl (And.intro rfl (And.intro rfl (And.intro rfl (And.intro rfl (And.intro rfl (And.intro rfl (And.intro rfl (And.intro rfl (And.intro rfl (And.intro rfl (And.intro rfl trivial)))))))))))) fun j => ?_
                        refine wpn_assoc ?_
                        refine wpn_qa hO [] [(0, .slice A0 p0.length c0), (7, .slice A581 x584.length c582), (8, .int .i64 x586), (10, .slice A587 x590.length c588), (11, .int .i64 (IntKind.i64.wrap ((IntKind.i64.wrap (x252 + y509)) + y514))), (12, .int .i64 x253), (13, .slice A487 c482.1.length c488), (16, .pointer (some ⟨b524, 0, none⟩)), (17, .int .i64 x598), (18, .slice A655 c650.1.length c656), (19, .int .i64 c650.2.1), (109, .bool (!c650.2.2))] (And.intro rfl (And.intro rfl (And.intro rfl (And.intro rfl (And.intro rfl (And.intro rfl (And.intro rfl (And.intro rfl (And.intro rfl (And.intro rfl (And.intro rfl (And.intro rfl trivial)))))))))))) fun j => ?_
                        rcases ite_some hF with ⟨hb659, hF⟩ | ⟨hb659, hF⟩
                        · refine wpn_cT (congrArg Value.bool hb659) ?_
                          refine wpn_assoc ?_
                          refine wpn_qa hO [] [(4, .slice none 0 0), (5, .int .i64 0), (6, .int .i64 5)] (And.intro rfl (And.intro rfl (And.intro rfl trivial))) fun j => ?_
                          refine wpn_rt ?_
                          refine inb_r1 ?_
                          refine thn_r1 ?_
                          refine thn_r1 ?_
                          refine inb_r1 ?_
                          refine thn_r1 ?_
                          refine inb_r1 ?_
                          refine thn_r1 ?_
                          refine thn_r1 ?_
                          refine inb_r1 ?_
                          refine thn_r1 ?_
                          injection hF with hF
                          subst hF
                          have hO := hO.sel [] (by decide)
                          exact hQ _ _ _ _ _ rfl hO hL ⟨_, rfl, rfl, (RdT.nil _ _)⟩
                        · refine wpn_cF (congrArg Value.bool hb659) ?_
                          refine wpn_sk ?_
                          refine wpn_p2r ?_
                          refine wpn_q hO 4 [2] [(0, .slice A0 p0.length c0), (7, .slice A581 x584.length c582), (10, .slice A587 x590.length c588), (11, .int .i64 (IntKind.i64.wrap ((IntKind.i64.wrap (x252 + y509)) + y514))), (12, .int .i64 x253), (13, .slice A487 c482.1.length c488), (16, .pointer (some ⟨b524, 0, none⟩)), (17, .int .i64 x598), (18, .slice A655 c650.1.length c656), (19, .int .i64 c650.2.1), (110, .pointer (some ⟨b524, 3, none⟩)), (111, .slice A593 x596.length c594), (112, .slice A0 p0.length c0), (113, .int .i64 x586)] (And.intro (And.intro rfl rfl) (And.intro rfl (And.intro rfl (And.intro rfl (And.intro rfl (And.intro rfl (And.intro rfl (And.intro rfl (And.intro rfl (And.intro rfl (And.intro rfl (And.intro rfl (And.intro rfl (And.intro rfl (And.intro rfl trivial))))))))))))))) fun j => ?_
                          obtain ⟨y660, g661, hF⟩ := bind_some hF
                          refine wpn_idx (T := Ty.u8) r580 hO.base rfl rfl g661 (by decide) fun a662 _ k663 m664 => ?_
                          obtain rfl : _ = ([.int .u8 y660.toNat] : List Value) := k663
                          refine wpn_ld rfl (m664.le hO.base).fst ?_
                          refine wpn_q hO 2 [] [(0, .slice A0 p0.length c0), (7, .slice A581 x584.length c582), (10, .slice A587 x590.length c588), (11, .int .i64 (IntKind.i64.wrap ((IntKind.i64.wrap (x252 + y509)) + y514))), (12, .int .i64 x253), (13, .slice A487 c482.1.length c488), (16, .pointer (some ⟨b524, 0, none⟩)), (17, .int .i64 x598), (19, .int .i64 c650.2.1), (110, .pointer (some ⟨b524, 3, none⟩)), (111, .slice A593 x596.length c594), (116, .int .i64 (IntKind.i64.wrap (y660.toNat : Int))), (117, .slice A655 c650.1.length c656)] (And.intro rfl (And.intro rfl (And.intro rfl (And.intro rfl (And.intro rfl (And.intro rfl (And.intro rfl (And.intro rfl (And.intro rfl (And.intro rfl (And.intro rfl (And.intro rfl (And.intro rfl trivial))))))))))))) fun j => ?_
                          obtain ⟨y665, g666, hF⟩ := bind_some hF
                          refine wpn_ido (T := (Ty.int .i64)) hO w658 (i := 4) rfl rfl rfl g666 (by decide) fun a667 _ k668 m669 i670 => ?_
                          have k671 := k668
                          obtain rfl : _ = ([.int .i64 y665] : List Value) := k671
                          refine wpn_ld rfl m669.fst ?_
                          refine wpn_q hO 2 [] [(0, .slice A0 p0.length c0), (7, .slice A581 x584.length c582), (10, .slice A587 x590.length c588), (11, .int .i64 (IntKind.i64.wrap ((IntKind.i64.wrap (x252 + y509)) + y514))), (12, .int .i64 x253), (13, .slice A487 c482.1.length c488), (16, .pointer (some ⟨b524, 0, none⟩)), (17, .int .i64 x598), (19, .int .i64 c650.2.1), (110, .pointer (some ⟨b524, 3, none⟩)), (111, .slice A593 x596.length c594), (121, .agg #[(.int .i64 (IntKind.i64.wrap (y660.toNat : Int))), (.int .i64 (IntKind.i64.wrap (0 - y665)))])] (And.intro rfl (And.intro rfl (And.intro rfl (And.intro rfl (And.intro rfl (And.intro rfl (And.intro rfl (And.intro rfl (And.intro rfl (And.intro rfl (And.intro rfl (And.intro rfl trivial)))))))))))) fun j => ?_
                          refine wpn_late ?_
                          refine wpn_lit (T := TyS_api_Saved) (l := ([(⟨(IntKind.i64.wrap (y660.toNat : Int)), (IntKind.i64.wrap (0 - y665))⟩ : S_api_Saved)] : List S_api_Saved)) (cs := [.int .i64 (IntKind.i64.wrap (y660.toNat : Int)), .int .i64 (IntKind.i64.wrap (0 - y665))]) hO rfl ⟨[.int .i64 (IntKind.i64.wrap (y660.toNat : Int)), .int .i64 (IntKind.i64.wrap (0 - y665))], _, rfl, rfl, rfl⟩ rfl (by decide) fun _ σ o674 w675 hO => ?_
                          obtain ⟨A672, c673, rfl, -⟩ := w675.form
                          have hO : Obs _ _ [_, _, _, _, _, _] := hO
                          refine wpn_nil ?_
                          refine wpn_ag ⟨again_ld rfl (hO.lookV1 (i := 2) rfl rfl) rfl, trivial⟩ ?_
                          obtain ⟨_, hr, hF⟩ := bind_some hF
                          refine wpn_apf (T := TyS_api_Saved) TyS_api_Saved_flat hO w597 (i := 3) rfl rfl rfl (w675.rd hO (i := 5) rfl) hr (by decide) fun _ σ o678 w679 hO => ?_
                          obtain ⟨A676, c677, rfl, -⟩ := w679.form
                          have hO : Obs _ _ [_, _, _, _, _, _] := hO
                          refine wpn_q hO 1 [] [(0, .slice A0 p0.length c0), (7, .slice A581 x584.length c582), (10, .slice A587 x590.length c588), (11, .int .i64 (IntKind.i64.wrap ((IntKind.i64.wrap (x252 + y509)) + y514))), (12, .int .i64 x253), (13, .slice A487 c482.1.length c488), (16, .pointer (some ⟨b524, 0, none⟩)), (17, .int .i64 x598), (19, .int .i64 c650.2.1), (123, .slice A676 (x596 ++ ([(⟨(IntKind.i64.wrap (y660.toNat : Int)), (IntKind.i64.wrap (0 - y665))⟩ : S_api_Saved)] : List S_api_Saved)).length c677), (124, .pointer (some ⟨b524, 3, none⟩))] (And.intro rfl (And.intro rfl (And.intro rfl (And.intro rfl (And.intro rfl (And.intro rfl (And.intro rfl (And.intro rfl (And.intro rfl (And.intro rfl (And.intro rfl trivial))))))))))) fun j => ?_
                          refine wpn_st hO (i := 2) rfl (off := 3) rfl rfl rfl rfl (Nat.le_of_ble_eq_true rfl) rfl fun σ hO => ?_
                          have hO : Obs _ _ [_, _, _, _, _, _] := hO
                          refine wpn_nil ?_
                          refine wpn_rlast ?_
                          refine wpn_qa hO [] [(0, .slice A0 p0.length c0), (7, .slice A581 x584.length c582), (8, .int .i64 c650.2.1), (10, .slice A587 x590.length c588), (11, .int .i64 (IntKind.i64.wrap ((IntKind.i64.wrap (x252 + y509)) + y514))), (12, .int .i64 x253), (13, .slice A487 c482.1.length c488), (16, .pointer (some ⟨b524, 0, none⟩)), (17, .int .i64 x598)] (And.intro rfl (And.intro rfl (And.intro rfl (And.intro rfl (And.intro rfl (And.intro rfl (And.intro rfl (And.intro rfl (And.intro rfl trivial))))))))) fun j => ?_
                          refine wpn_end ?_
                          refine inb_i ?_
                          refine thn_i ?_
                          refine wpn_rlast ?_
                          refine wpn_qa hO [] [(0, .slice A0 p0.length c0), (7, .slice A581 x584.length c582), (8, .int .i64 c650.2.1), (10, .slice A587 x590.length c588), (11, .int .i64 (IntKind.i64.wrap ((IntKind.i64.wrap (x252 + y509)) + y514))), (12, .int .i64 x253), (13, .slice A487 c482.1.length c488), (16, .pointer (some ⟨b524, 0, none⟩)), (17, .int .i64 (IntKind.i64.wrap (x598 + 1)))] (And.intro rfl (And.intro rfl (And.intro rfl (And.intro rfl (And.intro rfl (And.intro rfl (And.intro rfl (And.intro rfl (And.intro rfl trivial))))))))) fun j => ?_
                          refine wpn_end ?_
                          refine thn_i ?_
                          have hO := hO.sel [0, 1, 2, 3] (by decide)
                          exact ⟨n642, Nat.lt_succ_self _, A581, c582, o583, x584, c650.2.1, A587, c588, o589, x590, A676, c677, o678, (x596 ++ ([(⟨(IntKind.i64.wrap (y660.toNat : Int)), (IntKind.i64.wrap (0 - y665))⟩ : S_api_Saved)] : List S_api_Saved)), (IntKind.i64.wrap (x598 + 1)), _, And.intro rfl (And.intro rfl (And.intro rfl (And.intro rfl (And.intro rfl (And.intro rfl (And.intro rfl (And.intro rfl (And.intro rfl trivial)))))))), hO, hL, r580, w585, w591, r592, w679, hF⟩
                    · refine wpn_cF (congrArg Value.bool hb648) ?_
                      refine wpn_ex ?_
                      refine thn_x ?_
                      refine inb_x ?_
                      refine thn_i ?_
                      refine wpn_rlast ?_
                      refine wpn_q hO 2 [2] [(0, .slice A0 p0.length c0), (7, .slice A581 x584.length c582), (8, .int .i64 x586), (11, .int .i64 (IntKind.i64.wrap ((IntKind.i64.wrap (x252 + y509)) + y514))), (12, .int .i64 x253), (126, .slice A587 x590.length c588), (127, .agg #[(.int .i64 (IntKind.i64.wrap (x252 + y504))), (.int .i64 (IntKind.i64.wrap ((IntKind.i64.wrap (x252 + y509)) + y514))), (.int .i64 y519), (.slice A593 x596.length c594)])] (And.intro (And.intro rfl rfl) (And.intro rfl (And.intro rfl (And.intro rfl (And.intro rfl (And.intro rfl (And.intro rfl (And.intro rfl trivial)))))))) fun j => ?_
                      obtain ⟨_, h681, r680, hO⟩ := w597.share hO (i := 3) rfl
                      have hL := hL.trans h681
                      have r580 := r580.le h681
                      have w585 := w585.le h681
                      have w591 := w591.le h681
                      have hO : Obs _ _ [_, _, _, _] := hO
                      obtain ⟨_, hr, hF⟩ := bind_some hF
                      refine wpn_ap1 (T := TyS_api_Unwind) (y := (⟨(IntKind.i64.wrap (x252 + y504)), (IntKind.i64.wrap ((IntKind.i64.wrap (x252 + y509)) + y514)), y519, x596⟩ : S_api_Unwind)) hO w591 (i := 1) rfl rfl (fun _ => rfl) rfl ⟨_, rfl, r680⟩ rfl hr (by decide) fun u _ σ o684 w685 hO => ?_
                      obtain ⟨A682, c683, rfl, -⟩ := w685.form
                      have hO : Obs _ _ [_, _, _, _] := hO
                      refine wpn_qa hO [] [(0, .slice A0 p0.length c0), (7, .slice A581 x584.length c582), (8, .int .i64 x586), (10, .slice A682 (x590 ++ [(⟨(IntKind.i64.wrap (x252 + y504)), (IntKind.i64.wrap ((IntKind.i64.wrap (x252 + y509)) + y514)), y519, x596⟩ : S_api_Unwind)]).length c683), (11, .int .i64 (IntKind.i64.wrap ((IntKind.i64.wrap (x252 + y509)) + y514))), (12, .int .i64 x253)] (And.intro rfl (And.intro rfl (And.intro rfl (And.intro rfl (And.intro rfl (And.intro rfl trivial)))))) fun j => ?_
                      refine wpn_end ?_
                      refine inb_i ?_
                      refine thn_i ?_
                      refine wpn_rlast ?_
                      refine wpn_qa hO [] [(0, .slice A0 p0.length c0), (7, .slice A581 x584.length c582), (8, .int .i64 x586), (10, .slice A682 (x590 ++ [(⟨(IntKind.i64.wrap (x252 + y504)), (IntKind.i64.wrap ((IntKind.i64.wrap (x252 + y509)) + y514)), y519, x596⟩ : S_api_Unwind)]).length c683), (11, .int .i64 (IntKind.i64.wrap ((IntKind.i64.wrap (x252 + y509)) + y514))), (12, .int .i64 (IntKind.i64.wrap (x253 + 1)))] (And.intro rfl (And.intro rfl (And.intro rfl (And.intro rfl (And.intro rfl (And.intro rfl trivial)))))) fun j => ?_
                      refine wpn_end ?_
                      refine thn_i ?_
                      have hO := hO.sel [0, 1] (by decide)
                      exact ⟨n473, Nat.lt_succ_self _, A581, c582, o583, x584, x586, A682, c683, o684, (x590 ++ [(⟨(IntKind.i64.wrap (x252 + y504)), (IntKind.i64.wrap ((IntKind.i64.wrap (x252 + y509)) + y514)), y519, x596⟩ : S_api_Unwind)]), (IntKind.i64.wrap ((IntKind.i64.wrap (x252 + y509)) + y514)), (IntKind.i64.wrap (x253 + 1)), _, And.intro rfl (And.intro rfl (And.intro rfl (And.intro rfl (And.intro rfl (And.intro rfl trivial))))), hO, hL, r580, w585, w685, hF⟩
          · refine wpn_cF (congrArg Value.bool hb481) ?_
            refine wpn_ex ?_
            refine thn_x ?_
            refine inb_x ?_
            refine thn_i ?_
            refine wpn_assoc ?_
            refine wpn_q hO 1 [] [(8, .int .i64 x246), (10, .slice A247 x250.length c248), (130, .slice A247 x250.length c248)] (And.intro rfl (And.intro rfl (And.intro rfl trivial))) fun j => ?_
            obtain ⟨_, h687, r686, hO⟩ := w251.share hO (i := 1) rfl
            have hL := hL.trans h687
            have hO : Obs _ _ [_, _] := hO
            obtain ⟨c688, h689, hF⟩ := bind_some hF
            refine wpn_c0 hO (w_ref08_Right r686 h689) rfl fun _ σ _ _ hO h690 h691 => ?_
            have hL := hL.trans h690
            have r686 := r686.le h690
            obtain ⟨rfl, rfl⟩ := h691
            have hO : Obs _ _ [_, _] := hO
            refine wpn_qa hO [] [(8, .int .i64 x246), (10, .slice A247 x250.length c248), (132, .bool (!c688))] (And.intro rfl (And.intro rfl (And.intro rfl trivial))) fun j => ?_
            rcases ite_some hF with ⟨hb692, hF⟩ | ⟨hb692, hF⟩
            · refine wpn_cT (congrArg Value.bool hb692) ?_
              refine wpn_assoc ?_
              refine wpn_qa hO [] [(4, .slice none 0 0), (5, .int .i64 0), (6, .int .i64 5)] (And.intro rfl (And.intro rfl (And.intro rfl trivial))) fun j => ?_
              refine wpn_rt ?_
              injection hF with hF
              subst hF
              have hO := hO.sel [] (by decide)
              exact hQ _ _ _ _ _ rfl hO hL ⟨_, rfl, rfl, (RdT.nil _ _)⟩
            · refine wpn_cF (congrArg Value.bool hb692) ?_
              refine wpn_sk ?_
              refine wpn_qa hO [] [(4, .slice A247 x250.length c248), (5, .int .i64 x246), (6, .int .i64 0)] (And.intro rfl (And.intro rfl (And.intro rfl trivial))) fun j => ?_
              refine wpn_r1 ?_
              injection hF with hF
              subst hF
              have hO := hO.sel [] (by decide)
              exact hQ _ _ _ _ _ rfl hO hL ⟨_, rfl, rfl, r686⟩
theorem w_law08_UnwindGets {τ : Hp} {v0 : Value} {p0 : (List UInt8)} {p1 : Int} (r0 : RdT Ty.u8 τ v0 p0) {rr : Bool} (hF : F_law08_UnwindGets p0 p1 = some rr) :
    Ctr Try.prog 4 #[v0, .int .i64 p1] τ [] (fun v τ' vs' => v = .bool rr ∧ vs' = []) := by
  obtain ⟨A0, c0, rfl, -⟩ := r0.form
  refine ctr_of (args := [.slice A0 p0.length c0, .int .i64 p1]) hm Try.func4 s4 rfl fun w0 σ hO Q hQ => ?_
  unfold F_law08_UnwindGets at hF
  have hL := Hp.le.refl τ
  show wpn _ _ a4.body _ _ _
  unfold a4
  dsimp only
  refine wpn_qa hO [] [(0, .slice A0 p0.length c0), (1, .int .i64 p1)] (And.intro rfl (And.intro rfl trivial)) fun j => ?_
  refine wpn_assoc ?_
  refine wpn_qa hO [] [(0, .slice A0 p0.length c0), (1, .int .i64 p1), (14, .bool (decide ((p0.length : Int) > 8192)))] (And.intro rfl (And.intro rfl (And.intro rfl trivial))) fun j => ?_
  rcases ite_some hF with ⟨hb3, hF⟩ | ⟨hb3, hF⟩
  · refine wpn_cT (congrArg Value.bool hb3) ?_
    refine wpn_assoc ?_
    obtain ⟨c4, h5, hF⟩ := bind_some hF
    refine wpn_c0 hO (w_law08_works h5) rfl fun _ σ _ _ hO h6 h7 => ?_
    have hL := hL.trans h6
    have r0 := r0.le h6
    obtain ⟨rfl, rfl⟩ := h7
    have hO : Obs _ _ [] := hO
    refine wpn_qa hO [] [(4, .bool c4)] (And.intro rfl trivial) fun j => ?_
    refine wpn_rt ?_
    injection hF with hF
    subst hF
    exact hQ _ _ _ _ _ rfl hO hL ⟨rfl, rfl⟩
  · refine wpn_cF (congrArg Value.bool hb3) ?_
    refine wpn_sk ?_
    refine wpn_q hO 1 [] [(0, .slice A0 p0.length c0), (1, .int .i64 p1), (16, .slice A0 p0.length c0)] (And.intro rfl (And.intro rfl (And.intro rfl trivial))) fun j => ?_
    obtain ⟨c8, h9, hF⟩ := bind_some hF
    refine wpn_c0 hO (w_ref00_Roomy r0 h9) rfl fun _ σ _ _ hO h10 h11 => ?_
    have hL := hL.trans h10
    have r0 := r0.le h10
    obtain ⟨v12, rfl, rfl, r15, f16⟩ := h11
    obtain ⟨A13, n17, rfl, f16⟩ := f16
    obtain ⟨_, _, h18, -⟩ := r15.form
    injection h18 with _ h18 _
    subst h18
    have f16 : Full Ty.u8 _ (.slice A13 c8.1.length c8.2.length) c8.2 := ⟨_, _, rfl, f16⟩
    have hO : Obs _ _ [] := hO
    refine wpn_qa hO [] [(0, .slice A0 p0.length c0), (1, .int .i64 p1), (5, .slice A13 c8.1.length c8.2.length)] (And.intro rfl (And.intro rfl (And.intro rfl trivial))) fun j => ?_
    refine wpn_q hO 2 [] [(0, .slice A0 p0.length c0), (1, .int .i64 p1), (5, .slice A13 c8.1.length c8.2.length), (19, .slice A13 c8.1.length c8.2.length), (20, .int .i64 p1)] (And.intro rfl (And.intro rfl (And.intro rfl (And.intro rfl (And.intro rfl trivial))))) fun j => ?_
    obtain ⟨c19, h20, hF⟩ := bind_some hF
    refine wpn_c0 hO (w_unwind_Get r15 h20) rfl fun _ σ _ _ hO h21 h22 => ?_
    have hL := hL.trans h21
    have r0 := r0.le h21
    have r15 := r15.le h21
    have f16 := f16.le h21
    obtain ⟨v23, rfl, rfl, r26⟩ := h22
    obtain ⟨A24, c25, rfl, -⟩ := r26.form
    have hO : Obs _ _ [] := hO
    refine wpn_qa hO [] [(0, .slice A0 p0.length c0), (1, .int .i64 p1), (5, .slice A13 c8.1.length c8.2.length), (6, .slice A24 c19.1.length c25), (7, .int .i64 c19.2.1), (8, .int .i64 c19.2.2)] (And.intro rfl (And.intro rfl (And.intro rfl (And.intro rfl (And.intro rfl (And.intro rfl trivial)))))) fun j => ?_
    refine wpn_q hO 2 [] [(0, .slice A0 p0.length c0), (5, .slice A13 c8.1.length c8.2.length), (6, .slice A24 c19.1.length c25), (7, .int .i64 c19.2.1), (8, .int .i64 c19.2.2), (26, .slice A0 p0.length c0), (27, .int .i64 p1)] (And.intro rfl (And.intro rfl (And.intro rfl (And.intro rfl (And.intro rfl (And.intro rfl (And.intro rfl trivial))))))) fun j => ?_
    obtain ⟨c27, h28, hF⟩ := bind_some hF
    refine wpn_c0 hO (w_ref08_Get r0 h28) rfl fun _ σ _ _ hO h29 h30 => ?_
    have hL := hL.trans h29
    have r0 := r0.le h29
    have r15 := r15.le h29
    have f16 := f16.le h29
    have r26 := r26.le h29
    obtain ⟨v31, rfl, rfl, r34⟩ := h30
    obtain ⟨A32, c33, rfl, -⟩ := r34.form
    have hO : Obs _ _ [] := hO
    refine wpn_qa hO [] [(0, .slice A0 p0.length c0), (5, .slice A13 c8.1.length c8.2.length), (6, .slice A24 c19.1.length c25), (7, .int .i64 c19.2.1), (8, .int .i64 c19.2.2), (9, .slice A32 c27.1.length c33), (10, .int .i64 c27.2.1), (11, .int .i64 c27.2.2)] (And.intro rfl (And.intro rfl (And.intro rfl (And.intro rfl (And.intro rfl (And.intro rfl (And.intro rfl (And.intro rfl trivial)))))))) fun j => ?_
    refine wpn_q hO 2 [] [(0, .slice A0 p0.length c0), (5, .slice A13 c8.1.length c8.2.length), (7, .int .i64 c19.2.1), (8, .int .i64 c19.2.2), (10, .int .i64 c27.2.1), (11, .int .i64 c27.2.2), (32, .slice A24 c19.1.length c25), (33, .slice A32 c27.1.length c33)] (And.intro rfl (And.intro rfl (And.intro rfl (And.intro rfl (And.intro rfl (And.intro rfl (And.intro rfl (And.intro rfl trivial)))))))) fun j => ?_
    obtain ⟨c35, h36, hF⟩ := bind_some hF
    refine wpn_c0 hO (w_ref08_Same r26 r34 h36) rfl fun _ σ _ _ hO h37 h38 => ?_
    have hL := hL.trans h37
    have r0 := r0.le h37
    have r15 := r15.le h37
    have f16 := f16.le h37
    have r26 := r26.le h37
    have r34 := r34.le h37
    obtain ⟨rfl, rfl⟩ := h38
    have hO : Obs _ _ [] := hO
    refine wpn_q hO 7 [] [(0, .slice A0 p0.length c0), (5, .slice A13 c8.1.length c8.2.length), (45, .bool ((c35 && (c19.2.1 == c27.2.1)) && (c19.2.2 == c27.2.2)))] (And.intro (And.intro rfl rfl) (fun _ => And.intro (And.intro rfl rfl) (fun _ => And.intro rfl (And.intro rfl (And.intro rfl trivial))))) fun j => ?_
    obtain ⟨c39, h40, hF⟩ := bind_some hF
    refine wpn_mid 2 (fun e' σ' => ∃ (τ' : Hp), agr [(49, .bool c39)] e' ∧ Obs τ' σ' [] ∧ Hp.le τ τ') ?_ ?_
    · have hF := h40
      rcases ite_some hF with ⟨hb41, hF⟩ | ⟨hb41, hF⟩
      · refine wpn_gT (congrArg (fun x => isB (.bool x) true) hb41) ?_
        refine wpn_q hO 2 [] [(45, .bool ((c35 && (c19.2.1 == c27.2.1)) && (c19.2.2 == c27.2.2))), (46, .slice A13 c8.1.length c8.2.length), (47, .slice A0 p0.length c0)] (And.intro rfl (And.intro rfl (And.intro rfl trivial))) fun j => ?_
        obtain ⟨c42, h43, hF⟩ := bind_some hF
        refine wpn_c0 hO (w_ref00_Kept r15 f16 r0 h43) rfl fun _ σ _ _ hO h44 h45 => ?_
        have hL := hL.trans h44
        have r15 := r15.le h44
        have f16 := f16.le h44
        have r0 := r0.le h44
        obtain ⟨rfl, rfl⟩ := h45
        have hO : Obs _ _ [] := hO
        refine wpn_pk (congrArg Value.bool hb41) ?_
        refine wpn_nil ?_
        injection hF with hF
        subst hF
        refine wpn_end ?_
        exact ⟨rfl, _, And.intro rfl (trivial), hO, hL⟩
      · refine wpn_gF (congrArg (fun x => isB (.bool x) true) hb41) ?_
        refine wpn_pk (congrArg Value.bool hb41) ?_
        refine wpn_nil ?_
        injection hF with hF
        subst hF
        refine wpn_end ?_
        exact ⟨rfl, _, And.intro rfl (trivial), hO, hL⟩
    · rintro e σ ⟨_, hA, hO, hL⟩
      rw [← sets_agr _ _ hA]
      refine wpn_q hO 1 [] [(50, .bool c39)] (And.intro rfl trivial) fun j => ?_
      obtain ⟨c46, h47, hF⟩ := bind_some hF
      refine wpn_mid 2 (fun e' σ' => ∃ (τ' : Hp), agr [(52, .bool c46)] e' ∧ Obs τ' σ' [] ∧ Hp.le τ τ') ?_ ?_
      · have hF := h47
        rcases ite_some hF with ⟨hb48, hF⟩ | ⟨hb48, hF⟩
        · refine wpn_gT (congrArg (fun x => isB (.bool x) true) hb48) ?_
          obtain ⟨c49, h50, hF⟩ := bind_some hF
          refine wpn_c0 hO (w_law08_works h50) rfl fun _ σ _ _ hO h51 h52 => ?_
          have hL := hL.trans h51
          obtain ⟨rfl, rfl⟩ := h52
          have hO : Obs _ _ [] := hO
          refine wpn_pk (congrArg Value.bool hb48) ?_
          refine wpn_nil ?_
          injection hF with hF
          subst hF
          refine wpn_end ?_
          exact ⟨rfl, _, And.intro rfl (trivial), hO, hL⟩
        · refine wpn_gF (congrArg (fun x => isB (.bool x) true) hb48) ?_
          refine wpn_pk (congrArg Value.bool hb48) ?_
          refine wpn_nil ?_
          injection hF with hF
          subst hF
          refine wpn_end ?_
          exact ⟨rfl, _, And.intro rfl (trivial), hO, hL⟩
      · rintro e σ ⟨_, hA, hO, hL⟩
        rw [← sets_agr _ _ hA]
        refine wpn_qa hO [] [(4, .bool c46)] (And.intro rfl trivial) fun j => ?_
        refine wpn_r1 ?_
        injection hF with hF
        subst hF
        exact hQ _ _ _ _ _ rfl hO hL ⟨rfl, rfl⟩
end Go.Proofs.Ytneonhnackjdjaa
