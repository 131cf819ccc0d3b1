import Derived.Test.YtnaafaopdefigaaF
import Derived.Test.YtnaafaopdefigaaAc0
import Derived.Test.YtnaafaopdefigaaM00
import Derived.Test.YtnaafaopdefigaaM02
import Derived.Test.YtnaafaopdefigaaG1
namespace Go.Proofs.Ytnaafaopdefigaa
open Go.Ab Go.RowKit
set_option linter.unusedVariables false
set_option linter.unusedSimpArgs false
set_option maxRecDepth 10000
theorem w_law03_IsaJumps {τ : Hp} {p0 : Int} {p1 : Int} {p2 : Int}  {rr : Bool} (hF : F_law03_IsaJumps p0 p1 p2 = some rr) :
    Ctr Try.prog 7 #[.int .i64 p0, .int .i64 p1, .int .i64 p2] τ [] (fun v τ' vs' => v = .bool rr ∧ vs' = []) := by
  refine ctr_of (args := [.int .i64 p0, .int .i64 p1, .int .i64 p2]) hm Try.func7 s7 rfl fun w0 σ hO Q hQ => ?_
  unfold F_law03_IsaJumps at hF
  have hL := Hp.le.refl τ
  show wpn _ _ a7.body _ _ _
  unfold a7
  dsimp only
  refine wpn_qa hO [] [(0, .int .i64 p0), (1, .int .i64 p1), (2, .int .i64 p2)] (And.intro rfl (And.intro rfl (And.intro rfl trivial))) fun j => ?_
  refine wpn_lit (T := Ty.u8) (l := ([(10 : UInt8), (11 : UInt8), (12 : UInt8)] : List UInt8)) (cs := [.int .u8 10, .int .u8 11, .int .u8 12]) hO rfl ⟨[.int .u8 10], _, rfl, rfl, ⟨[.int .u8 11], _, rfl, rfl, ⟨[.int .u8 12], _, rfl, rfl, rfl⟩⟩⟩ rfl (by decide) fun _ σ o6 w7 hO => ?_
  obtain ⟨A4, c5, rfl, -⟩ := w7.form
  have hO : Obs _ _ [_] := hO
  refine wpn_qa hO [] [(0, .int .i64 p0), (1, .int .i64 p1), (2, .int .i64 p2), (7, .slice A4 ([(10 : UInt8), (11 : UInt8), (12 : UInt8)] : List UInt8).length c5)] (And.intro rfl (And.intro rfl (And.intro rfl (And.intro rfl trivial)))) fun j => ?_
  refine wpn_assoc ?_
  refine wpn_qa hO [] [(0, .int .i64 p0), (1, .int .i64 p1), (2, .int .i64 p2), (7, .slice A4 ([(10 : UInt8), (11 : UInt8), (12 : UInt8)] : List UInt8).length c5), (8, .int .i64 0)] (And.intro rfl (And.intro rfl (And.intro rfl (And.intro rfl (And.intro rfl trivial))))) fun j => ?_
  refine wpn_bl ?_
  refine wpn_lp (fun (n : Nat) e' σ' => ∃ (A91 : Option Addr) (c92 : Nat) (o93 : Ob) (x94 : List UInt8) (x96 : Int) (τ' : Hp), agr [(0, .int .i64 p0), (1, .int .i64 p1), (2, .int .i64 p2), (7, .slice A91 x94.length c92), (8, .int .i64 x96)] e' ∧ Obs τ' σ' [o93] ∧ Hp.le τ τ' ∧ OwnO Ty.u8 5 τ' (.slice A91 x94.length c92) x94 o93 ∧ F_law03_IsaJumps_l8 p0 p1 p2 n x94 x96 = some rr) big ⟨A4, c5, o6, ([(10 : UInt8), (11 : UInt8), (12 : UInt8)] : List UInt8), 0, _, And.intro rfl (And.intro rfl (And.intro rfl (And.intro rfl (And.intro rfl trivial)))), hO, hL, w7, hF⟩ ?_
  clear hF hO hL
  rintro n175 e σ ⟨A91, c92, o93, x94, x96, _, hA, hO, hL, w95, hF⟩
  rw [← sets_agr _ _ hA]
  cases n175 with
  | zero => exact nomatch (show none = some rr from hF)
  | succ n175 =>
    replace hF : F_law03_IsaJumps_l8B (F_law03_IsaJumps_l8 p0 p1 p2 n175) p0 p1 p2 x94 x96 = some rr := hF
    unfold F_law03_IsaJumps_l8B at hF
    refine wpn_assoc ?_
    refine wpn_qa hO [] [(0, .int .i64 p0), (1, .int .i64 p1), (2, .int .i64 p2), (7, .slice A91 x94.length c92), (8, .int .i64 x96), (16, .bool (decide (x96 < (x94.length : Int))))] (And.intro rfl (And.intro rfl (And.intro rfl (And.intro rfl (And.intro rfl (And.intro rfl trivial)))))) fun j => ?_
    rcases ite_some hF with ⟨hb176, hF⟩ | ⟨hb176, hF⟩
    · refine wpn_cT (congrArg Value.bool hb176) ?_
      refine wpn_sk ?_
      refine wpn_bl ?_
      refine wpn_q hO 2 [] [(0, .int .i64 p0), (1, .int .i64 p1), (2, .int .i64 p2), (7, .slice A91 x94.length c92), (8, .int .i64 x96), (19, .slice A91 x94.length c92), (20, .int .i64 x96)] (And.intro rfl (And.intro rfl (And.intro rfl (And.intro rfl (And.intro rfl (And.intro rfl (And.intro rfl trivial))))))) fun j => ?_
      obtain ⟨y177, g178, hF⟩ := bind_some hF
      refine wpn_ido (T := Ty.u8) hO w95 (i := 0) rfl rfl rfl g178 (by decide) fun a179 _ k180 m181 i182 => ?_
      have k183 := k180
      obtain rfl : _ = ([.int .u8 y177.toNat] : List Value) := k183
      refine wpn_ld rfl m181.fst ?_
      refine wpn_q hO 2 [] [(0, .int .i64 p0), (1, .int .i64 p1), (2, .int .i64 p2), (7, .slice A91 x94.length c92), (8, .int .i64 x96), (24, .agg #[(.int .u8 (y177.toNat : Int)), (.int .u8 0), (.int .i64 0), (.int .i64 0), (.int .i64 0), (.int .i64 p1), (.int .i64 0)])] (And.intro rfl (And.intro rfl (And.intro rfl (And.intro rfl (And.intro rfl (And.intro rfl trivial)))))) fun j => ?_
      refine wpn_al hO fun b184 σ hO => ?_
      have hO : Obs _ _ [_, _] := hO
      refine wpn_st hO (i := 1) rfl (off := 0) rfl rfl rfl rfl (Nat.le_of_ble_eq_true rfl) rfl fun σ hO => ?_
      have hO : Obs _ _ [_, _] := hO
      refine wpn_nil ?_
      refine wpn_q hO 2 [] [(0, .int .i64 p0), (1, .int .i64 p1), (2, .int .i64 p2), (7, .slice A91 x94.length c92), (8, .int .i64 x96), (9, .pointer (some ⟨b184, 0, none⟩)), (25, .slice A91 x94.length c92), (26, .int .i64 x96)] (And.intro rfl (And.intro rfl (And.intro rfl (And.intro rfl (And.intro rfl (And.intro rfl (And.intro rfl (And.intro rfl trivial)))))))) fun j => ?_
      obtain ⟨y185, g186, hF⟩ := bind_some hF
      refine wpn_ido (T := Ty.u8) hO w95 (i := 0) rfl rfl rfl g186 (by decide) fun a187 _ k188 m189 i190 => ?_
      have k191 := k188
      obtain rfl : _ = ([.int .u8 y185.toNat] : List Value) := k191
      refine wpn_ld rfl m189.fst ?_
      refine wpn_q hO 2 [] [(0, .int .i64 p0), (1, .int .i64 p1), (2, .int .i64 p2), (7, .slice A91 x94.length c92), (8, .int .i64 x96), (9, .pointer (some ⟨b184, 0, none⟩)), (30, .agg #[(.int .u8 (y185.toNat : Int)), (.int .u8 0), (.int .i64 0), (.int .i64 0), (.int .i64 0), (.int .i64 p2), (.int .i64 0)])] (And.intro rfl (And.intro rfl (And.intro rfl (And.intro rfl (And.intro rfl (And.intro rfl (And.intro rfl trivial))))))) fun j => ?_
      refine wpn_al hO fun b192 σ hO => ?_
      have hO : Obs _ _ [_, _, _] := hO
      refine wpn_st hO (i := 2) rfl (off := 0) rfl rfl rfl rfl (Nat.le_of_ble_eq_true rfl) rfl fun σ hO => ?_
      have hO : Obs _ _ [_, _, _] := hO
      refine wpn_nil ?_
      refine wpn_assoc ?_
      refine wpn_q hO 2 [] [(0, .int .i64 p0), (1, .int .i64 p1), (2, .int .i64 p2), (7, .slice A91 x94.length c92), (8, .int .i64 x96), (9, .pointer (some ⟨b184, 0, none⟩)), (10, .pointer (some ⟨b192, 0, none⟩)), (31, .slice A91 x94.length c92), (32, .int .i64 x96)] (And.intro rfl (And.intro rfl (And.intro rfl (And.intro rfl (And.intro rfl (And.intro rfl (And.intro rfl (And.intro rfl (And.intro rfl trivial))))))))) fun j => ?_
      obtain ⟨y193, g194, hF⟩ := bind_some hF
      refine wpn_ido (T := Ty.u8) hO w95 (i := 0) rfl rfl rfl g194 (by decide) fun a195 _ k196 m197 i198 => ?_
      have k199 := k196
      obtain rfl : _ = ([.int .u8 y193.toNat] : List Value) := k199
      refine wpn_ld rfl m197.fst ?_
      refine wpn_qa hO [] [(0, .int .i64 p0), (1, .int .i64 p1), (2, .int .i64 p2), (7, .slice A91 x94.length c92), (8, .int .i64 x96), (9, .pointer (some ⟨b184, 0, none⟩)), (10, .pointer (some ⟨b192, 0, none⟩)), (35, .bool ((y193.toNat : Int) == 11))] (And.intro rfl (And.intro rfl (And.intro rfl (And.intro rfl (And.intro rfl (And.intro rfl (And.intro rfl (And.intro rfl trivial)))))))) fun j => ?_
      refine wpn_cut (fun e' σ' => ∃ (A201 : Option Addr) (c202 : Nat) (o203 : Ob) (x204 : List UInt8) (x206 : Int) (x207 : Int) (τ' : Hp), agr [(0, .int .i64 p0), (1, .int .i64 p1), (2, .int .i64 p2), (7, .slice A201 x204.length c202), (8, .int .i64 x96), (9, .pointer (some ⟨b184, 0, none⟩)), (10, .pointer (some ⟨b192, 0, none⟩))] e' ∧ Obs τ' σ' [o203, some (b184, ⟨[.int .u8 (y177.toNat : Int), .int .u8 0, .int .i64 x206, .int .i64 0, .int .i64 0, .int .i64 p1, .int .i64 0], 24, 7, true⟩), some (b192, ⟨[.int .u8 (y185.toNat : Int), .int .u8 0, .int .i64 x207, .int .i64 0, .int .i64 0, .int .i64 p2, .int .i64 0], 24, 7, true⟩)] ∧ Hp.le τ τ' ∧ OwnO Ty.u8 5 τ' (.slice A201 x204.length c202) x204 o203 ∧ F_law03_IsaJumps_k11 (F_law03_IsaJumps_l8 p0 p1 p2 n175) p0 p1 p2 x96 y177 y185 x204 x206 x207 = some rr) ?_ ?_
      · refine wpn_clast ?_
        rcases ite_some hF with ⟨hb249, hF⟩ | ⟨hb249, hF⟩
        · refine wpn_cT (congrArg Value.bool hb249) ?_
          refine wpn_assoc ?_
          refine wpn_q hO 2 [] [(0, .int .i64 p0), (1, .int .i64 p1), (2, .int .i64 p2), (7, .slice A91 x94.length c92), (8, .int .i64 x96), (9, .pointer (some ⟨b184, 0, none⟩)), (10, .pointer (some ⟨b192, 0, none⟩)), (36, .int .i64 p0), (37, .pointer (some ⟨b184, 2, none⟩))] (And.intro rfl (And.intro rfl (And.intro rfl (And.intro rfl (And.intro rfl (And.intro rfl (And.intro rfl (And.intro rfl (And.intro rfl trivial))))))))) fun j => ?_
          refine wpn_st hO (i := 1) rfl (off := 2) rfl rfl rfl rfl (Nat.le_of_ble_eq_true rfl) rfl fun σ hO => ?_
          have hO : Obs _ _ [_, _, _] := hO
          refine wpn_nil ?_
          refine wpn_q hO 2 [] [(0, .int .i64 p0), (1, .int .i64 p1), (2, .int .i64 p2), (7, .slice A91 x94.length c92), (8, .int .i64 x96), (9, .pointer (some ⟨b184, 0, none⟩)), (10, .pointer (some ⟨b192, 0, none⟩)), (38, .int .i64 p0), (39, .pointer (some ⟨b192, 2, none⟩))] (And.intro rfl (And.intro rfl (And.intro rfl (And.intro rfl (And.intro rfl (And.intro rfl (And.intro rfl (And.intro rfl (And.intro rfl trivial))))))))) fun j => ?_
          refine wpn_st hO (i := 2) rfl (off := 2) rfl rfl rfl rfl (Nat.le_of_ble_eq_true rfl) rfl fun σ hO => ?_
          have hO : Obs _ _ [_, _, _] := hO
          refine wpn_nil ?_
          refine wpn_end ?_
          refine thn_i ?_
          exact ⟨A91, c92, o93, x94, p0, p0, _, And.intro rfl (And.intro rfl (And.intro rfl (And.intro rfl (And.intro rfl (And.intro rfl (And.intro rfl trivial)))))), hO, hL, w95, hF⟩
        · refine wpn_cF (congrArg Value.bool hb249) ?_
          refine wpn_sk ?_
          refine wpn_end ?_
          refine thn_i ?_
          exact ⟨A91, c92, o93, x94, 0, 0, _, And.intro rfl (And.intro rfl (And.intro rfl (And.intro rfl (And.intro rfl (And.intro rfl (And.intro rfl trivial)))))), hO, hL, w95, hF⟩
      · rintro e σ ⟨A201, c202, o203, x204, x206, x207, _, hA, hO, hL, w205, hF⟩
        rw [← sets_agr _ _ hA]
        unfold F_law03_IsaJumps_k11 at hF
        refine wpn_q hO 6 [] [(0, .int .i64 p0), (1, .int .i64 p1), (2, .int .i64 p2), (7, .slice A201 x204.length c202), (8, .int .i64 x96), (9, .pointer (some ⟨b184, 0, none⟩)), (10, .pointer (some ⟨b192, 0, none⟩)), (46, .bool ((decide (p1 ≥ 0)) && (decide (p1 < 16777216))))] (And.intro (And.intro rfl rfl) (fun _ => And.intro rfl (And.intro rfl (And.intro rfl (And.intro rfl (And.intro rfl (And.intro rfl (And.intro rfl (And.intro rfl trivial))))))))) fun j => ?_
        obtain ⟨c208, h209, hF⟩ := bind_some hF
        refine wpn_midq 6 [(60, .bool c208), (0, .int .i64 p0), (1, .int .i64 p1), (2, .int .i64 p2), (7, .slice A201 x204.length c202), (8, .int .i64 x96), (9, .pointer (some ⟨b184, 0, none⟩)), (10, .pointer (some ⟨b192, 0, none⟩))] (fun Q hQ => ?_) fun j => ?_
        · have hF := h209
          rcases ite_some hF with ⟨hb210, hF⟩ | ⟨hb210, hF⟩
          · refine wpn_gT (congrArg (fun x => isB (.bool x) true) hb210) ?_
            refine wpn_q hO 2 [] [(0, .int .i64 p0), (1, .int .i64 p1), (2, .int .i64 p2), (7, .slice A201 x204.length c202), (8, .int .i64 x96), (9, .pointer (some ⟨b184, 0, none⟩)), (10, .pointer (some ⟨b192, 0, none⟩)), (46, .bool ((decide (p1 ≥ 0)) && (decide (p1 < 16777216)))), (47, .slice A201 x204.length c202), (48, .int .i64 x96)] (And.intro rfl (And.intro rfl (And.intro rfl (And.intro rfl (And.intro rfl (And.intro rfl (And.intro rfl (And.intro rfl (And.intro rfl (And.intro rfl trivial)))))))))) fun j => ?_
            obtain ⟨y211, g212, hF⟩ := bind_some hF
            refine wpn_ido (T := Ty.u8) hO w205 (i := 0) rfl rfl rfl g212 (by decide) fun a213 _ k214 m215 i216 => ?_
            have k217 := k214
            obtain rfl : _ = ([.int .u8 y211.toNat] : List Value) := k217
            refine wpn_ld rfl m215.fst ?_
            refine wpn_q hO 2 [] [(0, .int .i64 p0), (1, .int .i64 p1), (2, .int .i64 p2), (7, .slice A201 x204.length c202), (8, .int .i64 x96), (9, .pointer (some ⟨b184, 0, none⟩)), (10, .pointer (some ⟨b192, 0, none⟩)), (46, .bool ((decide (p1 ≥ 0)) && (decide (p1 < 16777216)))), (52, .bool ((y211.toNat : Int) != 11))] (And.intro rfl (And.intro rfl (And.intro rfl (And.intro rfl (And.intro rfl (And.intro rfl (And.intro rfl (And.intro rfl (And.intro rfl trivial))))))))) fun j => ?_
            rcases ite_some hF with ⟨hb218, hF⟩ | ⟨hb218, hF⟩
            · refine wpn_gF (congrArg (fun x => isB (.bool x) false) hb218) ?_
              refine wpn_gF rfl ?_
              refine wpn_gF (congrArg (fun x => isB (.bool x) false) hb218) ?_
              refine wpn_gT (congrArg (fun x => isB (.bool x) true) hb210) ?_
              refine wpn_pk (congrArg Value.bool hb218) ?_
              refine wpn_pk (congrArg Value.bool hb210) ?_
              refine wpn_nil ?_
              injection hF with hF
              subst hF
              refine wpn_end ?_
              exact hQ _ (And.intro rfl (And.intro rfl (And.intro rfl (And.intro rfl (And.intro rfl (And.intro rfl (And.intro rfl (And.intro rfl trivial))))))))
            · refine wpn_gT (congrArg (fun x => isB (.bool x) false) hb218) ?_
              refine wpn_q hO 3 [] [(0, .int .i64 p0), (1, .int .i64 p1), (2, .int .i64 p2), (7, .slice A201 x204.length c202), (8, .int .i64 x96), (9, .pointer (some ⟨b184, 0, none⟩)), (10, .pointer (some ⟨b192, 0, none⟩)), (46, .bool ((decide (p1 ≥ 0)) && (decide (p1 < 16777216)))), (52, .bool ((y211.toNat : Int) != 11)), (55, .bool (decide (p0 ≥ 0)))] (And.intro rfl (And.intro rfl (And.intro rfl (And.intro rfl (And.intro rfl (And.intro rfl (And.intro rfl (And.intro rfl (And.intro rfl (And.intro rfl trivial)))))))))) fun j => ?_
              rcases ite_some hF with ⟨hb219, hF⟩ | ⟨hb219, hF⟩
              · refine wpn_gT (congrArg (fun x => isB (.bool x) true) hb219) ?_
                refine wpn_q hO 2 [] [(0, .int .i64 p0), (1, .int .i64 p1), (2, .int .i64 p2), (7, .slice A201 x204.length c202), (8, .int .i64 x96), (9, .pointer (some ⟨b184, 0, none⟩)), (10, .pointer (some ⟨b192, 0, none⟩)), (46, .bool ((decide (p1 ≥ 0)) && (decide (p1 < 16777216)))), (52, .bool ((y211.toNat : Int) != 11)), (55, .bool (decide (p0 ≥ 0))), (57, .bool (decide (p0 < 16)))] (And.intro rfl (And.intro rfl (And.intro rfl (And.intro rfl (And.intro rfl (And.intro rfl (And.intro rfl (And.intro rfl (And.intro rfl (And.intro rfl (And.intro rfl trivial))))))))))) fun j => ?_
                refine wpn_gT (congrArg (fun x => isB (.bool x) false) hb218) ?_
                refine wpn_pk (congrArg Value.bool hb219) ?_
                refine wpn_gT (congrArg (fun x => isB (.bool x) true) hb210) ?_
                refine wpn_pk (congrArg Value.bool hb218) ?_
                refine wpn_pk (congrArg Value.bool hb210) ?_
                refine wpn_nil ?_
                injection hF with hF
                subst hF
                refine wpn_end ?_
                exact hQ _ (And.intro rfl (And.intro rfl (And.intro rfl (And.intro rfl (And.intro rfl (And.intro rfl (And.intro rfl (And.intro rfl trivial))))))))
              · refine wpn_gF (congrArg (fun x => isB (.bool x) true) hb219) ?_
                refine wpn_gT (congrArg (fun x => isB (.bool x) false) hb218) ?_
                refine wpn_pk (congrArg Value.bool hb219) ?_
                refine wpn_gT (congrArg (fun x => isB (.bool x) true) hb210) ?_
                refine wpn_pk (congrArg Value.bool hb218) ?_
                refine wpn_pk (congrArg Value.bool hb210) ?_
                refine wpn_nil ?_
                injection hF with hF
                subst hF
                refine wpn_end ?_
                exact hQ _ (And.intro rfl (And.intro rfl (And.intro rfl (And.intro rfl (And.intro rfl (And.intro rfl (And.intro rfl (And.intro rfl trivial))))))))
          · refine wpn_gF (congrArg (fun x => isB (.bool x) true) hb210) ?_
            refine wpn_gF rfl ?_
            refine wpn_gF rfl ?_
            refine wpn_gF rfl ?_
            refine wpn_gF (congrArg (fun x => isB (.bool x) true) hb210) ?_
            refine wpn_pk (congrArg Value.bool hb210) ?_
            refine wpn_nil ?_
            injection hF with hF
            subst hF
            refine wpn_end ?_
            exact hQ _ (And.intro rfl (And.intro rfl (And.intro rfl (And.intro rfl (And.intro rfl (And.intro rfl (And.intro rfl (And.intro rfl trivial))))))))
        · refine wpn_qa hO [] [(0, .int .i64 p0), (1, .int .i64 p1), (2, .int .i64 p2), (7, .slice A201 x204.length c202), (8, .int .i64 x96), (9, .pointer (some ⟨b184, 0, none⟩)), (10, .pointer (some ⟨b192, 0, none⟩)), (11, .bool c208)] (And.intro rfl (And.intro rfl (And.intro rfl (And.intro rfl (And.intro rfl (And.intro rfl (And.intro rfl (And.intro rfl trivial)))))))) fun j => ?_
          refine wpn_assoc ?_
          refine wpn_q hO 1 [1] [(0, .int .i64 p0), (1, .int .i64 p1), (2, .int .i64 p2), (7, .slice A201 x204.length c202), (8, .int .i64 x96), (9, .pointer (some ⟨b184, 0, none⟩)), (10, .pointer (some ⟨b192, 0, none⟩)), (11, .bool c208), (61, .agg #[(.int .u8 (y177.toNat : Int)), (.int .u8 0), (.int .i64 x206), (.int .i64 0), (.int .i64 0), (.int .i64 p1), (.int .i64 0)])] (And.intro (And.intro rfl rfl) (And.intro rfl (And.intro rfl (And.intro rfl (And.intro rfl (And.intro rfl (And.intro rfl (And.intro rfl (And.intro rfl (And.intro rfl trivial)))))))))) fun j => ?_
          obtain ⟨c220, h221, hF⟩ := bind_some hF
          refine wpn_c0 hO (w_isa_Right h221) rfl fun _ σ _ _ hO h222 h223 => ?_
          have hL := hL.trans h222
          have w205 := w205.le h222
          obtain ⟨rfl, rfl⟩ := h223
          have hO : Obs _ _ [_, _, _] := hO
          refine wpn_qa hO [] [(0, .int .i64 p0), (1, .int .i64 p1), (2, .int .i64 p2), (7, .slice A201 x204.length c202), (8, .int .i64 x96), (9, .pointer (some ⟨b184, 0, none⟩)), (10, .pointer (some ⟨b192, 0, none⟩)), (11, .bool c208), (64, .bool (!(c220 == c208)))] (And.intro rfl (And.intro rfl (And.intro rfl (And.intro rfl (And.intro rfl (And.intro rfl (And.intro rfl (And.intro rfl (And.intro rfl trivial))))))))) fun j => ?_
          rcases ite_some hF with ⟨hb224, hF⟩ | ⟨hb224, hF⟩
          · refine wpn_cT (congrArg Value.bool hb224) ?_
            refine wpn_assoc ?_
            refine wpn_qa hO [] [(6, .bool false)] (And.intro rfl trivial) fun j => ?_
            refine wpn_rt ?_
            refine inb_r1 ?_
            refine thn_r1 ?_
            refine thn_r1 ?_
            refine inb_r1 ?_
            refine thn_r1 ?_
            injection hF with hF
            subst hF
            have hO := hO.sel [] (by decide)
            exact hQ _ _ _ _ _ rfl hO hL ⟨rfl, rfl⟩
          · refine wpn_cF (congrArg Value.bool hb224) ?_
            refine wpn_sk ?_
            refine wpn_assoc ?_
            refine wpn_p2r ?_
            refine wpn_q hO 2 [] [(0, .int .i64 p0), (1, .int .i64 p1), (2, .int .i64 p2), (7, .slice A201 x204.length c202), (8, .int .i64 x96), (9, .pointer (some ⟨b184, 0, none⟩)), (10, .pointer (some ⟨b192, 0, none⟩)), (66, .bool c208)] (And.intro rfl (And.intro rfl (And.intro rfl (And.intro rfl (And.intro rfl (And.intro rfl (And.intro rfl (And.intro rfl trivial)))))))) fun j => ?_
            obtain ⟨c225, h226, hF⟩ := bind_some hF
            refine wpn_mid 2 (fun e' σ' => ∃ (τ' : Hp), agr [(69, .bool c225), (0, .int .i64 p0), (1, .int .i64 p1), (2, .int .i64 p2), (7, .slice A201 x204.length c202), (8, .int .i64 x96), (9, .pointer (some ⟨b184, 0, none⟩)), (10, .pointer (some ⟨b192, 0, none⟩))] e' ∧ Obs τ' σ' [o203, some (b184, ⟨[.int .u8 (y177.toNat : Int), .int .u8 0, .int .i64 x206, .int .i64 0, .int .i64 0, .int .i64 p1, .int .i64 0], 24, 7, true⟩), some (b192, ⟨[.int .u8 (y185.toNat : Int), .int .u8 0, .int .i64 x207, .int .i64 0, .int .i64 0, .int .i64 p2, .int .i64 0], 24, 7, true⟩)] ∧ Hp.le τ τ' ∧ OwnO Ty.u8 5 τ' (.slice A201 x204.length c202) x204 o203) ?_ ?_
            · have hF := h226
              rcases ite_some hF with ⟨hb227, hF⟩ | ⟨hb227, hF⟩
              · refine wpn_gT (congrArg (fun x => isB (.bool x) true) hb227) ?_
                refine wpn_q hO 1 [2] [(0, .int .i64 p0), (1, .int .i64 p1), (2, .int .i64 p2), (7, .slice A201 x204.length c202), (8, .int .i64 x96), (9, .pointer (some ⟨b184, 0, none⟩)), (10, .pointer (some ⟨b192, 0, none⟩)), (66, .bool c208), (67, .agg #[(.int .u8 (y185.toNat : Int)), (.int .u8 0), (.int .i64 x207), (.int .i64 0), (.int .i64 0), (.int .i64 p2), (.int .i64 0)])] (And.intro (And.intro rfl rfl) (And.intro rfl (And.intro rfl (And.intro rfl (And.intro rfl (And.intro rfl (And.intro rfl (And.intro rfl (And.intro rfl (And.intro rfl trivial)))))))))) fun j => ?_
                obtain ⟨c228, h229, hF⟩ := bind_some hF
                refine wpn_c0 hO (w_isa_Right h229) rfl fun _ σ _ _ hO h230 h231 => ?_
                have hL := hL.trans h230
                have w205 := w205.le h230
                obtain ⟨rfl, rfl⟩ := h231
                have hO : Obs _ _ [_, _, _] := hO
                refine wpn_pk (congrArg Value.bool hb227) ?_
                refine wpn_nil ?_
                injection hF with hF
                subst hF
                refine wpn_end ?_
                exact ⟨rfl, _, And.intro rfl (And.intro rfl (And.intro rfl (And.intro rfl (And.intro rfl (And.intro rfl (And.intro rfl (And.intro rfl trivial))))))), hO, hL, w205⟩
              · refine wpn_gF (congrArg (fun x => isB (.bool x) true) hb227) ?_
                refine wpn_pk (congrArg Value.bool hb227) ?_
                refine wpn_nil ?_
                injection hF with hF
                subst hF
                refine wpn_end ?_
                exact ⟨rfl, _, And.intro rfl (And.intro rfl (And.intro rfl (And.intro rfl (And.intro rfl (And.intro rfl (And.intro rfl (And.intro rfl trivial))))))), hO, hL, w205⟩
            · rintro e σ ⟨_, hA, hO, hL, w205⟩
              rw [← sets_agr _ _ hA]
              refine wpn_q hO 1 [] [(0, .int .i64 p0), (1, .int .i64 p1), (2, .int .i64 p2), (7, .slice A201 x204.length c202), (8, .int .i64 x96), (9, .pointer (some ⟨b184, 0, none⟩)), (10, .pointer (some ⟨b192, 0, none⟩)), (70, .bool c225)] (And.intro rfl (And.intro rfl (And.intro rfl (And.intro rfl (And.intro rfl (And.intro rfl (And.intro rfl (And.intro rfl trivial)))))))) fun j => ?_
              obtain ⟨c232, h233, hF⟩ := bind_some hF
              refine wpn_mid 2 (fun e' σ' => ∃ (τ' : Hp), agr [(76, .bool c232), (0, .int .i64 p0), (1, .int .i64 p1), (2, .int .i64 p2), (7, .slice A201 x204.length c202), (8, .int .i64 x96), (9, .pointer (some ⟨b184, 0, none⟩))] e' ∧ Obs τ' σ' [o203, some (b184, ⟨[.int .u8 (y177.toNat : Int), .int .u8 0, .int .i64 x206, .int .i64 0, .int .i64 0, .int .i64 p1, .int .i64 0], 24, 7, true⟩), some (b192, ⟨[.int .u8 (y185.toNat : Int), .int .u8 0, .int .i64 x207, .int .i64 0, .int .i64 0, .int .i64 p2, .int .i64 0], 24, 7, true⟩)] ∧ Hp.le τ τ' ∧ OwnO Ty.u8 5 τ' (.slice A201 x204.length c202) x204 o203) ?_ ?_
              · have hF := h233
                rcases ite_some hF with ⟨hb234, hF⟩ | ⟨hb234, hF⟩
                · refine wpn_gT (congrArg (fun x => isB (.bool x) true) hb234) ?_
                  refine wpn_q hO 2 [1, 2] [(0, .int .i64 p0), (1, .int .i64 p1), (2, .int .i64 p2), (7, .slice A201 x204.length c202), (8, .int .i64 x96), (9, .pointer (some ⟨b184, 0, none⟩)), (10, .pointer (some ⟨b192, 0, none⟩)), (70, .bool c225), (71, .agg #[(.int .u8 (y177.toNat : Int)), (.int .u8 0), (.int .i64 x206), (.int .i64 0), (.int .i64 0), (.int .i64 p1), (.int .i64 0)]), (73, .agg #[(.int .u8 (y185.toNat : Int)), (.int .u8 0), (.int .i64 x207), (.int .i64 0), (.int .i64 0), (.int .i64 p2), (.int .i64 0)])] (And.intro (And.intro rfl rfl) (And.intro (And.intro rfl rfl) (And.intro rfl (And.intro rfl (And.intro rfl (And.intro rfl (And.intro rfl (And.intro rfl (And.intro rfl (And.intro rfl (And.intro rfl (And.intro rfl trivial)))))))))))) fun j => ?_
                  refine wpn_late ?_
                  obtain ⟨c235, h236, hF⟩ := bind_some hF
                  refine wpn_c0 hO (w_isa_Size h236) rfl fun _ σ _ _ hO h237 h238 => ?_
                  have hL := hL.trans h237
                  have w205 := w205.le h237
                  obtain ⟨rfl, rfl⟩ := h238
                  have hO : Obs _ _ [_, _, _] := hO
                  refine wpn_nil ?_
                  refine wpn_ag ⟨(again_ldg rfl (hO.val (i := 2) (off := 0) (agg := true) (n := 7) rfl rfl) rfl), trivial⟩ ?_
                  obtain ⟨c239, h240, hF⟩ := bind_some hF
                  refine wpn_c0 hO (w_isa_Size h240) rfl fun _ σ _ _ hO h241 h242 => ?_
                  have hL := hL.trans h241
                  have w205 := w205.le h241
                  obtain ⟨rfl, rfl⟩ := h242
                  have hO : Obs _ _ [_, _, _] := hO
                  refine wpn_q hO 1 [] [(0, .int .i64 p0), (1, .int .i64 p1), (2, .int .i64 p2), (7, .slice A201 x204.length c202), (8, .int .i64 x96), (9, .pointer (some ⟨b184, 0, none⟩)), (70, .bool c225), (75, .bool (c235 != c239))] (And.intro rfl (And.intro rfl (And.intro rfl (And.intro rfl (And.intro rfl (And.intro rfl (And.intro rfl (And.intro rfl trivial)))))))) fun j => ?_
                  refine wpn_pk (congrArg Value.bool hb234) ?_
                  refine wpn_nil ?_
                  injection hF with hF
                  subst hF
                  refine wpn_end ?_
                  exact ⟨rfl, _, And.intro rfl (And.intro rfl (And.intro rfl (And.intro rfl (And.intro rfl (And.intro rfl (And.intro rfl trivial)))))), hO, hL, w205⟩
                · refine wpn_gFa (congrArg (fun x => isB (.bool x) true) hb234) ⟨trivial, ⟨trivial, ⟨⟨(again_no (congrArg (fun x => isB (.bool x) true) hb234)), trivial⟩, ⟨trivial, ⟨trivial, trivial⟩⟩⟩⟩⟩ ?_
                  refine wpn_pk (congrArg Value.bool hb234) ?_
                  refine wpn_nil ?_
                  injection hF with hF
                  subst hF
                  refine wpn_end ?_
                  exact ⟨rfl, _, And.intro rfl (And.intro rfl (And.intro rfl (And.intro rfl (And.intro rfl (And.intro rfl (And.intro rfl trivial)))))), hO, hL, w205⟩
              · rintro e σ ⟨_, hA, hO, hL, w205⟩
                rw [← sets_agr _ _ hA]
                refine wpn_nil ?_
                rcases ite_some hF with ⟨hb243, hF⟩ | ⟨hb243, hF⟩
                · refine wpn_cT (congrArg Value.bool hb243) ?_
                  refine wpn_assoc ?_
                  refine wpn_qa hO [] [(6, .bool false)] (And.intro rfl trivial) fun j => ?_
                  refine wpn_rt ?_
                  refine inb_r1 ?_
                  refine thn_r1 ?_
                  refine thn_r1 ?_
                  refine inb_r1 ?_
                  refine thn_r1 ?_
                  injection hF with hF
                  subst hF
                  have hO := hO.sel [] (by decide)
                  exact hQ _ _ _ _ _ rfl hO hL ⟨rfl, rfl⟩
                · refine wpn_cF (congrArg Value.bool hb243) ?_
                  refine wpn_sk ?_
                  refine wpn_q hO 1 [] [(0, .int .i64 p0), (1, .int .i64 p1), (2, .int .i64 p2), (7, .slice A201 x204.length c202), (8, .int .i64 x96), (9, .pointer (some ⟨b184, 0, none⟩)), (77, .pointer (some ⟨b184, 4, none⟩))] (And.intro rfl (And.intro rfl (And.intro rfl (And.intro rfl (And.intro rfl (And.intro rfl (And.intro rfl trivial))))))) fun j => ?_
                  refine wpn_st hO (i := 1) rfl (off := 4) rfl rfl rfl rfl (Nat.le_of_ble_eq_true rfl) rfl fun σ hO => ?_
                  have hO : Obs _ _ [_, _, _] := hO
                  refine wpn_nil ?_
                  refine wpn_q hO 1 [1] [(0, .int .i64 p0), (1, .int .i64 p1), (2, .int .i64 p2), (7, .slice A201 x204.length c202), (8, .int .i64 x96), (78, .agg #[(.int .u8 (y177.toNat : Int)), (.int .u8 0), (.int .i64 x206), (.int .i64 0), (.int .i64 1), (.int .i64 p1), (.int .i64 0)])] (And.intro (And.intro rfl rfl) (And.intro rfl (And.intro rfl (And.intro rfl (And.intro rfl (And.intro rfl (And.intro rfl trivial))))))) fun j => ?_
                  obtain ⟨c244, h245, hF⟩ := bind_some hF
                  refine wpn_c0 hO (w_isa_Right h245) rfl fun _ σ _ _ hO h246 h247 => ?_
                  have hL := hL.trans h246
                  have w205 := w205.le h246
                  obtain ⟨rfl, rfl⟩ := h247
                  have hO : Obs _ _ [_, _, _] := hO
                  refine wpn_nil ?_
                  refine wpn_clast ?_
                  rcases ite_some hF with ⟨hb248, hF⟩ | ⟨hb248, hF⟩
                  · refine wpn_cT (congrArg Value.bool hb248) ?_
                    refine wpn_assoc ?_
                    refine wpn_qa hO [] [(6, .bool false)] (And.intro rfl trivial) fun j => ?_
                    refine wpn_rt ?_
                    refine inb_r1 ?_
                    refine thn_r1 ?_
                    refine thn_r1 ?_
                    refine inb_r1 ?_
                    refine thn_r1 ?_
                    injection hF with hF
                    subst hF
                    have hO := hO.sel [] (by decide)
                    exact hQ _ _ _ _ _ rfl hO hL ⟨rfl, rfl⟩
                  · refine wpn_cF (congrArg Value.bool hb248) ?_
                    refine wpn_sk ?_
                    refine wpn_end ?_
                    refine inb_i ?_
                    refine thn_i ?_
                    refine wpn_rlast ?_
                    refine wpn_qa hO [] [(0, .int .i64 p0), (1, .int .i64 p1), (2, .int .i64 p2), (7, .slice A201 x204.length c202), (8, .int .i64 (IntKind.i64.wrap (x96 + 1)))] (And.intro rfl (And.intro rfl (And.intro rfl (And.intro rfl (And.intro rfl trivial))))) fun j => ?_
                    refine wpn_end ?_
                    refine thn_i ?_
                    have hO := hO.sel [0] (by decide)
                    exact ⟨n175, Nat.lt_succ_self _, A201, c202, o203, x204, (IntKind.i64.wrap (x96 + 1)), _, And.intro rfl (And.intro rfl (And.intro rfl (And.intro rfl (And.intro rfl trivial)))), hO, hL, w205, hF⟩
    · refine wpn_cF (congrArg Value.bool hb176) ?_
      refine wpn_ex ?_
      refine thn_x ?_
      refine inb_x ?_
      refine thn_i ?_
      obtain ⟨c250, h251, hF⟩ := bind_some hF
      refine wpn_c0 hO (w_law03_works h251) rfl fun _ σ _ _ hO h252 h253 => ?_
      have hL := hL.trans h252
      have w95 := w95.le h252
      obtain ⟨rfl, rfl⟩ := h253
      have hO : Obs _ _ [_] := hO
      refine wpn_qa hO [] [(6, .bool c250)] (And.intro rfl trivial) fun j => ?_
      refine wpn_r1 ?_
      injection hF with hF
      subst hF
      have hO := hO.sel [] (by decide)
      exact hQ _ _ _ _ _ rfl hO hL ⟨rfl, rfl⟩
end Go.Proofs.Ytnaafaopdefigaa
