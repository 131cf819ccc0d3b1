import Derived.Test.YtglpbhkkkhmlpaaF
import Derived.Test.YtglpbhkkkhmlpaaAc0
import Derived.Test.YtglpbhkkkhmlpaaM00
import Derived.Test.YtglpbhkkkhmlpaaM02
import Derived.Test.YtglpbhkkkhmlpaaG0
namespace Go.Proofs.Ytglpbhkkkhmlpaa
open Go.Ab Go.RowKit
set_option linter.unusedVariables false
set_option linter.unusedSimpArgs false
set_option maxRecDepth 10000

/-! theodolite/theodoliteref05.Read -/
theorem w_ref05_Read {τ : Hp} {v0 : Value} {p0 : (List UInt8)} (r0 : RdT Ty.u8 τ v0 p0) {rr : (List S_api_Row) × Int} (hF : F_ref05_Read p0 = some rr) :
    Ctr Try.prog 17 #[v0] τ [] (fun v τ' vs' => ∃ (v0 : Value), v = .tuple #[v0, .int .i64 rr.2] ∧ vs' = [] ∧ RdT TyS_api_Row τ' v0 rr.1) := by
  obtain ⟨A0, c0, rfl, -⟩ := r0.form
  refine ctr_of (args := [.slice A0 p0.length c0]) hm Try.func17 s17 rfl fun w0 σ hO Q hQ => ?_
  unfold F_ref05_Read at hF
  have hL := Hp.le.refl τ
  show wpn _ _ a17.body _ _ _
  unfold a17
  dsimp only
  refine wpn_qa hO [] [(0, .slice A0 p0.length c0)] (And.intro rfl trivial) fun j => ?_
  refine wpn_qa hO [] [(0, .slice A0 p0.length c0), (4, .slice none 0 0)] (And.intro rfl (And.intro rfl trivial)) fun j => ?_
  refine wpn_qa hO [] [(0, .slice A0 p0.length c0), (4, .slice none 0 0), (5, .int .i64 0)] (And.intro rfl (And.intro rfl (And.intro rfl trivial))) fun j => ?_
  refine wpn_qa hO [] [(0, .slice A0 p0.length c0), (4, .slice none 0 0), (5, .int .i64 0), (6, .int .i64 0)] (And.intro rfl (And.intro rfl (And.intro rfl (And.intro rfl trivial)))) fun j => ?_
  refine wpn_qa hO [] [(0, .slice A0 p0.length c0), (4, .slice none 0 0), (5, .int .i64 0), (6, .int .i64 0), (7, .int .i64 0)] (And.intro rfl (And.intro rfl (And.intro rfl (And.intro rfl (And.intro rfl trivial))))) fun j => ?_
  refine wpn_bl ?_
  have hO := hO.no
  have hO : Obs _ _ [_] := hO
  refine wpn_lp (fun (n : Nat) e' σ' => ∃ (A53 : Option Addr) (c54 : Nat) (o55 : Ob) (x56 : List S_api_Row) (x58 : Int) (x59 : Int) (x60 : Int) (τ' : Hp), agr [(0, .slice A0 p0.length c0), (4, .slice A53 x56.length c54), (5, .int .i64 x58), (6, .int .i64 x59), (7, .int .i64 x60)] e' ∧ Obs τ' σ' [o55] ∧ Hp.le τ τ' ∧ RdT Ty.u8 τ' (.slice A0 p0.length c0) p0 ∧ OwnO TyS_api_Row 42 τ' (.slice A53 x56.length c54) x56 o55 ∧ F_ref05_Read_l9 p0 n x56 x58 x59 x60 = some rr) big ⟨none, 0, none, [], 0, 0, 0, _, And.intro rfl (And.intro rfl (And.intro rfl (And.intro rfl (And.intro rfl trivial)))), hO, hL, r0, OwnO.nil _ _ _, hF⟩ ?_
  clear hF hO hL
  rintro n117 e σ ⟨A53, c54, o55, x56, x58, x59, x60, _, hA, hO, hL, r52, w57, hF⟩
  rw [← sets_agr _ _ hA]
  cases n117 with
  | zero => exact nomatch (show none = some rr from hF)
  | succ n117 =>
    replace hF : F_ref05_Read_l9B (F_ref05_Read_l9 p0 n117) p0 x56 x58 x59 x60 = some rr := hF
    unfold F_ref05_Read_l9B at hF
    refine wpn_assoc ?_
    refine wpn_qa hO [] [(0, .slice A0 p0.length c0), (4, .slice A53 x56.length c54), (5, .int .i64 x58), (6, .int .i64 x59), (7, .int .i64 x60), (15, .bool (decide (x60 < (p0.length : Int))))] (And.intro rfl (And.intro rfl (And.intro rfl (And.intro rfl (And.intro rfl (And.intro rfl trivial)))))) fun j => ?_
    rcases ite_some hF with ⟨hb118, hF⟩ | ⟨hb118, hF⟩
    · refine wpn_cT (congrArg Value.bool hb118) ?_
      refine wpn_sk ?_
      refine wpn_blast ?_
      refine wpn_bl ?_
      refine wpn_q hO 2 [] [(0, .slice A0 p0.length c0), (4, .slice A53 x56.length c54), (5, .int .i64 x58), (6, .int .i64 x59), (7, .int .i64 x60), (16, .slice A0 p0.length c0), (17, .int .i64 x60)] (And.intro rfl (And.intro rfl (And.intro rfl (And.intro rfl (And.intro rfl (And.intro rfl (And.intro rfl trivial))))))) fun j => ?_
      obtain ⟨y119, g120, hF⟩ := bind_some hF
      refine wpn_idx (T := Ty.u8) r52 hO.base rfl rfl g120 (by decide) fun a121 _ k122 m123 => ?_
      obtain rfl : _ = ([.int .u8 y119.toNat] : List Value) := k122
      refine wpn_ld rfl m123.fst ?_
      refine wpn_qa hO [] [(0, .slice A0 p0.length c0), (4, .slice A53 x56.length c54), (5, .int .i64 x58), (6, .int .i64 x59), (7, .int .i64 x60), (8, .int .i64 (IntKind.i64.wrap (y119.toNat : Int)))] (And.intro rfl (And.intro rfl (And.intro rfl (And.intro rfl (And.intro rfl (And.intro rfl trivial)))))) fun j => ?_
      refine wpn_qa hO [] [(0, .slice A0 p0.length c0), (4, .slice A53 x56.length c54), (5, .int .i64 x58), (6, .int .i64 x59), (7, .int .i64 (IntKind.i64.wrap (x60 + 1))), (8, .int .i64 (IntKind.i64.wrap (y119.toNat : Int)))] (And.intro rfl (And.intro rfl (And.intro rfl (And.intro rfl (And.intro rfl (And.intro rfl trivial)))))) fun j => ?_
      refine wpn_assoc ?_
      refine wpn_qa hO [] [(0, .slice A0 p0.length c0), (4, .slice A53 x56.length c54), (5, .int .i64 x58), (6, .int .i64 x59), (7, .int .i64 (IntKind.i64.wrap (x60 + 1))), (8, .int .i64 (IntKind.i64.wrap (y119.toNat : Int))), (24, .bool ((IntKind.i64.wrap (y119.toNat : Int)) == 0))] (And.intro rfl (And.intro rfl (And.intro rfl (And.intro rfl (And.intro rfl (And.intro rfl (And.intro rfl trivial))))))) fun j => ?_
      rcases ite_some hF with ⟨hb124, hF⟩ | ⟨hb124, hF⟩
      · refine wpn_cT (congrArg Value.bool hb124) ?_
        refine wpn_assoc ?_
        refine wpn_assoc ?_
        refine wpn_q hO 5 [] [(4, .slice A53 x56.length c54), (29, .bool ((IntKind.i64.wrap (x60 + 1)) != (p0.length : Int)))] (And.intro rfl (And.intro rfl trivial)) fun j => ?_
        obtain ⟨_, h126, r125, hO⟩ := w57.share hO (i := 0) rfl
        have hL := hL.trans h126
        have hO : Obs _ _ [_] := hO
        have hO := hO.sel [] (by decide)
        have hO : Obs _ _ [] := hO
        obtain ⟨c127, h128, hF⟩ := bind_some hF
        refine wpn_mid 2 (fun e' σ' => ∃ (τ' : Hp), agr [(33, .bool c127), (4, .slice A53 x56.length c54)] e' ∧ Obs τ' σ' [] ∧ Hp.le τ τ' ∧ RdT TyS_api_Row τ' (.slice A53 x56.length c54) x56) ?_ ?_
        · have hF := h128
          rcases ite_some hF with ⟨hb129, hF⟩ | ⟨hb129, hF⟩
          · refine wpn_gF (congrArg (fun x => isB (.bool x) false) hb129) ?_
            refine wpn_pk (congrArg Value.bool hb129) ?_
            refine wpn_nil ?_
            injection hF with hF
            subst hF
            refine wpn_end ?_
            exact ⟨rfl, _, And.intro rfl (And.intro rfl trivial), hO, hL, r125⟩
          · refine wpn_gT (congrArg (fun x => isB (.bool x) false) hb129) ?_
            refine wpn_q hO 1 [] [(4, .slice A53 x56.length c54), (29, .bool ((IntKind.i64.wrap (x60 + 1)) != (p0.length : Int))), (30, .slice A53 x56.length c54)] (And.intro rfl (And.intro rfl (And.intro rfl trivial))) fun j => ?_
            obtain ⟨c130, h131, hF⟩ := bind_some hF
            refine wpn_c0 hO (w_ref05_Right r125 h131) rfl fun _ σ _ _ hO h132 h133 => ?_
            have hL := hL.trans h132
            have r125 := r125.le h132
            obtain ⟨rfl, rfl⟩ := h133
            have hO : Obs _ _ [] := hO
            refine wpn_q hO 1 [] [(4, .slice A53 x56.length c54), (29, .bool ((IntKind.i64.wrap (x60 + 1)) != (p0.length : Int))), (32, .bool (!c130))] (And.intro rfl (And.intro rfl (And.intro rfl trivial))) fun j => ?_
            refine wpn_pk (congrArg Value.bool hb129) ?_
            refine wpn_nil ?_
            injection hF with hF
            subst hF
            refine wpn_end ?_
            exact ⟨rfl, _, And.intro rfl (And.intro rfl trivial), hO, hL, r125⟩
        · rintro e σ ⟨_, hA, hO, hL, r125⟩
          rw [← sets_agr _ _ hA]
          refine wpn_nil ?_
          rcases ite_some hF with ⟨hb134, hF⟩ | ⟨hb134, hF⟩
          · refine wpn_cT (congrArg Value.bool hb134) ?_
            refine wpn_assoc ?_
            refine wpn_qa hO [] [(2, .slice none 0 0), (3, .int .i64 5)] (And.intro rfl (And.intro rfl trivial)) fun j => ?_
            refine wpn_rt ?_
            refine inb_r1 ?_
            refine thn_r1 ?_
            refine thn_r1 ?_
            refine inb_r1 ?_
            refine thn_r1 ?_
            injection hF with hF
            subst hF
            exact hQ _ _ _ _ _ rfl hO hL ⟨_, rfl, rfl, (RdT.nil _ _)⟩
          · refine wpn_cF (congrArg Value.bool hb134) ?_
            refine wpn_sk ?_
            refine wpn_assoc ?_
            refine wpn_qa hO [] [(2, .slice A53 x56.length c54), (3, .int .i64 0)] (And.intro rfl (And.intro rfl trivial)) fun j => ?_
            refine wpn_rt ?_
            refine inb_r1 ?_
            refine thn_r1 ?_
            refine thn_r1 ?_
            refine inb_r1 ?_
            refine thn_r1 ?_
            injection hF with hF
            subst hF
            exact hQ _ _ _ _ _ rfl hO hL ⟨_, rfl, rfl, r125⟩
      · refine wpn_cF (congrArg Value.bool hb124) ?_
        refine wpn_sk ?_
        refine wpn_qa hO [] [(0, .slice A0 p0.length c0), (4, .slice A53 x56.length c54), (5, .int .i64 x58), (6, .int .i64 x59), (7, .int .i64 (IntKind.i64.wrap (x60 + 1))), (8, .int .i64 (IntKind.i64.wrap (y119.toNat : Int))), (9, .int .i64 0)] (And.intro rfl (And.intro rfl (And.intro rfl (And.intro rfl (And.intro rfl (And.intro rfl (And.intro rfl trivial))))))) fun j => ?_
        refine wpn_qa hO [] [(0, .slice A0 p0.length c0), (4, .slice A53 x56.length c54), (5, .int .i64 x58), (6, .int .i64 x59), (7, .int .i64 (IntKind.i64.wrap (x60 + 1))), (8, .int .i64 (IntKind.i64.wrap (y119.toNat : Int))), (9, .int .i64 0), (10, .int .u64 0)] (And.intro rfl (And.intro rfl (And.intro rfl (And.intro rfl (And.intro rfl (And.intro rfl (And.intro rfl (And.intro rfl trivial)))))))) fun j => ?_
        refine wpn_qa hO [] [(0, .slice A0 p0.length c0), (4, .slice A53 x56.length c54), (5, .int .i64 x58), (6, .int .i64 x59), (7, .int .i64 (IntKind.i64.wrap (x60 + 1))), (8, .int .i64 (IntKind.i64.wrap (y119.toNat : Int))), (9, .int .i64 0), (10, .int .u64 0), (11, .int .i64 0)] (And.intro rfl (And.intro rfl (And.intro rfl (And.intro rfl (And.intro rfl (And.intro rfl (And.intro rfl (And.intro rfl (And.intro rfl trivial))))))))) fun j => ?_
        refine wpn_assoc ?_
        refine wpn_qa hO [] [(0, .slice A0 p0.length c0), (4, .slice A53 x56.length c54), (5, .int .i64 x58), (6, .int .i64 x59), (7, .int .i64 (IntKind.i64.wrap (x60 + 1))), (8, .int .i64 (IntKind.i64.wrap (y119.toNat : Int))), (9, .int .i64 0), (10, .int .u64 0), (11, .int .i64 0), (35, .int .i64 (IntKind.i64.wrap (y119.toNat : Int)))] (And.intro rfl (And.intro rfl (And.intro rfl (And.intro rfl (And.intro rfl (And.intro rfl (And.intro rfl (And.intro rfl (And.intro rfl (And.intro rfl trivial)))))))))) fun j => ?_
        refine wpn_cutb (fun e' σ' => ∃ (A147 : Option Addr) (c148 : Nat) (o149 : Ob) (x150 : List S_api_Row) (x152 : Int) (x153 : Int) (x154 : Int) (x155 : Int) (τ' : Hp), agr [(0, .slice A0 p0.length c0), (4, .slice A147 x150.length c148), (5, .int .i64 x58), (6, .int .i64 x59), (7, .int .i64 x152), (8, .int .i64 (IntKind.i64.wrap (y119.toNat : Int))), (9, .int .i64 x153), (10, .int .u64 x154), (11, .int .i64 x155)] e' ∧ Obs τ' σ' [o149] ∧ Hp.le τ τ' ∧ RdT Ty.u8 τ' (.slice A0 p0.length c0) p0 ∧ OwnO TyS_api_Row 42 τ' (.slice A147 x150.length c148) x150 o149 ∧ F_ref05_Read_k12 (F_ref05_Read_l9 p0 n117) x58 x59 y119 x150 x152 x153 x154 x155 = some rr) ?_ ?_
        · refine wpn_qa hO [] [(0, .slice A0 p0.length c0), (4, .slice A53 x56.length c54), (5, .int .i64 x58), (6, .int .i64 x59), (7, .int .i64 (IntKind.i64.wrap (x60 + 1))), (8, .int .i64 (IntKind.i64.wrap (y119.toNat : Int))), (9, .int .i64 0), (10, .int .u64 0), (11, .int .i64 0), (35, .int .i64 (IntKind.i64.wrap (y119.toNat : Int))), (44, .bool ((IntKind.i64.wrap (y119.toNat : Int)) == 1))] (And.intro rfl (And.intro rfl (And.intro rfl (And.intro rfl (And.intro rfl (And.intro rfl (And.intro rfl (And.intro rfl (And.intro rfl (And.intro rfl (And.intro rfl trivial))))))))))) fun j => ?_
          refine wpn_clast ?_
          rcases ite_some hF with ⟨hb163, hF⟩ | ⟨hb163, hF⟩
          · refine wpn_cT (congrArg Value.bool hb163) ?_
            refine wpn_q hO 2 [] [(0, .slice A0 p0.length c0), (4, .slice A53 x56.length c54), (5, .int .i64 x58), (6, .int .i64 x59), (8, .int .i64 (IntKind.i64.wrap (y119.toNat : Int))), (11, .int .i64 0), (47, .slice A0 p0.length c0), (48, .int .i64 (IntKind.i64.wrap (x60 + 1)))] (And.intro rfl (And.intro rfl (And.intro rfl (And.intro rfl (And.intro rfl (And.intro rfl (And.intro rfl (And.intro rfl trivial)))))))) fun j => ?_
            obtain ⟨c164, h165, hF⟩ := bind_some hF
            refine wpn_c0 hO (w_ref02_U r52 h165) rfl fun _ σ _ _ hO h166 h167 => ?_
            have hL := hL.trans h166
            have r52 := r52.le h166
            have w57 := w57.le h166
            obtain ⟨rfl, rfl⟩ := h167
            have hO : Obs _ _ [_] := hO
            refine wpn_qa hO [] [(0, .slice A0 p0.length c0), (4, .slice A53 x56.length c54), (5, .int .i64 x58), (6, .int .i64 x59), (7, .int .i64 c164.2.1), (8, .int .i64 (IntKind.i64.wrap (y119.toNat : Int))), (9, .int .i64 c164.2.2), (10, .int .u64 c164.1), (11, .int .i64 0)] (And.intro rfl (And.intro rfl (And.intro rfl (And.intro rfl (And.intro rfl (And.intro rfl (And.intro rfl (And.intro rfl (And.intro rfl trivial))))))))) fun j => ?_
            refine wpn_end ?_
            refine inb_i ?_
            refine thn_i ?_
            exact ⟨A53, c54, o55, x56, c164.2.1, c164.2.2, c164.1, 0, _, And.intro rfl (And.intro rfl (And.intro rfl (And.intro rfl (And.intro rfl (And.intro rfl (And.intro rfl (And.intro rfl (And.intro rfl trivial)))))))), hO, hL, r52, w57, hF⟩
          · refine wpn_cF (congrArg Value.bool hb163) ?_
            refine wpn_assoc ?_
            refine wpn_qa hO [] [(0, .slice A0 p0.length c0), (4, .slice A53 x56.length c54), (5, .int .i64 x58), (6, .int .i64 x59), (7, .int .i64 (IntKind.i64.wrap (x60 + 1))), (8, .int .i64 (IntKind.i64.wrap (y119.toNat : Int))), (9, .int .i64 0), (10, .int .u64 0), (11, .int .i64 0), (35, .int .i64 (IntKind.i64.wrap (y119.toNat : Int))), (53, .bool ((IntKind.i64.wrap (y119.toNat : Int)) == 2))] (And.intro rfl (And.intro rfl (And.intro rfl (And.intro rfl (And.intro rfl (And.intro rfl (And.intro rfl (And.intro rfl (And.intro rfl (And.intro rfl (And.intro rfl trivial))))))))))) fun j => ?_
            rcases ite_some hF with ⟨hb168, hF⟩ | ⟨hb168, hF⟩
            · refine wpn_cT (congrArg Value.bool hb168) ?_
              refine wpn_q hO 2 [] [(0, .slice A0 p0.length c0), (4, .slice A53 x56.length c54), (5, .int .i64 x58), (6, .int .i64 x59), (8, .int .i64 (IntKind.i64.wrap (y119.toNat : Int))), (10, .int .u64 0), (56, .slice A0 p0.length c0), (57, .int .i64 (IntKind.i64.wrap (x60 + 1)))] (And.intro rfl (And.intro rfl (And.intro rfl (And.intro rfl (And.intro rfl (And.intro rfl (And.intro rfl (And.intro rfl trivial)))))))) fun j => ?_
              obtain ⟨c169, h170, hF⟩ := bind_some hF
              refine wpn_c0 hO (w_ref02_S r52 h170) rfl fun _ σ _ _ hO h171 h172 => ?_
              have hL := hL.trans h171
              have r52 := r52.le h171
              have w57 := w57.le h171
              obtain ⟨rfl, rfl⟩ := h172
              have hO : Obs _ _ [_] := hO
              refine wpn_qa hO [] [(0, .slice A0 p0.length c0), (4, .slice A53 x56.length c54), (5, .int .i64 x58), (6, .int .i64 x59), (7, .int .i64 c169.2.1), (8, .int .i64 (IntKind.i64.wrap (y119.toNat : Int))), (9, .int .i64 c169.2.2), (10, .int .u64 0), (11, .int .i64 c169.1)] (And.intro rfl (And.intro rfl (And.intro rfl (And.intro rfl (And.intro rfl (And.intro rfl (And.intro rfl (And.intro rfl (And.intro rfl trivial))))))))) fun j => ?_
              refine wpn_end ?_
              refine inb_i ?_
              refine thn_i ?_
              exact ⟨A53, c54, o55, x56, c169.2.1, c169.2.2, 0, c169.1, _, And.intro rfl (And.intro rfl (And.intro rfl (And.intro rfl (And.intro rfl (And.intro rfl (And.intro rfl (And.intro rfl (And.intro rfl trivial)))))))), hO, hL, r52, w57, hF⟩
            · refine wpn_cF (congrArg Value.bool hb168) ?_
              refine wpn_assoc ?_
              refine wpn_qa hO [] [(0, .slice A0 p0.length c0), (4, .slice A53 x56.length c54), (5, .int .i64 x58), (6, .int .i64 x59), (7, .int .i64 (IntKind.i64.wrap (x60 + 1))), (8, .int .i64 (IntKind.i64.wrap (y119.toNat : Int))), (9, .int .i64 0), (10, .int .u64 0), (11, .int .i64 0), (62, .bool ((IntKind.i64.wrap (y119.toNat : Int)) == 3))] (And.intro rfl (And.intro rfl (And.intro rfl (And.intro rfl (And.intro rfl (And.intro rfl (And.intro rfl (And.intro rfl (And.intro rfl (And.intro rfl trivial)))))))))) fun j => ?_
              rcases ite_some hF with ⟨hb173, hF⟩ | ⟨hb173, hF⟩
              · refine wpn_cT (congrArg Value.bool hb173) ?_
                refine wpn_sk ?_
                refine wpn_end ?_
                refine inb_i ?_
                refine thn_i ?_
                exact ⟨A53, c54, o55, x56, (IntKind.i64.wrap (x60 + 1)), 0, 0, 0, _, And.intro rfl (And.intro rfl (And.intro rfl (And.intro rfl (And.intro rfl (And.intro rfl (And.intro rfl (And.intro rfl (And.intro rfl trivial)))))))), hO, hL, r52, w57, hF⟩
              · refine wpn_cF (congrArg Value.bool hb173) ?_
                refine wpn_assoc ?_
                refine wpn_qa hO [] [(0, .slice A0 p0.length c0), (4, .slice A53 x56.length c54), (5, .int .i64 x58), (6, .int .i64 x59), (7, .int .i64 (IntKind.i64.wrap (x60 + 1))), (8, .int .i64 (IntKind.i64.wrap (y119.toNat : Int))), (9, .int .i64 0), (10, .int .u64 (IntKind.u64.wrap (IntKind.i64.wrap (Int.tdiv (IntKind.i64.wrap ((IntKind.i64.wrap (y119.toNat : Int)) - 4)) 12))))] (And.intro rfl (And.intro rfl (And.intro rfl (And.intro rfl (And.intro rfl (And.intro rfl (And.intro rfl (And.intro rfl trivial)))))))) fun j => ?_
                refine wpn_qa hO [] [(0, .slice A0 p0.length c0), (4, .slice A53 x56.length c54), (5, .int .i64 x58), (6, .int .i64 x59), (7, .int .i64 (IntKind.i64.wrap (x60 + 1))), (8, .int .i64 (IntKind.i64.wrap (y119.toNat : Int))), (9, .int .i64 0), (10, .int .u64 (IntKind.u64.wrap (IntKind.i64.wrap (Int.tdiv (IntKind.i64.wrap ((IntKind.i64.wrap (y119.toNat : Int)) - 4)) 12)))), (11, .int .i64 (IntKind.i64.wrap ((Int.tmod (IntKind.i64.wrap ((IntKind.i64.wrap (y119.toNat : Int)) - 4)) 12) - 4)))] (And.intro rfl (And.intro rfl (And.intro rfl (And.intro rfl (And.intro rfl (And.intro rfl (And.intro rfl (And.intro rfl (And.intro rfl trivial))))))))) fun j => ?_
                refine wpn_end ?_
                refine inb_i ?_
                refine thn_i ?_
                exact ⟨A53, c54, o55, x56, (IntKind.i64.wrap (x60 + 1)), 0, (IntKind.u64.wrap (IntKind.i64.wrap (Int.tdiv (IntKind.i64.wrap ((IntKind.i64.wrap (y119.toNat : Int)) - 4)) 12))), (IntKind.i64.wrap ((Int.tmod (IntKind.i64.wrap ((IntKind.i64.wrap (y119.toNat : Int)) - 4)) 12) - 4)), _, And.intro rfl (And.intro rfl (And.intro rfl (And.intro rfl (And.intro rfl (And.intro rfl (And.intro rfl (And.intro rfl (And.intro rfl trivial)))))))), hO, hL, r52, w57, hF⟩
        · rintro e σ ⟨A147, c148, o149, x150, x152, x153, x154, x155, _, hA, hO, hL, r146, w151, hF⟩
          rw [← sets_agr _ _ hA]
          unfold F_ref05_Read_k12 at hF
          refine wpn_assoc ?_
          refine wpn_qa hO [] [(0, .slice A0 p0.length c0), (4, .slice A147 x150.length c148), (5, .int .i64 x58), (6, .int .i64 x59), (7, .int .i64 x152), (8, .int .i64 (IntKind.i64.wrap (y119.toNat : Int))), (10, .int .u64 x154), (11, .int .i64 x155), (77, .bool ((((x153 != 0) || (decide (x154 > 16777216))) || (decide (x155 > 16777216))) || (decide (x155 < (-16777216)))))] (And.intro (And.intro rfl rfl) (fun _ => And.intro (And.intro rfl rfl) (fun _ => And.intro (And.intro rfl rfl) (fun _ => And.intro rfl (And.intro rfl (And.intro rfl (And.intro rfl (And.intro rfl (And.intro rfl (And.intro rfl (And.intro rfl (And.intro rfl trivial)))))))))))) fun j => ?_
          rcases ite_some hF with ⟨hb156, hF⟩ | ⟨hb156, hF⟩
          · refine wpn_cT (congrArg Value.bool hb156) ?_
            refine wpn_assoc ?_
            refine wpn_qa hO [] [(2, .slice none 0 0), (3, .int .i64 5)] (And.intro rfl (And.intro rfl trivial)) fun j => ?_
            refine wpn_rt ?_
            refine inb_r1 ?_
            refine thn_r1 ?_
            refine thn_r1 ?_
            refine inb_r1 ?_
            refine thn_r1 ?_
            injection hF with hF
            subst hF
            have hO := hO.sel [] (by decide)
            exact hQ _ _ _ _ _ rfl hO hL ⟨_, rfl, rfl, (RdT.nil _ _)⟩
          · refine wpn_cF (congrArg Value.bool hb156) ?_
            refine wpn_sk ?_
            refine wpn_qa hO [] [(0, .slice A0 p0.length c0), (4, .slice A147 x150.length c148), (5, .int .i64 (IntKind.i64.wrap (x58 + (IntKind.i64.wrap x154)))), (6, .int .i64 x59), (7, .int .i64 x152), (8, .int .i64 (IntKind.i64.wrap (y119.toNat : Int))), (11, .int .i64 x155)] (And.intro rfl (And.intro rfl (And.intro rfl (And.intro rfl (And.intro rfl (And.intro rfl (And.intro rfl trivial))))))) fun j => ?_
            refine wpn_qa hO [] [(0, .slice A0 p0.length c0), (4, .slice A147 x150.length c148), (5, .int .i64 (IntKind.i64.wrap (x58 + (IntKind.i64.wrap x154)))), (6, .int .i64 (IntKind.i64.wrap (x59 + x155))), (7, .int .i64 x152), (8, .int .i64 (IntKind.i64.wrap (y119.toNat : Int)))] (And.intro rfl (And.intro rfl (And.intro rfl (And.intro rfl (And.intro rfl (And.intro rfl trivial)))))) fun j => ?_
            refine wpn_assoc ?_
            refine wpn_qa hO [] [(0, .slice A0 p0.length c0), (4, .slice A147 x150.length c148), (5, .int .i64 (IntKind.i64.wrap (x58 + (IntKind.i64.wrap x154)))), (6, .int .i64 (IntKind.i64.wrap (x59 + x155))), (7, .int .i64 x152), (8, .int .i64 (IntKind.i64.wrap (y119.toNat : Int))), (94, .bool (((decide ((IntKind.i64.wrap (x58 + (IntKind.i64.wrap x154))) > 16777216)) || (decide ((IntKind.i64.wrap (x59 + x155)) < 0))) || (decide ((IntKind.i64.wrap (x59 + x155)) > 16777216))))] (And.intro (And.intro rfl rfl) (fun _ => And.intro (And.intro rfl rfl) (fun _ => And.intro rfl (And.intro rfl (And.intro rfl (And.intro rfl (And.intro rfl (And.intro rfl (And.intro rfl trivial))))))))) fun j => ?_
            rcases ite_some hF with ⟨hb157, hF⟩ | ⟨hb157, hF⟩
            · refine wpn_cT (congrArg Value.bool hb157) ?_
              refine wpn_assoc ?_
              refine wpn_qa hO [] [(2, .slice none 0 0), (3, .int .i64 5)] (And.intro rfl (And.intro rfl trivial)) fun j => ?_
              refine wpn_rt ?_
              refine inb_r1 ?_
              refine thn_r1 ?_
              refine thn_r1 ?_
              refine inb_r1 ?_
              refine thn_r1 ?_
              injection hF with hF
              subst hF
              have hO := hO.sel [] (by decide)
              exact hQ _ _ _ _ _ rfl hO hL ⟨_, rfl, rfl, (RdT.nil _ _)⟩
            · refine wpn_cF (congrArg Value.bool hb157) ?_
              refine wpn_sk ?_
              refine wpn_qa hO [] [(0, .slice A0 p0.length c0), (4, .slice A147 x150.length c148), (5, .int .i64 (IntKind.i64.wrap (x58 + (IntKind.i64.wrap x154)))), (6, .int .i64 (IntKind.i64.wrap (x59 + x155))), (7, .int .i64 x152), (96, .bool (decide ((IntKind.i64.wrap (y119.toNat : Int)) ≥ 3)))] (And.intro rfl (And.intro rfl (And.intro rfl (And.intro rfl (And.intro rfl (And.intro rfl trivial)))))) fun j => ?_
              refine wpn_clast ?_
              rcases ite_some hF with ⟨hb158, hF⟩ | ⟨hb158, hF⟩
              · refine wpn_cT (congrArg Value.bool hb158) ?_
                refine wpn_q hO 4 [] [(0, .slice A0 p0.length c0), (5, .int .i64 (IntKind.i64.wrap (x58 + (IntKind.i64.wrap x154)))), (6, .int .i64 (IntKind.i64.wrap (x59 + x155))), (7, .int .i64 x152), (97, .slice A147 x150.length c148), (100, .agg #[(.int .i64 (IntKind.i64.wrap (x58 + (IntKind.i64.wrap x154)))), (.int .i64 (IntKind.i64.wrap (x59 + x155)))])] (And.intro rfl (And.intro rfl (And.intro rfl (And.intro rfl (And.intro rfl (And.intro rfl trivial)))))) fun j => ?_
                obtain ⟨_, hr, hF⟩ := bind_some hF
                refine wpn_ap1 (T := TyS_api_Row) (y := (⟨(IntKind.i64.wrap (x58 + (IntKind.i64.wrap x154))), (IntKind.i64.wrap (x59 + x155))⟩ : S_api_Row)) hO w151 (i := 0) rfl rfl (fun _ => rfl) rfl rfl rfl hr (by decide) fun u _ σ o161 w162 hO => ?_
                obtain ⟨A159, c160, rfl, -⟩ := w162.form
                have hO : Obs _ _ [_] := hO
                refine wpn_qa hO [] [(0, .slice A0 p0.length c0), (4, .slice A159 (x150 ++ [(⟨(IntKind.i64.wrap (x58 + (IntKind.i64.wrap x154))), (IntKind.i64.wrap (x59 + x155))⟩ : S_api_Row)]).length c160), (5, .int .i64 (IntKind.i64.wrap (x58 + (IntKind.i64.wrap x154)))), (6, .int .i64 (IntKind.i64.wrap (x59 + x155))), (7, .int .i64 x152)] (And.intro rfl (And.intro rfl (And.intro rfl (And.intro rfl (And.intro rfl trivial))))) fun j => ?_
                refine wpn_end ?_
                refine inb_i ?_
                refine thn_i ?_
                refine wpn_end ?_
                refine thn_i ?_
                exact ⟨n117, Nat.lt_succ_self _, A159, c160, o161, (x150 ++ [(⟨(IntKind.i64.wrap (x58 + (IntKind.i64.wrap x154))), (IntKind.i64.wrap (x59 + x155))⟩ : S_api_Row)]), (IntKind.i64.wrap (x58 + (IntKind.i64.wrap x154))), (IntKind.i64.wrap (x59 + x155)), x152, _, And.intro rfl (And.intro rfl (And.intro rfl (And.intro rfl (And.intro rfl trivial)))), hO, hL, r146, w162, hF⟩
              · refine wpn_cF (congrArg Value.bool hb158) ?_
                refine wpn_sk ?_
                refine wpn_end ?_
                refine inb_i ?_
                refine thn_i ?_
                refine wpn_end ?_
                refine thn_i ?_
                exact ⟨n117, Nat.lt_succ_self _, A147, c148, o149, x150, (IntKind.i64.wrap (x58 + (IntKind.i64.wrap x154))), (IntKind.i64.wrap (x59 + x155)), x152, _, And.intro rfl (And.intro rfl (And.intro rfl (And.intro rfl (And.intro rfl trivial)))), hO, hL, r146, w151, hF⟩
    · refine wpn_cF (congrArg Value.bool hb118) ?_
      refine wpn_ex ?_
      refine thn_x ?_
      refine inb_x ?_
      refine thn_i ?_
      refine wpn_qa hO [] [(2, .slice none 0 0), (3, .int .i64 5)] (And.intro rfl (And.intro rfl trivial)) fun j => ?_
      refine wpn_r1 ?_
      injection hF with hF
      subst hF
      have hO := hO.sel [] (by decide)
      exact hQ _ _ _ _ _ rfl hO hL ⟨_, rfl, rfl, (RdT.nil _ _)⟩

/-! theodolite/theodoliteref00.Kept -/
theorem w_ref00_Kept {τ : Hp} {v0 : Value} {p0 : (List UInt8)} {q0 : (List UInt8)} {v1 : Value} {p1 : (List UInt8)} (r0 : RdT Ty.u8 τ v0 p0) (f0 : Full Ty.u8 τ v0 q0) (r1 : RdT Ty.u8 τ v1 p1) {rr : Bool} (hF : F_ref00_Kept p0 q0 p1 = some rr) :
    Ctr Try.prog 18 #[v0, v1] τ [] (fun v τ' vs' => v = .bool rr ∧ vs' = []) := by
  obtain ⟨A0, n0, rfl, f0⟩ := f0
  obtain ⟨_, _, hv0, -⟩ := r0.form
  injection hv0 with _ hv0 _
  subst hv0
  have f0 : Full Ty.u8 τ (.slice A0 p0.length q0.length) q0 := ⟨_, _, rfl, f0⟩
  obtain ⟨A1, c1, rfl, -⟩ := r1.form
  refine ctr_of (args := [.slice A0 p0.length q0.length, .slice A1 p1.length c1]) hm Try.func18 s18 rfl fun w0 σ hO Q hQ => ?_
  unfold F_ref00_Kept at hF
  have hL := Hp.le.refl τ
  show wpn _ _ a18.body _ _ _
  unfold a18
  dsimp only
  refine wpn_qa hO [] [(0, .slice A0 p0.length q0.length), (1, .slice A1 p1.length c1)] (And.intro rfl (And.intro rfl trivial)) fun j => ?_
  refine wpn_assoc ?_
  refine wpn_qa hO [] [(0, .slice A0 p0.length q0.length), (1, .slice A1 p1.length c1), (20, .bool (((p0.length : Int) != (p1.length : Int)) || (decide ((q0.length : Int) < (IntKind.i64.wrap ((p0.length : Int) + 8))))))] (And.intro (And.intro rfl rfl) (fun _ => And.intro rfl (And.intro rfl (And.intro rfl trivial)))) fun j => ?_
  rcases ite_some hF with ⟨hb1, hF⟩ | ⟨hb1, hF⟩
  · refine wpn_cT (congrArg Value.bool hb1) ?_
    refine wpn_assoc ?_
    refine wpn_qa hO [] [(4, .bool false)] (And.intro rfl trivial) fun j => ?_
    refine wpn_rt ?_
    injection hF with hF
    subst hF
    exact hQ _ _ _ _ _ rfl hO hL ⟨rfl, rfl⟩
  · refine wpn_cF (congrArg Value.bool hb1) ?_
    refine wpn_sk ?_
    refine wpn_assoc ?_
    refine wpn_q hO 4 [] [(1, .slice A1 p1.length c1), (21, .slice A0 p0.length q0.length), (24, .int .i64 (IntKind.i64.wrap ((p0.length : Int) + 8)))] (And.intro rfl (And.intro rfl (And.intro rfl trivial))) fun j => ?_
    obtain ⟨y2, g3, hF⟩ := bind_some hF
    refine wpn_slf (T := Ty.u8) f0 rfl rfl g3 fun _ r4 => ?_
    obtain ⟨A5, c6, rfl, -⟩ := r4.form
    refine wpn_qa hO [] [(1, .slice A1 p1.length c1), (25, .slice A5 y2.length c6), (26, .int .i64 (y2.length : Int)), (27, .int .i64 0)] (And.intro rfl (And.intro rfl (And.intro rfl (And.intro rfl trivial)))) fun j => ?_
    refine wpn_bl ?_
    refine wpn_lp (fun (n : Nat) e' σ' => ∃ (x25 : Int) (τ' : Hp), agr [(1, .slice A1 p1.length c1), (25, .slice A5 y2.length c6), (26, .int .i64 (y2.length : Int)), (27, .int .i64 x25)] e' ∧ Obs τ' σ' [] ∧ Hp.le τ τ' ∧ RdT Ty.u8 τ' (.slice A1 p1.length c1) p1 ∧ RdT Ty.u8 τ' (.slice A5 y2.length c6) y2 ∧ F_ref00_Kept_l3 p1 y2 n x25 = some rr) big ⟨0, _, And.intro rfl (And.intro rfl (And.intro rfl (And.intro rfl trivial))), hO, hL, r1, r4, hF⟩ ?_
    clear hF hO hL
    rintro n40 e σ ⟨x25, _, hA, hO, hL, r23, r24, hF⟩
    rw [← sets_agr _ _ hA]
    cases n40 with
    | zero => exact nomatch (show none = some rr from hF)
    | succ n40 =>
      replace hF : F_ref00_Kept_l3B (F_ref00_Kept_l3 p1 y2 n40) p1 y2 x25 = some rr := hF
      unfold F_ref00_Kept_l3B at hF
      refine wpn_qa hO [] [(1, .slice A1 p1.length c1), (25, .slice A5 y2.length c6), (26, .int .i64 (y2.length : Int)), (27, .int .i64 x25), (28, .bool (decide (x25 < (y2.length : Int))))] (And.intro rfl (And.intro rfl (And.intro rfl (And.intro rfl (And.intro rfl trivial))))) fun j => ?_
      rcases ite_some hF with ⟨hb41, hF⟩ | ⟨hb41, hF⟩
      · refine wpn_cT (congrArg Value.bool hb41) ?_
        refine wpn_sk ?_
        refine wpn_bl ?_
        refine wpn_q hO 1 [] [(1, .slice A1 p1.length c1), (25, .slice A5 y2.length c6), (26, .int .i64 (y2.length : Int)), (27, .int .i64 x25), (29, .int .i64 x25)] (And.intro rfl (And.intro rfl (And.intro rfl (And.intro rfl (And.intro rfl trivial))))) fun j => ?_
        obtain ⟨y42, g43, hF⟩ := bind_some hF
        refine wpn_idx (T := Ty.u8) r24 hO.base rfl rfl g43 (by decide) fun a44 _ k45 m46 => ?_
        obtain rfl : _ = ([.int .u8 y42.toNat] : List Value) := k45
        refine wpn_ld rfl m46.fst ?_
        refine wpn_qa hO [] [(1, .slice A1 p1.length c1), (5, .int .i64 x25), (6, .int .u8 (y42.toNat : Int)), (25, .slice A5 y2.length c6), (26, .int .i64 (y2.length : Int)), (27, .int .i64 x25)] (And.intro rfl (And.intro rfl (And.intro rfl (And.intro rfl (And.intro rfl (And.intro rfl trivial)))))) fun j => ?_
        refine wpn_qa hO [] [(1, .slice A1 p1.length c1), (5, .int .i64 x25), (6, .int .u8 (y42.toNat : Int)), (7, .int .u8 (IntKind.u8.wrap (IntKind.i64.wrap ((IntKind.i64.wrap (8 + (p1.length : Int))) - x25)))), (25, .slice A5 y2.length c6), (26, .int .i64 (y2.length : Int)), (27, .int .i64 x25)] (And.intro rfl (And.intro rfl (And.intro rfl (And.intro rfl (And.intro rfl (And.intro rfl (And.intro rfl trivial))))))) fun j => ?_
        refine wpn_assoc ?_
        refine wpn_qa hO [] [(1, .slice A1 p1.length c1), (5, .int .i64 x25), (6, .int .u8 (y42.toNat : Int)), (7, .int .u8 (IntKind.u8.wrap (IntKind.i64.wrap ((IntKind.i64.wrap (8 + (p1.length : Int))) - x25)))), (25, .slice A5 y2.length c6), (26, .int .i64 (y2.length : Int)), (27, .int .i64 x25), (41, .bool (decide (x25 < (p1.length : Int))))] (And.intro rfl (And.intro rfl (And.intro rfl (And.intro rfl (And.intro rfl (And.intro rfl (And.intro rfl (And.intro rfl trivial)))))))) fun j => ?_
        rcases ite_some hF with ⟨hb47, hF⟩ | ⟨hb47, hF⟩
        · refine wpn_cT (congrArg Value.bool hb47) ?_
          refine wpn_q hO 2 [] [(1, .slice A1 p1.length c1), (6, .int .u8 (y42.toNat : Int)), (25, .slice A5 y2.length c6), (26, .int .i64 (y2.length : Int)), (27, .int .i64 x25), (42, .slice A1 p1.length c1), (43, .int .i64 x25)] (And.intro rfl (And.intro rfl (And.intro rfl (And.intro rfl (And.intro rfl (And.intro rfl (And.intro rfl trivial))))))) fun j => ?_
          obtain ⟨y48, g49, hF⟩ := bind_some hF
          refine wpn_idx (T := Ty.u8) r23 hO.base rfl rfl g49 (by decide) fun a50 _ k51 m52 => ?_
          obtain rfl : _ = ([.int .u8 y48.toNat] : List Value) := k51
          refine wpn_ld rfl m52.fst ?_
          refine wpn_qa hO [] [(1, .slice A1 p1.length c1), (6, .int .u8 (y42.toNat : Int)), (7, .int .u8 (y48.toNat : Int)), (25, .slice A5 y2.length c6), (26, .int .i64 (y2.length : Int)), (27, .int .i64 x25)] (And.intro rfl (And.intro rfl (And.intro rfl (And.intro rfl (And.intro rfl (And.intro rfl trivial)))))) fun j => ?_
          refine wpn_qa hO [] [(1, .slice A1 p1.length c1), (25, .slice A5 y2.length c6), (26, .int .i64 (y2.length : Int)), (27, .int .i64 x25), (48, .bool ((y42.toNat : Int) != (y48.toNat : Int)))] (And.intro rfl (And.intro rfl (And.intro rfl (And.intro rfl (And.intro rfl trivial))))) fun j => ?_
          refine wpn_clast ?_
          rcases ite_some hF with ⟨hb53, hF⟩ | ⟨hb53, hF⟩
          · refine wpn_cT (congrArg Value.bool hb53) ?_
            refine wpn_assoc ?_
            refine wpn_qa hO [] [(4, .bool false)] (And.intro rfl trivial) fun j => ?_
            refine wpn_rt ?_
            refine inb_r1 ?_
            refine thn_r1 ?_
            refine thn_r1 ?_
            refine inb_r1 ?_
            refine thn_r1 ?_
            injection hF with hF
            subst hF
            exact hQ _ _ _ _ _ rfl hO hL ⟨rfl, rfl⟩
          · refine wpn_cF (congrArg Value.bool hb53) ?_
            refine wpn_sk ?_
            refine wpn_end ?_
            refine inb_i ?_
            refine thn_i ?_
            refine wpn_rlast ?_
            refine wpn_qa hO [] [(1, .slice A1 p1.length c1), (25, .slice A5 y2.length c6), (26, .int .i64 (y2.length : Int)), (27, .int .i64 (IntKind.i64.wrap (x25 + 1)))] (And.intro rfl (And.intro rfl (And.intro rfl (And.intro rfl trivial)))) fun j => ?_
            refine wpn_end ?_
            refine thn_i ?_
            exact ⟨n40, Nat.lt_succ_self _, (IntKind.i64.wrap (x25 + 1)), _, And.intro rfl (And.intro rfl (And.intro rfl (And.intro rfl trivial))), hO, hL, r23, r24, hF⟩
        · refine wpn_cF (congrArg Value.bool hb47) ?_
          refine wpn_sk ?_
          refine wpn_qa hO [] [(1, .slice A1 p1.length c1), (25, .slice A5 y2.length c6), (26, .int .i64 (y2.length : Int)), (27, .int .i64 x25), (48, .bool ((y42.toNat : Int) != (IntKind.u8.wrap (IntKind.i64.wrap ((IntKind.i64.wrap (8 + (p1.length : Int))) - x25)))))] (And.intro rfl (And.intro rfl (And.intro rfl (And.intro rfl (And.intro rfl trivial))))) fun j => ?_
          refine wpn_clast ?_
          rcases ite_some hF with ⟨hb54, hF⟩ | ⟨hb54, hF⟩
          · refine wpn_cT (congrArg Value.bool hb54) ?_
            refine wpn_assoc ?_
            refine wpn_qa hO [] [(4, .bool false)] (And.intro rfl trivial) fun j => ?_
            refine wpn_rt ?_
            refine inb_r1 ?_
            refine thn_r1 ?_
            refine thn_r1 ?_
            refine inb_r1 ?_
            refine thn_r1 ?_
            injection hF with hF
            subst hF
            exact hQ _ _ _ _ _ rfl hO hL ⟨rfl, rfl⟩
          · refine wpn_cF (congrArg Value.bool hb54) ?_
            refine wpn_sk ?_
            refine wpn_end ?_
            refine inb_i ?_
            refine thn_i ?_
            refine wpn_rlast ?_
            refine wpn_qa hO [] [(1, .slice A1 p1.length c1), (25, .slice A5 y2.length c6), (26, .int .i64 (y2.length : Int)), (27, .int .i64 (IntKind.i64.wrap (x25 + 1)))] (And.intro rfl (And.intro rfl (And.intro rfl (And.intro rfl trivial)))) fun j => ?_
            refine wpn_end ?_
            refine thn_i ?_
            exact ⟨n40, Nat.lt_succ_self _, (IntKind.i64.wrap (x25 + 1)), _, And.intro rfl (And.intro rfl (And.intro rfl (And.intro rfl trivial))), hO, hL, r23, r24, hF⟩
      · refine wpn_cF (congrArg Value.bool hb41) ?_
        refine wpn_ex ?_
        refine thn_x ?_
        refine inb_x ?_
        refine thn_i ?_
        refine wpn_qa hO [] [(4, .bool true)] (And.intro rfl trivial) fun j => ?_
        refine wpn_r1 ?_
        injection hF with hF
        subst hF
        exact hQ _ _ _ _ _ rfl hO hL ⟨rfl, rfl⟩

/-! theodolite/theodolitelaw05.LinesReads -/
theorem w_law05_LinesReads {τ : Hp} {v0 : Value} {p0 : (List UInt8)} (r0 : RdT Ty.u8 τ v0 p0) {rr : Bool} (hF : F_law05_LinesReads p0 = some rr) :
    Ctr Try.prog 4 #[v0] τ [] (fun v τ' vs' => v = .bool rr ∧ vs' = []) := by
  obtain ⟨A0, c0, rfl, -⟩ := r0.form
  refine ctr_of (args := [.slice A0 p0.length c0]) hm Try.func4 s4 rfl fun w0 σ hO Q hQ => ?_
  unfold F_law05_LinesReads at hF
  have hL := Hp.le.refl τ
  show wpn _ _ a4.body _ _ _
  unfold a4
  dsimp only
  refine wpn_qa hO [] [(0, .slice A0 p0.length c0)] (And.intro rfl trivial) fun j => ?_
  refine wpn_assoc ?_
  refine wpn_qa hO [] [(0, .slice A0 p0.length c0), (10, .bool (decide ((p0.length : Int) > 65536)))] (And.intro rfl (And.intro rfl trivial)) fun j => ?_
  rcases ite_some hF with ⟨hb1, hF⟩ | ⟨hb1, hF⟩
  · refine wpn_cT (congrArg Value.bool hb1) ?_
    refine wpn_assoc ?_
    obtain ⟨c2, h3, hF⟩ := bind_some hF
    refine wpn_c0 hO (w_law05_works h3) rfl fun _ σ _ _ hO h4 h5 => ?_
    have hL := hL.trans h4
    have r0 := r0.le h4
    obtain ⟨rfl, rfl⟩ := h5
    have hO : Obs _ _ [] := hO
    refine wpn_qa hO [] [(2, .bool c2)] (And.intro rfl trivial) fun j => ?_
    refine wpn_rt ?_
    injection hF with hF
    subst hF
    exact hQ _ _ _ _ _ rfl hO hL ⟨rfl, rfl⟩
  · refine wpn_cF (congrArg Value.bool hb1) ?_
    refine wpn_sk ?_
    refine wpn_q hO 1 [] [(0, .slice A0 p0.length c0), (12, .slice A0 p0.length c0)] (And.intro rfl (And.intro rfl trivial)) fun j => ?_
    obtain ⟨c6, h7, hF⟩ := bind_some hF
    refine wpn_c0 hO (w_ref00_Roomy r0 h7) rfl fun _ σ _ _ hO h8 h9 => ?_
    have hL := hL.trans h8
    have r0 := r0.le h8
    obtain ⟨v10, rfl, rfl, r13, f14⟩ := h9
    obtain ⟨A11, n15, rfl, f14⟩ := f14
    obtain ⟨_, _, h16, -⟩ := r13.form
    injection h16 with _ h16 _
    subst h16
    have f14 : Full Ty.u8 _ (.slice A11 c6.1.length c6.2.length) c6.2 := ⟨_, _, rfl, f14⟩
    have hO : Obs _ _ [] := hO
    refine wpn_qa hO [] [(0, .slice A0 p0.length c0), (3, .slice A11 c6.1.length c6.2.length)] (And.intro rfl (And.intro rfl trivial)) fun j => ?_
    refine wpn_q hO 1 [] [(0, .slice A0 p0.length c0), (3, .slice A11 c6.1.length c6.2.length), (15, .slice A11 c6.1.length c6.2.length)] (And.intro rfl (And.intro rfl (And.intro rfl trivial))) fun j => ?_
    obtain ⟨c17, h18, hF⟩ := bind_some hF
    refine wpn_c0 hO (w_lines_Read r13 h18) rfl fun _ σ _ _ hO h19 h20 => ?_
    have hL := hL.trans h19
    have r0 := r0.le h19
    have r13 := r13.le h19
    have f14 := f14.le h19
    obtain ⟨v21, rfl, rfl, r24⟩ := h20
    obtain ⟨A22, c23, rfl, -⟩ := r24.form
    have hO : Obs _ _ [] := hO
    refine wpn_qa hO [] [(0, .slice A0 p0.length c0), (3, .slice A11 c6.1.length c6.2.length), (4, .slice A22 c17.1.length c23), (5, .int .i64 c17.2)] (And.intro rfl (And.intro rfl (And.intro rfl (And.intro rfl trivial)))) fun j => ?_
    refine wpn_q hO 1 [] [(0, .slice A0 p0.length c0), (3, .slice A11 c6.1.length c6.2.length), (4, .slice A22 c17.1.length c23), (5, .int .i64 c17.2), (20, .slice A0 p0.length c0)] (And.intro rfl (And.intro rfl (And.intro rfl (And.intro rfl (And.intro rfl trivial))))) fun j => ?_
    obtain ⟨c25, h26, hF⟩ := bind_some hF
    refine wpn_c0 hO (w_ref05_Read r0 h26) rfl fun _ σ _ _ hO h27 h28 => ?_
    have hL := hL.trans h27
    have r0 := r0.le h27
    have r13 := r13.le h27
    have f14 := f14.le h27
    have r24 := r24.le h27
    obtain ⟨v29, rfl, rfl, r32⟩ := h28
    obtain ⟨A30, c31, rfl, -⟩ := r32.form
    have hO : Obs _ _ [] := hO
    refine wpn_qa hO [] [(0, .slice A0 p0.length c0), (3, .slice A11 c6.1.length c6.2.length), (4, .slice A22 c17.1.length c23), (5, .int .i64 c17.2), (6, .slice A30 c25.1.length c31), (7, .int .i64 c25.2)] (And.intro rfl (And.intro rfl (And.intro rfl (And.intro rfl (And.intro rfl (And.intro rfl trivial)))))) fun j => ?_
    refine wpn_q hO 4 [] [(0, .slice A0 p0.length c0), (3, .slice A11 c6.1.length c6.2.length), (4, .slice A22 c17.1.length c23), (6, .slice A30 c25.1.length c31), (27, .bool (c17.2 == c25.2))] (And.intro rfl (And.intro rfl (And.intro rfl (And.intro rfl (And.intro rfl trivial))))) fun j => ?_
    obtain ⟨c33, h34, hF⟩ := bind_some hF
    refine wpn_mid 2 (fun e' σ' => ∃ (τ' : Hp), agr [(31, .bool c33), (0, .slice A0 p0.length c0), (3, .slice A11 c6.1.length c6.2.length)] e' ∧ Obs τ' σ' [] ∧ Hp.le τ τ' ∧ RdT Ty.u8 τ' (.slice A0 p0.length c0) p0 ∧ RdT Ty.u8 τ' (.slice A11 c6.1.length c6.2.length) c6.1 ∧ Full Ty.u8 τ' (.slice A11 c6.1.length c6.2.length) c6.2) ?_ ?_
    · have hF := h34
      rcases ite_some hF with ⟨hb35, hF⟩ | ⟨hb35, hF⟩
      · refine wpn_gT (congrArg (fun x => isB (.bool x) true) hb35) ?_
        refine wpn_q hO 2 [] [(0, .slice A0 p0.length c0), (3, .slice A11 c6.1.length c6.2.length), (27, .bool (c17.2 == c25.2)), (28, .slice A22 c17.1.length c23), (29, .slice A30 c25.1.length c31)] (And.intro rfl (And.intro rfl (And.intro rfl (And.intro rfl (And.intro rfl trivial))))) fun j => ?_
        obtain ⟨c36, h37, hF⟩ := bind_some hF
        refine wpn_c0 hO (w_law05_SameRows r24 r32 h37) rfl fun _ σ _ _ hO h38 h39 => ?_
        have hL := hL.trans h38
        have r0 := r0.le h38
        have r13 := r13.le h38
        have f14 := f14.le h38
        have r24 := r24.le h38
        have r32 := r32.le h38
        obtain ⟨rfl, rfl⟩ := h39
        have hO : Obs _ _ [] := hO
        refine wpn_pk (congrArg Value.bool hb35) ?_
        refine wpn_nil ?_
        injection hF with hF
        subst hF
        refine wpn_end ?_
        exact ⟨rfl, _, And.intro rfl (And.intro rfl (And.intro rfl trivial)), hO, hL, r0, r13, f14⟩
      · refine wpn_gF (congrArg (fun x => isB (.bool x) true) hb35) ?_
        refine wpn_pk (congrArg Value.bool hb35) ?_
        refine wpn_nil ?_
        injection hF with hF
        subst hF
        refine wpn_end ?_
        exact ⟨rfl, _, And.intro rfl (And.intro rfl (And.intro rfl trivial)), hO, hL, r0, r13, f14⟩
    · rintro e σ ⟨_, hA, hO, hL, r0, r13, f14⟩
      rw [← sets_agr _ _ hA]
      refine wpn_q hO 1 [] [(0, .slice A0 p0.length c0), (3, .slice A11 c6.1.length c6.2.length), (32, .bool c33)] (And.intro rfl (And.intro rfl (And.intro rfl trivial))) fun j => ?_
      obtain ⟨c40, h41, hF⟩ := bind_some hF
      refine wpn_mid 2 (fun e' σ' => ∃ (τ' : Hp), agr [(36, .bool c40)] e' ∧ Obs τ' σ' [] ∧ Hp.le τ τ') ?_ ?_
      · have hF := h41
        rcases ite_some hF with ⟨hb42, hF⟩ | ⟨hb42, hF⟩
        · refine wpn_gT (congrArg (fun x => isB (.bool x) true) hb42) ?_
          refine wpn_q hO 2 [] [(32, .bool c33), (33, .slice A11 c6.1.length c6.2.length), (34, .slice A0 p0.length c0)] (And.intro rfl (And.intro rfl (And.intro rfl trivial))) fun j => ?_
          obtain ⟨c43, h44, hF⟩ := bind_some hF
          refine wpn_c0 hO (w_ref00_Kept r13 f14 r0 h44) rfl fun _ σ _ _ hO h45 h46 => ?_
          have hL := hL.trans h45
          have r13 := r13.le h45
          have f14 := f14.le h45
          have r0 := r0.le h45
          obtain ⟨rfl, rfl⟩ := h46
          have hO : Obs _ _ [] := hO
          refine wpn_pk (congrArg Value.bool hb42) ?_
          refine wpn_nil ?_
          injection hF with hF
          subst hF
          refine wpn_end ?_
          exact ⟨rfl, _, And.intro rfl (trivial), hO, hL⟩
        · refine wpn_gF (congrArg (fun x => isB (.bool x) true) hb42) ?_
          refine wpn_pk (congrArg Value.bool hb42) ?_
          refine wpn_nil ?_
          injection hF with hF
          subst hF
          refine wpn_end ?_
          exact ⟨rfl, _, And.intro rfl (trivial), hO, hL⟩
      · rintro e σ ⟨_, hA, hO, hL⟩
        rw [← sets_agr _ _ hA]
        refine wpn_q hO 1 [] [(37, .bool c40)] (And.intro rfl trivial) fun j => ?_
        obtain ⟨c47, h48, hF⟩ := bind_some hF
        refine wpn_mid 2 (fun e' σ' => ∃ (τ' : Hp), agr [(39, .bool c47)] e' ∧ Obs τ' σ' [] ∧ Hp.le τ τ') ?_ ?_
        · have hF := h48
          rcases ite_some hF with ⟨hb49, hF⟩ | ⟨hb49, hF⟩
          · refine wpn_gT (congrArg (fun x => isB (.bool x) true) hb49) ?_
            obtain ⟨c50, h51, hF⟩ := bind_some hF
            refine wpn_c0 hO (w_law05_works h51) rfl fun _ σ _ _ hO h52 h53 => ?_
            have hL := hL.trans h52
            obtain ⟨rfl, rfl⟩ := h53
            have hO : Obs _ _ [] := hO
            refine wpn_pk (congrArg Value.bool hb49) ?_
            refine wpn_nil ?_
            injection hF with hF
            subst hF
            refine wpn_end ?_
            exact ⟨rfl, _, And.intro rfl (trivial), hO, hL⟩
          · refine wpn_gF (congrArg (fun x => isB (.bool x) true) hb49) ?_
            refine wpn_pk (congrArg Value.bool hb49) ?_
            refine wpn_nil ?_
            injection hF with hF
            subst hF
            refine wpn_end ?_
            exact ⟨rfl, _, And.intro rfl (trivial), hO, hL⟩
        · rintro e σ ⟨_, hA, hO, hL⟩
          rw [← sets_agr _ _ hA]
          refine wpn_qa hO [] [(2, .bool c47)] (And.intro rfl trivial) fun j => ?_
          refine wpn_r1 ?_
          injection hF with hF
          subst hF
          exact hQ _ _ _ _ _ rfl hO hL ⟨rfl, rfl⟩

/-! theodolite/theodolitelaw05.LinesBack -/
theorem w_law05_LinesBack {τ : Hp} {v0 : Value} {p0 : (List S_api_Row)} {v1 : Value} {p1 : (List UInt8)} (r0 : RdT TyS_api_Row τ v0 p0) (r1 : RdT Ty.u8 τ v1 p1) {rr : Bool} (hF : F_law05_LinesBack p0 p1 = some rr) :
    Ctr Try.prog 5 #[v0, v1] τ [] (fun v τ' vs' => v = .bool rr ∧ vs' = []) := by
  obtain ⟨A0, c0, rfl, -⟩ := r0.form
  obtain ⟨A1, c1, rfl, -⟩ := r1.form
  refine ctr_of (args := [.slice A0 p0.length c0, .slice A1 p1.length c1]) hm Try.func5 s5 rfl fun w0 σ hO Q hQ => ?_
  unfold F_law05_LinesBack at hF
  have hL := Hp.le.refl τ
  show wpn _ _ a5.body _ _ _
  unfold a5
  dsimp only
  refine wpn_qa hO [] [(0, .slice A0 p0.length c0), (1, .slice A1 p1.length c1)] (And.intro rfl (And.intro rfl trivial)) fun j => ?_
  refine wpn_assoc ?_
  refine wpn_qa hO [] [(0, .slice A0 p0.length c0), (1, .slice A1 p1.length c1), (24, .bool ((decide ((p0.length : Int) > 30000)) || (decide ((p1.length : Int) > 65536))))] (And.intro (And.intro rfl rfl) (fun _ => And.intro rfl (And.intro rfl (And.intro rfl trivial)))) fun j => ?_
  rcases ite_some hF with ⟨hb1, hF⟩ | ⟨hb1, hF⟩
  · refine wpn_cT (congrArg Value.bool hb1) ?_
    refine wpn_assoc ?_
    obtain ⟨c2, h3, hF⟩ := bind_some hF
    refine wpn_c0 hO (w_law05_works h3) rfl fun _ σ _ _ hO h4 h5 => ?_
    have hL := hL.trans h4
    have r0 := r0.le h4
    have r1 := r1.le h4
    obtain ⟨rfl, rfl⟩ := h5
    have hO : Obs _ _ [] := hO
    refine wpn_qa hO [] [(4, .bool c2)] (And.intro rfl trivial) fun j => ?_
    refine wpn_rt ?_
    injection hF with hF
    subst hF
    exact hQ _ _ _ _ _ rfl hO hL ⟨rfl, rfl⟩
  · refine wpn_cF (congrArg Value.bool hb1) ?_
    refine wpn_sk ?_
    refine wpn_q hO 1 [] [(0, .slice A0 p0.length c0), (1, .slice A1 p1.length c1), (27, .slice A0 p0.length c0)] (And.intro rfl (And.intro rfl (And.intro rfl trivial))) fun j => ?_
    obtain ⟨c6, h7, hF⟩ := bind_some hF
    refine wpn_c0 hO (w_law05_twin r0 h7) rfl fun _ σ _ _ hO h8 h9 => ?_
    have hL := hL.trans h8
    have r0 := r0.le h8
    have r1 := r1.le h8
    obtain ⟨v10, o13, rfl, rfl, w14⟩ := h9
    obtain ⟨A11, c12, rfl, -⟩ := w14.form
    have hO : Obs _ _ [_] := hO
    obtain ⟨_, h16, r15, hO⟩ := w14.share hO (i := 0) rfl
    have hL := hL.trans h16
    have r0 := r0.le h16
    have r1 := r1.le h16
    have hO : Obs _ _ [_] := hO
    obtain ⟨c17, h18, hF⟩ := bind_some hF
    refine wpn_c0 hO (w_lines_Write r15 h18) rfl fun _ σ _ _ hO h19 h20 => ?_
    have hL := hL.trans h19
    have r0 := r0.le h19
    have r1 := r1.le h19
    have r15 := r15.le h19
    obtain ⟨v21, o24, rfl, rfl, w25⟩ := h20
    obtain ⟨A22, c23, rfl, -⟩ := w25.form
    have hO : Obs _ _ [_, _] := hO
    refine wpn_qa hO [] [(0, .slice A0 p0.length c0), (1, .slice A1 p1.length c1), (5, .slice A22 c17.1.length c23), (6, .int .i64 c17.2)] (And.intro rfl (And.intro rfl (And.intro rfl (And.intro rfl trivial)))) fun j => ?_
    refine wpn_assoc ?_
    refine wpn_q hO 3 [] [(0, .slice A0 p0.length c0), (1, .slice A1 p1.length c1), (5, .slice A22 c17.1.length c23), (6, .int .i64 c17.2), (33, .bool (c17.2 == 0)), (34, .slice A0 p0.length c0)] (And.intro rfl (And.intro rfl (And.intro rfl (And.intro rfl (And.intro rfl (And.intro rfl trivial)))))) fun j => ?_
    obtain ⟨c26, h27, hF⟩ := bind_some hF
    refine wpn_c0 hO (w_lines_Right r0 h27) rfl fun _ σ _ _ hO h28 h29 => ?_
    have hL := hL.trans h28
    have r0 := r0.le h28
    have r1 := r1.le h28
    have w25 := w25.le h28
    obtain ⟨rfl, rfl⟩ := h29
    have hO : Obs _ _ [_, _] := hO
    refine wpn_qa hO [] [(0, .slice A0 p0.length c0), (1, .slice A1 p1.length c1), (5, .slice A22 c17.1.length c23), (6, .int .i64 c17.2), (36, .bool (!((c17.2 == 0) == c26)))] (And.intro rfl (And.intro rfl (And.intro rfl (And.intro rfl (And.intro rfl trivial))))) fun j => ?_
    rcases ite_some hF with ⟨hb30, hF⟩ | ⟨hb30, hF⟩
    · refine wpn_cT (congrArg Value.bool hb30) ?_
      refine wpn_assoc ?_
      refine wpn_qa hO [] [(4, .bool false)] (And.intro rfl trivial) fun j => ?_
      refine wpn_rt ?_
      injection hF with hF
      subst hF
      have hO := hO.sel [] (by decide)
      exact hQ _ _ _ _ _ rfl hO hL ⟨rfl, rfl⟩
    · refine wpn_cF (congrArg Value.bool hb30) ?_
      refine wpn_sk ?_
      refine wpn_assoc ?_
      refine wpn_qa hO [] [(0, .slice A0 p0.length c0), (1, .slice A1 p1.length c1), (5, .slice A22 c17.1.length c23), (6, .int .i64 c17.2), (38, .bool (c17.2 == 0))] (And.intro rfl (And.intro rfl (And.intro rfl (And.intro rfl (And.intro rfl trivial))))) fun j => ?_
      refine wpn_cut (fun e' σ' => ∃ (τ' : Hp), agr [(1, .slice A1 p1.length c1)] e' ∧ Obs τ' σ' [] ∧ Hp.le τ τ' ∧ RdT Ty.u8 τ' (.slice A1 p1.length c1) p1 ∧ F_law05_LinesBack_k9 p1 = some rr) ?_ ?_
      · refine wpn_clast ?_
        rcases ite_some hF with ⟨hb167, hF⟩ | ⟨hb167, hF⟩
        · refine wpn_cT (congrArg Value.bool hb167) ?_
          refine wpn_assoc ?_
          refine wpn_q hO 1 [] [(0, .slice A0 p0.length c0), (1, .slice A1 p1.length c1), (5, .slice A22 c17.1.length c23), (40, .slice A22 c17.1.length c23)] (And.intro rfl (And.intro rfl (And.intro rfl (And.intro rfl trivial)))) fun j => ?_
          obtain ⟨_, h169, r168, hO⟩ := w25.share hO (i := 1) rfl
          have hL := hL.trans h169
          have r0 := r0.le h169
          have r1 := r1.le h169
          have hO : Obs _ _ [_, _] := hO
          obtain ⟨c170, h171, hF⟩ := bind_some hF
          refine wpn_c0 hO (w_lines_Read r168 h171) rfl fun _ σ _ _ hO h172 h173 => ?_
          have hL := hL.trans h172
          have r0 := r0.le h172
          have r1 := r1.le h172
          have r168 := r168.le h172
          obtain ⟨v174, rfl, rfl, r177⟩ := h173
          obtain ⟨A175, c176, rfl, -⟩ := r177.form
          have hO : Obs _ _ [_, _] := hO
          refine wpn_qa hO [] [(0, .slice A0 p0.length c0), (1, .slice A1 p1.length c1), (5, .slice A22 c17.1.length c23), (7, .slice A175 c170.1.length c176), (8, .int .i64 c170.2)] (And.intro rfl (And.intro rfl (And.intro rfl (And.intro rfl (And.intro rfl trivial))))) fun j => ?_
          refine wpn_assoc ?_
          refine wpn_assoc ?_
          refine wpn_q hO 3 [] [(0, .slice A0 p0.length c0), (1, .slice A1 p1.length c1), (5, .slice A22 c17.1.length c23), (7, .slice A175 c170.1.length c176), (46, .bool (c170.2 != 0))] (And.intro rfl (And.intro rfl (And.intro rfl (And.intro rfl (And.intro rfl trivial))))) fun j => ?_
          have hO := hO.sel [] (by decide)
          have hO : Obs _ _ [] := hO
          obtain ⟨c178, h179, hF⟩ := bind_some hF
          refine wpn_mid 2 (fun e' σ' => ∃ (τ' : Hp), agr [(51, .bool c178), (0, .slice A0 p0.length c0), (1, .slice A1 p1.length c1), (5, .slice A22 c17.1.length c23)] e' ∧ Obs τ' σ' [] ∧ Hp.le τ τ' ∧ RdT TyS_api_Row τ' (.slice A0 p0.length c0) p0 ∧ RdT Ty.u8 τ' (.slice A1 p1.length c1) p1 ∧ RdT Ty.u8 τ' (.slice A22 c17.1.length c23) c17.1) ?_ ?_
          · have hF := h179
            rcases ite_some hF with ⟨hb180, hF⟩ | ⟨hb180, hF⟩
            · refine wpn_gF (congrArg (fun x => isB (.bool x) false) hb180) ?_
              refine wpn_pk (congrArg Value.bool hb180) ?_
              refine wpn_nil ?_
              injection hF with hF
              subst hF
              refine wpn_end ?_
              exact ⟨rfl, _, And.intro rfl (And.intro rfl (And.intro rfl (And.intro rfl trivial))), hO, hL, r0, r1, r168⟩
            · refine wpn_gT (congrArg (fun x => isB (.bool x) false) hb180) ?_
              refine wpn_q hO 2 [] [(0, .slice A0 p0.length c0), (1, .slice A1 p1.length c1), (5, .slice A22 c17.1.length c23), (46, .bool (c170.2 != 0)), (47, .slice A175 c170.1.length c176), (48, .slice A0 p0.length c0)] (And.intro rfl (And.intro rfl (And.intro rfl (And.intro rfl (And.intro rfl (And.intro rfl trivial)))))) fun j => ?_
              obtain ⟨c181, h182, hF⟩ := bind_some hF
              refine wpn_c0 hO (w_law05_SameRows r177 r0 h182) rfl fun _ σ _ _ hO h183 h184 => ?_
              have hL := hL.trans h183
              have r0 := r0.le h183
              have r1 := r1.le h183
              have r168 := r168.le h183
              have r177 := r177.le h183
              obtain ⟨rfl, rfl⟩ := h184
              have hO : Obs _ _ [] := hO
              refine wpn_q hO 1 [] [(0, .slice A0 p0.length c0), (1, .slice A1 p1.length c1), (5, .slice A22 c17.1.length c23), (46, .bool (c170.2 != 0)), (50, .bool (!c181))] (And.intro rfl (And.intro rfl (And.intro rfl (And.intro rfl (And.intro rfl trivial))))) fun j => ?_
              refine wpn_pk (congrArg Value.bool hb180) ?_
              refine wpn_nil ?_
              injection hF with hF
              subst hF
              refine wpn_end ?_
              exact ⟨rfl, _, And.intro rfl (And.intro rfl (And.intro rfl (And.intro rfl trivial))), hO, hL, r0, r1, r168⟩
          · rintro e σ ⟨_, hA, hO, hL, r0, r1, r168⟩
            rw [← sets_agr _ _ hA]
            refine wpn_qa hO [] [(1, .slice A1 p1.length c1), (5, .slice A22 c17.1.length c23), (60, .bool (c178 || (decide ((c17.1.length : Int) > (IntKind.i64.wrap ((IntKind.i64.wrap (9 * (p0.length : Int))) + 1))))))] (And.intro (And.intro rfl rfl) (fun _ => And.intro rfl (And.intro rfl (And.intro rfl trivial)))) fun j => ?_
            rcases ite_some hF with ⟨hb185, hF⟩ | ⟨hb185, hF⟩
            · refine wpn_cT (congrArg Value.bool hb185) ?_
              refine wpn_assoc ?_
              refine wpn_qa hO [] [(4, .bool false)] (And.intro rfl trivial) fun j => ?_
              refine wpn_rt ?_
              refine thn_r1 ?_
              injection hF with hF
              subst hF
              exact hQ _ _ _ _ _ rfl hO hL ⟨rfl, rfl⟩
            · refine wpn_cF (congrArg Value.bool hb185) ?_
              refine wpn_sk ?_
              refine wpn_assoc ?_
              refine wpn_qa hO [] [(1, .slice A1 p1.length c1), (5, .slice A22 c17.1.length c23), (9, .int .i64 0)] (And.intro rfl (And.intro rfl (And.intro rfl trivial))) fun j => ?_
              refine wpn_bl ?_
              refine wpn_lp (fun (n : Nat) e' σ' => ∃ (x205 : Int) (τ' : Hp), agr [(1, .slice A1 p1.length c1), (5, .slice A22 c17.1.length c23), (9, .int .i64 x205)] e' ∧ Obs τ' σ' [] ∧ Hp.le τ τ' ∧ RdT Ty.u8 τ' (.slice A1 p1.length c1) p1 ∧ RdT Ty.u8 τ' (.slice A22 c17.1.length c23) c17.1 ∧ F_law05_LinesBack_l9 p1 c17 n x205 = some rr) big ⟨0, _, And.intro rfl (And.intro rfl (And.intro rfl trivial)), hO, hL, r1, r168, hF⟩ ?_
              clear hF hO hL
              rintro n221 e σ ⟨x205, _, hA, hO, hL, r203, r204, hF⟩
              rw [← sets_agr _ _ hA]
              cases n221 with
              | zero => exact nomatch (show none = some rr from hF)
              | succ n221 =>
                replace hF : F_law05_LinesBack_l9B (F_law05_LinesBack_l9 p1 c17 n221) p1 c17 x205 = some rr := hF
                unfold F_law05_LinesBack_l9B at hF
                refine wpn_assoc ?_
                refine wpn_qa hO [] [(1, .slice A1 p1.length c1), (5, .slice A22 c17.1.length c23), (9, .int .i64 x205), (68, .bool ((decide (x205 < (c17.1.length : Int))) && (decide (x205 < 200))))] (And.intro (And.intro rfl rfl) (fun _ => And.intro rfl (And.intro rfl (And.intro rfl (And.intro rfl trivial))))) fun j => ?_
                rcases ite_some hF with ⟨hb222, hF⟩ | ⟨hb222, hF⟩
                · refine wpn_cT (congrArg Value.bool hb222) ?_
                  refine wpn_sk ?_
                  refine wpn_bl ?_
                  refine wpn_q hO 2 [] [(1, .slice A1 p1.length c1), (5, .slice A22 c17.1.length c23), (9, .int .i64 x205), (72, .slice A22 c17.1.length c23), (73, .int .i64 x205)] (And.intro rfl (And.intro rfl (And.intro rfl (And.intro rfl (And.intro rfl trivial))))) fun j => ?_
                  obtain ⟨y223, g224, hF⟩ := bind_some hF
                  refine wpn_sl (T := Ty.u8) r204 rfl rfl rfl g224 fun _ r225 => ?_
                  obtain ⟨A226, c227, rfl, -⟩ := r225.form
                  obtain ⟨c228, h229, hF⟩ := bind_some hF
                  refine wpn_c0 hO (w_lines_Read r225 h229) rfl fun _ σ _ _ hO h230 h231 => ?_
                  have hL := hL.trans h230
                  have r203 := r203.le h230
                  have r204 := r204.le h230
                  have r225 := r225.le h230
                  obtain ⟨v232, rfl, rfl, r235⟩ := h231
                  obtain ⟨A233, c234, rfl, -⟩ := r235.form
                  have hO : Obs _ _ [] := hO
                  refine wpn_qa hO [] [(1, .slice A1 p1.length c1), (5, .slice A22 c17.1.length c23), (9, .int .i64 x205), (11, .int .i64 c228.2)] (And.intro rfl (And.intro rfl (And.intro rfl (And.intro rfl trivial)))) fun j => ?_
                  refine wpn_qa hO [] [(1, .slice A1 p1.length c1), (5, .slice A22 c17.1.length c23), (9, .int .i64 x205), (79, .bool (c228.2 == 0))] (And.intro rfl (And.intro rfl (And.intro rfl (And.intro rfl trivial)))) fun j => ?_
                  refine wpn_clast ?_
                  rcases ite_some hF with ⟨hb236, hF⟩ | ⟨hb236, hF⟩
                  · refine wpn_cT (congrArg Value.bool hb236) ?_
                    refine wpn_assoc ?_
                    refine wpn_qa hO [] [(4, .bool false)] (And.intro rfl trivial) fun j => ?_
                    refine wpn_rt ?_
                    refine inb_r1 ?_
                    refine thn_r1 ?_
                    refine thn_r1 ?_
                    refine inb_r1 ?_
                    refine thn_r1 ?_
                    refine thn_r1 ?_
                    injection hF with hF
                    subst hF
                    exact hQ _ _ _ _ _ rfl hO hL ⟨rfl, rfl⟩
                  · refine wpn_cF (congrArg Value.bool hb236) ?_
                    refine wpn_sk ?_
                    refine wpn_end ?_
                    refine inb_i ?_
                    refine thn_i ?_
                    refine wpn_rlast ?_
                    refine wpn_qa hO [] [(1, .slice A1 p1.length c1), (5, .slice A22 c17.1.length c23), (9, .int .i64 (IntKind.i64.wrap (x205 + 1)))] (And.intro rfl (And.intro rfl (And.intro rfl trivial))) fun j => ?_
                    refine wpn_end ?_
                    refine thn_i ?_
                    exact ⟨n221, Nat.lt_succ_self _, (IntKind.i64.wrap (x205 + 1)), _, And.intro rfl (And.intro rfl (And.intro rfl trivial)), hO, hL, r203, r204, hF⟩
                · refine wpn_cF (congrArg Value.bool hb222) ?_
                  refine wpn_ex ?_
                  refine thn_x ?_
                  refine inb_x ?_
                  refine thn_i ?_
                  refine wpn_end ?_
                  refine thn_i ?_
                  exact ⟨_, And.intro rfl trivial, hO, hL, r203, hF⟩
        · refine wpn_cF (congrArg Value.bool hb167) ?_
          refine wpn_assoc ?_
          refine wpn_qa hO [] [(1, .slice A1 p1.length c1), (86, .bool ((c17.2 != 1) || ((c17.1.length : Int) != 0)))] (And.intro (And.intro rfl rfl) (fun _ => And.intro rfl (And.intro rfl trivial))) fun j => ?_
          rcases ite_some hF with ⟨hb237, hF⟩ | ⟨hb237, hF⟩
          · refine wpn_cT (congrArg Value.bool hb237) ?_
            refine wpn_assoc ?_
            refine wpn_qa hO [] [(4, .bool false)] (And.intro rfl trivial) fun j => ?_
            refine wpn_rt ?_
            refine thn_r1 ?_
            injection hF with hF
            subst hF
            have hO := hO.sel [] (by decide)
            exact hQ _ _ _ _ _ rfl hO hL ⟨rfl, rfl⟩
          · refine wpn_cF (congrArg Value.bool hb237) ?_
            refine wpn_sk ?_
            refine wpn_end ?_
            refine thn_i ?_
            have hO := hO.sel [] (by decide)
            exact ⟨_, And.intro rfl trivial, hO, hL, r1, hF⟩
      · rintro e σ ⟨_, hA, hO, hL, r102, hF⟩
        rw [← sets_agr _ _ hA]
        unfold F_law05_LinesBack_k9 at hF
        refine wpn_q hO 1 [] [(88, .slice A1 p1.length c1)] (And.intro rfl trivial) fun j => ?_
        obtain ⟨c103, h104, hF⟩ := bind_some hF
        refine wpn_c0 hO (w_lines_Read r102 h104) rfl fun _ σ _ _ hO h105 h106 => ?_
        have hL := hL.trans h105
        have r102 := r102.le h105
        obtain ⟨v107, rfl, rfl, r110⟩ := h106
        obtain ⟨A108, c109, rfl, -⟩ := r110.form
        have hO : Obs _ _ [] := hO
        refine wpn_qa hO [] [(6, .int .i64 c103.2), (12, .slice A108 c103.1.length c109)] (And.intro rfl (And.intro rfl trivial)) fun j => ?_
        refine wpn_assoc ?_
        refine wpn_qa hO [] [(6, .int .i64 c103.2), (12, .slice A108 c103.1.length c109), (93, .bool (c103.2 != 0))] (And.intro rfl (And.intro rfl (And.intro rfl trivial))) fun j => ?_
        rcases ite_some hF with ⟨hb111, hF⟩ | ⟨hb111, hF⟩
        · refine wpn_cT (congrArg Value.bool hb111) ?_
          refine wpn_assoc ?_
          refine wpn_q hO 6 [] [(101, .bool ((c103.2 == 5) && ((c103.1.length : Int) == 0)))] (And.intro (And.intro rfl rfl) (fun _ => And.intro rfl trivial)) fun j => ?_
          obtain ⟨c112, h113, hF⟩ := bind_some hF
          refine wpn_mid 2 (fun e' σ' => ∃ (τ' : Hp), agr [(103, .bool c112)] e' ∧ Obs τ' σ' [] ∧ Hp.le τ τ') ?_ ?_
          · have hF := h113
            rcases ite_some hF with ⟨hb114, hF⟩ | ⟨hb114, hF⟩
            · refine wpn_gT (congrArg (fun x => isB (.bool x) true) hb114) ?_
              obtain ⟨c115, h116, hF⟩ := bind_some hF
              refine wpn_c0 hO (w_law05_works h116) rfl fun _ σ _ _ hO h117 h118 => ?_
              have hL := hL.trans h117
              obtain ⟨rfl, rfl⟩ := h118
              have hO : Obs _ _ [] := hO
              refine wpn_pk (congrArg Value.bool hb114) ?_
              refine wpn_nil ?_
              injection hF with hF
              subst hF
              refine wpn_end ?_
              exact ⟨rfl, _, And.intro rfl (trivial), hO, hL⟩
            · refine wpn_gF (congrArg (fun x => isB (.bool x) true) hb114) ?_
              refine wpn_pk (congrArg Value.bool hb114) ?_
              refine wpn_nil ?_
              injection hF with hF
              subst hF
              refine wpn_end ?_
              exact ⟨rfl, _, And.intro rfl (trivial), hO, hL⟩
          · rintro e σ ⟨_, hA, hO, hL⟩
            rw [← sets_agr _ _ hA]
            refine wpn_qa hO [] [(4, .bool c112)] (And.intro rfl trivial) fun j => ?_
            refine wpn_rt ?_
            injection hF with hF
            subst hF
            exact hQ _ _ _ _ _ rfl hO hL ⟨rfl, rfl⟩
        · refine wpn_cF (congrArg Value.bool hb111) ?_
          refine wpn_sk ?_
          refine wpn_q hO 1 [] [(12, .slice A108 c103.1.length c109), (105, .slice A108 c103.1.length c109)] (And.intro rfl (And.intro rfl trivial)) fun j => ?_
          obtain ⟨c119, h120, hF⟩ := bind_some hF
          refine wpn_c0 hO (w_law05_twin r110 h120) rfl fun _ σ _ _ hO h121 h122 => ?_
          have hL := hL.trans h121
          have r110 := r110.le h121
          obtain ⟨v123, o126, rfl, rfl, w127⟩ := h122
          obtain ⟨A124, c125, rfl, -⟩ := w127.form
          have hO : Obs _ _ [_] := hO
          obtain ⟨_, h129, r128, hO⟩ := w127.share hO (i := 0) rfl
          have hL := hL.trans h129
          have r110 := r110.le h129
          have hO : Obs _ _ [_] := hO
          obtain ⟨c130, h131, hF⟩ := bind_some hF
          refine wpn_c0 hO (w_lines_Write r128 h131) rfl fun _ σ _ _ hO h132 h133 => ?_
          have hL := hL.trans h132
          have r110 := r110.le h132
          have r128 := r128.le h132
          obtain ⟨v134, o137, rfl, rfl, w138⟩ := h133
          obtain ⟨A135, c136, rfl, -⟩ := w138.form
          have hO : Obs _ _ [_, _] := hO
          refine wpn_qa hO [] [(12, .slice A108 c103.1.length c109), (13, .slice A135 c130.1.length c136), (14, .int .i64 c130.2)] (And.intro rfl (And.intro rfl (And.intro rfl trivial))) fun j => ?_
          refine wpn_q hO 1 [] [(12, .slice A108 c103.1.length c109), (13, .slice A135 c130.1.length c136), (14, .int .i64 c130.2), (111, .slice A135 c130.1.length c136)] (And.intro rfl (And.intro rfl (And.intro rfl (And.intro rfl trivial)))) fun j => ?_
          obtain ⟨_, h140, r139, hO⟩ := w138.share hO (i := 1) rfl
          have hL := hL.trans h140
          have r110 := r110.le h140
          have hO : Obs _ _ [_, _] := hO
          obtain ⟨c141, h142, hF⟩ := bind_some hF
          refine wpn_c0 hO (w_lines_Read r139 h142) rfl fun _ σ _ _ hO h143 h144 => ?_
          have hL := hL.trans h143
          have r110 := r110.le h143
          have r139 := r139.le h143
          obtain ⟨v145, rfl, rfl, r148⟩ := h144
          obtain ⟨A146, c147, rfl, -⟩ := r148.form
          have hO : Obs _ _ [_, _] := hO
          refine wpn_qa hO [] [(12, .slice A108 c103.1.length c109), (13, .slice A135 c130.1.length c136), (14, .int .i64 c130.2), (15, .slice A146 c141.1.length c147), (16, .int .i64 c141.2)] (And.intro rfl (And.intro rfl (And.intro rfl (And.intro rfl (And.intro rfl trivial))))) fun j => ?_
          refine wpn_q hO 1 [] [(12, .slice A108 c103.1.length c109), (13, .slice A135 c130.1.length c136), (14, .int .i64 c130.2), (15, .slice A146 c141.1.length c147), (16, .int .i64 c141.2), (115, .slice A108 c103.1.length c109)] (And.intro rfl (And.intro rfl (And.intro rfl (And.intro rfl (And.intro rfl (And.intro rfl trivial)))))) fun j => ?_
          obtain ⟨c149, h150, hF⟩ := bind_some hF
          refine wpn_c0 hO (w_lines_Right r110 h150) rfl fun _ σ _ _ hO h151 h152 => ?_
          have hL := hL.trans h151
          have r110 := r110.le h151
          have r139 := r139.le h151
          have r148 := r148.le h151
          obtain ⟨rfl, rfl⟩ := h152
          have hO : Obs _ _ [_, _] := hO
          refine wpn_q hO 7 [] [(12, .slice A108 c103.1.length c109), (13, .slice A135 c130.1.length c136), (15, .slice A146 c141.1.length c147), (125, .bool ((c149 && (c130.2 == 0)) && (c141.2 == 0)))] (And.intro (And.intro rfl rfl) (fun _ => And.intro (And.intro rfl rfl) (fun _ => And.intro rfl (And.intro rfl (And.intro rfl (And.intro rfl trivial)))))) fun j => ?_
          have hO := hO.sel [] (by decide)
          have hO : Obs _ _ [] := hO
          obtain ⟨c153, h154, hF⟩ := bind_some hF
          refine wpn_mid 2 (fun e' σ' => ∃ (τ' : Hp), agr [(129, .bool c153), (12, .slice A108 c103.1.length c109), (13, .slice A135 c130.1.length c136)] e' ∧ Obs τ' σ' [] ∧ Hp.le τ τ' ∧ RdT TyS_api_Row τ' (.slice A108 c103.1.length c109) c103.1 ∧ RdT Ty.u8 τ' (.slice A135 c130.1.length c136) c130.1) ?_ ?_
          · have hF := h154
            rcases ite_some hF with ⟨hb155, hF⟩ | ⟨hb155, hF⟩
            · refine wpn_gT (congrArg (fun x => isB (.bool x) true) hb155) ?_
              refine wpn_q hO 2 [] [(12, .slice A108 c103.1.length c109), (13, .slice A135 c130.1.length c136), (125, .bool ((c149 && (c130.2 == 0)) && (c141.2 == 0))), (126, .slice A108 c103.1.length c109), (127, .slice A146 c141.1.length c147)] (And.intro rfl (And.intro rfl (And.intro rfl (And.intro rfl (And.intro rfl trivial))))) fun j => ?_
              obtain ⟨c156, h157, hF⟩ := bind_some hF
              refine wpn_c0 hO (w_law05_SameRows r110 r148 h157) rfl fun _ σ _ _ hO h158 h159 => ?_
              have hL := hL.trans h158
              have r110 := r110.le h158
              have r139 := r139.le h158
              have r148 := r148.le h158
              obtain ⟨rfl, rfl⟩ := h159
              have hO : Obs _ _ [] := hO
              refine wpn_pk (congrArg Value.bool hb155) ?_
              refine wpn_nil ?_
              injection hF with hF
              subst hF
              refine wpn_end ?_
              exact ⟨rfl, _, And.intro rfl (And.intro rfl (And.intro rfl trivial)), hO, hL, r110, r139⟩
            · refine wpn_gF (congrArg (fun x => isB (.bool x) true) hb155) ?_
              refine wpn_pk (congrArg Value.bool hb155) ?_
              refine wpn_nil ?_
              injection hF with hF
              subst hF
              refine wpn_end ?_
              exact ⟨rfl, _, And.intro rfl (And.intro rfl (And.intro rfl trivial)), hO, hL, r110, r139⟩
          · rintro e σ ⟨_, hA, hO, hL, r110, r139⟩
            rw [← sets_agr _ _ hA]
            refine wpn_q hO 4 [] [(139, .bool (c153 && (decide ((c130.1.length : Int) ≤ (IntKind.i64.wrap ((IntKind.i64.wrap (9 * (c103.1.length : Int))) + 1))))))] (And.intro (And.intro rfl rfl) (fun _ => And.intro rfl trivial)) fun j => ?_
            obtain ⟨c160, h161, hF⟩ := bind_some hF
            refine wpn_mid 2 (fun e' σ' => ∃ (τ' : Hp), agr [(141, .bool c160)] e' ∧ Obs τ' σ' [] ∧ Hp.le τ τ') ?_ ?_
            · have hF := h161
              rcases ite_some hF with ⟨hb162, hF⟩ | ⟨hb162, hF⟩
              · refine wpn_gT (congrArg (fun x => isB (.bool x) true) hb162) ?_
                obtain ⟨c163, h164, hF⟩ := bind_some hF
                refine wpn_c0 hO (w_law05_works h164) rfl fun _ σ _ _ hO h165 h166 => ?_
                have hL := hL.trans h165
                obtain ⟨rfl, rfl⟩ := h166
                have hO : Obs _ _ [] := hO
                refine wpn_pk (congrArg Value.bool hb162) ?_
                refine wpn_nil ?_
                injection hF with hF
                subst hF
                refine wpn_end ?_
                exact ⟨rfl, _, And.intro rfl (trivial), hO, hL⟩
              · refine wpn_gF (congrArg (fun x => isB (.bool x) true) hb162) ?_
                refine wpn_pk (congrArg Value.bool hb162) ?_
                refine wpn_nil ?_
                injection hF with hF
                subst hF
                refine wpn_end ?_
                exact ⟨rfl, _, And.intro rfl (trivial), hO, hL⟩
            · rintro e σ ⟨_, hA, hO, hL⟩
              rw [← sets_agr _ _ hA]
              refine wpn_qa hO [] [(4, .bool c160)] (And.intro rfl trivial) fun j => ?_
              refine wpn_r1 ?_
              injection hF with hF
              subst hF
              exact hQ _ _ _ _ _ rfl hO hL ⟨rfl, rfl⟩

/-! theodolite/theodoliteref05.At -/
theorem w_ref05_At {τ : Hp} {v0 : Value} {p0 : (List S_api_Row)} {p1 : Int} (r0 : RdT TyS_api_Row τ v0 p0) {rr : Int × Bool} (hF : F_ref05_At p0 p1 = some rr) :
    Ctr Try.prog 20 #[v0, .int .i64 p1] τ [] (fun v τ' vs' => v = .tuple #[.int .i64 rr.1, .bool rr.2] ∧ vs' = []) := by
  obtain ⟨A0, c0, rfl, -⟩ := r0.form
  refine ctr_of (args := [.slice A0 p0.length c0, .int .i64 p1]) hm Try.func20 s20 rfl fun w0 σ hO Q hQ => ?_
  unfold F_ref05_At at hF
  have hL := Hp.le.refl τ
  show wpn _ _ a20.body _ _ _
  unfold a20
  dsimp only
  refine wpn_qa hO [] [(0, .slice A0 p0.length c0), (1, .int .i64 p1)] (And.intro rfl (And.intro rfl trivial)) fun j => ?_
  refine wpn_assoc ?_
  refine wpn_qa hO [] [(0, .slice A0 p0.length c0), (1, .int .i64 p1), (6, .int .i64 0)] (And.intro rfl (And.intro rfl (And.intro rfl trivial))) fun j => ?_
  refine wpn_bl ?_
  refine wpn_lp (fun (n : Nat) e' σ' => ∃ (x15 : Int) (τ' : Hp), agr [(0, .slice A0 p0.length c0), (1, .int .i64 p1), (6, .int .i64 x15)] e' ∧ Obs τ' σ' [] ∧ Hp.le τ τ' ∧ RdT TyS_api_Row τ' (.slice A0 p0.length c0) p0 ∧ F_ref05_At_l3 p0 p1 n x15 = some rr) big ⟨0, _, And.intro rfl (And.intro rfl (And.intro rfl trivial)), hO, hL, r0, hF⟩ ?_
  clear hF hO hL
  rintro n28 e σ ⟨x15, _, hA, hO, hL, r14, hF⟩
  rw [← sets_agr _ _ hA]
  cases n28 with
  | zero => exact nomatch (show none = some rr from hF)
  | succ n28 =>
    replace hF : F_ref05_At_l3B (F_ref05_At_l3 p0 p1 n28) p0 p1 x15 = some rr := hF
    unfold F_ref05_At_l3B at hF
    refine wpn_assoc ?_
    refine wpn_qa hO [] [(0, .slice A0 p0.length c0), (1, .int .i64 p1), (6, .int .i64 x15), (10, .bool (decide (x15 < (p0.length : Int))))] (And.intro rfl (And.intro rfl (And.intro rfl (And.intro rfl trivial)))) fun j => ?_
    rcases ite_some hF with ⟨hb29, hF⟩ | ⟨hb29, hF⟩
    · refine wpn_cT (congrArg Value.bool hb29) ?_
      refine wpn_sk ?_
      refine wpn_bl ?_
      refine wpn_q hO 2 [] [(0, .slice A0 p0.length c0), (1, .int .i64 p1), (6, .int .i64 x15), (13, .slice A0 p0.length c0), (14, .int .i64 x15)] (And.intro rfl (And.intro rfl (And.intro rfl (And.intro rfl (And.intro rfl trivial))))) fun j => ?_
      obtain ⟨y30, g31, hF⟩ := bind_some hF
      refine wpn_idx (T := TyS_api_Row) r14 hO.base rfl rfl g31 (by decide) fun a32 _ k33 m34 => ?_
      obtain rfl : _ = ([.int .i64 y30.Pc, .int .i64 y30.Point] : List Value) := k33
      refine wpn_q hO 1 [] [(0, .slice A0 p0.length c0), (1, .int .i64 p1), (6, .int .i64 x15), (16, .pointer (some a32))] (And.intro rfl (And.intro rfl (And.intro rfl (And.intro rfl trivial)))) fun j => ?_
      refine wpn_ld rfl m34.fst ?_
      refine wpn_qa hO [] [(0, .slice A0 p0.length c0), (1, .int .i64 p1), (6, .int .i64 x15), (19, .bool (y30.Pc == p1))] (And.intro rfl (And.intro rfl (And.intro rfl (And.intro rfl trivial)))) fun j => ?_
      refine wpn_clast ?_
      rcases ite_some hF with ⟨hb35, hF⟩ | ⟨hb35, hF⟩
      · refine wpn_cT (congrArg Value.bool hb35) ?_
        refine wpn_assoc ?_
        refine wpn_q hO 2 [] [(20, .slice A0 p0.length c0), (21, .int .i64 x15)] (And.intro rfl (And.intro rfl trivial)) fun j => ?_
        obtain ⟨y36, g37, hF⟩ := bind_some hF
        refine wpn_idx (T := TyS_api_Row) r14 hO.base rfl rfl g37 (by decide) fun a38 _ k39 m40 => ?_
        obtain rfl : _ = ([.int .i64 y36.Pc, .int .i64 y36.Point] : List Value) := k39
        refine wpn_q hO 1 [] [(23, .pointer (some (a38.add 1)))] (And.intro rfl trivial) fun j => ?_
        refine wpn_ld rfl (m40.one 1 rfl) ?_
        refine wpn_qa hO [] [(4, .int .i64 y36.Point), (5, .bool true)] (And.intro rfl (And.intro rfl trivial)) fun j => ?_
        refine wpn_rt ?_
        refine inb_r1 ?_
        refine thn_r1 ?_
        refine thn_r1 ?_
        refine inb_r1 ?_
        refine thn_r1 ?_
        injection hF with hF
        subst hF
        exact hQ _ _ _ _ _ rfl hO hL ⟨rfl, rfl⟩
      · refine wpn_cF (congrArg Value.bool hb35) ?_
        refine wpn_sk ?_
        refine wpn_end ?_
        refine inb_i ?_
        refine thn_i ?_
        refine wpn_rlast ?_
        refine wpn_qa hO [] [(0, .slice A0 p0.length c0), (1, .int .i64 p1), (6, .int .i64 (IntKind.i64.wrap (x15 + 1)))] (And.intro rfl (And.intro rfl (And.intro rfl trivial))) fun j => ?_
        refine wpn_end ?_
        refine thn_i ?_
        exact ⟨n28, Nat.lt_succ_self _, (IntKind.i64.wrap (x15 + 1)), _, And.intro rfl (And.intro rfl (And.intro rfl trivial)), hO, hL, r14, hF⟩
    · refine wpn_cF (congrArg Value.bool hb29) ?_
      refine wpn_ex ?_
      refine thn_x ?_
      refine inb_x ?_
      refine thn_i ?_
      refine wpn_qa hO [] [(4, .int .i64 0), (5, .bool false)] (And.intro rfl (And.intro rfl trivial)) fun j => ?_
      refine wpn_r1 ?_
      injection hF with hF
      subst hF
      exact hQ _ _ _ _ _ rfl hO hL ⟨rfl, rfl⟩

/-! theodolite/theodoliteref05.Pcs -/
theorem w_ref05_Pcs {τ : Hp} {v0 : Value} {p0 : (List S_api_Row)} {p1 : Int} (r0 : RdT TyS_api_Row τ v0 p0) {rr : (List Int)} (hF : F_ref05_Pcs p0 p1 = some rr) :
    Ctr Try.prog 22 #[v0, .int .i64 p1] τ [] (fun v τ' vs' => ∃ (v0 : Value) (o0 : Ob), v = v0 ∧ vs' = [o0] ∧ OwnO (Ty.int .i64) 3 τ' v0 rr o0) := by
  obtain ⟨A0, c0, rfl, -⟩ := r0.form
  refine ctr_of (args := [.slice A0 p0.length c0, .int .i64 p1]) hm Try.func22 s22 rfl fun w0 σ hO Q hQ => ?_
  unfold F_ref05_Pcs at hF
  have hL := Hp.le.refl τ
  show wpn _ _ a22.body _ _ _
  unfold a22
  dsimp only
  refine wpn_qa hO [] [(0, .slice A0 p0.length c0), (1, .int .i64 p1)] (And.intro rfl (And.intro rfl trivial)) fun j => ?_
  refine wpn_qa hO [] [(0, .slice A0 p0.length c0), (1, .int .i64 p1), (5, .slice none 0 0)] (And.intro rfl (And.intro rfl (And.intro rfl trivial))) fun j => ?_
  refine wpn_assoc ?_
  refine wpn_qa hO [] [(0, .slice A0 p0.length c0), (1, .int .i64 p1), (5, .slice none 0 0), (6, .int .i64 0)] (And.intro rfl (And.intro rfl (And.intro rfl (And.intro rfl trivial)))) fun j => ?_
  refine wpn_bl ?_
  have hO := hO.no
  have hO : Obs _ _ [_] := hO
  refine wpn_lp (fun (n : Nat) e' σ' => ∃ (A20 : Option Addr) (c21 : Nat) (o22 : Ob) (x23 : List Int) (x25 : Int) (τ' : Hp), agr [(0, .slice A0 p0.length c0), (1, .int .i64 p1), (5, .slice A20 x23.length c21), (6, .int .i64 x25)] e' ∧ Obs τ' σ' [o22] ∧ Hp.le τ τ' ∧ RdT TyS_api_Row τ' (.slice A0 p0.length c0) p0 ∧ OwnO (Ty.int .i64) 3 τ' (.slice A20 x23.length c21) x23 o22 ∧ F_ref05_Pcs_l3 p0 p1 n x23 x25 = some rr) big ⟨none, 0, none, [], 0, _, And.intro rfl (And.intro rfl (And.intro rfl (And.intro rfl trivial))), hO, hL, r0, OwnO.nil _ _ _, hF⟩ ?_
  clear hF hO hL
  rintro n42 e σ ⟨A20, c21, o22, x23, x25, _, hA, hO, hL, r19, w24, hF⟩
  rw [← sets_agr _ _ hA]
  cases n42 with
  | zero => exact nomatch (show none = some rr from hF)
  | succ n42 =>
    replace hF : F_ref05_Pcs_l3B (F_ref05_Pcs_l3 p0 p1 n42) p0 p1 x23 x25 = some rr := hF
    unfold F_ref05_Pcs_l3B at hF
    refine wpn_assoc ?_
    refine wpn_qa hO [] [(0, .slice A0 p0.length c0), (1, .int .i64 p1), (5, .slice A20 x23.length c21), (6, .int .i64 x25), (10, .bool (decide (x25 < (p0.length : Int))))] (And.intro rfl (And.intro rfl (And.intro rfl (And.intro rfl (And.intro rfl trivial))))) fun j => ?_
    rcases ite_some hF with ⟨hb43, hF⟩ | ⟨hb43, hF⟩
    · refine wpn_cT (congrArg Value.bool hb43) ?_
      refine wpn_sk ?_
      refine wpn_bl ?_
      refine wpn_q hO 2 [] [(0, .slice A0 p0.length c0), (1, .int .i64 p1), (5, .slice A20 x23.length c21), (6, .int .i64 x25), (13, .slice A0 p0.length c0), (14, .int .i64 x25)] (And.intro rfl (And.intro rfl (And.intro rfl (And.intro rfl (And.intro rfl (And.intro rfl trivial)))))) fun j => ?_
      obtain ⟨y44, g45, hF⟩ := bind_some hF
      refine wpn_idx (T := TyS_api_Row) r19 hO.base rfl rfl g45 (by decide) fun a46 _ k47 m48 => ?_
      obtain rfl : _ = ([.int .i64 y44.Pc, .int .i64 y44.Point] : List Value) := k47
      refine wpn_q hO 1 [] [(0, .slice A0 p0.length c0), (1, .int .i64 p1), (5, .slice A20 x23.length c21), (6, .int .i64 x25), (16, .pointer (some (a46.add 1)))] (And.intro rfl (And.intro rfl (And.intro rfl (And.intro rfl (And.intro rfl trivial))))) fun j => ?_
      refine wpn_ld rfl (m48.one 1 rfl) ?_
      refine wpn_qa hO [] [(0, .slice A0 p0.length c0), (1, .int .i64 p1), (5, .slice A20 x23.length c21), (6, .int .i64 x25), (19, .bool (y44.Point == p1))] (And.intro rfl (And.intro rfl (And.intro rfl (And.intro rfl (And.intro rfl trivial))))) fun j => ?_
      refine wpn_clast ?_
      rcases ite_some hF with ⟨hb49, hF⟩ | ⟨hb49, hF⟩
      · refine wpn_cT (congrArg Value.bool hb49) ?_
        refine wpn_q hO 3 [] [(0, .slice A0 p0.length c0), (1, .int .i64 p1), (6, .int .i64 x25), (20, .slice A20 x23.length c21), (21, .slice A0 p0.length c0), (22, .int .i64 x25)] (And.intro rfl (And.intro rfl (And.intro rfl (And.intro rfl (And.intro rfl (And.intro rfl trivial)))))) fun j => ?_
        obtain ⟨y50, g51, hF⟩ := bind_some hF
        refine wpn_idx (T := TyS_api_Row) r19 hO.base rfl rfl g51 (by decide) fun a52 _ k53 m54 => ?_
        obtain rfl : _ = ([.int .i64 y50.Pc, .int .i64 y50.Point] : List Value) := k53
        refine wpn_q hO 1 [] [(0, .slice A0 p0.length c0), (1, .int .i64 p1), (6, .int .i64 x25), (20, .slice A20 x23.length c21), (24, .pointer (some a52))] (And.intro rfl (And.intro rfl (And.intro rfl (And.intro rfl (And.intro rfl trivial))))) fun j => ?_
        refine wpn_ld rfl m54.fst ?_
        obtain ⟨_, hr, hF⟩ := bind_some hF
        refine wpn_ap1 (T := (Ty.int .i64)) (y := y50.Pc) hO w24 (i := 0) rfl rfl (fun _ => rfl) rfl rfl rfl hr (by decide) fun u _ σ o57 w58 hO => ?_
        obtain ⟨A55, c56, rfl, -⟩ := w58.form
        have hO : Obs _ _ [_] := hO
        refine wpn_qa hO [] [(0, .slice A0 p0.length c0), (1, .int .i64 p1), (5, .slice A55 (x23 ++ [y50.Pc]).length c56), (6, .int .i64 x25)] (And.intro rfl (And.intro rfl (And.intro rfl (And.intro rfl trivial)))) fun j => ?_
        refine wpn_end ?_
        refine inb_i ?_
        refine thn_i ?_
        refine wpn_rlast ?_
        refine wpn_qa hO [] [(0, .slice A0 p0.length c0), (1, .int .i64 p1), (5, .slice A55 (x23 ++ [y50.Pc]).length c56), (6, .int .i64 (IntKind.i64.wrap (x25 + 1)))] (And.intro rfl (And.intro rfl (And.intro rfl (And.intro rfl trivial)))) fun j => ?_
        refine wpn_end ?_
        refine thn_i ?_
        exact ⟨n42, Nat.lt_succ_self _, A55, c56, o57, (x23 ++ [y50.Pc]), (IntKind.i64.wrap (x25 + 1)), _, And.intro rfl (And.intro rfl (And.intro rfl (And.intro rfl trivial))), hO, hL, r19, w58, hF⟩
      · refine wpn_cF (congrArg Value.bool hb49) ?_
        refine wpn_sk ?_
        refine wpn_end ?_
        refine inb_i ?_
        refine thn_i ?_
        refine wpn_rlast ?_
        refine wpn_qa hO [] [(0, .slice A0 p0.length c0), (1, .int .i64 p1), (5, .slice A20 x23.length c21), (6, .int .i64 (IntKind.i64.wrap (x25 + 1)))] (And.intro rfl (And.intro rfl (And.intro rfl (And.intro rfl trivial)))) fun j => ?_
        refine wpn_end ?_
        refine thn_i ?_
        exact ⟨n42, Nat.lt_succ_self _, A20, c21, o22, x23, (IntKind.i64.wrap (x25 + 1)), _, And.intro rfl (And.intro rfl (And.intro rfl (And.intro rfl trivial))), hO, hL, r19, w24, hF⟩
    · refine wpn_cF (congrArg Value.bool hb43) ?_
      refine wpn_ex ?_
      refine thn_x ?_
      refine inb_x ?_
      refine thn_i ?_
      refine wpn_qa hO [] [(4, .slice A20 x23.length c21)] (And.intro rfl trivial) fun j => ?_
      refine wpn_r1 ?_
      injection hF with hF
      subst hF
      exact hQ _ _ _ _ _ rfl hO hL ⟨_, _, rfl, rfl, w24⟩

/-! theodolite/theodolitelaw05.LinesFinds -/
theorem w_law05_LinesFinds {τ : Hp} {v0 : Value} {p0 : (List S_api_Row)} {p1 : Int} {p2 : Int} (r0 : RdT TyS_api_Row τ v0 p0) {rr : Bool} (hF : F_law05_LinesFinds p0 p1 p2 = some rr) :
    Ctr Try.prog 6 #[v0, .int .i64 p1, .int .i64 p2] τ [] (fun v τ' vs' => v = .bool rr ∧ vs' = []) := by
  obtain ⟨A0, c0, rfl, -⟩ := r0.form
  refine ctr_of (args := [.slice A0 p0.length c0, .int .i64 p1, .int .i64 p2]) hm Try.func6 s6 rfl fun w0 σ hO Q hQ => ?_
  unfold F_law05_LinesFinds at hF
  have hL := Hp.le.refl τ
  show wpn _ _ a6.body _ _ _
  unfold a6
  dsimp only
  refine wpn_qa hO [] [(0, .slice A0 p0.length c0), (1, .int .i64 p1), (2, .int .i64 p2)] (And.intro rfl (And.intro rfl (And.intro rfl trivial))) fun j => ?_
  refine wpn_assoc ?_
  refine wpn_qa hO [] [(0, .slice A0 p0.length c0), (1, .int .i64 p1), (2, .int .i64 p2), (19, .bool (decide ((p0.length : Int) > 2000)))] (And.intro rfl (And.intro rfl (And.intro rfl (And.intro rfl trivial)))) fun j => ?_
  rcases ite_some hF with ⟨hb1, hF⟩ | ⟨hb1, hF⟩
  · refine wpn_cT (congrArg Value.bool hb1) ?_
    refine wpn_assoc ?_
    obtain ⟨c2, h3, hF⟩ := bind_some hF
    refine wpn_c0 hO (w_law05_works h3) rfl fun _ σ _ _ hO h4 h5 => ?_
    have hL := hL.trans h4
    have r0 := r0.le h4
    obtain ⟨rfl, rfl⟩ := h5
    have hO : Obs _ _ [] := hO
    refine wpn_qa hO [] [(6, .bool c2)] (And.intro rfl trivial) fun j => ?_
    refine wpn_rt ?_
    injection hF with hF
    subst hF
    exact hQ _ _ _ _ _ rfl hO hL ⟨rfl, rfl⟩
  · refine wpn_cF (congrArg Value.bool hb1) ?_
    refine wpn_sk ?_
    refine wpn_q hO 1 [] [(0, .slice A0 p0.length c0), (1, .int .i64 p1), (2, .int .i64 p2), (22, .slice A0 p0.length c0)] (And.intro rfl (And.intro rfl (And.intro rfl (And.intro rfl trivial)))) fun j => ?_
    obtain ⟨c6, h7, hF⟩ := bind_some hF
    refine wpn_c0 hO (w_law05_twin r0 h7) rfl fun _ σ _ _ hO h8 h9 => ?_
    have hL := hL.trans h8
    have r0 := r0.le h8
    obtain ⟨v10, o13, rfl, rfl, w14⟩ := h9
    obtain ⟨A11, c12, rfl, -⟩ := w14.form
    have hO : Obs _ _ [_] := hO
    refine wpn_q hO 1 [] [(0, .slice A0 p0.length c0), (1, .int .i64 p1), (2, .int .i64 p2), (23, .slice A11 c6.length c12), (24, .int .i64 p1)] (And.intro rfl (And.intro rfl (And.intro rfl (And.intro rfl (And.intro rfl trivial))))) fun j => ?_
    obtain ⟨_, h16, r15, hO⟩ := w14.share hO (i := 0) rfl
    have hL := hL.trans h16
    have r0 := r0.le h16
    have hO : Obs _ _ [_] := hO
    obtain ⟨c17, h18, hF⟩ := bind_some hF
    refine wpn_c0 hO (w_lines_At r15 h18) rfl fun _ σ _ _ hO h19 h20 => ?_
    have hL := hL.trans h19
    have r0 := r0.le h19
    have r15 := r15.le h19
    obtain ⟨rfl, rfl⟩ := h20
    have hO : Obs _ _ [_] := hO
    refine wpn_qa hO [] [(0, .slice A0 p0.length c0), (1, .int .i64 p1), (2, .int .i64 p2), (7, .int .i64 c17.1), (8, .bool c17.2)] (And.intro rfl (And.intro rfl (And.intro rfl (And.intro rfl (And.intro rfl trivial))))) fun j => ?_
    refine wpn_q hO 2 [] [(0, .slice A0 p0.length c0), (2, .int .i64 p2), (7, .int .i64 c17.1), (8, .bool c17.2), (29, .slice A0 p0.length c0), (30, .int .i64 p1)] (And.intro rfl (And.intro rfl (And.intro rfl (And.intro rfl (And.intro rfl (And.intro rfl trivial)))))) fun j => ?_
    obtain ⟨c21, h22, hF⟩ := bind_some hF
    refine wpn_c0 hO (w_ref05_At r0 h22) rfl fun _ σ _ _ hO h23 h24 => ?_
    have hL := hL.trans h23
    have r0 := r0.le h23
    obtain ⟨rfl, rfl⟩ := h24
    have hO : Obs _ _ [_] := hO
    refine wpn_qa hO [] [(0, .slice A0 p0.length c0), (2, .int .i64 p2), (7, .int .i64 c17.1), (8, .bool c17.2), (9, .int .i64 c21.1), (10, .bool c21.2)] (And.intro rfl (And.intro rfl (And.intro rfl (And.intro rfl (And.intro rfl (And.intro rfl trivial)))))) fun j => ?_
    refine wpn_q hO 1 [] [(0, .slice A0 p0.length c0), (2, .int .i64 p2), (7, .int .i64 c17.1), (8, .bool c17.2), (9, .int .i64 c21.1), (10, .bool c21.2), (34, .slice A0 p0.length c0)] (And.intro rfl (And.intro rfl (And.intro rfl (And.intro rfl (And.intro rfl (And.intro rfl (And.intro rfl trivial))))))) fun j => ?_
    obtain ⟨c25, h26, hF⟩ := bind_some hF
    refine wpn_c0 hO (w_law05_twin r0 h26) rfl fun _ σ _ _ hO h27 h28 => ?_
    have hL := hL.trans h27
    have r0 := r0.le h27
    obtain ⟨v29, o32, rfl, rfl, w33⟩ := h28
    obtain ⟨A30, c31, rfl, -⟩ := w33.form
    have hO : Obs _ _ [_, _] := hO
    refine wpn_q hO 1 [] [(0, .slice A0 p0.length c0), (2, .int .i64 p2), (7, .int .i64 c17.1), (8, .bool c17.2), (9, .int .i64 c21.1), (10, .bool c21.2), (35, .slice A30 c25.length c31), (36, .int .i64 p2)] (And.intro rfl (And.intro rfl (And.intro rfl (And.intro rfl (And.intro rfl (And.intro rfl (And.intro rfl (And.intro rfl trivial)))))))) fun j => ?_
    obtain ⟨_, h35, r34, hO⟩ := w33.share hO (i := 1) rfl
    have hL := hL.trans h35
    have r0 := r0.le h35
    have hO : Obs _ _ [_, _] := hO
    obtain ⟨c36, h37, hF⟩ := bind_some hF
    refine wpn_c0 hO (w_lines_Pcs r34 h37) rfl fun _ σ _ _ hO h38 h39 => ?_
    have hL := hL.trans h38
    have r0 := r0.le h38
    have r34 := r34.le h38
    obtain ⟨v40, o43, rfl, rfl, w44⟩ := h39
    obtain ⟨A41, c42, rfl, -⟩ := w44.form
    have hO : Obs _ _ [_, _, _] := hO
    refine wpn_qa hO [] [(0, .slice A0 p0.length c0), (2, .int .i64 p2), (7, .int .i64 c17.1), (8, .bool c17.2), (9, .int .i64 c21.1), (10, .bool c21.2), (11, .slice A41 c36.length c42)] (And.intro rfl (And.intro rfl (And.intro rfl (And.intro rfl (And.intro rfl (And.intro rfl (And.intro rfl trivial))))))) fun j => ?_
    refine wpn_q hO 2 [] [(0, .slice A0 p0.length c0), (7, .int .i64 c17.1), (8, .bool c17.2), (9, .int .i64 c21.1), (10, .bool c21.2), (11, .slice A41 c36.length c42), (38, .slice A0 p0.length c0), (39, .int .i64 p2)] (And.intro rfl (And.intro rfl (And.intro rfl (And.intro rfl (And.intro rfl (And.intro rfl (And.intro rfl (And.intro rfl trivial)))))))) fun j => ?_
    obtain ⟨c45, h46, hF⟩ := bind_some hF
    refine wpn_c0 hO (w_ref05_Pcs r0 h46) rfl fun _ σ _ _ hO h47 h48 => ?_
    have hL := hL.trans h47
    have r0 := r0.le h47
    have w44 := w44.le h47
    obtain ⟨v49, o52, rfl, rfl, w53⟩ := h48
    obtain ⟨A50, c51, rfl, -⟩ := w53.form
    have hO : Obs _ _ [_, _, _, _] := hO
    refine wpn_qa hO [] [(0, .slice A0 p0.length c0), (7, .int .i64 c17.1), (8, .bool c17.2), (9, .int .i64 c21.1), (10, .bool c21.2), (11, .slice A41 c36.length c42), (12, .slice A50 c45.length c51)] (And.intro rfl (And.intro rfl (And.intro rfl (And.intro rfl (And.intro rfl (And.intro rfl (And.intro rfl trivial))))))) fun j => ?_
    refine wpn_assoc ?_
    refine wpn_qa hO [] [(0, .slice A0 p0.length c0), (11, .slice A41 c36.length c42), (12, .slice A50 c45.length c51), (55, .bool (((c17.1 != c21.1) || (!(c17.2 == c21.2))) || ((c36.length : Int) != (c45.length : Int))))] (And.intro (And.intro rfl rfl) (fun _ => And.intro (And.intro rfl rfl) (fun _ => And.intro rfl (And.intro rfl (And.intro rfl (And.intro rfl trivial)))))) fun j => ?_
    rcases ite_some hF with ⟨hb54, hF⟩ | ⟨hb54, hF⟩
    · refine wpn_cT (congrArg Value.bool hb54) ?_
      refine wpn_assoc ?_
      refine wpn_qa hO [] [(6, .bool false)] (And.intro rfl trivial) fun j => ?_
      refine wpn_rt ?_
      injection hF with hF
      subst hF
      have hO := hO.sel [] (by decide)
      exact hQ _ _ _ _ _ rfl hO hL ⟨rfl, rfl⟩
    · refine wpn_cF (congrArg Value.bool hb54) ?_
      refine wpn_sk ?_
      refine wpn_assoc ?_
      refine wpn_qa hO [] [(0, .slice A0 p0.length c0), (11, .slice A41 c36.length c42), (12, .slice A50 c45.length c51), (13, .int .i64 0)] (And.intro rfl (And.intro rfl (And.intro rfl (And.intro rfl trivial)))) fun j => ?_
      refine wpn_bl ?_
      obtain ⟨_, h198, r197, hO⟩ := w44.share hO (i := 2) rfl
      have hL := hL.trans h198
      have r0 := r0.le h198
      have w53 := w53.le h198
      have hO : Obs _ _ [_, _, _, _] := hO
      have hO := hO.sel [3] (by decide)
      refine wpn_lp (fun (n : Nat) e' σ' => ∃ (A334 : Option Addr) (c335 : Nat) (o336 : Ob) (x337 : List Int) (x339 : Int) (τ' : Hp), agr [(0, .slice A0 p0.length c0), (11, .slice A41 c36.length c42), (12, .slice A334 x337.length c335), (13, .int .i64 x339)] e' ∧ Obs τ' σ' [o336] ∧ Hp.le τ τ' ∧ RdT TyS_api_Row τ' (.slice A0 p0.length c0) p0 ∧ RdT (Ty.int .i64) τ' (.slice A41 c36.length c42) c36 ∧ OwnO (Ty.int .i64) 3 τ' (.slice A334 x337.length c335) x337 o336 ∧ F_law05_LinesFinds_l17 p0 c36 n x337 x339 = some rr) big ⟨A50, c51, o52, c45, 0, _, And.intro rfl (And.intro rfl (And.intro rfl (And.intro rfl trivial))), hO, hL, r0, r197, w53, hF⟩ ?_
      clear hF hO hL
      rintro n466 e σ ⟨A334, c335, o336, x337, x339, _, hA, hO, hL, r332, r333, w338, hF⟩
      rw [← sets_agr _ _ hA]
      cases n466 with
      | zero => exact nomatch (show none = some rr from hF)
      | succ n466 =>
        replace hF : F_law05_LinesFinds_l17B (F_law05_LinesFinds_l17 p0 c36 n466) p0 c36 x337 x339 = some rr := hF
        unfold F_law05_LinesFinds_l17B at hF
        refine wpn_assoc ?_
        refine wpn_qa hO [] [(0, .slice A0 p0.length c0), (11, .slice A41 c36.length c42), (12, .slice A334 x337.length c335), (13, .int .i64 x339), (59, .bool (decide (x339 < (c36.length : Int))))] (And.intro rfl (And.intro rfl (And.intro rfl (And.intro rfl (And.intro rfl trivial))))) fun j => ?_
        rcases ite_some hF with ⟨hb467, hF⟩ | ⟨hb467, hF⟩
        · refine wpn_cT (congrArg Value.bool hb467) ?_
          refine wpn_sk ?_
          refine wpn_bl ?_
          refine wpn_p2r ?_
          refine wpn_q hO 2 [] [(0, .slice A0 p0.length c0), (11, .slice A41 c36.length c42), (12, .slice A334 x337.length c335), (13, .int .i64 x339), (62, .slice A41 c36.length c42), (63, .int .i64 x339)] (And.intro rfl (And.intro rfl (And.intro rfl (And.intro rfl (And.intro rfl (And.intro rfl trivial)))))) fun j => ?_
          obtain ⟨y468, g469, hF⟩ := bind_some hF
          refine wpn_idx (T := (Ty.int .i64)) r333 hO.base rfl rfl g469 (by decide) fun a470 _ k471 m472 => ?_
          obtain rfl : _ = ([.int .i64 y468] : List Value) := k471
          refine wpn_ld rfl m472.fst ?_
          refine wpn_q hO 2 [] [(0, .slice A0 p0.length c0), (11, .slice A41 c36.length c42), (12, .slice A334 x337.length c335), (13, .int .i64 x339), (65, .int .i64 y468), (66, .slice A334 x337.length c335), (67, .int .i64 x339)] (And.intro rfl (And.intro rfl (And.intro rfl (And.intro rfl (And.intro rfl (And.intro rfl (And.intro rfl trivial))))))) fun j => ?_
          obtain ⟨y473, g474, hF⟩ := bind_some hF
          refine wpn_ido (T := (Ty.int .i64)) hO w338 (i := 0) rfl rfl rfl g474 (by decide) fun a475 _ k476 m477 i478 => ?_
          have k479 := k476
          obtain rfl : _ = ([.int .i64 y473] : List Value) := k479
          refine wpn_ld rfl m477.fst ?_
          refine wpn_q hO 2 [] [(0, .slice A0 p0.length c0), (11, .slice A41 c36.length c42), (12, .slice A334 x337.length c335), (13, .int .i64 x339), (71, .bool (y468 != y473))] (And.intro rfl (And.intro rfl (And.intro rfl (And.intro rfl (And.intro rfl trivial))))) fun j => ?_
          obtain ⟨c480, h481, hF⟩ := bind_some hF
          refine wpn_mid 6 (fun e' σ' => ∃ (τ' : Hp), agr [(90, .bool c480), (0, .slice A0 p0.length c0), (11, .slice A41 c36.length c42), (12, .slice A334 x337.length c335), (13, .int .i64 x339)] e' ∧ Obs τ' σ' [o336] ∧ Hp.le τ τ' ∧ RdT TyS_api_Row τ' (.slice A0 p0.length c0) p0 ∧ RdT (Ty.int .i64) τ' (.slice A41 c36.length c42) c36 ∧ OwnO (Ty.int .i64) 3 τ' (.slice A334 x337.length c335) x337 o336) ?_ ?_
          · have hF := h481
            rcases ite_some hF with ⟨hb482, hF⟩ | ⟨hb482, hF⟩
            · refine wpn_gF (congrArg (fun x => isB (.bool x) false) hb482) ?_
              refine wpn_gF rfl ?_
              refine wpn_gF (congrArg (fun x => isB (.bool x) false) hb482) ?_
              refine wpn_gF rfl ?_
              refine wpn_gF (congrArg (fun x => isB (.bool x) false) hb482) ?_
              refine wpn_pk (congrArg Value.bool hb482) ?_
              refine wpn_nil ?_
              injection hF with hF
              subst hF
              refine wpn_end ?_
              exact ⟨rfl, _, And.intro rfl (And.intro rfl (And.intro rfl (And.intro rfl (And.intro rfl trivial)))), hO, hL, r332, r333, w338⟩
            · refine wpn_gT (congrArg (fun x => isB (.bool x) false) hb482) ?_
              refine wpn_q hO 1 [] [(0, .slice A0 p0.length c0), (11, .slice A41 c36.length c42), (12, .slice A334 x337.length c335), (13, .int .i64 x339), (71, .bool (y468 != y473)), (72, .slice A0 p0.length c0)] (And.intro rfl (And.intro rfl (And.intro rfl (And.intro rfl (And.intro rfl (And.intro rfl trivial)))))) fun j => ?_
              obtain ⟨c483, h484, hF⟩ := bind_some hF
              refine wpn_c0 hO (w_lines_Right r332 h484) rfl fun _ σ _ _ hO h485 h486 => ?_
              have hL := hL.trans h485
              have r332 := r332.le h485
              have r333 := r333.le h485
              have w338 := w338.le h485
              obtain ⟨rfl, rfl⟩ := h486
              have hO : Obs _ _ [_] := hO
              refine wpn_q hO 1 [] [(0, .slice A0 p0.length c0), (11, .slice A41 c36.length c42), (12, .slice A334 x337.length c335), (13, .int .i64 x339), (71, .bool (y468 != y473)), (74, .bool c483)] (And.intro rfl (And.intro rfl (And.intro rfl (And.intro rfl (And.intro rfl (And.intro rfl trivial)))))) fun j => ?_
              rcases ite_some hF with ⟨hb487, hF⟩ | ⟨hb487, hF⟩
              · refine wpn_gT (congrArg (fun x => isB (.bool x) true) hb487) ?_
                refine wpn_q hO 2 [] [(0, .slice A0 p0.length c0), (11, .slice A41 c36.length c42), (12, .slice A334 x337.length c335), (13, .int .i64 x339), (71, .bool (y468 != y473)), (74, .bool c483), (76, .bool (decide (x339 > 0)))] (And.intro rfl (And.intro rfl (And.intro rfl (And.intro rfl (And.intro rfl (And.intro rfl (And.intro rfl trivial))))))) fun j => ?_
                refine wpn_gT (congrArg (fun x => isB (.bool x) false) hb482) ?_
                refine wpn_pk (congrArg Value.bool hb487) ?_
                refine wpn_q hO 1 [] [(0, .slice A0 p0.length c0), (11, .slice A41 c36.length c42), (12, .slice A334 x337.length c335), (13, .int .i64 x339), (71, .bool (y468 != y473)), (78, .bool (decide (x339 > 0)))] (And.intro rfl (And.intro rfl (And.intro rfl (And.intro rfl (And.intro rfl (And.intro rfl trivial)))))) fun j => ?_
                rcases ite_some hF with ⟨hb488, hF⟩ | ⟨hb488, hF⟩
                · refine wpn_gT (congrArg (fun x => isB (.bool x) true) hb488) ?_
                  refine wpn_q hO 2 [] [(0, .slice A0 p0.length c0), (11, .slice A41 c36.length c42), (12, .slice A334 x337.length c335), (13, .int .i64 x339), (71, .bool (y468 != y473)), (78, .bool (decide (x339 > 0))), (79, .slice A41 c36.length c42), (80, .int .i64 x339)] (And.intro rfl (And.intro rfl (And.intro rfl (And.intro rfl (And.intro rfl (And.intro rfl (And.intro rfl (And.intro rfl trivial)))))))) fun j => ?_
                  obtain ⟨y489, g490, hF⟩ := bind_some hF
                  refine wpn_idx (T := (Ty.int .i64)) r333 hO.base rfl rfl g490 (by decide) fun a491 _ k492 m493 => ?_
                  obtain rfl : _ = ([.int .i64 y489] : List Value) := k492
                  refine wpn_ld rfl m493.fst ?_
                  refine wpn_q hO 3 [] [(0, .slice A0 p0.length c0), (11, .slice A41 c36.length c42), (12, .slice A334 x337.length c335), (13, .int .i64 x339), (71, .bool (y468 != y473)), (78, .bool (decide (x339 > 0))), (82, .int .i64 y489), (83, .slice A41 c36.length c42), (85, .int .i64 (IntKind.i64.wrap (x339 - 1)))] (And.intro rfl (And.intro rfl (And.intro rfl (And.intro rfl (And.intro rfl (And.intro rfl (And.intro rfl (And.intro rfl (And.intro rfl trivial))))))))) fun j => ?_
                  obtain ⟨y494, g495, hF⟩ := bind_some hF
                  refine wpn_idx (T := (Ty.int .i64)) r333 hO.base rfl rfl g495 (by decide) fun a496 _ k497 m498 => ?_
                  obtain rfl : _ = ([.int .i64 y494] : List Value) := k497
                  refine wpn_ld rfl m498.fst ?_
                  refine wpn_q hO 1 [] [(0, .slice A0 p0.length c0), (11, .slice A41 c36.length c42), (12, .slice A334 x337.length c335), (13, .int .i64 x339), (71, .bool (y468 != y473)), (78, .bool (decide (x339 > 0))), (88, .bool (decide (y489 ≤ y494)))] (And.intro rfl (And.intro rfl (And.intro rfl (And.intro rfl (And.intro rfl (And.intro rfl (And.intro rfl trivial))))))) fun j => ?_
                  refine wpn_gT (congrArg (fun x => isB (.bool x) false) hb482) ?_
                  refine wpn_pk (congrArg Value.bool hb488) ?_
                  refine wpn_pk (congrArg Value.bool hb482) ?_
                  refine wpn_nil ?_
                  injection hF with hF
                  subst hF
                  refine wpn_end ?_
                  exact ⟨rfl, _, And.intro rfl (And.intro rfl (And.intro rfl (And.intro rfl (And.intro rfl trivial)))), hO, hL, r332, r333, w338⟩
                · refine wpn_gF (congrArg (fun x => isB (.bool x) true) hb488) ?_
                  refine wpn_gT (congrArg (fun x => isB (.bool x) false) hb482) ?_
                  refine wpn_pk (congrArg Value.bool hb488) ?_
                  refine wpn_pk (congrArg Value.bool hb482) ?_
                  refine wpn_nil ?_
                  injection hF with hF
                  subst hF
                  refine wpn_end ?_
                  exact ⟨rfl, _, And.intro rfl (And.intro rfl (And.intro rfl (And.intro rfl (And.intro rfl trivial)))), hO, hL, r332, r333, w338⟩
              · refine wpn_gF (congrArg (fun x => isB (.bool x) true) hb487) ?_
                refine wpn_gT (congrArg (fun x => isB (.bool x) false) hb482) ?_
                refine wpn_pk (congrArg Value.bool hb487) ?_
                refine wpn_q hO 1 [] [(0, .slice A0 p0.length c0), (11, .slice A41 c36.length c42), (12, .slice A334 x337.length c335), (13, .int .i64 x339), (71, .bool (y468 != y473)), (78, .bool false)] (And.intro rfl (And.intro rfl (And.intro rfl (And.intro rfl (And.intro rfl (And.intro rfl trivial)))))) fun j => ?_
                rcases ite_some hF with ⟨hb499, hF⟩ | ⟨hb499, hF⟩
                · refine wpn_gT (congrArg (fun x => isB (.bool x) true) hb499) ?_
                  refine wpn_q hO 2 [] [(0, .slice A0 p0.length c0), (11, .slice A41 c36.length c42), (12, .slice A334 x337.length c335), (13, .int .i64 x339), (71, .bool (y468 != y473)), (78, .bool false), (79, .slice A41 c36.length c42), (80, .int .i64 x339)] (And.intro rfl (And.intro rfl (And.intro rfl (And.intro rfl (And.intro rfl (And.intro rfl (And.intro rfl (And.intro rfl trivial)))))))) fun j => ?_
                  obtain ⟨y500, g501, hF⟩ := bind_some hF
                  refine wpn_idx (T := (Ty.int .i64)) r333 hO.base rfl rfl g501 (by decide) fun a502 _ k503 m504 => ?_
                  obtain rfl : _ = ([.int .i64 y500] : List Value) := k503
                  refine wpn_ld rfl m504.fst ?_
                  refine wpn_q hO 3 [] [(0, .slice A0 p0.length c0), (11, .slice A41 c36.length c42), (12, .slice A334 x337.length c335), (13, .int .i64 x339), (71, .bool (y468 != y473)), (78, .bool false), (82, .int .i64 y500), (83, .slice A41 c36.length c42), (85, .int .i64 (IntKind.i64.wrap (x339 - 1)))] (And.intro rfl (And.intro rfl (And.intro rfl (And.intro rfl (And.intro rfl (And.intro rfl (And.intro rfl (And.intro rfl (And.intro rfl trivial))))))))) fun j => ?_
                  obtain ⟨y505, g506, hF⟩ := bind_some hF
                  refine wpn_idx (T := (Ty.int .i64)) r333 hO.base rfl rfl g506 (by decide) fun a507 _ k508 m509 => ?_
                  obtain rfl : _ = ([.int .i64 y505] : List Value) := k508
                  refine wpn_ld rfl m509.fst ?_
                  refine wpn_q hO 1 [] [(0, .slice A0 p0.length c0), (11, .slice A41 c36.length c42), (12, .slice A334 x337.length c335), (13, .int .i64 x339), (71, .bool (y468 != y473)), (78, .bool false), (88, .bool (decide (y500 ≤ y505)))] (And.intro rfl (And.intro rfl (And.intro rfl (And.intro rfl (And.intro rfl (And.intro rfl (And.intro rfl trivial))))))) fun j => ?_
                  refine wpn_gT (congrArg (fun x => isB (.bool x) false) hb482) ?_
                  refine wpn_pk (congrArg Value.bool hb499) ?_
                  refine wpn_pk (congrArg Value.bool hb482) ?_
                  refine wpn_nil ?_
                  injection hF with hF
                  subst hF
                  refine wpn_end ?_
                  exact ⟨rfl, _, And.intro rfl (And.intro rfl (And.intro rfl (And.intro rfl (And.intro rfl trivial)))), hO, hL, r332, r333, w338⟩
                · refine wpn_gF (congrArg (fun x => isB (.bool x) true) hb499) ?_
                  refine wpn_gT (congrArg (fun x => isB (.bool x) false) hb482) ?_
                  refine wpn_pk (congrArg Value.bool hb499) ?_
                  refine wpn_pk (congrArg Value.bool hb482) ?_
                  refine wpn_nil ?_
                  injection hF with hF
                  subst hF
                  refine wpn_end ?_
                  exact ⟨rfl, _, And.intro rfl (And.intro rfl (And.intro rfl (And.intro rfl (And.intro rfl trivial)))), hO, hL, r332, r333, w338⟩
          · rintro e σ ⟨_, hA, hO, hL, r332, r333, w338⟩
            rw [← sets_agr _ _ hA]
            refine wpn_nil ?_
            refine wpn_clast ?_
            rcases ite_some hF with ⟨hb510, hF⟩ | ⟨hb510, hF⟩
            · refine wpn_cT (congrArg Value.bool hb510) ?_
              refine wpn_assoc ?_
              refine wpn_qa hO [] [(6, .bool false)] (And.intro rfl trivial) fun j => ?_
              refine wpn_rt ?_
              refine inb_r1 ?_
              refine thn_r1 ?_
              refine thn_r1 ?_
              refine inb_r1 ?_
              refine thn_r1 ?_
              injection hF with hF
              subst hF
              have hO := hO.sel [] (by decide)
              exact hQ _ _ _ _ _ rfl hO hL ⟨rfl, rfl⟩
            · refine wpn_cF (congrArg Value.bool hb510) ?_
              refine wpn_sk ?_
              refine wpn_end ?_
              refine inb_i ?_
              refine thn_i ?_
              refine wpn_rlast ?_
              refine wpn_qa hO [] [(0, .slice A0 p0.length c0), (11, .slice A41 c36.length c42), (12, .slice A334 x337.length c335), (13, .int .i64 (IntKind.i64.wrap (x339 + 1)))] (And.intro rfl (And.intro rfl (And.intro rfl (And.intro rfl trivial)))) fun j => ?_
              refine wpn_end ?_
              refine thn_i ?_
              exact ⟨n466, Nat.lt_succ_self _, A334, c335, o336, x337, (IntKind.i64.wrap (x339 + 1)), _, And.intro rfl (And.intro rfl (And.intro rfl (And.intro rfl trivial))), hO, hL, r332, r333, w338, hF⟩
        · refine wpn_cF (congrArg Value.bool hb467) ?_
          refine wpn_ex ?_
          refine thn_x ?_
          refine inb_x ?_
          refine thn_i ?_
          refine wpn_assoc ?_
          refine wpn_q hO 1 [] [(0, .slice A0 p0.length c0), (91, .slice A0 p0.length c0)] (And.intro rfl (And.intro rfl trivial)) fun j => ?_
          obtain ⟨c511, h512, hF⟩ := bind_some hF
          refine wpn_c0 hO (w_lines_Right r332 h512) rfl fun _ σ _ _ hO h513 h514 => ?_
          have hL := hL.trans h513
          have r332 := r332.le h513
          obtain ⟨rfl, rfl⟩ := h514
          have hO : Obs _ _ [_] := hO
          refine wpn_qa hO [] [(0, .slice A0 p0.length c0), (93, .bool (!c511))] (And.intro rfl (And.intro rfl trivial)) fun j => ?_
          rcases ite_some hF with ⟨hb515, hF⟩ | ⟨hb515, hF⟩
          · refine wpn_cT (congrArg Value.bool hb515) ?_
            refine wpn_assoc ?_
            obtain ⟨c516, h517, hF⟩ := bind_some hF
            refine wpn_c0 hO (w_law05_works h517) rfl fun _ σ _ _ hO h518 h519 => ?_
            have hL := hL.trans h518
            have r332 := r332.le h518
            obtain ⟨rfl, rfl⟩ := h519
            have hO : Obs _ _ [_] := hO
            refine wpn_qa hO [] [(6, .bool c516)] (And.intro rfl trivial) fun j => ?_
            refine wpn_rt ?_
            injection hF with hF
            subst hF
            have hO := hO.sel [] (by decide)
            exact hQ _ _ _ _ _ rfl hO hL ⟨rfl, rfl⟩
          · refine wpn_cF (congrArg Value.bool hb515) ?_
            refine wpn_sk ?_
            refine wpn_assoc ?_
            refine wpn_qa hO [] [(0, .slice A0 p0.length c0), (14, .int .i64 0)] (And.intro rfl (And.intro rfl trivial)) fun j => ?_
            refine wpn_bl ?_
            have hO := hO.sel [] (by decide)
            refine wpn_lp (fun (n : Nat) e' σ' => ∃ (x545 : Int) (τ' : Hp), agr [(0, .slice A0 p0.length c0), (14, .int .i64 x545)] e' ∧ Obs τ' σ' [] ∧ Hp.le τ τ' ∧ RdT TyS_api_Row τ' (.slice A0 p0.length c0) p0 ∧ F_law05_LinesFinds_l19 p0 n x545 = some rr) big ⟨0, _, And.intro rfl (And.intro rfl trivial), hO, hL, r332, hF⟩ ?_
            clear hF hO hL
            rintro n569 e σ ⟨x545, _, hA, hO, hL, r544, hF⟩
            rw [← sets_agr _ _ hA]
            cases n569 with
            | zero => exact nomatch (show none = some rr from hF)
            | succ n569 =>
              replace hF : F_law05_LinesFinds_l19B (F_law05_LinesFinds_l19 p0 n569) p0 x545 = some rr := hF
              unfold F_law05_LinesFinds_l19B at hF
              refine wpn_assoc ?_
              refine wpn_qa hO [] [(0, .slice A0 p0.length c0), (14, .int .i64 x545), (98, .bool (decide (x545 < (p0.length : Int))))] (And.intro rfl (And.intro rfl (And.intro rfl trivial))) fun j => ?_
              rcases ite_some hF with ⟨hb570, hF⟩ | ⟨hb570, hF⟩
              · refine wpn_cT (congrArg Value.bool hb570) ?_
                refine wpn_sk ?_
                refine wpn_bl ?_
                refine wpn_q hO 3 [] [(0, .slice A0 p0.length c0), (14, .int .i64 x545), (102, .slice A0 p0.length c0), (103, .slice A0 p0.length c0), (104, .int .i64 x545)] (And.intro rfl (And.intro rfl (And.intro rfl (And.intro rfl (And.intro rfl trivial))))) fun j => ?_
                obtain ⟨y571, g572, hF⟩ := bind_some hF
                refine wpn_idx (T := TyS_api_Row) r544 hO.base rfl rfl g572 (by decide) fun a573 _ k574 m575 => ?_
                obtain rfl : _ = ([.int .i64 y571.Pc, .int .i64 y571.Point] : List Value) := k574
                refine wpn_q hO 1 [] [(0, .slice A0 p0.length c0), (14, .int .i64 x545), (102, .slice A0 p0.length c0), (106, .pointer (some a573))] (And.intro rfl (And.intro rfl (And.intro rfl (And.intro rfl trivial)))) fun j => ?_
                refine wpn_ld rfl m575.fst ?_
                obtain ⟨c576, h577, hF⟩ := bind_some hF
                refine wpn_c0 hO (w_lines_At r544 h577) rfl fun _ σ _ _ hO h578 h579 => ?_
                have hL := hL.trans h578
                have r544 := r544.le h578
                obtain ⟨rfl, rfl⟩ := h579
                have hO : Obs _ _ [] := hO
                refine wpn_qa hO [] [(0, .slice A0 p0.length c0), (14, .int .i64 x545), (15, .int .i64 c576.1), (16, .bool c576.2)] (And.intro rfl (And.intro rfl (And.intro rfl (And.intro rfl trivial)))) fun j => ?_
                refine wpn_q hO 3 [] [(0, .slice A0 p0.length c0), (14, .int .i64 x545), (15, .int .i64 c576.1), (113, .bool (!c576.2))] (And.intro rfl (And.intro rfl (And.intro rfl (And.intro rfl trivial)))) fun j => ?_
                obtain ⟨c580, h581, hF⟩ := bind_some hF
                refine wpn_midq 2 [(121, .bool c580), (0, .slice A0 p0.length c0), (14, .int .i64 x545)] (fun Q hQ => ?_) fun j => ?_
                · have hF := h581
                  rcases ite_some hF with ⟨hb582, hF⟩ | ⟨hb582, hF⟩
                  · refine wpn_gF (congrArg (fun x => isB (.bool x) false) hb582) ?_
                    refine wpn_pk (congrArg Value.bool hb582) ?_
                    refine wpn_nil ?_
                    injection hF with hF
                    subst hF
                    refine wpn_end ?_
                    exact hQ _ (And.intro rfl (And.intro rfl (And.intro rfl trivial)))
                  · refine wpn_gT (congrArg (fun x => isB (.bool x) false) hb582) ?_
                    refine wpn_q hO 3 [] [(0, .slice A0 p0.length c0), (14, .int .i64 x545), (113, .bool (!c576.2)), (114, .int .i64 c576.1), (115, .slice A0 p0.length c0), (116, .int .i64 x545)] (And.intro rfl (And.intro rfl (And.intro rfl (And.intro rfl (And.intro rfl (And.intro rfl trivial)))))) fun j => ?_
                    obtain ⟨y583, g584, hF⟩ := bind_some hF
                    refine wpn_idx (T := TyS_api_Row) r544 hO.base rfl rfl g584 (by decide) fun a585 _ k586 m587 => ?_
                    obtain rfl : _ = ([.int .i64 y583.Pc, .int .i64 y583.Point] : List Value) := k586
                    refine wpn_q hO 1 [] [(0, .slice A0 p0.length c0), (14, .int .i64 x545), (113, .bool (!c576.2)), (114, .int .i64 c576.1), (118, .pointer (some (a585.add 1)))] (And.intro rfl (And.intro rfl (And.intro rfl (And.intro rfl (And.intro rfl trivial))))) fun j => ?_
                    refine wpn_ld rfl (m587.one 1 rfl) ?_
                    refine wpn_q hO 1 [] [(0, .slice A0 p0.length c0), (14, .int .i64 x545), (113, .bool (!c576.2)), (120, .bool (c576.1 != y583.Point))] (And.intro rfl (And.intro rfl (And.intro rfl (And.intro rfl trivial)))) fun j => ?_
                    refine wpn_pk (congrArg Value.bool hb582) ?_
                    refine wpn_nil ?_
                    injection hF with hF
                    subst hF
                    refine wpn_end ?_
                    exact hQ _ (And.intro rfl (And.intro rfl (And.intro rfl trivial)))
                · refine wpn_nil ?_
                  refine wpn_clast ?_
                  rcases ite_some hF with ⟨hb588, hF⟩ | ⟨hb588, hF⟩
                  · refine wpn_cT (congrArg Value.bool hb588) ?_
                    refine wpn_assoc ?_
                    refine wpn_qa hO [] [(6, .bool false)] (And.intro rfl trivial) fun j => ?_
                    refine wpn_rt ?_
                    refine inb_r1 ?_
                    refine thn_r1 ?_
                    refine thn_r1 ?_
                    refine inb_r1 ?_
                    refine thn_r1 ?_
                    injection hF with hF
                    subst hF
                    exact hQ _ _ _ _ _ rfl hO hL ⟨rfl, rfl⟩
                  · refine wpn_cF (congrArg Value.bool hb588) ?_
                    refine wpn_sk ?_
                    refine wpn_end ?_
                    refine inb_i ?_
                    refine thn_i ?_
                    refine wpn_rlast ?_
                    refine wpn_qa hO [] [(0, .slice A0 p0.length c0), (14, .int .i64 (IntKind.i64.wrap (x545 + 1)))] (And.intro rfl (And.intro rfl trivial)) fun j => ?_
                    refine wpn_end ?_
                    refine thn_i ?_
                    exact ⟨n569, Nat.lt_succ_self _, (IntKind.i64.wrap (x545 + 1)), _, And.intro rfl (And.intro rfl trivial), hO, hL, r544, hF⟩
              · refine wpn_cF (congrArg Value.bool hb570) ?_
                refine wpn_ex ?_
                refine thn_x ?_
                refine inb_x ?_
                refine thn_i ?_
                obtain ⟨c589, h590, hF⟩ := bind_some hF
                refine wpn_c0 hO (w_law05_works h590) rfl fun _ σ _ _ hO h591 h592 => ?_
                have hL := hL.trans h591
                have r544 := r544.le h591
                obtain ⟨rfl, rfl⟩ := h592
                have hO : Obs _ _ [] := hO
                refine wpn_qa hO [] [(6, .bool c589)] (And.intro rfl trivial) fun j => ?_
                refine wpn_r1 ?_
                injection hF with hF
                subst hF
                exact hQ _ _ _ _ _ rfl hO hL ⟨rfl, rfl⟩

end Go.Proofs.Ytglpbhkkkhmlpaa
