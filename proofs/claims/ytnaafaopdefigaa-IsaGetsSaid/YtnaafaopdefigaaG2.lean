import Derived.Test.YtnaafaopdefigaaF
import Derived.Test.YtnaafaopdefigaaAc0
import Derived.Test.YtnaafaopdefigaaM00
import Derived.Test.YtnaafaopdefigaaM01
import Derived.Test.YtnaafaopdefigaaG1
namespace Go.Proofs.Ytnaafaopdefigaa
open Go.Ab Go.RowKit
set_option linter.unusedVariables false
set_option linter.unusedSimpArgs false
set_option maxRecDepth 10000
theorem zdZ {τ : Hp} {v0 : Value} {p0 : (List UInt8)} {p1 : za} (r0 : RdT Ty.u8 τ v0 p0) {rr : (List UInt8)} (hF : z2 p0 p1 = some rr) :
    Ctr Try.prog 16 #[v0, .agg #[.int .u8 p1.Kind.toNat, .int .u8 p1.Op.toNat, .int .i64 p1.R, .int .i64 p1.S, .int .i64 p1.T, .int .i64 p1.N, .int .i64 p1.M]] τ [] (fun v τ' vs' => ∃ (v0 : Value) (o0 : Ob), v = v0 ∧ vs' = [o0] ∧ OwnO Ty.u8 5 τ' v0 rr o0) := by
  obtain ⟨A0, c0, rfl, -⟩ := r0.form
  refine ctr_of (args := [.slice A0 p0.length c0, .agg #[.int .u8 p1.Kind.toNat, .int .u8 p1.Op.toNat, .int .i64 p1.R, .int .i64 p1.S, .int .i64 p1.T, .int .i64 p1.N, .int .i64 p1.M]]) hm Try.func16 s16 rfl fun w0 σ hO Q hQ => ?_
  unfold z2 at hF
  have hL := Hp.le.refl τ
  show wpn _ _ a16.body _ _ _
  unfold a16
  dsimp only
  refine wpn_bx (n := 7) hO rfl rfl fun b3 σ hO => ?_
  have hO : Obs _ _ [_] := hO
  refine wpn_qa hO [] [(0, .slice A0 p0.length c0), (3, .pointer (some ⟨b3, 0, none⟩))] (ar (ar trivial)) fun j => ?_
  refine wpn_q hO 1 [] [(3, .pointer (some ⟨b3, 0, none⟩)), (11, .slice A0 p0.length c0)] (ar (ar trivial)) fun j => ?_
  obtain ⟨c4, h5, hF⟩ := bind_some hF
  refine wpn_c0 hO (zdm r0 h5) rfl fun _ σ _ _ hO h6 h7 => ?_
  have hL := hL.trans h6
  have r0 := r0.le h6
  obtain ⟨v8, o11, rfl, rfl, w12⟩ := h7
  obtain ⟨A9, c10, rfl, -⟩ := w12.form
  have hO : Obs _ _ [_, _] := hO
  refine wpn_qa hO [] [(3, .pointer (some ⟨b3, 0, none⟩)), (5, .slice A9 c4.length c10)] (ar (ar trivial)) fun j => ?_
  refine wpn_assoc ?_
  refine wpn_q hO 1 [0] [(3, .pointer (some ⟨b3, 0, none⟩)), (5, .slice A9 c4.length c10), (13, .agg #[(.int .u8 (p1.Kind.toNat : Int)), (.int .u8 (p1.Op.toNat : Int)), (.int .i64 p1.R), (.int .i64 p1.S), (.int .i64 p1.T), (.int .i64 p1.N), (.int .i64 p1.M)])] (And.intro (And.intro rfl rfl) (ar (ar (ar trivial)))) fun j => ?_
  obtain ⟨c13, h14, hF⟩ := bind_some hF
  refine wpn_c0 hO (zdB h14) rfl fun _ σ _ _ hO h15 h16 => ?_
  have hL := hL.trans h15
  have w12 := w12.le h15
  obtain ⟨rfl, rfl⟩ := h16
  have hO : Obs _ _ [_, _] := hO
  refine wpn_qa hO [] [(3, .pointer (some ⟨b3, 0, none⟩)), (5, .slice A9 c4.length c10), (15, .bool (!c13))] (ar (ar (ar trivial))) fun j => ?_
  rcases ite_some hF with ⟨hb17, hF⟩ | ⟨hb17, hF⟩
  · refine wpn_cT (congrArg Value.bool hb17) ?_
    refine wpn_assoc ?_
    refine wpn_qa hO [] [(4, .slice A9 c4.length c10)] (ar trivial) fun j => ?_
    refine wpn_rt ?_
    injection hF with hF
    subst hF
    have hO := hO.sel [1] (by decide)
    exact hQ _ _ _ _ _ rfl hO hL ⟨_, _, rfl, rfl, w12⟩
  · refine wpn_cF (congrArg Value.bool hb17) ?_
    refine wpn_sk ?_
    refine wpn_q hO 3 [0] [(3, .pointer (some ⟨b3, 0, none⟩)), (17, .slice A9 c4.length c10), (19, .int .u8 (p1.Kind.toNat : Int))] (And.intro (And.intro rfl rfl) (ar (ar (ar trivial)))) fun j => ?_
    obtain ⟨_, hr, hF⟩ := bind_some hF
    refine wpn_ap1 (T := Ty.u8) (y := p1.Kind) hO w12 (i := 1) rfl rfl (fun _ => rfl) rfl rfl rfl hr (by decide) fun u _ σ o20 w21 hO => ?_
    obtain ⟨A18, c19, rfl, -⟩ := w21.form
    have hO : Obs _ _ [_, _] := hO
    refine wpn_qa hO [] [(3, .pointer (some ⟨b3, 0, none⟩)), (5, .slice A18 (c4 ++ [p1.Kind]).length c19)] (ar (ar trivial)) fun j => ?_
    refine wpn_q hO 2 [0] [(3, .pointer (some ⟨b3, 0, none⟩)), (5, .slice A18 (c4 ++ [p1.Kind]).length c19), (24, .int .u8 (p1.Kind.toNat : Int))] (And.intro (And.intro rfl rfl) (ar (ar (ar trivial)))) fun j => ?_
    obtain ⟨c22, h23, hF⟩ := bind_some hF
    refine wpn_c0 hO (zcZ h23) rfl fun _ σ _ _ hO h24 h25 => ?_
    have hL := hL.trans h24
    have w21 := w21.le h24
    obtain ⟨rfl, rfl⟩ := h25
    have hO : Obs _ _ [_, _] := hO
    refine wpn_qa hO [] [(3, .pointer (some ⟨b3, 0, none⟩)), (5, .slice A18 (c4 ++ [p1.Kind]).length c19), (6, .string c22.1)] (ar (ar (ar trivial))) fun j => ?_
    refine wpn_assoc ?_
    refine wpn_qa hO [] [(3, .pointer (some ⟨b3, 0, none⟩)), (5, .slice A18 (c4 ++ [p1.Kind]).length c19), (6, .string c22.1), (8, .int .i64 0)] (ar (ar (ar (ar trivial)))) fun j => ?_
    refine wpn_bl ?_
    refine wpn_lp (fun (n : Nat) e' σ' => ∃ (A327 : Option Addr) (c328 : Nat) (o329 : Ob) (x330 : List UInt8) (x332 : Int) (τ' : Hp), agr [(3, .pointer (some ⟨b3, 0, none⟩)), (5, .slice A327 x330.length c328), (6, .string c22.1), (8, .int .i64 x332)] e' ∧ Obs τ' σ' [some (b3, ⟨[.int .u8 (p1.Kind.toNat : Int), .int .u8 (p1.Op.toNat : Int), .int .i64 p1.R, .int .i64 p1.S, .int .i64 p1.T, .int .i64 p1.N, .int .i64 p1.M], 24, 7, true⟩), o329] ∧ Hp.le τ τ' ∧ OwnO Ty.u8 5 τ' (.slice A327 x330.length c328) x330 o329 ∧ zz p1 c22 n x330 x332 = some rr) big ⟨A18, c19, o20, (c4 ++ [p1.Kind]), 0, _, ar (ar (ar (ar trivial))), hO, hL, w21, hF⟩ ?_
    clear hF hO hL
    rintro n629 e σ ⟨A327, c328, o329, x330, x332, _, hA, hO, hL, w331, hF⟩
    rw [← sets_agr _ _ hA]
    cases n629 with
    | zero => exact nomatch (show none = some rr from hF)
    | succ n629 =>
      replace hF : zb7 (zz p1 c22 n629) p1 c22 x330 x332 = some rr := hF
      unfold zb7 at hF
      refine wpn_assoc ?_
      refine wpn_qa hO [] [(3, .pointer (some ⟨b3, 0, none⟩)), (5, .slice A327 x330.length c328), (6, .string c22.1), (8, .int .i64 x332), (31, .bool (decide (x332 < (c22.1.size : Int))))] (ar (ar (ar (ar (ar trivial))))) fun j => ?_
      rcases ite_some hF with ⟨hb630, hF⟩ | ⟨hb630, hF⟩
      · refine wpn_cT (congrArg Value.bool hb630) ?_
        refine wpn_sk ?_
        refine wpn_cutb (fun e' σ' => ∃ (A776 : Option Addr) (c777 : Nat) (o778 : Ob) (x779 : List UInt8) (τ' : Hp), agr [(3, .pointer (some ⟨b3, 0, none⟩)), (5, .slice A776 x779.length c777), (6, .string c22.1), (8, .int .i64 x332)] e' ∧ Obs τ' σ' [some (b3, ⟨[.int .u8 (p1.Kind.toNat : Int), .int .u8 (p1.Op.toNat : Int), .int .i64 p1.R, .int .i64 p1.S, .int .i64 p1.T, .int .i64 p1.N, .int .i64 p1.M], 24, 7, true⟩), o778] ∧ Hp.le τ τ' ∧ OwnO Ty.u8 5 τ' (.slice A776 x779.length c777) x779 o778 ∧ zcy (zz p1 c22 n629) x332 x779 = some rr) ?_ ?_
        · refine wpn_q hO 2 [] [(3, .pointer (some ⟨b3, 0, none⟩)), (5, .slice A327 x330.length c328), (6, .string c22.1), (8, .int .i64 x332), (34, .string c22.1), (35, .int .i64 x332)] (ar (ar (ar (ar (ar (ar trivial)))))) fun j => ?_
          obtain ⟨y781, g782, hF⟩ := bind_some hF
          refine wpn_si rfl rfl g782 ?_
          refine wpn_nil ?_
          refine wpn_blast ?_
          refine wpn_cutb (fun e' σ' => ∃ (A852 : Option Addr) (c853 : Nat) (o854 : Ob) (x855 : List UInt8) (τ' : Hp), agr [(3, .pointer (some ⟨b3, 0, none⟩)), (5, .slice A852 x855.length c853), (6, .string c22.1), (8, .int .i64 x332)] e' ∧ Obs τ' σ' [some (b3, ⟨[.int .u8 (p1.Kind.toNat : Int), .int .u8 (p1.Op.toNat : Int), .int .i64 p1.R, .int .i64 p1.S, .int .i64 p1.T, .int .i64 p1.N, .int .i64 p1.M], 24, 7, true⟩), o854] ∧ Hp.le τ τ' ∧ OwnO Ty.u8 5 τ' (.slice A852 x855.length c853) x855 o854 ∧ zp (zz p1 c22 n629) x332 x855 = some rr) ?_ ?_
          · refine wpn_qa hO [] [(3, .pointer (some ⟨b3, 0, none⟩)), (5, .slice A327 x330.length c328), (6, .string c22.1), (8, .int .i64 x332), (36, .int .u8 (y781.toNat : Int)), (37, .bool ((y781.toNat : Int) == 111))] (ar (ar (ar (ar (ar (ar trivial)))))) fun j => ?_
            refine wpn_clast ?_
            rcases ite_some hF with ⟨hb857, hF⟩ | ⟨hb857, hF⟩
            · refine wpn_cT (congrArg Value.bool hb857) ?_
              refine wpn_q hO 3 [0] [(3, .pointer (some ⟨b3, 0, none⟩)), (6, .string c22.1), (8, .int .i64 x332), (39, .slice A327 x330.length c328), (41, .int .u8 (p1.Op.toNat : Int))] (And.intro (And.intro rfl rfl) (ar (ar (ar (ar (ar trivial)))))) fun j => ?_
              obtain ⟨_, hr, hF⟩ := bind_some hF
              refine wpn_ap1 (T := Ty.u8) (y := p1.Op) hO w331 (i := 1) rfl rfl (fun _ => rfl) rfl rfl rfl hr (by decide) fun u _ σ o860 w861 hO => ?_
              obtain ⟨A858, c859, rfl, -⟩ := w861.form
              have hO : Obs _ _ [_, _] := hO
              refine wpn_qa hO [] [(3, .pointer (some ⟨b3, 0, none⟩)), (5, .slice A858 (x330 ++ [p1.Op]).length c859), (6, .string c22.1), (8, .int .i64 x332)] (ar (ar (ar (ar trivial)))) fun j => ?_
              refine wpn_end ?_
              refine inb_i ?_
              refine thn_i ?_
              exact ⟨A858, c859, o860, (x330 ++ [p1.Op]), _, ar (ar (ar (ar trivial))), hO, hL, w861, hF⟩
            · refine wpn_cF (congrArg Value.bool hb857) ?_
              refine wpn_assoc ?_
              refine wpn_qa hO [] [(3, .pointer (some ⟨b3, 0, none⟩)), (5, .slice A327 x330.length c328), (6, .string c22.1), (8, .int .i64 x332), (36, .int .u8 (y781.toNat : Int)), (44, .bool ((y781.toNat : Int) == 114))] (ar (ar (ar (ar (ar (ar trivial)))))) fun j => ?_
              rcases ite_some hF with ⟨hb862, hF⟩ | ⟨hb862, hF⟩
              · refine wpn_cT (congrArg Value.bool hb862) ?_
                refine wpn_q hO 4 [0] [(3, .pointer (some ⟨b3, 0, none⟩)), (6, .string c22.1), (8, .int .i64 x332), (46, .slice A327 x330.length c328), (49, .int .u8 (IntKind.u8.wrap p1.R))] (And.intro (And.intro rfl rfl) (ar (ar (ar (ar (ar trivial)))))) fun j => ?_
                obtain ⟨z863, hz863, hF⟩ := bind_some hF
                obtain ⟨_, hr, hF⟩ := bind_some hF
                refine wpn_ap1 (T := Ty.u8) (y := z863) hO w331 (i := 1) rfl rfl (fun _ => rfl) rfl (u8R hz863) rfl hr (by decide) fun u _ σ o866 w867 hO => ?_
                obtain ⟨A864, c865, rfl, -⟩ := w867.form
                have hO : Obs _ _ [_, _] := hO
                refine wpn_qa hO [] [(3, .pointer (some ⟨b3, 0, none⟩)), (5, .slice A864 (x330 ++ [z863]).length c865), (6, .string c22.1), (8, .int .i64 x332)] (ar (ar (ar (ar trivial)))) fun j => ?_
                refine wpn_end ?_
                refine inb_i ?_
                refine thn_i ?_
                exact ⟨A864, c865, o866, (x330 ++ [z863]), _, ar (ar (ar (ar trivial))), hO, hL, w867, hF⟩
              · refine wpn_cF (congrArg Value.bool hb862) ?_
                refine wpn_assoc ?_
                refine wpn_qa hO [] [(3, .pointer (some ⟨b3, 0, none⟩)), (5, .slice A327 x330.length c328), (6, .string c22.1), (8, .int .i64 x332), (36, .int .u8 (y781.toNat : Int)), (52, .bool ((y781.toNat : Int) == 97))] (ar (ar (ar (ar (ar (ar trivial)))))) fun j => ?_
                rcases ite_some hF with ⟨hb868, hF⟩ | ⟨hb868, hF⟩
                · refine wpn_cT (congrArg Value.bool hb868) ?_
                  refine wpn_assoc ?_
                  refine wpn_q hO 4 [0, 0] [(3, .pointer (some ⟨b3, 0, none⟩)), (5, .slice A327 x330.length c328), (6, .string c22.1), (8, .int .i64 x332), (56, .int .i64 p1.R), (58, .int .i64 p1.S)] (And.intro (And.intro rfl rfl) (And.intro (And.intro rfl rfl) (ar (ar (ar (ar (ar (ar trivial)))))))) fun j => ?_
                  obtain ⟨c869, h870, hF⟩ := bind_some hF
                  refine wpn_c0 hO (zeB h870) rfl fun _ σ _ _ hO h871 h872 => ?_
                  have hL := hL.trans h871
                  have w331 := w331.le h871
                  obtain ⟨rfl, rfl⟩ := h872
                  have hO : Obs _ _ [_, _] := hO
                  refine wpn_qa hO [] [(3, .pointer (some ⟨b3, 0, none⟩)), (5, .slice A327 x330.length c328), (6, .string c22.1), (8, .int .i64 x332), (9, .int .u8 c869.1)] (ar (ar (ar (ar (ar trivial))))) fun j => ?_
                  refine wpn_q hO 2 [] [(3, .pointer (some ⟨b3, 0, none⟩)), (6, .string c22.1), (8, .int .i64 x332), (62, .slice A327 x330.length c328), (63, .int .u8 c869.1)] (ar (ar (ar (ar (ar trivial))))) fun j => ?_
                  obtain ⟨z873, hz873, hF⟩ := bind_some hF
                  obtain ⟨_, hr, hF⟩ := bind_some hF
                  refine wpn_ap1 (T := Ty.u8) (y := z873) hO w331 (i := 1) rfl rfl (fun _ => rfl) rfl (u8R hz873) rfl hr (by decide) fun u _ σ o876 w877 hO => ?_
                  obtain ⟨A874, c875, rfl, -⟩ := w877.form
                  have hO : Obs _ _ [_, _] := hO
                  refine wpn_qa hO [] [(3, .pointer (some ⟨b3, 0, none⟩)), (5, .slice A874 (x330 ++ [z873]).length c875), (6, .string c22.1), (8, .int .i64 x332)] (ar (ar (ar (ar trivial)))) fun j => ?_
                  refine wpn_end ?_
                  refine inb_i ?_
                  refine thn_i ?_
                  exact ⟨A874, c875, o876, (x330 ++ [z873]), _, ar (ar (ar (ar trivial))), hO, hL, w877, hF⟩
                · refine wpn_cF (congrArg Value.bool hb868) ?_
                  refine wpn_assoc ?_
                  refine wpn_qa hO [] [(3, .pointer (some ⟨b3, 0, none⟩)), (5, .slice A327 x330.length c328), (6, .string c22.1), (8, .int .i64 x332), (36, .int .u8 (y781.toNat : Int)), (66, .bool ((y781.toNat : Int) == 116))] (ar (ar (ar (ar (ar (ar trivial)))))) fun j => ?_
                  rcases ite_some hF with ⟨hb878, hF⟩ | ⟨hb878, hF⟩
                  · refine wpn_cT (congrArg Value.bool hb878) ?_
                    refine wpn_q hO 4 [0] [(3, .pointer (some ⟨b3, 0, none⟩)), (6, .string c22.1), (8, .int .i64 x332), (68, .slice A327 x330.length c328), (71, .int .u8 (IntKind.u8.wrap p1.T))] (And.intro (And.intro rfl rfl) (ar (ar (ar (ar (ar trivial)))))) fun j => ?_
                    obtain ⟨z879, hz879, hF⟩ := bind_some hF
                    obtain ⟨_, hr, hF⟩ := bind_some hF
                    refine wpn_ap1 (T := Ty.u8) (y := z879) hO w331 (i := 1) rfl rfl (fun _ => rfl) rfl (u8R hz879) rfl hr (by decide) fun u _ σ o882 w883 hO => ?_
                    obtain ⟨A880, c881, rfl, -⟩ := w883.form
                    have hO : Obs _ _ [_, _] := hO
                    refine wpn_qa hO [] [(3, .pointer (some ⟨b3, 0, none⟩)), (5, .slice A880 (x330 ++ [z879]).length c881), (6, .string c22.1), (8, .int .i64 x332)] (ar (ar (ar (ar trivial)))) fun j => ?_
                    refine wpn_end ?_
                    refine inb_i ?_
                    refine thn_i ?_
                    exact ⟨A880, c881, o882, (x330 ++ [z879]), _, ar (ar (ar (ar trivial))), hO, hL, w883, hF⟩
                  · refine wpn_cF (congrArg Value.bool hb878) ?_
                    refine wpn_assoc ?_
                    refine wpn_qa hO [] [(3, .pointer (some ⟨b3, 0, none⟩)), (5, .slice A327 x330.length c328), (6, .string c22.1), (8, .int .i64 x332), (36, .int .u8 (y781.toNat : Int)), (74, .bool ((y781.toNat : Int) == 110))] (ar (ar (ar (ar (ar (ar trivial)))))) fun j => ?_
                    rcases ite_some hF with ⟨hb884, hF⟩ | ⟨hb884, hF⟩
                    · refine wpn_cT (congrArg Value.bool hb884) ?_
                      refine wpn_q hO 3 [0] [(3, .pointer (some ⟨b3, 0, none⟩)), (6, .string c22.1), (8, .int .i64 x332), (76, .slice A327 x330.length c328), (78, .int .i64 p1.N)] (And.intro (And.intro rfl rfl) (ar (ar (ar (ar (ar trivial)))))) fun j => ?_
                      obtain ⟨_, h886, r885, hO⟩ := w331.share hO (i := 1) rfl
                      have hL := hL.trans h886
                      have hO : Obs _ _ [_, _] := hO
                      obtain ⟨c887, h888, hF⟩ := bind_some hF
                      refine wpn_c0 hO (zdC r885 h888) rfl fun _ σ _ _ hO h889 h890 => ?_
                      have hL := hL.trans h889
                      have r885 := r885.le h889
                      obtain ⟨v891, o894, rfl, rfl, w895⟩ := h890
                      obtain ⟨A892, c893, rfl, -⟩ := w895.form
                      have hO : Obs _ _ [_, _, _] := hO
                      refine wpn_qa hO [] [(3, .pointer (some ⟨b3, 0, none⟩)), (5, .slice A892 c887.length c893), (6, .string c22.1), (8, .int .i64 x332)] (ar (ar (ar (ar trivial)))) fun j => ?_
                      refine wpn_end ?_
                      refine inb_i ?_
                      refine thn_i ?_
                      have hO := hO.sel [0, 2] (by decide)
                      exact ⟨A892, c893, o894, c887, _, ar (ar (ar (ar trivial))), hO, hL, w895, hF⟩
                    · refine wpn_cF (congrArg Value.bool hb884) ?_
                      refine wpn_assoc ?_
                      refine wpn_qa hO [] [(3, .pointer (some ⟨b3, 0, none⟩)), (5, .slice A327 x330.length c328), (6, .string c22.1), (8, .int .i64 x332), (36, .int .u8 (y781.toNat : Int)), (80, .bool ((y781.toNat : Int) == 109))] (ar (ar (ar (ar (ar (ar trivial)))))) fun j => ?_
                      rcases ite_some hF with ⟨hb896, hF⟩ | ⟨hb896, hF⟩
                      · refine wpn_cT (congrArg Value.bool hb896) ?_
                        refine wpn_q hO 4 [0] [(3, .pointer (some ⟨b3, 0, none⟩)), (6, .string c22.1), (8, .int .i64 x332), (82, .slice A327 x330.length c328), (85, .int .u64 (IntKind.u64.wrap p1.M))] (And.intro (And.intro rfl rfl) (ar (ar (ar (ar (ar trivial)))))) fun j => ?_
                        obtain ⟨_, h898, r897, hO⟩ := w331.share hO (i := 1) rfl
                        have hL := hL.trans h898
                        have hO : Obs _ _ [_, _] := hO
                        obtain ⟨c899, h900, hF⟩ := bind_some hF
                        refine wpn_c0 hO (zdj r897 h900) rfl fun _ σ _ _ hO h901 h902 => ?_
                        have hL := hL.trans h901
                        have r897 := r897.le h901
                        obtain ⟨v903, o906, rfl, rfl, w907⟩ := h902
                        obtain ⟨A904, c905, rfl, -⟩ := w907.form
                        have hO : Obs _ _ [_, _, _] := hO
                        refine wpn_qa hO [] [(3, .pointer (some ⟨b3, 0, none⟩)), (5, .slice A904 c899.length c905), (6, .string c22.1), (8, .int .i64 x332)] (ar (ar (ar (ar trivial)))) fun j => ?_
                        refine wpn_end ?_
                        refine inb_i ?_
                        refine thn_i ?_
                        have hO := hO.sel [0, 2] (by decide)
                        exact ⟨A904, c905, o906, c899, _, ar (ar (ar (ar trivial))), hO, hL, w907, hF⟩
                      · refine wpn_cF (congrArg Value.bool hb896) ?_
                        refine wpn_assoc ?_
                        refine wpn_qa hO [] [(3, .pointer (some ⟨b3, 0, none⟩)), (5, .slice A327 x330.length c328), (6, .string c22.1), (8, .int .i64 x332), (36, .int .u8 (y781.toNat : Int)), (87, .bool ((y781.toNat : Int) == 106))] (ar (ar (ar (ar (ar (ar trivial)))))) fun j => ?_
                        rcases ite_some hF with ⟨hb908, hF⟩ | ⟨hb908, hF⟩
                        · refine wpn_cT (congrArg Value.bool hb908) ?_
                          refine wpn_q hO 3 [0] [(3, .pointer (some ⟨b3, 0, none⟩)), (6, .string c22.1), (8, .int .i64 x332), (90, .slice A327 x330.length c328), (92, .int .i64 p1.N)] (And.intro (And.intro rfl rfl) (ar (ar (ar (ar (ar trivial)))))) fun j => ?_
                          obtain ⟨_, h910, r909, hO⟩ := w331.share hO (i := 1) rfl
                          have hL := hL.trans h910
                          have hO : Obs _ _ [_, _] := hO
                          obtain ⟨c911, h912, hF⟩ := bind_some hF
                          refine wpn_c0 hO (zev r909 h912) rfl fun _ σ _ _ hO h913 h914 => ?_
                          have hL := hL.trans h913
                          have r909 := r909.le h913
                          obtain ⟨v915, o918, rfl, rfl, w919⟩ := h914
                          obtain ⟨A916, c917, rfl, -⟩ := w919.form
                          have hO : Obs _ _ [_, _, _] := hO
                          refine wpn_qa hO [] [(3, .pointer (some ⟨b3, 0, none⟩)), (5, .slice A916 c911.1.length c917), (6, .string c22.1), (8, .int .i64 x332)] (ar (ar (ar (ar trivial)))) fun j => ?_
                          refine wpn_end ?_
                          refine inb_i ?_
                          refine thn_i ?_
                          have hO := hO.sel [0, 2] (by decide)
                          exact ⟨A916, c917, o918, c911.1, _, ar (ar (ar (ar trivial))), hO, hL, w919, hF⟩
                        · refine wpn_cF (congrArg Value.bool hb908) ?_
                          refine wpn_assoc ?_
                          refine wpn_qa hO [] [(3, .pointer (some ⟨b3, 0, none⟩)), (5, .slice A327 x330.length c328), (6, .string c22.1), (8, .int .i64 x332), (96, .bool ((y781.toNat : Int) == 107))] (ar (ar (ar (ar (ar trivial))))) fun j => ?_
                          rcases ite_some hF with ⟨hb920, hF⟩ | ⟨hb920, hF⟩
                          · refine wpn_cT (congrArg Value.bool hb920) ?_
                            refine wpn_q hO 4 [0] [(3, .pointer (some ⟨b3, 0, none⟩)), (6, .string c22.1), (8, .int .i64 x332), (98, .slice A327 x330.length c328), (101, .int .u8 (IntKind.u8.wrap p1.N))] (And.intro (And.intro rfl rfl) (ar (ar (ar (ar (ar trivial)))))) fun j => ?_
                            obtain ⟨z921, hz921, hF⟩ := bind_some hF
                            obtain ⟨_, hr, hF⟩ := bind_some hF
                            refine wpn_ap1 (T := Ty.u8) (y := z921) hO w331 (i := 1) rfl rfl (fun _ => rfl) rfl (u8R hz921) rfl hr (by decide) fun u _ σ o924 w925 hO => ?_
                            obtain ⟨A922, c923, rfl, -⟩ := w925.form
                            have hO : Obs _ _ [_, _] := hO
                            refine wpn_qa hO [] [(3, .pointer (some ⟨b3, 0, none⟩)), (5, .slice A922 (x330 ++ [z921]).length c923), (6, .string c22.1), (8, .int .i64 x332)] (ar (ar (ar (ar trivial)))) fun j => ?_
                            refine wpn_end ?_
                            refine inb_i ?_
                            refine thn_i ?_
                            exact ⟨A922, c923, o924, (x330 ++ [z921]), _, ar (ar (ar (ar trivial))), hO, hL, w925, hF⟩
                          · refine wpn_cF (congrArg Value.bool hb920) ?_
                            refine wpn_sk ?_
                            refine wpn_end ?_
                            refine inb_i ?_
                            refine thn_i ?_
                            exact ⟨A327, c328, o329, x330, _, ar (ar (ar (ar trivial))), hO, hL, w331, hF⟩
          · rintro e σ ⟨A852, c853, o854, x855, _, hA, hO, hL, w856, hF⟩
            rw [← sets_agr _ _ hA]
            unfold zp at hF
            refine wpn_end ?_
            refine inb_i ?_
            refine thn_i ?_
            exact ⟨A852, c853, o854, x855, _, ar (ar (ar (ar trivial))), hO, hL, w856, hF⟩
        · rintro e σ ⟨A776, c777, o778, x779, _, hA, hO, hL, w780, hF⟩
          rw [← sets_agr _ _ hA]
          unfold zcy at hF
          refine wpn_rlast ?_
          refine wpn_qa hO [] [(3, .pointer (some ⟨b3, 0, none⟩)), (5, .slice A776 x779.length c777), (6, .string c22.1), (8, .int .i64 (IntKind.i64.wrap (x332 + 1)))] (ar (ar (ar (ar trivial)))) fun j => ?_
          refine wpn_end ?_
          refine thn_i ?_
          exact ⟨n629, Nat.lt_succ_self _, A776, c777, o778, x779, (IntKind.i64.wrap (x332 + 1)), _, ar (ar (ar (ar trivial))), hO, hL, w780, hF⟩
      · refine wpn_cF (congrArg Value.bool hb630) ?_
        refine wpn_ex ?_
        refine thn_x ?_
        refine inb_x ?_
        refine thn_i ?_
        refine wpn_qa hO [] [(4, .slice A327 x330.length c328)] (ar trivial) fun j => ?_
        refine wpn_r1 ?_
        injection hF with hF
        subst hF
        have hO := hO.sel [1] (by decide)
        exact hQ _ _ _ _ _ rfl hO hL ⟨_, _, rfl, rfl, w331⟩
theorem zej {τ : Hp} {v0 : Value} {p0 : (List UInt8)} {q0 : (List UInt8)} {v1 : Value} {p1 : (List UInt8)} (r0 : RdT Ty.u8 τ v0 p0) (f0 : Full Ty.u8 τ v0 q0) (r1 : RdT Ty.u8 τ v1 p1) {rr : Bool} (hF : zbd p0 q0 p1 = some rr) :
    Ctr Try.prog 17 #[v0, v1] τ [] (fun v τ' vs' => v = .bool rr ∧ vs' = []) := by
  obtain ⟨A0, n0, rfl, f0⟩ := f0
  obtain ⟨_, _, hv0, -⟩ := r0.form
  injection hv0 with _ hv0 _
  subst hv0
  have f0 : Full Ty.u8 τ (.slice A0 p0.length q0.length) q0 := ⟨_, _, rfl, f0⟩
  obtain ⟨A1, c1, rfl, -⟩ := r1.form
  refine ctr_of (args := [.slice A0 p0.length q0.length, .slice A1 p1.length c1]) hm Try.func17 s17 rfl fun w0 σ hO Q hQ => ?_
  unfold zbd at hF
  have hL := Hp.le.refl τ
  show wpn _ _ a17.body _ _ _
  unfold a17
  dsimp only
  refine wpn_qa hO [] [(0, .slice A0 p0.length q0.length), (1, .slice A1 p1.length c1)] (ar (ar trivial)) fun j => ?_
  refine wpn_assoc ?_
  refine wpn_qa hO [] [(0, .slice A0 p0.length q0.length), (1, .slice A1 p1.length c1), (20, .bool (((p0.length : Int) != (p1.length : Int)) || (decide ((q0.length : Int) < (IntKind.i64.wrap ((p0.length : Int) + 8))))))] (And.intro (And.intro rfl rfl) (fun _ => ar (ar (ar trivial)))) fun j => ?_
  rcases ite_some hF with ⟨hb3, hF⟩ | ⟨hb3, hF⟩
  · refine wpn_cT (congrArg Value.bool hb3) ?_
    refine wpn_assoc ?_
    refine wpn_qa hO [] [(4, .bool false)] (ar trivial) fun j => ?_
    refine wpn_rt ?_
    injection hF with hF
    subst hF
    exact hQ _ _ _ _ _ rfl hO hL ⟨rfl, rfl⟩
  · refine wpn_cF (congrArg Value.bool hb3) ?_
    refine wpn_sk ?_
    refine wpn_assoc ?_
    refine wpn_q hO 4 [] [(1, .slice A1 p1.length c1), (21, .slice A0 p0.length q0.length), (24, .int .i64 (IntKind.i64.wrap ((p0.length : Int) + 8)))] (ar (ar (ar trivial))) fun j => ?_
    obtain ⟨y4, g5, hF⟩ := bind_some hF
    refine wpn_slf (T := Ty.u8) f0 rfl rfl g5 fun _ r6 => ?_
    obtain ⟨A7, c8, rfl, -⟩ := r6.form
    refine wpn_qa hO [] [(1, .slice A1 p1.length c1), (25, .slice A7 y4.length c8), (26, .int .i64 (y4.length : Int)), (27, .int .i64 0)] (ar (ar (ar (ar trivial)))) fun j => ?_
    refine wpn_bl ?_
    refine wpn_lp (fun (n : Nat) e' σ' => ∃ (x27 : Int) (τ' : Hp), agr [(1, .slice A1 p1.length c1), (25, .slice A7 y4.length c8), (26, .int .i64 (y4.length : Int)), (27, .int .i64 x27)] e' ∧ Obs τ' σ' [] ∧ Hp.le τ τ' ∧ RdT Ty.u8 τ' (.slice A1 p1.length c1) p1 ∧ RdT Ty.u8 τ' (.slice A7 y4.length c8) y4 ∧ zb6 p1 y4 n x27 = some rr) big ⟨0, _, ar (ar (ar (ar trivial))), hO, hL, r1, r6, hF⟩ ?_
    clear hF hO hL
    rintro n42 e σ ⟨x27, _, hA, hO, hL, r25, r26, hF⟩
    rw [← sets_agr _ _ hA]
    cases n42 with
    | zero => exact nomatch (show none = some rr from hF)
    | succ n42 =>
      replace hF : zbh (zb6 p1 y4 n42) p1 y4 x27 = some rr := hF
      unfold zbh at hF
      refine wpn_qa hO [] [(1, .slice A1 p1.length c1), (25, .slice A7 y4.length c8), (26, .int .i64 (y4.length : Int)), (27, .int .i64 x27), (28, .bool (decide (x27 < (y4.length : Int))))] (ar (ar (ar (ar (ar trivial))))) fun j => ?_
      rcases ite_some hF with ⟨hb43, hF⟩ | ⟨hb43, hF⟩
      · refine wpn_cT (congrArg Value.bool hb43) ?_
        refine wpn_sk ?_
        refine wpn_bl ?_
        refine wpn_q hO 1 [] [(1, .slice A1 p1.length c1), (25, .slice A7 y4.length c8), (26, .int .i64 (y4.length : Int)), (27, .int .i64 x27), (29, .int .i64 x27)] (ar (ar (ar (ar (ar trivial))))) fun j => ?_
        obtain ⟨y44, g45, hF⟩ := bind_some hF
        refine wpn_idx (T := Ty.u8) r26 hO.base rfl rfl g45 (by decide) fun a46 _ k47 m48 => ?_
        obtain rfl : _ = ([.int .u8 y44.toNat] : List Value) := k47
        refine wpn_ld rfl (m48.le hO.base).fst ?_
        refine wpn_qa hO [] [(1, .slice A1 p1.length c1), (5, .int .i64 x27), (6, .int .u8 (y44.toNat : Int)), (25, .slice A7 y4.length c8), (26, .int .i64 (y4.length : Int)), (27, .int .i64 x27)] (ar (ar (ar (ar (ar (ar trivial)))))) fun j => ?_
        refine wpn_qa hO [] [(1, .slice A1 p1.length c1), (5, .int .i64 x27), (6, .int .u8 (y44.toNat : Int)), (7, .int .u8 (IntKind.u8.wrap (IntKind.i64.wrap ((IntKind.i64.wrap (8 + (p1.length : Int))) - x27)))), (25, .slice A7 y4.length c8), (26, .int .i64 (y4.length : Int)), (27, .int .i64 x27)] (ar (ar (ar (ar (ar (ar (ar trivial))))))) fun j => ?_
        refine wpn_assoc ?_
        refine wpn_qa hO [] [(1, .slice A1 p1.length c1), (5, .int .i64 x27), (6, .int .u8 (y44.toNat : Int)), (7, .int .u8 (IntKind.u8.wrap (IntKind.i64.wrap ((IntKind.i64.wrap (8 + (p1.length : Int))) - x27)))), (25, .slice A7 y4.length c8), (26, .int .i64 (y4.length : Int)), (27, .int .i64 x27), (41, .bool (decide (x27 < (p1.length : Int))))] (ar (ar (ar (ar (ar (ar (ar (ar trivial)))))))) fun j => ?_
        rcases ite_some hF with ⟨hb49, hF⟩ | ⟨hb49, hF⟩
        · refine wpn_cT (congrArg Value.bool hb49) ?_
          refine wpn_q hO 2 [] [(1, .slice A1 p1.length c1), (6, .int .u8 (y44.toNat : Int)), (25, .slice A7 y4.length c8), (26, .int .i64 (y4.length : Int)), (27, .int .i64 x27), (42, .slice A1 p1.length c1), (43, .int .i64 x27)] (ar (ar (ar (ar (ar (ar (ar trivial))))))) fun j => ?_
          obtain ⟨y50, g51, hF⟩ := bind_some hF
          refine wpn_idx (T := Ty.u8) r25 hO.base rfl rfl g51 (by decide) fun a52 _ k53 m54 => ?_
          obtain rfl : _ = ([.int .u8 y50.toNat] : List Value) := k53
          refine wpn_ld rfl (m54.le hO.base).fst ?_
          refine wpn_qa hO [] [(1, .slice A1 p1.length c1), (6, .int .u8 (y44.toNat : Int)), (7, .int .u8 (y50.toNat : Int)), (25, .slice A7 y4.length c8), (26, .int .i64 (y4.length : Int)), (27, .int .i64 x27)] (ar (ar (ar (ar (ar (ar trivial)))))) fun j => ?_
          refine wpn_qa hO [] [(1, .slice A1 p1.length c1), (25, .slice A7 y4.length c8), (26, .int .i64 (y4.length : Int)), (27, .int .i64 x27), (48, .bool ((y44.toNat : Int) != (y50.toNat : Int)))] (ar (ar (ar (ar (ar trivial))))) fun j => ?_
          refine wpn_clast ?_
          rcases ite_some hF with ⟨hb55, hF⟩ | ⟨hb55, hF⟩
          · refine wpn_cT (congrArg Value.bool hb55) ?_
            refine wpn_assoc ?_
            refine wpn_qa hO [] [(4, .bool false)] (ar trivial) fun j => ?_
            refine wpn_rt ?_
            refine inb_r1 ?_
            refine thn_r1 ?_
            refine thn_r1 ?_
            refine inb_r1 ?_
            refine thn_r1 ?_
            injection hF with hF
            subst hF
            exact hQ _ _ _ _ _ rfl hO hL ⟨rfl, rfl⟩
          · refine wpn_cF (congrArg Value.bool hb55) ?_
            refine wpn_sk ?_
            refine wpn_end ?_
            refine inb_i ?_
            refine thn_i ?_
            refine wpn_rlast ?_
            refine wpn_qa hO [] [(1, .slice A1 p1.length c1), (25, .slice A7 y4.length c8), (26, .int .i64 (y4.length : Int)), (27, .int .i64 (IntKind.i64.wrap (x27 + 1)))] (ar (ar (ar (ar trivial)))) fun j => ?_
            refine wpn_end ?_
            refine thn_i ?_
            exact ⟨n42, Nat.lt_succ_self _, (IntKind.i64.wrap (x27 + 1)), _, ar (ar (ar (ar trivial))), hO, hL, r25, r26, hF⟩
        · refine wpn_cF (congrArg Value.bool hb49) ?_
          refine wpn_sk ?_
          refine wpn_qa hO [] [(1, .slice A1 p1.length c1), (25, .slice A7 y4.length c8), (26, .int .i64 (y4.length : Int)), (27, .int .i64 x27), (48, .bool ((y44.toNat : Int) != (IntKind.u8.wrap (IntKind.i64.wrap ((IntKind.i64.wrap (8 + (p1.length : Int))) - x27)))))] (ar (ar (ar (ar (ar trivial))))) fun j => ?_
          refine wpn_clast ?_
          rcases ite_some hF with ⟨hb56, hF⟩ | ⟨hb56, hF⟩
          · refine wpn_cT (congrArg Value.bool hb56) ?_
            refine wpn_assoc ?_
            refine wpn_qa hO [] [(4, .bool false)] (ar trivial) fun j => ?_
            refine wpn_rt ?_
            refine inb_r1 ?_
            refine thn_r1 ?_
            refine thn_r1 ?_
            refine inb_r1 ?_
            refine thn_r1 ?_
            injection hF with hF
            subst hF
            exact hQ _ _ _ _ _ rfl hO hL ⟨rfl, rfl⟩
          · refine wpn_cF (congrArg Value.bool hb56) ?_
            refine wpn_sk ?_
            refine wpn_end ?_
            refine inb_i ?_
            refine thn_i ?_
            refine wpn_rlast ?_
            refine wpn_qa hO [] [(1, .slice A1 p1.length c1), (25, .slice A7 y4.length c8), (26, .int .i64 (y4.length : Int)), (27, .int .i64 (IntKind.i64.wrap (x27 + 1)))] (ar (ar (ar (ar trivial)))) fun j => ?_
            refine wpn_end ?_
            refine thn_i ?_
            exact ⟨n42, Nat.lt_succ_self _, (IntKind.i64.wrap (x27 + 1)), _, ar (ar (ar (ar trivial))), hO, hL, r25, r26, hF⟩
      · refine wpn_cF (congrArg Value.bool hb43) ?_
        refine wpn_ex ?_
        refine thn_x ?_
        refine inb_x ?_
        refine thn_i ?_
        refine wpn_qa hO [] [(4, .bool true)] (ar trivial) fun j => ?_
        refine wpn_r1 ?_
        injection hF with hF
        subst hF
        exact hQ _ _ _ _ _ rfl hO hL ⟨rfl, rfl⟩
theorem zdJ {τ : Hp} {v0 : Value} {p0 : (List UInt8)} {p1 : Int} {p2 : Int} (r0 : RdT Ty.u8 τ v0 p0) {rr : Int} (hF : zI p0 p1 p2 = some rr) :
    Ctr Try.prog 42 #[v0, .int .i64 p1, .int .i64 p2] τ [] (fun v τ' vs' => v = .int .i64 rr ∧ vs' = []) := by
  obtain ⟨A0, c0, rfl, -⟩ := r0.form
  refine ctr_of (args := [.slice A0 p0.length c0, .int .i64 p1, .int .i64 p2]) hm Try.func42 s42 rfl fun w0 σ hO Q hQ => ?_
  unfold zI at hF
  have hL := Hp.le.refl τ
  show wpn _ _ a42.body _ _ _
  unfold a42
  dsimp only
  refine wpn_qa hO [] [(0, .slice A0 p0.length c0), (1, .int .i64 p1), (2, .int .i64 p2)] (ar (ar (ar trivial))) fun j => ?_
  refine wpn_assoc ?_
  refine wpn_qa hO [] [(0, .slice A0 p0.length c0), (1, .int .i64 p1), (2, .int .i64 p2), (14, .bool ((decide (p1 < 0)) || (decide (p1 > (p0.length : Int)))))] (And.intro (And.intro rfl rfl) (fun _ => ar (ar (ar (ar trivial))))) fun j => ?_
  rcases ite_some hF with ⟨hb4, hF⟩ | ⟨hb4, hF⟩
  · refine wpn_cT (congrArg Value.bool hb4) ?_
    refine wpn_assoc ?_
    refine wpn_qa hO [] [(6, .int .i64 1)] (ar trivial) fun j => ?_
    refine wpn_rt ?_
    injection hF with hF
    subst hF
    exact hQ _ _ _ _ _ rfl hO hL ⟨rfl, rfl⟩
  · refine wpn_cF (congrArg Value.bool hb4) ?_
    refine wpn_sk ?_
    refine wpn_assoc ?_
    refine wpn_qa hO [] [(20, .bool (decide ((IntKind.i64.wrap ((p0.length : Int) - p1)) < p2)))] (ar trivial) fun j => ?_
    rcases ite_some hF with ⟨hb5, hF⟩ | ⟨hb5, hF⟩
    · refine wpn_cT (congrArg Value.bool hb5) ?_
      refine wpn_assoc ?_
      refine wpn_qa hO [] [(6, .int .i64 5)] (ar trivial) fun j => ?_
      refine wpn_rt ?_
      injection hF with hF
      subst hF
      exact hQ _ _ _ _ _ rfl hO hL ⟨rfl, rfl⟩
    · refine wpn_cF (congrArg Value.bool hb5) ?_
      refine wpn_sk ?_
      refine wpn_qa hO [] [(6, .int .i64 0)] (ar trivial) fun j => ?_
      refine wpn_r1 ?_
      injection hF with hF
      subst hF
      exact hQ _ _ _ _ _ rfl hO hL ⟨rfl, rfl⟩
theorem zen {τ : Hp} {v0 : Value} {p0 : (List UInt8)} {p1 : Int} (r0 : RdT Ty.u8 τ v0 p0) {rr : Int × Int × Int} (hF : zC p0 p1 = some rr) :
    Ctr Try.prog 34 #[v0, .int .i64 p1] τ [] (fun v τ' vs' => v = .tuple #[.int .u8 rr.1, .int .i64 rr.2.1, .int .i64 rr.2.2] ∧ vs' = []) := by
  obtain ⟨A0, c0, rfl, -⟩ := r0.form
  refine ctr_of (args := [.slice A0 p0.length c0, .int .i64 p1]) hm Try.func34 s34 rfl fun w0 σ hO Q hQ => ?_
  unfold zC at hF
  have hL := Hp.le.refl τ
  show wpn _ _ a34.body _ _ _
  unfold a34
  dsimp only
  refine wpn_qa hO [] [(0, .slice A0 p0.length c0), (1, .int .i64 p1)] (ar (ar trivial)) fun j => ?_
  refine wpn_q hO 2 [] [(0, .slice A0 p0.length c0), (1, .int .i64 p1), (8, .slice A0 p0.length c0), (9, .int .i64 p1)] (ar (ar (ar (ar trivial)))) fun j => ?_
  obtain ⟨c3, h4, hF⟩ := bind_some hF
  refine wpn_c0 hO (zdJ r0 h4) rfl fun _ σ _ _ hO h5 h6 => ?_
  have hL := hL.trans h5
  have r0 := r0.le h5
  obtain ⟨rfl, rfl⟩ := h6
  have hO : Obs _ _ [] := hO
  refine wpn_qa hO [] [(0, .slice A0 p0.length c0), (1, .int .i64 p1), (7, .int .i64 c3)] (ar (ar (ar trivial))) fun j => ?_
  refine wpn_assoc ?_
  refine wpn_qa hO [] [(0, .slice A0 p0.length c0), (1, .int .i64 p1), (7, .int .i64 c3), (12, .bool (c3 != 0))] (ar (ar (ar (ar trivial)))) fun j => ?_
  rcases ite_some hF with ⟨hb7, hF⟩ | ⟨hb7, hF⟩
  · refine wpn_cT (congrArg Value.bool hb7) ?_
    refine wpn_assoc ?_
    refine wpn_qa hO [] [(4, .int .u8 0), (5, .int .i64 0), (6, .int .i64 c3)] (ar (ar (ar trivial))) fun j => ?_
    refine wpn_rt ?_
    injection hF with hF
    subst hF
    exact hQ _ _ _ _ _ rfl hO hL ⟨rfl, rfl⟩
  · refine wpn_cF (congrArg Value.bool hb7) ?_
    refine wpn_sk ?_
    refine wpn_q hO 2 [] [(1, .int .i64 p1), (14, .slice A0 p0.length c0), (15, .int .i64 p1)] (ar (ar (ar trivial))) fun j => ?_
    obtain ⟨y8, g9, hF⟩ := bind_some hF
    refine wpn_idx (T := Ty.u8) r0 hO.base rfl rfl g9 (by decide) fun a10 _ k11 m12 => ?_
    obtain rfl : _ = ([.int .u8 y8.toNat] : List Value) := k11
    refine wpn_ld rfl (m12.le hO.base).fst ?_
    refine wpn_qa hO [] [(4, .int .u8 (y8.toNat : Int)), (5, .int .i64 (IntKind.i64.wrap (p1 + 1))), (6, .int .i64 0)] (ar (ar (ar trivial))) fun j => ?_
    refine wpn_r1 ?_
    injection hF with hF
    subst hF
    exact hQ _ _ _ _ _ rfl hO hL ⟨rfl, rfl⟩
theorem zdr {τ : Hp} {v0 : Value} {p0 : (List UInt8)} {p1 : Int} (r0 : RdT Ty.u8 τ v0 p0) {rr : Int} (hF : zbQ p0 p1 = some rr) :
    Ctr Try.prog 43 #[v0, .int .i64 p1] τ [] (fun v τ' vs' => v = .int .i64 rr ∧ vs' = []) := by
  obtain ⟨A0, c0, rfl, -⟩ := r0.form
  refine ctr_of (args := [.slice A0 p0.length c0, .int .i64 p1]) hm Try.func43 s43 rfl fun w0 σ hO Q hQ => ?_
  unfold zbQ at hF
  have hL := Hp.le.refl τ
  show wpn _ _ a43.body _ _ _
  unfold a43
  dsimp only
  refine wpn_qa hO [] [(0, .slice A0 p0.length c0), (1, .int .i64 p1)] (ar (ar trivial)) fun j => ?_
  refine wpn_assoc ?_
  refine wpn_qa hO [] [(0, .slice A0 p0.length c0), (1, .int .i64 p1), (5, .int .i64 0)] (ar (ar (ar trivial))) fun j => ?_
  refine wpn_bl ?_
  refine wpn_lp (fun (n : Nat) e' σ' => ∃ (x12 : Int) (τ' : Hp), agr [(0, .slice A0 p0.length c0), (1, .int .i64 p1), (5, .int .i64 x12)] e' ∧ Obs τ' σ' [] ∧ Hp.le τ τ' ∧ RdT Ty.u8 τ' (.slice A0 p0.length c0) p0 ∧ zbq p0 p1 n x12 = some rr) big ⟨0, _, ar (ar (ar trivial)), hO, hL, r0, hF⟩ ?_
  clear hF hO hL
  rintro n20 e σ ⟨x12, _, hA, hO, hL, r11, hF⟩
  rw [← sets_agr _ _ hA]
  cases n20 with
  | zero => exact nomatch (show none = some rr from hF)
  | succ n20 =>
    replace hF : zbL (zbq p0 p1 n20) p0 p1 x12 = some rr := hF
    unfold zbL at hF
    refine wpn_assoc ?_
    refine wpn_qa hO [] [(0, .slice A0 p0.length c0), (1, .int .i64 p1), (5, .int .i64 x12), (15, .bool ((decide (x12 < 10)) && (decide ((IntKind.i64.wrap (p1 + x12)) < (p0.length : Int)))))] (And.intro (And.intro rfl rfl) (fun _ => ar (ar (ar (ar trivial))))) fun j => ?_
    rcases ite_some hF with ⟨hb21, hF⟩ | ⟨hb21, hF⟩
    · refine wpn_cT (congrArg Value.bool hb21) ?_
      refine wpn_sk ?_
      refine wpn_bl ?_
      refine wpn_q hO 4 [] [(0, .slice A0 p0.length c0), (1, .int .i64 p1), (5, .int .i64 x12), (18, .slice A0 p0.length c0), (21, .int .i64 (IntKind.i64.wrap (p1 + x12)))] (ar (ar (ar (ar (ar trivial))))) fun j => ?_
      obtain ⟨y22, g23, hF⟩ := bind_some hF
      refine wpn_idx (T := Ty.u8) r11 hO.base rfl rfl g23 (by decide) fun a24 _ k25 m26 => ?_
      obtain rfl : _ = ([.int .u8 y22.toNat] : List Value) := k25
      refine wpn_ld rfl (m26.le hO.base).fst ?_
      refine wpn_qa hO [] [(0, .slice A0 p0.length c0), (1, .int .i64 p1), (5, .int .i64 x12), (24, .bool (decide ((y22.toNat : Int) < 128)))] (ar (ar (ar (ar trivial)))) fun j => ?_
      refine wpn_clast ?_
      rcases ite_some hF with ⟨hb27, hF⟩ | ⟨hb27, hF⟩
      · refine wpn_cT (congrArg Value.bool hb27) ?_
        refine wpn_assoc ?_
        refine wpn_qa hO [] [(4, .int .i64 (IntKind.i64.wrap (x12 + 1)))] (ar trivial) fun j => ?_
        refine wpn_rt ?_
        refine inb_r1 ?_
        refine thn_r1 ?_
        refine thn_r1 ?_
        refine inb_r1 ?_
        refine thn_r1 ?_
        injection hF with hF
        subst hF
        exact hQ _ _ _ _ _ rfl hO hL ⟨rfl, rfl⟩
      · refine wpn_cF (congrArg Value.bool hb27) ?_
        refine wpn_sk ?_
        refine wpn_end ?_
        refine inb_i ?_
        refine thn_i ?_
        refine wpn_rlast ?_
        refine wpn_qa hO [] [(0, .slice A0 p0.length c0), (1, .int .i64 p1), (5, .int .i64 (IntKind.i64.wrap (x12 + 1)))] (ar (ar (ar trivial))) fun j => ?_
        refine wpn_end ?_
        refine thn_i ?_
        exact ⟨n20, Nat.lt_succ_self _, (IntKind.i64.wrap (x12 + 1)), _, ar (ar (ar trivial)), hO, hL, r11, hF⟩
    · refine wpn_cF (congrArg Value.bool hb21) ?_
      refine wpn_ex ?_
      refine thn_x ?_
      refine inb_x ?_
      refine thn_i ?_
      refine wpn_qa hO [] [(4, .int .i64 0)] (ar trivial) fun j => ?_
      refine wpn_r1 ?_
      injection hF with hF
      subst hF
      exact hQ _ _ _ _ _ rfl hO hL ⟨rfl, rfl⟩
theorem zdw {τ : Hp} {v0 : Value} {p0 : (List UInt8)} {p1 : Int} {p2 : Int} (r0 : RdT Ty.u8 τ v0 p0) {rr : Int} (hF : zR p0 p1 p2 = some rr) :
    Ctr Try.prog 44 #[v0, .int .i64 p1, .int .i64 p2] τ [] (fun v τ' vs' => v = .int .u64 rr ∧ vs' = []) := by
  obtain ⟨A0, c0, rfl, -⟩ := r0.form
  refine ctr_of (args := [.slice A0 p0.length c0, .int .i64 p1, .int .i64 p2]) hm Try.func44 s44 rfl fun w0 σ hO Q hQ => ?_
  unfold zR at hF
  have hL := Hp.le.refl τ
  show wpn _ _ a44.body _ _ _
  unfold a44
  dsimp only
  refine wpn_qa hO [] [(0, .slice A0 p0.length c0), (1, .int .i64 p1), (2, .int .i64 p2)] (ar (ar (ar trivial))) fun j => ?_
  refine wpn_qa hO [] [(0, .slice A0 p0.length c0), (1, .int .i64 p1), (2, .int .i64 p2), (7, .int .u64 0)] (ar (ar (ar (ar trivial)))) fun j => ?_
  refine wpn_assoc ?_
  refine wpn_qa hO [] [(0, .slice A0 p0.length c0), (1, .int .i64 p1), (7, .int .u64 0), (8, .int .i64 (IntKind.i64.wrap (p2 - 1)))] (ar (ar (ar (ar trivial)))) fun j => ?_
  refine wpn_bl ?_
  refine wpn_lp (fun (n : Nat) e' σ' => ∃ (x12 : Int) (x13 : Int) (τ' : Hp), agr [(0, .slice A0 p0.length c0), (1, .int .i64 p1), (7, .int .u64 x12), (8, .int .i64 x13)] e' ∧ Obs τ' σ' [] ∧ Hp.le τ τ' ∧ RdT Ty.u8 τ' (.slice A0 p0.length c0) p0 ∧ zbF p0 p1 n x12 x13 = some rr) big ⟨0, (IntKind.i64.wrap (p2 - 1)), _, ar (ar (ar (ar trivial))), hO, hL, r0, hF⟩ ?_
  clear hF hO hL
  rintro n20 e σ ⟨x12, x13, _, hA, hO, hL, r11, hF⟩
  rw [← sets_agr _ _ hA]
  cases n20 with
  | zero => exact nomatch (show none = some rr from hF)
  | succ n20 =>
    replace hF : zb2 (zbF p0 p1 n20) p0 p1 x12 x13 = some rr := hF
    unfold zb2 at hF
    refine wpn_assoc ?_
    refine wpn_qa hO [] [(0, .slice A0 p0.length c0), (1, .int .i64 p1), (7, .int .u64 x12), (8, .int .i64 x13), (12, .bool (decide (x13 ≥ 0)))] (ar (ar (ar (ar (ar trivial))))) fun j => ?_
    rcases ite_some hF with ⟨hb21, hF⟩ | ⟨hb21, hF⟩
    · refine wpn_cT (congrArg Value.bool hb21) ?_
      refine wpn_sk ?_
      refine wpn_bl ?_
      refine wpn_rlast ?_
      refine wpn_q hO 6 [] [(0, .slice A0 p0.length c0), (1, .int .i64 p1), (8, .int .i64 x13), (16, .int .u64 (IntKind.u64.wrap (128 * x12))), (17, .slice A0 p0.length c0), (20, .int .i64 (IntKind.i64.wrap (p1 + x13)))] (ar (ar (ar (ar (ar (ar trivial)))))) fun j => ?_
      obtain ⟨y22, g23, hF⟩ := bind_some hF
      refine wpn_idx (T := Ty.u8) r11 hO.base rfl rfl g23 (by decide) fun a24 _ k25 m26 => ?_
      obtain rfl : _ = ([.int .u8 y22.toNat] : List Value) := k25
      refine wpn_ld rfl (m26.le hO.base).fst ?_
      refine wpn_qa hO [] [(0, .slice A0 p0.length c0), (1, .int .i64 p1), (7, .int .u64 (IntKind.u64.wrap ((IntKind.u64.wrap (128 * x12)) + (IntKind.u64.wrap (Int.tmod (y22.toNat : Int) 128))))), (8, .int .i64 x13)] (ar (ar (ar (ar trivial)))) fun j => ?_
      refine wpn_end ?_
      refine inb_i ?_
      refine thn_i ?_
      refine wpn_rlast ?_
      refine wpn_qa hO [] [(0, .slice A0 p0.length c0), (1, .int .i64 p1), (7, .int .u64 (IntKind.u64.wrap ((IntKind.u64.wrap (128 * x12)) + (IntKind.u64.wrap (Int.tmod (y22.toNat : Int) 128))))), (8, .int .i64 (IntKind.i64.wrap (x13 - 1)))] (ar (ar (ar (ar trivial)))) fun j => ?_
      refine wpn_end ?_
      refine thn_i ?_
      exact ⟨n20, Nat.lt_succ_self _, (IntKind.u64.wrap ((IntKind.u64.wrap (128 * x12)) + (IntKind.u64.wrap (Int.tmod (y22.toNat : Int) 128)))), (IntKind.i64.wrap (x13 - 1)), _, ar (ar (ar (ar trivial))), hO, hL, r11, hF⟩
    · refine wpn_cF (congrArg Value.bool hb21) ?_
      refine wpn_ex ?_
      refine thn_x ?_
      refine inb_x ?_
      refine thn_i ?_
      refine wpn_qa hO [] [(6, .int .u64 x12)] (ar trivial) fun j => ?_
      refine wpn_r1 ?_
      injection hF with hF
      subst hF
      exact hQ _ _ _ _ _ rfl hO hL ⟨rfl, rfl⟩
theorem zdP {τ : Hp} {v0 : Value} {p0 : (List UInt8)} {p1 : Int} {v2 : Value} {p2 : (List UInt8)} (r0 : RdT Ty.u8 τ v0 p0) (r2 : RdT Ty.u8 τ v2 p2) {rr : Bool} (hF : zV p0 p1 p2 = some rr) :
    Ctr Try.prog 45 #[v0, .int .i64 p1, v2] τ [] (fun v τ' vs' => v = .bool rr ∧ vs' = []) := by
  obtain ⟨A0, c0, rfl, -⟩ := r0.form
  obtain ⟨A2, c2, rfl, -⟩ := r2.form
  refine ctr_of (args := [.slice A0 p0.length c0, .int .i64 p1, .slice A2 p2.length c2]) hm Try.func45 s45 rfl fun w0 σ hO Q hQ => ?_
  unfold zV at hF
  have hL := Hp.le.refl τ
  show wpn _ _ a45.body _ _ _
  unfold a45
  dsimp only
  refine wpn_qa hO [] [(0, .slice A0 p0.length c0), (1, .int .i64 p1), (2, .slice A2 p2.length c2)] (ar (ar (ar trivial))) fun j => ?_
  refine wpn_assoc ?_
  refine wpn_qa hO [] [(0, .slice A0 p0.length c0), (1, .int .i64 p1), (2, .slice A2 p2.length c2), (14, .bool (decide ((p2.length : Int) > (IntKind.i64.wrap ((p0.length : Int) - p1)))))] (ar (ar (ar (ar trivial)))) fun j => ?_
  rcases ite_some hF with ⟨hb4, hF⟩ | ⟨hb4, hF⟩
  · refine wpn_cT (congrArg Value.bool hb4) ?_
    refine wpn_assoc ?_
    refine wpn_qa hO [] [(6, .bool false)] (ar trivial) fun j => ?_
    refine wpn_rt ?_
    injection hF with hF
    subst hF
    exact hQ _ _ _ _ _ rfl hO hL ⟨rfl, rfl⟩
  · refine wpn_cF (congrArg Value.bool hb4) ?_
    refine wpn_sk ?_
    refine wpn_assoc ?_
    refine wpn_qa hO [] [(0, .slice A0 p0.length c0), (1, .int .i64 p1), (2, .slice A2 p2.length c2), (7, .int .i64 0)] (ar (ar (ar (ar trivial)))) fun j => ?_
    refine wpn_bl ?_
    refine wpn_lp (fun (n : Nat) e' σ' => ∃ (x21 : Int) (τ' : Hp), agr [(0, .slice A0 p0.length c0), (1, .int .i64 p1), (2, .slice A2 p2.length c2), (7, .int .i64 x21)] e' ∧ Obs τ' σ' [] ∧ Hp.le τ τ' ∧ RdT Ty.u8 τ' (.slice A0 p0.length c0) p0 ∧ RdT Ty.u8 τ' (.slice A2 p2.length c2) p2 ∧ zbm p0 p1 p2 n x21 = some rr) big ⟨0, _, ar (ar (ar (ar trivial))), hO, hL, r0, r2, hF⟩ ?_
    clear hF hO hL
    rintro n34 e σ ⟨x21, _, hA, hO, hL, r19, r20, hF⟩
    rw [← sets_agr _ _ hA]
    cases n34 with
    | zero => exact nomatch (show none = some rr from hF)
    | succ n34 =>
      replace hF : zcc (zbm p0 p1 p2 n34) p0 p1 p2 x21 = some rr := hF
      unfold zcc at hF
      refine wpn_assoc ?_
      refine wpn_qa hO [] [(0, .slice A0 p0.length c0), (1, .int .i64 p1), (2, .slice A2 p2.length c2), (7, .int .i64 x21), (18, .bool (decide (x21 < (p2.length : Int))))] (ar (ar (ar (ar (ar trivial))))) fun j => ?_
      rcases ite_some hF with ⟨hb35, hF⟩ | ⟨hb35, hF⟩
      · refine wpn_cT (congrArg Value.bool hb35) ?_
        refine wpn_sk ?_
        refine wpn_bl ?_
        refine wpn_p2r ?_
        refine wpn_q hO 4 [] [(0, .slice A0 p0.length c0), (1, .int .i64 p1), (2, .slice A2 p2.length c2), (7, .int .i64 x21), (21, .slice A0 p0.length c0), (24, .int .i64 (IntKind.i64.wrap (p1 + x21)))] (ar (ar (ar (ar (ar (ar trivial)))))) fun j => ?_
        obtain ⟨y36, g37, hF⟩ := bind_some hF
        refine wpn_idx (T := Ty.u8) r19 hO.base rfl rfl g37 (by decide) fun a38 _ k39 m40 => ?_
        obtain rfl : _ = ([.int .u8 y36.toNat] : List Value) := k39
        refine wpn_ld rfl (m40.le hO.base).fst ?_
        refine wpn_q hO 2 [] [(0, .slice A0 p0.length c0), (1, .int .i64 p1), (2, .slice A2 p2.length c2), (7, .int .i64 x21), (26, .int .u8 (y36.toNat : Int)), (27, .slice A2 p2.length c2), (28, .int .i64 x21)] (ar (ar (ar (ar (ar (ar (ar trivial))))))) fun j => ?_
        obtain ⟨y41, g42, hF⟩ := bind_some hF
        refine wpn_idx (T := Ty.u8) r20 hO.base rfl rfl g42 (by decide) fun a43 _ k44 m45 => ?_
        obtain rfl : _ = ([.int .u8 y41.toNat] : List Value) := k44
        refine wpn_ld rfl (m45.le hO.base).fst ?_
        refine wpn_qa hO [] [(0, .slice A0 p0.length c0), (1, .int .i64 p1), (2, .slice A2 p2.length c2), (7, .int .i64 x21), (31, .bool ((y36.toNat : Int) != (y41.toNat : Int)))] (ar (ar (ar (ar (ar trivial))))) fun j => ?_
        refine wpn_clast ?_
        rcases ite_some hF with ⟨hb46, hF⟩ | ⟨hb46, hF⟩
        · refine wpn_cT (congrArg Value.bool hb46) ?_
          refine wpn_assoc ?_
          refine wpn_qa hO [] [(6, .bool false)] (ar trivial) fun j => ?_
          refine wpn_rt ?_
          refine inb_r1 ?_
          refine thn_r1 ?_
          refine thn_r1 ?_
          refine inb_r1 ?_
          refine thn_r1 ?_
          injection hF with hF
          subst hF
          exact hQ _ _ _ _ _ rfl hO hL ⟨rfl, rfl⟩
        · refine wpn_cF (congrArg Value.bool hb46) ?_
          refine wpn_sk ?_
          refine wpn_end ?_
          refine inb_i ?_
          refine thn_i ?_
          refine wpn_rlast ?_
          refine wpn_qa hO [] [(0, .slice A0 p0.length c0), (1, .int .i64 p1), (2, .slice A2 p2.length c2), (7, .int .i64 (IntKind.i64.wrap (x21 + 1)))] (ar (ar (ar (ar trivial)))) fun j => ?_
          refine wpn_end ?_
          refine thn_i ?_
          exact ⟨n34, Nat.lt_succ_self _, (IntKind.i64.wrap (x21 + 1)), _, ar (ar (ar (ar trivial))), hO, hL, r19, r20, hF⟩
      · refine wpn_cF (congrArg Value.bool hb35) ?_
        refine wpn_ex ?_
        refine thn_x ?_
        refine inb_x ?_
        refine thn_i ?_
        refine wpn_qa hO [] [(6, .bool true)] (ar trivial) fun j => ?_
        refine wpn_r1 ?_
        injection hF with hF
        subst hF
        exact hQ _ _ _ _ _ rfl hO hL ⟨rfl, rfl⟩
theorem zeK {τ : Hp} {v0 : Value} {p0 : (List UInt8)} {p1 : Int} (r0 : RdT Ty.u8 τ v0 p0) {rr : Int × Int × Int} (hF : zO p0 p1 = some rr) :
    Ctr Try.prog 35 #[v0, .int .i64 p1] τ [] (fun v τ' vs' => v = .tuple #[.int .i64 rr.1, .int .i64 rr.2.1, .int .i64 rr.2.2] ∧ vs' = []) := by
  obtain ⟨A0, c0, rfl, -⟩ := r0.form
  refine ctr_of (args := [.slice A0 p0.length c0, .int .i64 p1]) hm Try.func35 s35 rfl fun w0 σ hO Q hQ => ?_
  unfold zO at hF
  have hL := Hp.le.refl τ
  show wpn _ _ a35.body _ _ _
  unfold a35
  dsimp only
  refine wpn_qa hO [] [(0, .slice A0 p0.length c0), (1, .int .i64 p1)] (ar (ar trivial)) fun j => ?_
  refine wpn_assoc ?_
  refine wpn_qa hO [] [(0, .slice A0 p0.length c0), (1, .int .i64 p1), (16, .bool ((decide (p1 < 0)) || (decide (p1 > (p0.length : Int)))))] (And.intro (And.intro rfl rfl) (fun _ => ar (ar (ar trivial)))) fun j => ?_
  rcases ite_some hF with ⟨hb3, hF⟩ | ⟨hb3, hF⟩
  · refine wpn_cT (congrArg Value.bool hb3) ?_
    refine wpn_assoc ?_
    refine wpn_qa hO [] [(4, .int .i64 0), (5, .int .i64 0), (6, .int .i64 1)] (ar (ar (ar trivial))) fun j => ?_
    refine wpn_rt ?_
    injection hF with hF
    subst hF
    exact hQ _ _ _ _ _ rfl hO hL ⟨rfl, rfl⟩
  · refine wpn_cF (congrArg Value.bool hb3) ?_
    refine wpn_sk ?_
    refine wpn_q hO 2 [] [(0, .slice A0 p0.length c0), (1, .int .i64 p1), (17, .slice A0 p0.length c0), (18, .int .i64 p1)] (ar (ar (ar (ar trivial)))) fun j => ?_
    obtain ⟨c4, h5, hF⟩ := bind_some hF
    refine wpn_c0 hO (zdr r0 h5) rfl fun _ σ _ _ hO h6 h7 => ?_
    have hL := hL.trans h6
    have r0 := r0.le h6
    obtain ⟨rfl, rfl⟩ := h7
    have hO : Obs _ _ [] := hO
    refine wpn_qa hO [] [(0, .slice A0 p0.length c0), (1, .int .i64 p1), (7, .int .i64 c4)] (ar (ar (ar trivial))) fun j => ?_
    refine wpn_assoc ?_
    refine wpn_qa hO [] [(0, .slice A0 p0.length c0), (1, .int .i64 p1), (7, .int .i64 c4), (21, .bool (c4 == 0))] (ar (ar (ar (ar trivial)))) fun j => ?_
    rcases ite_some hF with ⟨hb8, hF⟩ | ⟨hb8, hF⟩
    · refine wpn_cT (congrArg Value.bool hb8) ?_
      refine wpn_assoc ?_
      refine wpn_qa hO [] [(4, .int .i64 0), (5, .int .i64 0), (6, .int .i64 5)] (ar (ar (ar trivial))) fun j => ?_
      refine wpn_rt ?_
      injection hF with hF
      subst hF
      exact hQ _ _ _ _ _ rfl hO hL ⟨rfl, rfl⟩
    · refine wpn_cF (congrArg Value.bool hb8) ?_
      refine wpn_sk ?_
      refine wpn_q hO 3 [] [(0, .slice A0 p0.length c0), (1, .int .i64 p1), (7, .int .i64 c4), (22, .slice A0 p0.length c0), (23, .int .i64 p1), (24, .int .i64 c4)] (ar (ar (ar (ar (ar (ar trivial)))))) fun j => ?_
      obtain ⟨c9, h10, hF⟩ := bind_some hF
      refine wpn_c0 hO (zdw r0 h10) rfl fun _ σ _ _ hO h11 h12 => ?_
      have hL := hL.trans h11
      have r0 := r0.le h11
      obtain ⟨rfl, rfl⟩ := h12
      have hO : Obs _ _ [] := hO
      refine wpn_qa hO [] [(0, .slice A0 p0.length c0), (1, .int .i64 p1), (7, .int .i64 c4), (8, .int .u64 c9)] (ar (ar (ar (ar trivial)))) fun j => ?_
      refine wpn_assoc ?_
      refine wpn_q hO 5 [] [(0, .slice A0 p0.length c0), (1, .int .i64 p1), (7, .int .i64 c4), (8, .int .u64 c9), (26, .slice A0 p0.length c0), (30, .int .i64 (IntKind.i64.wrap ((IntKind.i64.wrap (p1 + c4)) - 1)))] (ar (ar (ar (ar (ar (ar trivial)))))) fun j => ?_
      obtain ⟨y13, g14, hF⟩ := bind_some hF
      refine wpn_idx (T := Ty.u8) r0 hO.base rfl rfl g14 (by decide) fun a15 _ k16 m17 => ?_
      obtain rfl : _ = ([.int .u8 y13.toNat] : List Value) := k16
      refine wpn_ld rfl (m17.le hO.base).fst ?_
      refine wpn_qa hO [] [(0, .slice A0 p0.length c0), (1, .int .i64 p1), (7, .int .i64 c4), (8, .int .u64 c9), (37, .bool ((decide ((y13.toNat : Int) ≥ 64)) && (decide (c4 < 10))))] (And.intro (And.intro rfl rfl) (fun _ => ar (ar (ar (ar (ar trivial)))))) fun j => ?_
      refine wpn_cut (fun e' σ' => ∃ (x22 : Int) (τ' : Hp), agr [(0, .slice A0 p0.length c0), (1, .int .i64 p1), (7, .int .i64 c4), (8, .int .u64 x22)] e' ∧ Obs τ' σ' [] ∧ Hp.le τ τ' ∧ RdT Ty.u8 τ' (.slice A0 p0.length c0) p0 ∧ z8 p0 p1 c4 x22 = some rr) ?_ ?_
      · refine wpn_clast ?_
        rcases ite_some hF with ⟨hb39, hF⟩ | ⟨hb39, hF⟩
        · refine wpn_cT (congrArg Value.bool hb39) ?_
          refine wpn_q hO 4 [] [(0, .slice A0 p0.length c0), (1, .int .i64 p1), (7, .int .i64 c4), (38, .int .u64 c9), (41, .int .u64 (IntKind.u64.wrap (IntKind.i64.wrap (7 * c4))))] (ar (ar (ar (ar (ar trivial))))) fun j => ?_
          obtain ⟨y40, g41, hF⟩ := bind_some hF
          refine wpn_bn (shlO_bin g41) ?_
          refine wpn_qa hO [] [(0, .slice A0 p0.length c0), (1, .int .i64 p1), (7, .int .i64 c4), (8, .int .u64 (IntKind.u64.wrap (c9 - y40)))] (ar (ar (ar (ar trivial)))) fun j => ?_
          refine wpn_end ?_
          refine thn_i ?_
          exact ⟨(IntKind.u64.wrap (c9 - y40)), _, ar (ar (ar (ar trivial))), hO, hL, r0, hF⟩
        · refine wpn_cF (congrArg Value.bool hb39) ?_
          refine wpn_sk ?_
          refine wpn_end ?_
          refine thn_i ?_
          exact ⟨c9, _, ar (ar (ar (ar trivial))), hO, hL, r0, hF⟩
      · rintro e σ ⟨x22, _, hA, hO, hL, r21, hF⟩
        rw [← sets_agr _ _ hA]
        unfold z8 at hF
        refine wpn_assoc ?_
        refine wpn_q hO 4 [] [(1, .int .i64 p1), (7, .int .i64 c4), (8, .int .u64 x22), (44, .slice A0 p0.length c0), (45, .int .i64 p1), (47, .int .i64 (IntKind.i64.wrap x22))] (ar (ar (ar (ar (ar (ar trivial)))))) fun j => ?_
        obtain ⟨c23, h24, hF⟩ := bind_some hF
        refine wpn_c0 hO (zdC (RdT.nil Ty.u8 _) h24) rfl fun _ σ _ _ hO h25 h26 => ?_
        have hL := hL.trans h25
        have r21 := r21.le h25
        obtain ⟨v27, o30, rfl, rfl, w31⟩ := h26
        obtain ⟨A28, c29, rfl, -⟩ := w31.form
        have hO : Obs _ _ [_] := hO
        obtain ⟨_, h33, r32, hO⟩ := w31.share hO (i := 0) rfl
        have hL := hL.trans h33
        have r21 := r21.le h33
        have hO : Obs _ _ [_] := hO
        obtain ⟨c34, h35, hF⟩ := bind_some hF
        refine wpn_c0 hO (zdP r21 r32 h35) rfl fun _ σ _ _ hO h36 h37 => ?_
        have hL := hL.trans h36
        have r21 := r21.le h36
        have r32 := r32.le h36
        obtain ⟨rfl, rfl⟩ := h37
        have hO : Obs _ _ [_] := hO
        refine wpn_qa hO [] [(1, .int .i64 p1), (7, .int .i64 c4), (8, .int .u64 x22), (50, .bool (!c34))] (ar (ar (ar (ar trivial)))) fun j => ?_
        rcases ite_some hF with ⟨hb38, hF⟩ | ⟨hb38, hF⟩
        · refine wpn_cT (congrArg Value.bool hb38) ?_
          refine wpn_assoc ?_
          refine wpn_qa hO [] [(4, .int .i64 0), (5, .int .i64 0), (6, .int .i64 5)] (ar (ar (ar trivial))) fun j => ?_
          refine wpn_rt ?_
          injection hF with hF
          subst hF
          have hO := hO.sel [] (by decide)
          exact hQ _ _ _ _ _ rfl hO hL ⟨rfl, rfl⟩
        · refine wpn_cF (congrArg Value.bool hb38) ?_
          refine wpn_sk ?_
          refine wpn_qa hO [] [(4, .int .i64 (IntKind.i64.wrap x22)), (5, .int .i64 (IntKind.i64.wrap (p1 + c4))), (6, .int .i64 0)] (ar (ar (ar trivial))) fun j => ?_
          refine wpn_r1 ?_
          injection hF with hF
          subst hF
          have hO := hO.sel [] (by decide)
          exact hQ _ _ _ _ _ rfl hO hL ⟨rfl, rfl⟩
theorem zdR {τ : Hp} {v0 : Value} {p0 : (List UInt8)} {p1 : Int} (r0 : RdT Ty.u8 τ v0 p0) {rr : Int × Int × Int} (hF : zT p0 p1 = some rr) :
    Ctr Try.prog 36 #[v0, .int .i64 p1] τ [] (fun v τ' vs' => v = .tuple #[.int .u64 rr.1, .int .i64 rr.2.1, .int .i64 rr.2.2] ∧ vs' = []) := by
  obtain ⟨A0, c0, rfl, -⟩ := r0.form
  refine ctr_of (args := [.slice A0 p0.length c0, .int .i64 p1]) hm Try.func36 s36 rfl fun w0 σ hO Q hQ => ?_
  unfold zT at hF
  have hL := Hp.le.refl τ
  show wpn _ _ a36.body _ _ _
  unfold a36
  dsimp only
  refine wpn_qa hO [] [(0, .slice A0 p0.length c0), (1, .int .i64 p1)] (ar (ar trivial)) fun j => ?_
  refine wpn_assoc ?_
  refine wpn_qa hO [] [(0, .slice A0 p0.length c0), (1, .int .i64 p1), (16, .bool ((decide (p1 < 0)) || (decide (p1 > (p0.length : Int)))))] (And.intro (And.intro rfl rfl) (fun _ => ar (ar (ar trivial)))) fun j => ?_
  rcases ite_some hF with ⟨hb3, hF⟩ | ⟨hb3, hF⟩
  · refine wpn_cT (congrArg Value.bool hb3) ?_
    refine wpn_assoc ?_
    refine wpn_qa hO [] [(4, .int .u64 0), (5, .int .i64 0), (6, .int .i64 1)] (ar (ar (ar trivial))) fun j => ?_
    refine wpn_rt ?_
    injection hF with hF
    subst hF
    exact hQ _ _ _ _ _ rfl hO hL ⟨rfl, rfl⟩
  · refine wpn_cF (congrArg Value.bool hb3) ?_
    refine wpn_sk ?_
    refine wpn_q hO 2 [] [(0, .slice A0 p0.length c0), (1, .int .i64 p1), (17, .slice A0 p0.length c0), (18, .int .i64 p1)] (ar (ar (ar (ar trivial)))) fun j => ?_
    obtain ⟨c4, h5, hF⟩ := bind_some hF
    refine wpn_c0 hO (zdr r0 h5) rfl fun _ σ _ _ hO h6 h7 => ?_
    have hL := hL.trans h6
    have r0 := r0.le h6
    obtain ⟨rfl, rfl⟩ := h7
    have hO : Obs _ _ [] := hO
    refine wpn_qa hO [] [(0, .slice A0 p0.length c0), (1, .int .i64 p1), (7, .int .i64 c4)] (ar (ar (ar trivial))) fun j => ?_
    refine wpn_q hO 3 [] [(0, .slice A0 p0.length c0), (1, .int .i64 p1), (7, .int .i64 c4), (20, .slice A0 p0.length c0), (21, .int .i64 p1), (22, .int .i64 c4)] (ar (ar (ar (ar (ar (ar trivial)))))) fun j => ?_
    obtain ⟨c8, h9, hF⟩ := bind_some hF
    refine wpn_c0 hO (zdw r0 h9) rfl fun _ σ _ _ hO h10 h11 => ?_
    have hL := hL.trans h10
    have r0 := r0.le h10
    obtain ⟨rfl, rfl⟩ := h11
    have hO : Obs _ _ [] := hO
    refine wpn_qa hO [] [(0, .slice A0 p0.length c0), (1, .int .i64 p1), (7, .int .i64 c4), (8, .int .u64 c8)] (ar (ar (ar (ar trivial)))) fun j => ?_
    refine wpn_assoc ?_
    refine wpn_q hO 3 [] [(0, .slice A0 p0.length c0), (1, .int .i64 p1), (7, .int .i64 c4), (8, .int .u64 c8), (26, .bool (c4 == 0))] (ar (ar (ar (ar (ar trivial))))) fun j => ?_
    obtain ⟨c12, h13, hF⟩ := bind_some hF
    refine wpn_mid 2 (fun e' σ' => ∃ (τ' : Hp), agr [(33, .bool c12), (1, .int .i64 p1), (7, .int .i64 c4), (8, .int .u64 c8)] e' ∧ Obs τ' σ' [] ∧ Hp.le τ τ') ?_ ?_
    · have hF := h13
      rcases ite_some hF with ⟨hb14, hF⟩ | ⟨hb14, hF⟩
      · refine wpn_gF (congrArg (fun x => isB (.bool x) false) hb14) ?_
        refine wpn_pk (congrArg Value.bool hb14) ?_
        refine wpn_nil ?_
        injection hF with hF
        subst hF
        refine wpn_end ?_
        exact ⟨rfl, _, ar (ar (ar (ar trivial))), hO, hL⟩
      · refine wpn_gT (congrArg (fun x => isB (.bool x) false) hb14) ?_
        refine wpn_q hO 3 [] [(1, .int .i64 p1), (7, .int .i64 c4), (8, .int .u64 c8), (26, .bool (c4 == 0)), (27, .slice A0 p0.length c0), (28, .int .i64 p1), (29, .int .u64 c8)] (ar (ar (ar (ar (ar (ar (ar trivial))))))) fun j => ?_
        obtain ⟨c15, h16, hF⟩ := bind_some hF
        refine wpn_c0 hO (zdj (RdT.nil Ty.u8 _) h16) rfl fun _ σ _ _ hO h17 h18 => ?_
        have hL := hL.trans h17
        have r0 := r0.le h17
        obtain ⟨v19, o22, rfl, rfl, w23⟩ := h18
        obtain ⟨A20, c21, rfl, -⟩ := w23.form
        have hO : Obs _ _ [_] := hO
        obtain ⟨_, h25, r24, hO⟩ := w23.share hO (i := 0) rfl
        have hL := hL.trans h25
        have r0 := r0.le h25
        have hO : Obs _ _ [_] := hO
        obtain ⟨c26, h27, hF⟩ := bind_some hF
        refine wpn_c0 hO (zdP r0 r24 h27) rfl fun _ σ _ _ hO h28 h29 => ?_
        have hL := hL.trans h28
        have r0 := r0.le h28
        have r24 := r24.le h28
        obtain ⟨rfl, rfl⟩ := h29
        have hO : Obs _ _ [_] := hO
        refine wpn_q hO 1 [] [(1, .int .i64 p1), (7, .int .i64 c4), (8, .int .u64 c8), (26, .bool (c4 == 0)), (32, .bool (!c26))] (ar (ar (ar (ar (ar trivial))))) fun j => ?_
        refine wpn_pk (congrArg Value.bool hb14) ?_
        refine wpn_nil ?_
        injection hF with hF
        subst hF
        refine wpn_end ?_
        have hO := hO.sel [] (by decide)
        exact ⟨rfl, _, ar (ar (ar (ar trivial))), hO, hL⟩
    · rintro e σ ⟨_, hA, hO, hL⟩
      rw [← sets_agr _ _ hA]
      refine wpn_nil ?_
      rcases ite_some hF with ⟨hb30, hF⟩ | ⟨hb30, hF⟩
      · refine wpn_cT (congrArg Value.bool hb30) ?_
        refine wpn_assoc ?_
        refine wpn_qa hO [] [(4, .int .u64 0), (5, .int .i64 0), (6, .int .i64 5)] (ar (ar (ar trivial))) fun j => ?_
        refine wpn_rt ?_
        injection hF with hF
        subst hF
        exact hQ _ _ _ _ _ rfl hO hL ⟨rfl, rfl⟩
      · refine wpn_cF (congrArg Value.bool hb30) ?_
        refine wpn_sk ?_
        refine wpn_qa hO [] [(4, .int .u64 c8), (5, .int .i64 (IntKind.i64.wrap (p1 + c4))), (6, .int .i64 0)] (ar (ar (ar trivial))) fun j => ?_
        refine wpn_r1 ?_
        injection hF with hF
        subst hF
        exact hQ _ _ _ _ _ rfl hO hL ⟨rfl, rfl⟩
theorem zeN {τ : Hp} {v0 : Value} {p0 : (List UInt8)} {p1 : Int} (r0 : RdT Ty.u8 τ v0 p0) {rr : Int × Int × Int} (hF : zL p0 p1 = some rr) :
    Ctr Try.prog 37 #[v0, .int .i64 p1] τ [] (fun v τ' vs' => v = .tuple #[.int .i64 rr.1, .int .i64 rr.2.1, .int .i64 rr.2.2] ∧ vs' = []) := by
  obtain ⟨A0, c0, rfl, -⟩ := r0.form
  refine ctr_of (args := [.slice A0 p0.length c0, .int .i64 p1]) hm Try.func37 s37 rfl fun w0 σ hO Q hQ => ?_
  unfold zL at hF
  have hL := Hp.le.refl τ
  show wpn _ _ a37.body _ _ _
  unfold a37
  dsimp only
  refine wpn_qa hO [] [(0, .slice A0 p0.length c0), (1, .int .i64 p1)] (ar (ar trivial)) fun j => ?_
  refine wpn_q hO 2 [] [(0, .slice A0 p0.length c0), (1, .int .i64 p1), (8, .slice A0 p0.length c0), (9, .int .i64 p1)] (ar (ar (ar (ar trivial)))) fun j => ?_
  obtain ⟨c3, h4, hF⟩ := bind_some hF
  refine wpn_c0 hO (zdJ r0 h4) rfl fun _ σ _ _ hO h5 h6 => ?_
  have hL := hL.trans h5
  have r0 := r0.le h5
  obtain ⟨rfl, rfl⟩ := h6
  have hO : Obs _ _ [] := hO
  refine wpn_qa hO [] [(0, .slice A0 p0.length c0), (1, .int .i64 p1), (7, .int .i64 c3)] (ar (ar (ar trivial))) fun j => ?_
  refine wpn_assoc ?_
  refine wpn_qa hO [] [(0, .slice A0 p0.length c0), (1, .int .i64 p1), (7, .int .i64 c3), (12, .bool (c3 != 0))] (ar (ar (ar (ar trivial)))) fun j => ?_
  rcases ite_some hF with ⟨hb7, hF⟩ | ⟨hb7, hF⟩
  · refine wpn_cT (congrArg Value.bool hb7) ?_
    refine wpn_assoc ?_
    refine wpn_qa hO [] [(4, .int .i64 0), (5, .int .i64 0), (6, .int .i64 c3)] (ar (ar (ar trivial))) fun j => ?_
    refine wpn_rt ?_
    injection hF with hF
    subst hF
    exact hQ _ _ _ _ _ rfl hO hL ⟨rfl, rfl⟩
  · refine wpn_cF (congrArg Value.bool hb7) ?_
    refine wpn_sk ?_
    refine wpn_p2r ?_
    refine wpn_q hO 2 [] [(0, .slice A0 p0.length c0), (1, .int .i64 p1), (14, .slice A0 p0.length c0), (15, .int .i64 p1)] (ar (ar (ar (ar trivial)))) fun j => ?_
    obtain ⟨y8, g9, hF⟩ := bind_some hF
    refine wpn_idx (T := Ty.u8) r0 hO.base rfl rfl g9 (by decide) fun a10 _ k11 m12 => ?_
    obtain rfl : _ = ([.int .u8 y8.toNat] : List Value) := k11
    refine wpn_ld rfl (m12.le hO.base).fst ?_
    refine wpn_q hO 5 [] [(0, .slice A0 p0.length c0), (1, .int .i64 p1), (19, .int .i64 (IntKind.i64.wrap (65536 * (IntKind.i64.wrap (y8.toNat : Int))))), (20, .slice A0 p0.length c0), (22, .int .i64 (IntKind.i64.wrap (p1 + 1)))] (ar (ar (ar (ar (ar trivial))))) fun j => ?_
    obtain ⟨y13, g14, hF⟩ := bind_some hF
    refine wpn_idx (T := Ty.u8) r0 hO.base rfl rfl g14 (by decide) fun a15 _ k16 m17 => ?_
    obtain rfl : _ = ([.int .u8 y13.toNat] : List Value) := k16
    refine wpn_ld rfl (m17.le hO.base).fst ?_
    refine wpn_q hO 6 [] [(1, .int .i64 p1), (27, .int .i64 (IntKind.i64.wrap ((IntKind.i64.wrap (65536 * (IntKind.i64.wrap (y8.toNat : Int)))) + (IntKind.i64.wrap (256 * (IntKind.i64.wrap (y13.toNat : Int))))))), (28, .slice A0 p0.length c0), (30, .int .i64 (IntKind.i64.wrap (p1 + 2)))] (ar (ar (ar (ar trivial)))) fun j => ?_
    obtain ⟨y18, g19, hF⟩ := bind_some hF
    refine wpn_idx (T := Ty.u8) r0 hO.base rfl rfl g19 (by decide) fun a20 _ k21 m22 => ?_
    obtain rfl : _ = ([.int .u8 y18.toNat] : List Value) := k21
    refine wpn_ld rfl (m22.le hO.base).fst ?_
    refine wpn_qa hO [] [(4, .int .i64 (IntKind.i64.wrap ((IntKind.i64.wrap ((IntKind.i64.wrap (65536 * (IntKind.i64.wrap (y8.toNat : Int)))) + (IntKind.i64.wrap (256 * (IntKind.i64.wrap (y13.toNat : Int)))))) + (IntKind.i64.wrap (y18.toNat : Int))))), (5, .int .i64 (IntKind.i64.wrap (p1 + 3))), (6, .int .i64 0)] (ar (ar (ar trivial))) fun j => ?_
    refine wpn_r1 ?_
    injection hF with hF
    subst hF
    exact hQ _ _ _ _ _ rfl hO hL ⟨rfl, rfl⟩
theorem ze2 {τ : Hp} {v0 : Value} {p0 : (List UInt8)} {p1 : Int} (r0 : RdT Ty.u8 τ v0 p0) {rr : za × Int × Int} (hF : zy p0 p1 = some rr) :
    Ctr Try.prog 20 #[v0, .int .i64 p1] τ [] (fun v τ' vs' => v = .tuple #[.agg #[.int .u8 rr.1.Kind.toNat, .int .u8 rr.1.Op.toNat, .int .i64 rr.1.R, .int .i64 rr.1.S, .int .i64 rr.1.T, .int .i64 rr.1.N, .int .i64 rr.1.M], .int .i64 rr.2.1, .int .i64 rr.2.2] ∧ vs' = []) := by
  obtain ⟨A0, c0, rfl, -⟩ := r0.form
  refine ctr_of (args := [.slice A0 p0.length c0, .int .i64 p1]) hm Try.func20 s20 rfl fun w0 σ hO Q hQ => ?_
  unfold zy at hF
  have hL := Hp.le.refl τ
  show wpn _ _ a20.body _ _ _
  unfold a20
  dsimp only
  refine wpn_al hO fun b3 σ hO => ?_
  have hO : Obs _ _ [_] := hO
  refine wpn_qa hO [] [(0, .slice A0 p0.length c0), (1, .int .i64 p1), (4, .pointer (some ⟨b3, 0, none⟩))] (ar (ar (ar trivial))) fun j => ?_
  refine wpn_al hO fun b4 σ hO => ?_
  have hO : Obs _ _ [_, _] := hO
  refine wpn_nil ?_
  refine wpn_assoc ?_
  refine wpn_qa hO [] [(0, .slice A0 p0.length c0), (1, .int .i64 p1), (4, .pointer (some ⟨b3, 0, none⟩)), (7, .pointer (some ⟨b4, 0, none⟩)), (28, .bool ((decide (p1 < 0)) || (decide (p1 > (p0.length : Int)))))] (And.intro (And.intro rfl rfl) (fun _ => ar (ar (ar (ar (ar trivial)))))) fun j => ?_
  rcases ite_some hF with ⟨hb5, hF⟩ | ⟨hb5, hF⟩
  · refine wpn_cT (congrArg Value.bool hb5) ?_
    refine wpn_assoc ?_
    refine wpn_q hO 1 [1] [(4, .pointer (some ⟨b3, 0, none⟩)), (29, .agg #[(.int .u8 0), (.int .u8 0), (.int .i64 0), (.int .i64 0), (.int .i64 0), (.int .i64 0), (.int .i64 0)])] (And.intro (And.intro rfl rfl) (ar (ar trivial))) fun j => ?_
    refine wpn_st hO (i := 0) rfl (off := 0) rfl rfl rfl rfl (Nat.le_of_ble_eq_true rfl) rfl fun σ hO => ?_
    have hO : Obs _ _ [_, _] := hO
    refine wpn_qa hO [] [(4, .pointer (some ⟨b3, 0, none⟩)), (5, .int .i64 0), (6, .int .i64 1)] (ar (ar (ar trivial))) fun j => ?_
    refine wpn_rt ?_
    injection hF with hF
    subst hF
    have hV0 := hO.val (i := 0) rfl (off := 0) (agg := true) (n := 7) rfl
    have hO := hO.sel [] (by decide)
    exact hQ _ _ _ _ _ (resvs_c rfl (hV0) (resvs_t (resvs_t rfl))) hO hL ⟨rfl, rfl⟩
  · refine wpn_cF (congrArg Value.bool hb5) ?_
    refine wpn_sk ?_
    refine wpn_assoc ?_
    refine wpn_qa hO [] [(0, .slice A0 p0.length c0), (1, .int .i64 p1), (4, .pointer (some ⟨b3, 0, none⟩)), (7, .pointer (some ⟨b4, 0, none⟩)), (33, .bool (p1 == (p0.length : Int)))] (ar (ar (ar (ar (ar trivial))))) fun j => ?_
    rcases ite_some hF with ⟨hb6, hF⟩ | ⟨hb6, hF⟩
    · refine wpn_cT (congrArg Value.bool hb6) ?_
      refine wpn_assoc ?_
      refine wpn_q hO 1 [1] [(4, .pointer (some ⟨b3, 0, none⟩)), (34, .agg #[(.int .u8 0), (.int .u8 0), (.int .i64 0), (.int .i64 0), (.int .i64 0), (.int .i64 0), (.int .i64 0)])] (And.intro (And.intro rfl rfl) (ar (ar trivial))) fun j => ?_
      refine wpn_st hO (i := 0) rfl (off := 0) rfl rfl rfl rfl (Nat.le_of_ble_eq_true rfl) rfl fun σ hO => ?_
      have hO : Obs _ _ [_, _] := hO
      refine wpn_qa hO [] [(4, .pointer (some ⟨b3, 0, none⟩)), (5, .int .i64 0), (6, .int .i64 5)] (ar (ar (ar trivial))) fun j => ?_
      refine wpn_rt ?_
      injection hF with hF
      subst hF
      have hV0 := hO.val (i := 0) rfl (off := 0) (agg := true) (n := 7) rfl
      have hO := hO.sel [] (by decide)
      exact hQ _ _ _ _ _ (resvs_c rfl (hV0) (resvs_t (resvs_t rfl))) hO hL ⟨rfl, rfl⟩
    · refine wpn_cF (congrArg Value.bool hb6) ?_
      refine wpn_sk ?_
      refine wpn_q hO 2 [] [(0, .slice A0 p0.length c0), (1, .int .i64 p1), (4, .pointer (some ⟨b3, 0, none⟩)), (7, .pointer (some ⟨b4, 0, none⟩)), (35, .slice A0 p0.length c0), (36, .int .i64 p1)] (ar (ar (ar (ar (ar (ar trivial)))))) fun j => ?_
      obtain ⟨y7, g8, hF⟩ := bind_some hF
      refine wpn_idx (T := Ty.u8) r0 hO.base rfl rfl g8 (by decide) fun a9 _ k10 m11 => ?_
      obtain rfl : _ = ([.int .u8 y7.toNat] : List Value) := k10
      refine wpn_ld rfl (m11.le hO.base).fst ?_
      refine wpn_q hO 1 [] [(0, .slice A0 p0.length c0), (1, .int .i64 p1), (4, .pointer (some ⟨b3, 0, none⟩)), (7, .pointer (some ⟨b4, 0, none⟩)), (39, .agg #[(.int .u8 (y7.toNat : Int)), (.int .u8 0), (.int .i64 0), (.int .i64 0), (.int .i64 0), (.int .i64 0), (.int .i64 0)])] (ar (ar (ar (ar (ar trivial))))) fun j => ?_
      refine wpn_al hO fun b12 σ hO => ?_
      have hO : Obs _ _ [_, _, _] := hO
      refine wpn_st hO (i := 2) rfl (off := 0) rfl rfl rfl rfl (Nat.le_of_ble_eq_true rfl) rfl fun σ hO => ?_
      have hO : Obs _ _ [_, _, _] := hO
      refine wpn_nil ?_
      refine wpn_q hO 2 [2] [(0, .slice A0 p0.length c0), (1, .int .i64 p1), (4, .pointer (some ⟨b3, 0, none⟩)), (7, .pointer (some ⟨b4, 0, none⟩)), (8, .pointer (some ⟨b12, 0, none⟩)), (42, .int .u8 (y7.toNat : Int))] (And.intro (And.intro rfl rfl) (ar (ar (ar (ar (ar (ar trivial))))))) fun j => ?_
      obtain ⟨c13, h14, hF⟩ := bind_some hF
      refine wpn_c0 hO (zcZ h14) rfl fun _ σ _ _ hO h15 h16 => ?_
      have hL := hL.trans h15
      have r0 := r0.le h15
      obtain ⟨rfl, rfl⟩ := h16
      have hO : Obs _ _ [_, _, _] := hO
      refine wpn_qa hO [] [(0, .slice A0 p0.length c0), (1, .int .i64 p1), (4, .pointer (some ⟨b3, 0, none⟩)), (7, .pointer (some ⟨b4, 0, none⟩)), (8, .pointer (some ⟨b12, 0, none⟩)), (9, .string c13.1)] (ar (ar (ar (ar (ar (ar trivial)))))) fun j => ?_
      refine wpn_qa hO [] [(0, .slice A0 p0.length c0), (1, .int .i64 p1), (4, .pointer (some ⟨b3, 0, none⟩)), (7, .pointer (some ⟨b4, 0, none⟩)), (8, .pointer (some ⟨b12, 0, none⟩)), (9, .string c13.1), (11, .int .i64 (IntKind.i64.wrap (p1 + 1)))] (ar (ar (ar (ar (ar (ar (ar trivial))))))) fun j => ?_
      refine wpn_assoc ?_
      refine wpn_qa hO [] [(0, .slice A0 p0.length c0), (1, .int .i64 p1), (4, .pointer (some ⟨b3, 0, none⟩)), (7, .pointer (some ⟨b4, 0, none⟩)), (8, .pointer (some ⟨b12, 0, none⟩)), (9, .string c13.1), (11, .int .i64 (IntKind.i64.wrap (p1 + 1))), (12, .int .i64 0)] (ar (ar (ar (ar (ar (ar (ar (ar trivial)))))))) fun j => ?_
      refine wpn_bl ?_
      refine wpn_lp (fun (n : Nat) e' σ' => ∃ (x136 : Int) (x137 : Int) (x138 : Int) (x139 : Int) (x140 : Int) (x141 : Int) (x142 : Int) (x143 : Int) (τ' : Hp), agr [(0, .slice A0 p0.length c0), (1, .int .i64 p1), (4, .pointer (some ⟨b3, 0, none⟩)), (7, .pointer (some ⟨b4, 0, none⟩)), (8, .pointer (some ⟨b12, 0, none⟩)), (9, .string c13.1), (11, .int .i64 x142), (12, .int .i64 x143)] e' ∧ Obs τ' σ' [some (b3, ⟨[.int .u8 0, .int .u8 0, .int .i64 0, .int .i64 0, .int .i64 0, .int .i64 0, .int .i64 0], 24, 7, true⟩), some (b4, ⟨[.int .u8 0, .int .u8 0, .int .i64 0, .int .i64 0, .int .i64 0, .int .i64 0, .int .i64 0], 24, 7, true⟩), some (b12, ⟨[.int .u8 (y7.toNat : Int), .int .u8 x136, .int .i64 x137, .int .i64 x138, .int .i64 x139, .int .i64 x140, .int .i64 x141], 24, 7, true⟩)] ∧ Hp.le τ τ' ∧ RdT Ty.u8 τ' (.slice A0 p0.length c0) p0 ∧ zl p0 p1 y7 c13 n x136 x137 x138 x139 x140 x141 x142 x143 = some rr) big ⟨0, 0, 0, 0, 0, 0, (IntKind.i64.wrap (p1 + 1)), 0, _, ar (ar (ar (ar (ar (ar (ar (ar trivial))))))), hO, hL, r0, hF⟩ ?_
      clear hF hO hL
      rintro n264 e σ ⟨x136, x137, x138, x139, x140, x141, x142, x143, _, hA, hO, hL, r135, hF⟩
      rw [← sets_agr _ _ hA]
      cases n264 with
      | zero => exact nomatch (show none = some rr from hF)
      | succ n264 =>
        replace hF : zw (zl p0 p1 y7 c13 n264) p0 p1 y7 c13 x136 x137 x138 x139 x140 x141 x142 x143 = some rr := hF
        unfold zw at hF
        refine wpn_assoc ?_
        refine wpn_qa hO [] [(0, .slice A0 p0.length c0), (1, .int .i64 p1), (4, .pointer (some ⟨b3, 0, none⟩)), (7, .pointer (some ⟨b4, 0, none⟩)), (8, .pointer (some ⟨b12, 0, none⟩)), (9, .string c13.1), (11, .int .i64 x142), (12, .int .i64 x143), (51, .bool (decide (x143 < (c13.1.size : Int))))] (ar (ar (ar (ar (ar (ar (ar (ar (ar trivial))))))))) fun j => ?_
        rcases ite_some hF with ⟨hb265, hF⟩ | ⟨hb265, hF⟩
        · refine wpn_cT (congrArg Value.bool hb265) ?_
          refine wpn_sk ?_
          refine wpn_bl ?_
          refine wpn_qa hO [] [(0, .slice A0 p0.length c0), (1, .int .i64 p1), (4, .pointer (some ⟨b3, 0, none⟩)), (7, .pointer (some ⟨b4, 0, none⟩)), (8, .pointer (some ⟨b12, 0, none⟩)), (9, .string c13.1), (11, .int .i64 x142), (12, .int .i64 x143), (13, .int .i64 0)] (ar (ar (ar (ar (ar (ar (ar (ar (ar trivial))))))))) fun j => ?_
          refine wpn_qa hO [] [(0, .slice A0 p0.length c0), (1, .int .i64 p1), (4, .pointer (some ⟨b3, 0, none⟩)), (7, .pointer (some ⟨b4, 0, none⟩)), (8, .pointer (some ⟨b12, 0, none⟩)), (9, .string c13.1), (11, .int .i64 x142), (12, .int .i64 x143), (13, .int .i64 0), (14, .int .u8 0)] (ar (ar (ar (ar (ar (ar (ar (ar (ar (ar trivial)))))))))) fun j => ?_
          refine wpn_assoc ?_
          refine wpn_q hO 2 [] [(0, .slice A0 p0.length c0), (1, .int .i64 p1), (4, .pointer (some ⟨b3, 0, none⟩)), (7, .pointer (some ⟨b4, 0, none⟩)), (8, .pointer (some ⟨b12, 0, none⟩)), (9, .string c13.1), (11, .int .i64 x142), (12, .int .i64 x143), (13, .int .i64 0), (14, .int .u8 0), (54, .string c13.1), (55, .int .i64 x143)] (ar (ar (ar (ar (ar (ar (ar (ar (ar (ar (ar (ar trivial)))))))))))) fun j => ?_
          obtain ⟨y266, g267, hF⟩ := bind_some hF
          refine wpn_si rfl rfl g267 ?_
          refine wpn_q hO 2 [] [(0, .slice A0 p0.length c0), (1, .int .i64 p1), (4, .pointer (some ⟨b3, 0, none⟩)), (7, .pointer (some ⟨b4, 0, none⟩)), (8, .pointer (some ⟨b12, 0, none⟩)), (9, .string c13.1), (11, .int .i64 x142), (12, .int .i64 x143), (13, .int .i64 0), (14, .int .u8 0), (58, .bool ((y266.toNat : Int) == 111))] (ar (ar (ar (ar (ar (ar (ar (ar (ar (ar (ar trivial))))))))))) fun j => ?_
          obtain ⟨c268, h269, hF⟩ := bind_some hF
          refine wpn_midq 2 [(63, .bool c268), (0, .slice A0 p0.length c0), (1, .int .i64 p1), (4, .pointer (some ⟨b3, 0, none⟩)), (7, .pointer (some ⟨b4, 0, none⟩)), (8, .pointer (some ⟨b12, 0, none⟩)), (9, .string c13.1), (11, .int .i64 x142), (12, .int .i64 x143), (13, .int .i64 0), (14, .int .u8 0)] (fun Q hQ => ?_) fun j => ?_
          · have hF := h269
            rcases ite_some hF with ⟨hb270, hF⟩ | ⟨hb270, hF⟩
            · refine wpn_gF (congrArg (fun x => isB (.bool x) false) hb270) ?_
              refine wpn_pk (congrArg Value.bool hb270) ?_
              refine wpn_nil ?_
              injection hF with hF
              subst hF
              refine wpn_end ?_
              exact hQ _ (ar (ar (ar (ar (ar (ar (ar (ar (ar (ar (ar trivial)))))))))))
            · refine wpn_gT (congrArg (fun x => isB (.bool x) false) hb270) ?_
              refine wpn_q hO 2 [] [(0, .slice A0 p0.length c0), (1, .int .i64 p1), (4, .pointer (some ⟨b3, 0, none⟩)), (7, .pointer (some ⟨b4, 0, none⟩)), (8, .pointer (some ⟨b12, 0, none⟩)), (9, .string c13.1), (11, .int .i64 x142), (12, .int .i64 x143), (13, .int .i64 0), (14, .int .u8 0), (58, .bool ((y266.toNat : Int) == 111)), (59, .string c13.1), (60, .int .i64 x143)] (ar (ar (ar (ar (ar (ar (ar (ar (ar (ar (ar (ar (ar trivial))))))))))))) fun j => ?_
              obtain ⟨y271, g272, hF⟩ := bind_some hF
              refine wpn_si rfl rfl g272 ?_
              refine wpn_q hO 1 [] [(0, .slice A0 p0.length c0), (1, .int .i64 p1), (4, .pointer (some ⟨b3, 0, none⟩)), (7, .pointer (some ⟨b4, 0, none⟩)), (8, .pointer (some ⟨b12, 0, none⟩)), (9, .string c13.1), (11, .int .i64 x142), (12, .int .i64 x143), (13, .int .i64 0), (14, .int .u8 0), (58, .bool ((y266.toNat : Int) == 111)), (62, .bool ((y271.toNat : Int) == 114))] (ar (ar (ar (ar (ar (ar (ar (ar (ar (ar (ar (ar trivial)))))))))))) fun j => ?_
              refine wpn_pk (congrArg Value.bool hb270) ?_
              refine wpn_nil ?_
              injection hF with hF
              subst hF
              refine wpn_end ?_
              exact hQ _ (ar (ar (ar (ar (ar (ar (ar (ar (ar (ar (ar trivial)))))))))))
          · refine wpn_q hO 1 [] [(0, .slice A0 p0.length c0), (1, .int .i64 p1), (4, .pointer (some ⟨b3, 0, none⟩)), (7, .pointer (some ⟨b4, 0, none⟩)), (8, .pointer (some ⟨b12, 0, none⟩)), (9, .string c13.1), (11, .int .i64 x142), (12, .int .i64 x143), (13, .int .i64 0), (14, .int .u8 0), (64, .bool c268)] (ar (ar (ar (ar (ar (ar (ar (ar (ar (ar (ar trivial))))))))))) fun j => ?_
            obtain ⟨c273, h274, hF⟩ := bind_some hF
            refine wpn_midq 2 [(69, .bool c273), (0, .slice A0 p0.length c0), (1, .int .i64 p1), (4, .pointer (some ⟨b3, 0, none⟩)), (7, .pointer (some ⟨b4, 0, none⟩)), (8, .pointer (some ⟨b12, 0, none⟩)), (9, .string c13.1), (11, .int .i64 x142), (12, .int .i64 x143), (13, .int .i64 0), (14, .int .u8 0)] (fun Q hQ => ?_) fun j => ?_
            · have hF := h274
              rcases ite_some hF with ⟨hb275, hF⟩ | ⟨hb275, hF⟩
              · refine wpn_gF (congrArg (fun x => isB (.bool x) false) hb275) ?_
                refine wpn_pk (congrArg Value.bool hb275) ?_
                refine wpn_nil ?_
                injection hF with hF
                subst hF
                refine wpn_end ?_
                exact hQ _ (ar (ar (ar (ar (ar (ar (ar (ar (ar (ar (ar trivial)))))))))))
              · refine wpn_gT (congrArg (fun x => isB (.bool x) false) hb275) ?_
                refine wpn_q hO 2 [] [(0, .slice A0 p0.length c0), (1, .int .i64 p1), (4, .pointer (some ⟨b3, 0, none⟩)), (7, .pointer (some ⟨b4, 0, none⟩)), (8, .pointer (some ⟨b12, 0, none⟩)), (9, .string c13.1), (11, .int .i64 x142), (12, .int .i64 x143), (13, .int .i64 0), (14, .int .u8 0), (64, .bool c268), (65, .string c13.1), (66, .int .i64 x143)] (ar (ar (ar (ar (ar (ar (ar (ar (ar (ar (ar (ar (ar trivial))))))))))))) fun j => ?_
                obtain ⟨y276, g277, hF⟩ := bind_some hF
                refine wpn_si rfl rfl g277 ?_
                refine wpn_q hO 1 [] [(0, .slice A0 p0.length c0), (1, .int .i64 p1), (4, .pointer (some ⟨b3, 0, none⟩)), (7, .pointer (some ⟨b4, 0, none⟩)), (8, .pointer (some ⟨b12, 0, none⟩)), (9, .string c13.1), (11, .int .i64 x142), (12, .int .i64 x143), (13, .int .i64 0), (14, .int .u8 0), (64, .bool c268), (68, .bool ((y276.toNat : Int) == 97))] (ar (ar (ar (ar (ar (ar (ar (ar (ar (ar (ar (ar trivial)))))))))))) fun j => ?_
                refine wpn_pk (congrArg Value.bool hb275) ?_
                refine wpn_nil ?_
                injection hF with hF
                subst hF
                refine wpn_end ?_
                exact hQ _ (ar (ar (ar (ar (ar (ar (ar (ar (ar (ar (ar trivial)))))))))))
            · refine wpn_q hO 1 [] [(0, .slice A0 p0.length c0), (1, .int .i64 p1), (4, .pointer (some ⟨b3, 0, none⟩)), (7, .pointer (some ⟨b4, 0, none⟩)), (8, .pointer (some ⟨b12, 0, none⟩)), (9, .string c13.1), (11, .int .i64 x142), (12, .int .i64 x143), (13, .int .i64 0), (14, .int .u8 0), (70, .bool c273)] (ar (ar (ar (ar (ar (ar (ar (ar (ar (ar (ar trivial))))))))))) fun j => ?_
              obtain ⟨c278, h279, hF⟩ := bind_some hF
              refine wpn_midq 2 [(75, .bool c278), (0, .slice A0 p0.length c0), (1, .int .i64 p1), (4, .pointer (some ⟨b3, 0, none⟩)), (7, .pointer (some ⟨b4, 0, none⟩)), (8, .pointer (some ⟨b12, 0, none⟩)), (9, .string c13.1), (11, .int .i64 x142), (12, .int .i64 x143), (13, .int .i64 0), (14, .int .u8 0)] (fun Q hQ => ?_) fun j => ?_
              · have hF := h279
                rcases ite_some hF with ⟨hb280, hF⟩ | ⟨hb280, hF⟩
                · refine wpn_gF (congrArg (fun x => isB (.bool x) false) hb280) ?_
                  refine wpn_pk (congrArg Value.bool hb280) ?_
                  refine wpn_nil ?_
                  injection hF with hF
                  subst hF
                  refine wpn_end ?_
                  exact hQ _ (ar (ar (ar (ar (ar (ar (ar (ar (ar (ar (ar trivial)))))))))))
                · refine wpn_gT (congrArg (fun x => isB (.bool x) false) hb280) ?_
                  refine wpn_q hO 2 [] [(0, .slice A0 p0.length c0), (1, .int .i64 p1), (4, .pointer (some ⟨b3, 0, none⟩)), (7, .pointer (some ⟨b4, 0, none⟩)), (8, .pointer (some ⟨b12, 0, none⟩)), (9, .string c13.1), (11, .int .i64 x142), (12, .int .i64 x143), (13, .int .i64 0), (14, .int .u8 0), (70, .bool c273), (71, .string c13.1), (72, .int .i64 x143)] (ar (ar (ar (ar (ar (ar (ar (ar (ar (ar (ar (ar (ar trivial))))))))))))) fun j => ?_
                  obtain ⟨y281, g282, hF⟩ := bind_some hF
                  refine wpn_si rfl rfl g282 ?_
                  refine wpn_q hO 1 [] [(0, .slice A0 p0.length c0), (1, .int .i64 p1), (4, .pointer (some ⟨b3, 0, none⟩)), (7, .pointer (some ⟨b4, 0, none⟩)), (8, .pointer (some ⟨b12, 0, none⟩)), (9, .string c13.1), (11, .int .i64 x142), (12, .int .i64 x143), (13, .int .i64 0), (14, .int .u8 0), (70, .bool c273), (74, .bool ((y281.toNat : Int) == 116))] (ar (ar (ar (ar (ar (ar (ar (ar (ar (ar (ar (ar trivial)))))))))))) fun j => ?_
                  refine wpn_pk (congrArg Value.bool hb280) ?_
                  refine wpn_nil ?_
                  injection hF with hF
                  subst hF
                  refine wpn_end ?_
                  exact hQ _ (ar (ar (ar (ar (ar (ar (ar (ar (ar (ar (ar trivial)))))))))))
              · refine wpn_q hO 1 [] [(0, .slice A0 p0.length c0), (1, .int .i64 p1), (4, .pointer (some ⟨b3, 0, none⟩)), (7, .pointer (some ⟨b4, 0, none⟩)), (8, .pointer (some ⟨b12, 0, none⟩)), (9, .string c13.1), (11, .int .i64 x142), (12, .int .i64 x143), (13, .int .i64 0), (14, .int .u8 0), (76, .bool c278)] (ar (ar (ar (ar (ar (ar (ar (ar (ar (ar (ar trivial))))))))))) fun j => ?_
                obtain ⟨c283, h284, hF⟩ := bind_some hF
                refine wpn_midq 2 [(81, .bool c283), (0, .slice A0 p0.length c0), (1, .int .i64 p1), (4, .pointer (some ⟨b3, 0, none⟩)), (7, .pointer (some ⟨b4, 0, none⟩)), (8, .pointer (some ⟨b12, 0, none⟩)), (9, .string c13.1), (11, .int .i64 x142), (12, .int .i64 x143), (13, .int .i64 0), (14, .int .u8 0)] (fun Q hQ => ?_) fun j => ?_
                · have hF := h284
                  rcases ite_some hF with ⟨hb285, hF⟩ | ⟨hb285, hF⟩
                  · refine wpn_gF (congrArg (fun x => isB (.bool x) false) hb285) ?_
                    refine wpn_pk (congrArg Value.bool hb285) ?_
                    refine wpn_nil ?_
                    injection hF with hF
                    subst hF
                    refine wpn_end ?_
                    exact hQ _ (ar (ar (ar (ar (ar (ar (ar (ar (ar (ar (ar trivial)))))))))))
                  · refine wpn_gT (congrArg (fun x => isB (.bool x) false) hb285) ?_
                    refine wpn_q hO 2 [] [(0, .slice A0 p0.length c0), (1, .int .i64 p1), (4, .pointer (some ⟨b3, 0, none⟩)), (7, .pointer (some ⟨b4, 0, none⟩)), (8, .pointer (some ⟨b12, 0, none⟩)), (9, .string c13.1), (11, .int .i64 x142), (12, .int .i64 x143), (13, .int .i64 0), (14, .int .u8 0), (76, .bool c278), (77, .string c13.1), (78, .int .i64 x143)] (ar (ar (ar (ar (ar (ar (ar (ar (ar (ar (ar (ar (ar trivial))))))))))))) fun j => ?_
                    obtain ⟨y286, g287, hF⟩ := bind_some hF
                    refine wpn_si rfl rfl g287 ?_
                    refine wpn_q hO 1 [] [(0, .slice A0 p0.length c0), (1, .int .i64 p1), (4, .pointer (some ⟨b3, 0, none⟩)), (7, .pointer (some ⟨b4, 0, none⟩)), (8, .pointer (some ⟨b12, 0, none⟩)), (9, .string c13.1), (11, .int .i64 x142), (12, .int .i64 x143), (13, .int .i64 0), (14, .int .u8 0), (76, .bool c278), (80, .bool ((y286.toNat : Int) == 107))] (ar (ar (ar (ar (ar (ar (ar (ar (ar (ar (ar (ar trivial)))))))))))) fun j => ?_
                    refine wpn_pk (congrArg Value.bool hb285) ?_
                    refine wpn_nil ?_
                    injection hF with hF
                    subst hF
                    refine wpn_end ?_
                    exact hQ _ (ar (ar (ar (ar (ar (ar (ar (ar (ar (ar (ar trivial)))))))))))
                · refine wpn_nil ?_
                  refine wpn_cut (fun e' σ' => ∃ (x294 : Int) (x295 : Int) (x296 : Int) (τ' : Hp), agr [(0, .slice A0 p0.length c0), (1, .int .i64 p1), (4, .pointer (some ⟨b3, 0, none⟩)), (7, .pointer (some ⟨b4, 0, none⟩)), (8, .pointer (some ⟨b12, 0, none⟩)), (9, .string c13.1), (11, .int .i64 x294), (12, .int .i64 x143), (13, .int .i64 x295), (14, .int .u8 x296)] e' ∧ Obs τ' σ' [some (b3, ⟨[.int .u8 0, .int .u8 0, .int .i64 0, .int .i64 0, .int .i64 0, .int .i64 0, .int .i64 0], 24, 7, true⟩), some (b4, ⟨[.int .u8 0, .int .u8 0, .int .i64 0, .int .i64 0, .int .i64 0, .int .i64 0, .int .i64 0], 24, 7, true⟩), some (b12, ⟨[.int .u8 (y7.toNat : Int), .int .u8 x136, .int .i64 x137, .int .i64 x138, .int .i64 x139, .int .i64 x140, .int .i64 x141], 24, 7, true⟩)] ∧ Hp.le τ τ' ∧ RdT Ty.u8 τ' (.slice A0 p0.length c0) p0 ∧ zcf (zl p0 p1 y7 c13 n264) p0 c13 x136 x137 x138 x139 x140 x141 x143 x294 x295 x296 = some rr) ?_ ?_
                  · refine wpn_clast ?_
                    rcases ite_some hF with ⟨hb349, hF⟩ | ⟨hb349, hF⟩
                    · refine wpn_cT (congrArg Value.bool hb349) ?_
                      refine wpn_q hO 2 [] [(0, .slice A0 p0.length c0), (1, .int .i64 p1), (4, .pointer (some ⟨b3, 0, none⟩)), (7, .pointer (some ⟨b4, 0, none⟩)), (8, .pointer (some ⟨b12, 0, none⟩)), (9, .string c13.1), (12, .int .i64 x143), (83, .slice A0 p0.length c0), (84, .int .i64 x142)] (ar (ar (ar (ar (ar (ar (ar (ar (ar trivial))))))))) fun j => ?_
                      obtain ⟨c350, h351, hF⟩ := bind_some hF
                      refine wpn_c0 hO (zen r135 h351) rfl fun _ σ _ _ hO h352 h353 => ?_
                      have hL := hL.trans h352
                      have r135 := r135.le h352
                      obtain ⟨rfl, rfl⟩ := h353
                      have hO : Obs _ _ [_, _, _] := hO
                      refine wpn_qa hO [] [(0, .slice A0 p0.length c0), (1, .int .i64 p1), (4, .pointer (some ⟨b3, 0, none⟩)), (7, .pointer (some ⟨b4, 0, none⟩)), (8, .pointer (some ⟨b12, 0, none⟩)), (9, .string c13.1), (11, .int .i64 c350.2.1), (12, .int .i64 x143), (13, .int .i64 c350.2.2), (14, .int .u8 c350.1)] (ar (ar (ar (ar (ar (ar (ar (ar (ar (ar trivial)))))))))) fun j => ?_
                      refine wpn_end ?_
                      refine thn_i ?_
                      exact ⟨c350.2.1, c350.2.2, c350.1, _, ar (ar (ar (ar (ar (ar (ar (ar (ar (ar trivial))))))))), hO, hL, r135, hF⟩
                    · refine wpn_cF (congrArg Value.bool hb349) ?_
                      refine wpn_sk ?_
                      refine wpn_end ?_
                      refine thn_i ?_
                      exact ⟨x142, 0, 0, _, ar (ar (ar (ar (ar (ar (ar (ar (ar (ar trivial))))))))), hO, hL, r135, hF⟩
                  · rintro e σ ⟨x294, x295, x296, _, hA, hO, hL, r293, hF⟩
                    rw [← sets_agr _ _ hA]
                    unfold zcf at hF
                    refine wpn_assoc ?_
                    refine wpn_q hO 2 [] [(0, .slice A0 p0.length c0), (1, .int .i64 p1), (4, .pointer (some ⟨b3, 0, none⟩)), (7, .pointer (some ⟨b4, 0, none⟩)), (8, .pointer (some ⟨b12, 0, none⟩)), (9, .string c13.1), (11, .int .i64 x294), (12, .int .i64 x143), (13, .int .i64 x295), (14, .int .u8 x296), (89, .string c13.1), (90, .int .i64 x143)] (ar (ar (ar (ar (ar (ar (ar (ar (ar (ar (ar (ar trivial)))))))))))) fun j => ?_
                    obtain ⟨y297, g298, hF⟩ := bind_some hF
                    refine wpn_si rfl rfl g298 ?_
                    refine wpn_nil ?_
                    refine wpn_cutb (fun e' σ' => ∃ (x320 : Int) (x321 : Int) (x322 : Int) (x323 : Int) (x324 : Int) (x325 : Int) (x326 : Int) (x327 : Int) (τ' : Hp), agr [(0, .slice A0 p0.length c0), (1, .int .i64 p1), (4, .pointer (some ⟨b3, 0, none⟩)), (7, .pointer (some ⟨b4, 0, none⟩)), (8, .pointer (some ⟨b12, 0, none⟩)), (9, .string c13.1), (11, .int .i64 x326), (12, .int .i64 x143), (13, .int .i64 x327)] e' ∧ Obs τ' σ' [some (b3, ⟨[.int .u8 0, .int .u8 0, .int .i64 0, .int .i64 0, .int .i64 0, .int .i64 0, .int .i64 0], 24, 7, true⟩), some (b4, ⟨[.int .u8 0, .int .u8 0, .int .i64 0, .int .i64 0, .int .i64 0, .int .i64 0, .int .i64 0], 24, 7, true⟩), some (b12, ⟨[.int .u8 (y7.toNat : Int), .int .u8 x320, .int .i64 x321, .int .i64 x322, .int .i64 x323, .int .i64 x324, .int .i64 x325], 24, 7, true⟩)] ∧ Hp.le τ τ' ∧ RdT Ty.u8 τ' (.slice A0 p0.length c0) p0 ∧ zo (zl p0 p1 y7 c13 n264) x143 x320 x321 x322 x323 x324 x325 x326 x327 = some rr) ?_ ?_
                    · refine wpn_qa hO [] [(0, .slice A0 p0.length c0), (1, .int .i64 p1), (4, .pointer (some ⟨b3, 0, none⟩)), (7, .pointer (some ⟨b4, 0, none⟩)), (8, .pointer (some ⟨b12, 0, none⟩)), (9, .string c13.1), (11, .int .i64 x294), (12, .int .i64 x143), (13, .int .i64 x295), (14, .int .u8 x296), (91, .int .u8 (y297.toNat : Int)), (92, .bool ((y297.toNat : Int) == 111))] (ar (ar (ar (ar (ar (ar (ar (ar (ar (ar (ar (ar trivial)))))))))))) fun j => ?_
                      refine wpn_clast ?_
                      rcases ite_some hF with ⟨hb329, hF⟩ | ⟨hb329, hF⟩
                      · refine wpn_cT (congrArg Value.bool hb329) ?_
                        refine wpn_q hO 2 [] [(0, .slice A0 p0.length c0), (1, .int .i64 p1), (4, .pointer (some ⟨b3, 0, none⟩)), (7, .pointer (some ⟨b4, 0, none⟩)), (8, .pointer (some ⟨b12, 0, none⟩)), (9, .string c13.1), (11, .int .i64 x294), (12, .int .i64 x143), (13, .int .i64 x295), (94, .int .u8 x296), (95, .pointer (some ⟨b12, 1, none⟩))] (ar (ar (ar (ar (ar (ar (ar (ar (ar (ar (ar trivial))))))))))) fun j => ?_
                        refine wpn_st hO (i := 2) rfl (off := 1) rfl rfl rfl rfl (Nat.le_of_ble_eq_true rfl) rfl fun σ hO => ?_
                        have hO : Obs _ _ [_, _, _] := hO
                        refine wpn_nil ?_
                        refine wpn_end ?_
                        refine inb_i ?_
                        refine thn_i ?_
                        exact ⟨x296, x137, x138, x139, x140, x141, x294, x295, _, ar (ar (ar (ar (ar (ar (ar (ar (ar trivial)))))))), hO, hL, r293, hF⟩
                      · refine wpn_cF (congrArg Value.bool hb329) ?_
                        refine wpn_assoc ?_
                        refine wpn_qa hO [] [(0, .slice A0 p0.length c0), (1, .int .i64 p1), (4, .pointer (some ⟨b3, 0, none⟩)), (7, .pointer (some ⟨b4, 0, none⟩)), (8, .pointer (some ⟨b12, 0, none⟩)), (9, .string c13.1), (11, .int .i64 x294), (12, .int .i64 x143), (13, .int .i64 x295), (14, .int .u8 x296), (91, .int .u8 (y297.toNat : Int)), (96, .bool ((y297.toNat : Int) == 114))] (ar (ar (ar (ar (ar (ar (ar (ar (ar (ar (ar (ar trivial)))))))))))) fun j => ?_
                        rcases ite_some hF with ⟨hb330, hF⟩ | ⟨hb330, hF⟩
                        · refine wpn_cT (congrArg Value.bool hb330) ?_
                          refine wpn_q hO 3 [] [(0, .slice A0 p0.length c0), (1, .int .i64 p1), (4, .pointer (some ⟨b3, 0, none⟩)), (7, .pointer (some ⟨b4, 0, none⟩)), (8, .pointer (some ⟨b12, 0, none⟩)), (9, .string c13.1), (11, .int .i64 x294), (12, .int .i64 x143), (13, .int .i64 x295), (99, .int .i64 (IntKind.i64.wrap x296)), (100, .pointer (some ⟨b12, 2, none⟩))] (ar (ar (ar (ar (ar (ar (ar (ar (ar (ar (ar trivial))))))))))) fun j => ?_
                          refine wpn_st hO (i := 2) rfl (off := 2) rfl rfl rfl rfl (Nat.le_of_ble_eq_true rfl) rfl fun σ hO => ?_
                          have hO : Obs _ _ [_, _, _] := hO
                          refine wpn_nil ?_
                          refine wpn_end ?_
                          refine inb_i ?_
                          refine thn_i ?_
                          exact ⟨x136, (IntKind.i64.wrap x296), x138, x139, x140, x141, x294, x295, _, ar (ar (ar (ar (ar (ar (ar (ar (ar trivial)))))))), hO, hL, r293, hF⟩
                        · refine wpn_cF (congrArg Value.bool hb330) ?_
                          refine wpn_assoc ?_
                          refine wpn_qa hO [] [(0, .slice A0 p0.length c0), (1, .int .i64 p1), (4, .pointer (some ⟨b3, 0, none⟩)), (7, .pointer (some ⟨b4, 0, none⟩)), (8, .pointer (some ⟨b12, 0, none⟩)), (9, .string c13.1), (11, .int .i64 x294), (12, .int .i64 x143), (13, .int .i64 x295), (14, .int .u8 x296), (91, .int .u8 (y297.toNat : Int)), (101, .bool ((y297.toNat : Int) == 97))] (ar (ar (ar (ar (ar (ar (ar (ar (ar (ar (ar (ar trivial)))))))))))) fun j => ?_
                          rcases ite_some hF with ⟨hb331, hF⟩ | ⟨hb331, hF⟩
                          · refine wpn_cT (congrArg Value.bool hb331) ?_
                            refine wpn_assoc ?_
                            refine wpn_q hO 4 [] [(0, .slice A0 p0.length c0), (1, .int .i64 p1), (4, .pointer (some ⟨b3, 0, none⟩)), (7, .pointer (some ⟨b4, 0, none⟩)), (8, .pointer (some ⟨b12, 0, none⟩)), (9, .string c13.1), (11, .int .i64 x294), (12, .int .i64 x143), (13, .int .i64 x295), (14, .int .u8 x296), (105, .int .i64 (IntKind.i64.wrap (IntKind.u8.wrap (Int.tdiv x296 16)))), (106, .pointer (some ⟨b12, 2, none⟩))] (ar (ar (ar (ar (ar (ar (ar (ar (ar (ar (ar (ar trivial)))))))))))) fun j => ?_
                            refine wpn_st hO (i := 2) rfl (off := 2) rfl rfl rfl rfl (Nat.le_of_ble_eq_true rfl) rfl fun σ hO => ?_
                            have hO : Obs _ _ [_, _, _] := hO
                            refine wpn_nil ?_
                            refine wpn_q hO 4 [] [(0, .slice A0 p0.length c0), (1, .int .i64 p1), (4, .pointer (some ⟨b3, 0, none⟩)), (7, .pointer (some ⟨b4, 0, none⟩)), (8, .pointer (some ⟨b12, 0, none⟩)), (9, .string c13.1), (11, .int .i64 x294), (12, .int .i64 x143), (13, .int .i64 x295), (109, .int .i64 (IntKind.i64.wrap (Int.tmod x296 16))), (110, .pointer (some ⟨b12, 3, none⟩))] (ar (ar (ar (ar (ar (ar (ar (ar (ar (ar (ar trivial))))))))))) fun j => ?_
                            refine wpn_st hO (i := 2) rfl (off := 3) rfl rfl rfl rfl (Nat.le_of_ble_eq_true rfl) rfl fun σ hO => ?_
                            have hO : Obs _ _ [_, _, _] := hO
                            refine wpn_nil ?_
                            refine wpn_end ?_
                            refine inb_i ?_
                            refine thn_i ?_
                            exact ⟨x136, (IntKind.i64.wrap (IntKind.u8.wrap (Int.tdiv x296 16))), (IntKind.i64.wrap (Int.tmod x296 16)), x139, x140, x141, x294, x295, _, ar (ar (ar (ar (ar (ar (ar (ar (ar trivial)))))))), hO, hL, r293, hF⟩
                          · refine wpn_cF (congrArg Value.bool hb331) ?_
                            refine wpn_assoc ?_
                            refine wpn_qa hO [] [(0, .slice A0 p0.length c0), (1, .int .i64 p1), (4, .pointer (some ⟨b3, 0, none⟩)), (7, .pointer (some ⟨b4, 0, none⟩)), (8, .pointer (some ⟨b12, 0, none⟩)), (9, .string c13.1), (11, .int .i64 x294), (12, .int .i64 x143), (13, .int .i64 x295), (14, .int .u8 x296), (91, .int .u8 (y297.toNat : Int)), (111, .bool ((y297.toNat : Int) == 116))] (ar (ar (ar (ar (ar (ar (ar (ar (ar (ar (ar (ar trivial)))))))))))) fun j => ?_
                            rcases ite_some hF with ⟨hb332, hF⟩ | ⟨hb332, hF⟩
                            · refine wpn_cT (congrArg Value.bool hb332) ?_
                              refine wpn_q hO 3 [] [(0, .slice A0 p0.length c0), (1, .int .i64 p1), (4, .pointer (some ⟨b3, 0, none⟩)), (7, .pointer (some ⟨b4, 0, none⟩)), (8, .pointer (some ⟨b12, 0, none⟩)), (9, .string c13.1), (11, .int .i64 x294), (12, .int .i64 x143), (13, .int .i64 x295), (114, .int .i64 (IntKind.i64.wrap x296)), (115, .pointer (some ⟨b12, 4, none⟩))] (ar (ar (ar (ar (ar (ar (ar (ar (ar (ar (ar trivial))))))))))) fun j => ?_
                              refine wpn_st hO (i := 2) rfl (off := 4) rfl rfl rfl rfl (Nat.le_of_ble_eq_true rfl) rfl fun σ hO => ?_
                              have hO : Obs _ _ [_, _, _] := hO
                              refine wpn_nil ?_
                              refine wpn_end ?_
                              refine inb_i ?_
                              refine thn_i ?_
                              exact ⟨x136, x137, x138, (IntKind.i64.wrap x296), x140, x141, x294, x295, _, ar (ar (ar (ar (ar (ar (ar (ar (ar trivial)))))))), hO, hL, r293, hF⟩
                            · refine wpn_cF (congrArg Value.bool hb332) ?_
                              refine wpn_assoc ?_
                              refine wpn_qa hO [] [(0, .slice A0 p0.length c0), (1, .int .i64 p1), (4, .pointer (some ⟨b3, 0, none⟩)), (7, .pointer (some ⟨b4, 0, none⟩)), (8, .pointer (some ⟨b12, 0, none⟩)), (9, .string c13.1), (11, .int .i64 x294), (12, .int .i64 x143), (13, .int .i64 x295), (14, .int .u8 x296), (91, .int .u8 (y297.toNat : Int)), (116, .bool ((y297.toNat : Int) == 107))] (ar (ar (ar (ar (ar (ar (ar (ar (ar (ar (ar (ar trivial)))))))))))) fun j => ?_
                              rcases ite_some hF with ⟨hb333, hF⟩ | ⟨hb333, hF⟩
                              · refine wpn_cT (congrArg Value.bool hb333) ?_
                                refine wpn_q hO 3 [] [(0, .slice A0 p0.length c0), (1, .int .i64 p1), (4, .pointer (some ⟨b3, 0, none⟩)), (7, .pointer (some ⟨b4, 0, none⟩)), (8, .pointer (some ⟨b12, 0, none⟩)), (9, .string c13.1), (11, .int .i64 x294), (12, .int .i64 x143), (13, .int .i64 x295), (119, .int .i64 (IntKind.i64.wrap x296)), (120, .pointer (some ⟨b12, 5, none⟩))] (ar (ar (ar (ar (ar (ar (ar (ar (ar (ar (ar trivial))))))))))) fun j => ?_
                                refine wpn_st hO (i := 2) rfl (off := 5) rfl rfl rfl rfl (Nat.le_of_ble_eq_true rfl) rfl fun σ hO => ?_
                                have hO : Obs _ _ [_, _, _] := hO
                                refine wpn_nil ?_
                                refine wpn_end ?_
                                refine inb_i ?_
                                refine thn_i ?_
                                exact ⟨x136, x137, x138, x139, (IntKind.i64.wrap x296), x141, x294, x295, _, ar (ar (ar (ar (ar (ar (ar (ar (ar trivial)))))))), hO, hL, r293, hF⟩
                              · refine wpn_cF (congrArg Value.bool hb333) ?_
                                refine wpn_assoc ?_
                                refine wpn_qa hO [] [(0, .slice A0 p0.length c0), (1, .int .i64 p1), (4, .pointer (some ⟨b3, 0, none⟩)), (7, .pointer (some ⟨b4, 0, none⟩)), (8, .pointer (some ⟨b12, 0, none⟩)), (9, .string c13.1), (11, .int .i64 x294), (12, .int .i64 x143), (13, .int .i64 x295), (91, .int .u8 (y297.toNat : Int)), (121, .bool ((y297.toNat : Int) == 110))] (ar (ar (ar (ar (ar (ar (ar (ar (ar (ar (ar trivial))))))))))) fun j => ?_
                                rcases ite_some hF with ⟨hb334, hF⟩ | ⟨hb334, hF⟩
                                · refine wpn_cT (congrArg Value.bool hb334) ?_
                                  refine wpn_q hO 2 [] [(0, .slice A0 p0.length c0), (1, .int .i64 p1), (4, .pointer (some ⟨b3, 0, none⟩)), (7, .pointer (some ⟨b4, 0, none⟩)), (8, .pointer (some ⟨b12, 0, none⟩)), (9, .string c13.1), (12, .int .i64 x143), (124, .slice A0 p0.length c0), (125, .int .i64 x294)] (ar (ar (ar (ar (ar (ar (ar (ar (ar trivial))))))))) fun j => ?_
                                  obtain ⟨c335, h336, hF⟩ := bind_some hF
                                  refine wpn_c0 hO (zeK r293 h336) rfl fun _ σ _ _ hO h337 h338 => ?_
                                  have hL := hL.trans h337
                                  have r293 := r293.le h337
                                  obtain ⟨rfl, rfl⟩ := h338
                                  have hO : Obs _ _ [_, _, _] := hO
                                  refine wpn_q hO 5 [] [(0, .slice A0 p0.length c0), (1, .int .i64 p1), (4, .pointer (some ⟨b3, 0, none⟩)), (7, .pointer (some ⟨b4, 0, none⟩)), (8, .pointer (some ⟨b12, 0, none⟩)), (9, .string c13.1), (12, .int .i64 x143), (127, .int .i64 c335.1), (128, .int .i64 c335.2.1), (129, .int .i64 c335.2.2), (130, .pointer (some ⟨b12, 5, none⟩))] (ar (ar (ar (ar (ar (ar (ar (ar (ar (ar (ar trivial))))))))))) fun j => ?_
                                  refine wpn_st hO (i := 2) rfl (off := 5) rfl rfl rfl rfl (Nat.le_of_ble_eq_true rfl) rfl fun σ hO => ?_
                                  have hO : Obs _ _ [_, _, _] := hO
                                  refine wpn_qa hO [] [(0, .slice A0 p0.length c0), (1, .int .i64 p1), (4, .pointer (some ⟨b3, 0, none⟩)), (7, .pointer (some ⟨b4, 0, none⟩)), (8, .pointer (some ⟨b12, 0, none⟩)), (9, .string c13.1), (11, .int .i64 c335.2.1), (12, .int .i64 x143), (13, .int .i64 c335.2.2)] (ar (ar (ar (ar (ar (ar (ar (ar (ar trivial))))))))) fun j => ?_
                                  refine wpn_end ?_
                                  refine inb_i ?_
                                  refine thn_i ?_
                                  exact ⟨x136, x137, x138, x139, c335.1, x141, c335.2.1, c335.2.2, _, ar (ar (ar (ar (ar (ar (ar (ar (ar trivial)))))))), hO, hL, r293, hF⟩
                                · refine wpn_cF (congrArg Value.bool hb334) ?_
                                  refine wpn_assoc ?_
                                  refine wpn_qa hO [] [(0, .slice A0 p0.length c0), (1, .int .i64 p1), (4, .pointer (some ⟨b3, 0, none⟩)), (7, .pointer (some ⟨b4, 0, none⟩)), (8, .pointer (some ⟨b12, 0, none⟩)), (9, .string c13.1), (11, .int .i64 x294), (12, .int .i64 x143), (13, .int .i64 x295), (91, .int .u8 (y297.toNat : Int)), (131, .bool ((y297.toNat : Int) == 109))] (ar (ar (ar (ar (ar (ar (ar (ar (ar (ar (ar trivial))))))))))) fun j => ?_
                                  rcases ite_some hF with ⟨hb339, hF⟩ | ⟨hb339, hF⟩
                                  · refine wpn_cT (congrArg Value.bool hb339) ?_
                                    refine wpn_assoc ?_
                                    refine wpn_q hO 2 [] [(0, .slice A0 p0.length c0), (1, .int .i64 p1), (4, .pointer (some ⟨b3, 0, none⟩)), (7, .pointer (some ⟨b4, 0, none⟩)), (8, .pointer (some ⟨b12, 0, none⟩)), (9, .string c13.1), (12, .int .i64 x143), (134, .slice A0 p0.length c0), (135, .int .i64 x294)] (ar (ar (ar (ar (ar (ar (ar (ar (ar trivial))))))))) fun j => ?_
                                    obtain ⟨c340, h341, hF⟩ := bind_some hF
                                    refine wpn_c0 hO (zdR r293 h341) rfl fun _ σ _ _ hO h342 h343 => ?_
                                    have hL := hL.trans h342
                                    have r293 := r293.le h342
                                    obtain ⟨rfl, rfl⟩ := h343
                                    have hO : Obs _ _ [_, _, _] := hO
                                    refine wpn_qa hO [] [(0, .slice A0 p0.length c0), (1, .int .i64 p1), (4, .pointer (some ⟨b3, 0, none⟩)), (7, .pointer (some ⟨b4, 0, none⟩)), (8, .pointer (some ⟨b12, 0, none⟩)), (9, .string c13.1), (12, .int .i64 x143), (15, .int .u64 c340.1), (16, .int .i64 c340.2.1), (17, .int .i64 c340.2.2)] (ar (ar (ar (ar (ar (ar (ar (ar (ar (ar trivial)))))))))) fun j => ?_
                                    refine wpn_assoc ?_
                                    refine wpn_q hO 3 [] [(0, .slice A0 p0.length c0), (1, .int .i64 p1), (4, .pointer (some ⟨b3, 0, none⟩)), (7, .pointer (some ⟨b4, 0, none⟩)), (8, .pointer (some ⟨b12, 0, none⟩)), (9, .string c13.1), (12, .int .i64 x143), (16, .int .i64 c340.2.1), (17, .int .i64 c340.2.2), (141, .int .i64 (IntKind.i64.wrap c340.1)), (142, .pointer (some ⟨b12, 6, none⟩))] (ar (ar (ar (ar (ar (ar (ar (ar (ar (ar (ar trivial))))))))))) fun j => ?_
                                    refine wpn_st hO (i := 2) rfl (off := 6) rfl rfl rfl rfl (Nat.le_of_ble_eq_true rfl) rfl fun σ hO => ?_
                                    have hO : Obs _ _ [_, _, _] := hO
                                    refine wpn_nil ?_
                                    refine wpn_assoc ?_
                                    refine wpn_qa hO [] [(0, .slice A0 p0.length c0), (1, .int .i64 p1), (4, .pointer (some ⟨b3, 0, none⟩)), (7, .pointer (some ⟨b4, 0, none⟩)), (8, .pointer (some ⟨b12, 0, none⟩)), (9, .string c13.1), (11, .int .i64 c340.2.1), (12, .int .i64 x143), (17, .int .i64 c340.2.2)] (ar (ar (ar (ar (ar (ar (ar (ar (ar trivial))))))))) fun j => ?_
                                    refine wpn_qa hO [] [(0, .slice A0 p0.length c0), (1, .int .i64 p1), (4, .pointer (some ⟨b3, 0, none⟩)), (7, .pointer (some ⟨b4, 0, none⟩)), (8, .pointer (some ⟨b12, 0, none⟩)), (9, .string c13.1), (11, .int .i64 c340.2.1), (12, .int .i64 x143), (13, .int .i64 c340.2.2)] (ar (ar (ar (ar (ar (ar (ar (ar (ar trivial))))))))) fun j => ?_
                                    refine wpn_end ?_
                                    refine inb_i ?_
                                    refine thn_i ?_
                                    exact ⟨x136, x137, x138, x139, x140, (IntKind.i64.wrap c340.1), c340.2.1, c340.2.2, _, ar (ar (ar (ar (ar (ar (ar (ar (ar trivial)))))))), hO, hL, r293, hF⟩
                                  · refine wpn_cF (congrArg Value.bool hb339) ?_
                                    refine wpn_assoc ?_
                                    refine wpn_qa hO [] [(0, .slice A0 p0.length c0), (1, .int .i64 p1), (4, .pointer (some ⟨b3, 0, none⟩)), (7, .pointer (some ⟨b4, 0, none⟩)), (8, .pointer (some ⟨b12, 0, none⟩)), (9, .string c13.1), (11, .int .i64 x294), (12, .int .i64 x143), (13, .int .i64 x295), (145, .bool ((y297.toNat : Int) == 106))] (ar (ar (ar (ar (ar (ar (ar (ar (ar (ar trivial)))))))))) fun j => ?_
                                    rcases ite_some hF with ⟨hb344, hF⟩ | ⟨hb344, hF⟩
                                    · refine wpn_cT (congrArg Value.bool hb344) ?_
                                      refine wpn_assoc ?_
                                      refine wpn_q hO 2 [] [(0, .slice A0 p0.length c0), (1, .int .i64 p1), (4, .pointer (some ⟨b3, 0, none⟩)), (7, .pointer (some ⟨b4, 0, none⟩)), (8, .pointer (some ⟨b12, 0, none⟩)), (9, .string c13.1), (12, .int .i64 x143), (148, .slice A0 p0.length c0), (149, .int .i64 x294)] (ar (ar (ar (ar (ar (ar (ar (ar (ar trivial))))))))) fun j => ?_
                                      obtain ⟨c345, h346, hF⟩ := bind_some hF
                                      refine wpn_c0 hO (zeN r293 h346) rfl fun _ σ _ _ hO h347 h348 => ?_
                                      have hL := hL.trans h347
                                      have r293 := r293.le h347
                                      obtain ⟨rfl, rfl⟩ := h348
                                      have hO : Obs _ _ [_, _, _] := hO
                                      refine wpn_qa hO [] [(0, .slice A0 p0.length c0), (1, .int .i64 p1), (4, .pointer (some ⟨b3, 0, none⟩)), (7, .pointer (some ⟨b4, 0, none⟩)), (8, .pointer (some ⟨b12, 0, none⟩)), (9, .string c13.1), (12, .int .i64 x143), (18, .int .i64 c345.1), (19, .int .i64 c345.2.1), (20, .int .i64 c345.2.2)] (ar (ar (ar (ar (ar (ar (ar (ar (ar (ar trivial)))))))))) fun j => ?_
                                      refine wpn_assoc ?_
                                      refine wpn_q hO 2 [] [(0, .slice A0 p0.length c0), (1, .int .i64 p1), (4, .pointer (some ⟨b3, 0, none⟩)), (7, .pointer (some ⟨b4, 0, none⟩)), (8, .pointer (some ⟨b12, 0, none⟩)), (9, .string c13.1), (12, .int .i64 x143), (19, .int .i64 c345.2.1), (20, .int .i64 c345.2.2), (154, .int .i64 c345.1), (155, .pointer (some ⟨b12, 5, none⟩))] (ar (ar (ar (ar (ar (ar (ar (ar (ar (ar (ar trivial))))))))))) fun j => ?_
                                      refine wpn_st hO (i := 2) rfl (off := 5) rfl rfl rfl rfl (Nat.le_of_ble_eq_true rfl) rfl fun σ hO => ?_
                                      have hO : Obs _ _ [_, _, _] := hO
                                      refine wpn_nil ?_
                                      refine wpn_assoc ?_
                                      refine wpn_qa hO [] [(0, .slice A0 p0.length c0), (1, .int .i64 p1), (4, .pointer (some ⟨b3, 0, none⟩)), (7, .pointer (some ⟨b4, 0, none⟩)), (8, .pointer (some ⟨b12, 0, none⟩)), (9, .string c13.1), (11, .int .i64 c345.2.1), (12, .int .i64 x143), (20, .int .i64 c345.2.2)] (ar (ar (ar (ar (ar (ar (ar (ar (ar trivial))))))))) fun j => ?_
                                      refine wpn_qa hO [] [(0, .slice A0 p0.length c0), (1, .int .i64 p1), (4, .pointer (some ⟨b3, 0, none⟩)), (7, .pointer (some ⟨b4, 0, none⟩)), (8, .pointer (some ⟨b12, 0, none⟩)), (9, .string c13.1), (11, .int .i64 c345.2.1), (12, .int .i64 x143), (13, .int .i64 c345.2.2)] (ar (ar (ar (ar (ar (ar (ar (ar (ar trivial))))))))) fun j => ?_
                                      refine wpn_end ?_
                                      refine inb_i ?_
                                      refine thn_i ?_
                                      exact ⟨x136, x137, x138, x139, c345.1, x141, c345.2.1, c345.2.2, _, ar (ar (ar (ar (ar (ar (ar (ar (ar trivial)))))))), hO, hL, r293, hF⟩
                                    · refine wpn_cF (congrArg Value.bool hb344) ?_
                                      refine wpn_sk ?_
                                      refine wpn_end ?_
                                      refine inb_i ?_
                                      refine thn_i ?_
                                      exact ⟨x136, x137, x138, x139, x140, x141, x294, x295, _, ar (ar (ar (ar (ar (ar (ar (ar (ar trivial)))))))), hO, hL, r293, hF⟩
                    · rintro e σ ⟨x320, x321, x322, x323, x324, x325, x326, x327, _, hA, hO, hL, r319, hF⟩
                      rw [← sets_agr _ _ hA]
                      unfold zo at hF
                      refine wpn_qa hO [] [(0, .slice A0 p0.length c0), (1, .int .i64 p1), (4, .pointer (some ⟨b3, 0, none⟩)), (7, .pointer (some ⟨b4, 0, none⟩)), (8, .pointer (some ⟨b12, 0, none⟩)), (9, .string c13.1), (11, .int .i64 x326), (12, .int .i64 x143), (159, .bool (x327 != 0))] (ar (ar (ar (ar (ar (ar (ar (ar (ar trivial))))))))) fun j => ?_
                      refine wpn_clast ?_
                      rcases ite_some hF with ⟨hb328, hF⟩ | ⟨hb328, hF⟩
                      · refine wpn_cT (congrArg Value.bool hb328) ?_
                        refine wpn_assoc ?_
                        refine wpn_q hO 1 [1] [(4, .pointer (some ⟨b3, 0, none⟩)), (160, .agg #[(.int .u8 0), (.int .u8 0), (.int .i64 0), (.int .i64 0), (.int .i64 0), (.int .i64 0), (.int .i64 0)])] (And.intro (And.intro rfl rfl) (ar (ar trivial))) fun j => ?_
                        refine wpn_st hO (i := 0) rfl (off := 0) rfl rfl rfl rfl (Nat.le_of_ble_eq_true rfl) rfl fun σ hO => ?_
                        have hO : Obs _ _ [_, _, _] := hO
                        refine wpn_qa hO [] [(4, .pointer (some ⟨b3, 0, none⟩)), (5, .int .i64 0), (6, .int .i64 5)] (ar (ar (ar trivial))) fun j => ?_
                        refine wpn_rt ?_
                        refine inb_r1 ?_
                        refine thn_r1 ?_
                        refine thn_r1 ?_
                        refine inb_r1 ?_
                        refine thn_r1 ?_
                        injection hF with hF
                        subst hF
                        have hV0 := hO.val (i := 0) rfl (off := 0) (agg := true) (n := 7) rfl
                        have hO := hO.sel [] (by decide)
                        exact hQ _ _ _ _ _ (resvs_c rfl (hV0) (resvs_t (resvs_t rfl))) hO hL ⟨rfl, rfl⟩
                      · refine wpn_cF (congrArg Value.bool hb328) ?_
                        refine wpn_sk ?_
                        refine wpn_end ?_
                        refine inb_i ?_
                        refine thn_i ?_
                        refine wpn_rlast ?_
                        refine wpn_qa hO [] [(0, .slice A0 p0.length c0), (1, .int .i64 p1), (4, .pointer (some ⟨b3, 0, none⟩)), (7, .pointer (some ⟨b4, 0, none⟩)), (8, .pointer (some ⟨b12, 0, none⟩)), (9, .string c13.1), (11, .int .i64 x326), (12, .int .i64 (IntKind.i64.wrap (x143 + 1)))] (ar (ar (ar (ar (ar (ar (ar (ar trivial)))))))) fun j => ?_
                        refine wpn_end ?_
                        refine thn_i ?_
                        exact ⟨n264, Nat.lt_succ_self _, x320, x321, x322, x323, x324, x325, x326, (IntKind.i64.wrap (x143 + 1)), _, ar (ar (ar (ar (ar (ar (ar (ar trivial))))))), hO, hL, r319, hF⟩
        · refine wpn_cF (congrArg Value.bool hb265) ?_
          refine wpn_ex ?_
          refine thn_x ?_
          refine inb_x ?_
          refine thn_i ?_
          refine wpn_assoc ?_
          refine wpn_p2r ?_
          refine wpn_q hO 1 [2] [(0, .slice A0 p0.length c0), (1, .int .i64 p1), (4, .pointer (some ⟨b3, 0, none⟩)), (7, .pointer (some ⟨b4, 0, none⟩)), (8, .pointer (some ⟨b12, 0, none⟩)), (11, .int .i64 x142), (161, .agg #[(.int .u8 (y7.toNat : Int)), (.int .u8 x136), (.int .i64 x137), (.int .i64 x138), (.int .i64 x139), (.int .i64 x140), (.int .i64 x141)])] (And.intro (And.intro rfl rfl) (ar (ar (ar (ar (ar (ar (ar trivial)))))))) fun j => ?_
          obtain ⟨z354, hz354, hF⟩ := bind_some hF
          obtain ⟨c355, h356, hF⟩ := bind_some hF
          refine wpn_c0 hO (zdB h356) (by rw [← u8o_eq hz354]; rfl) fun _ σ _ _ hO h357 h358 => ?_
          have hL := hL.trans h357
          have r135 := r135.le h357
          obtain ⟨rfl, rfl⟩ := h358
          have hO : Obs _ _ [_, _, _] := hO
          refine wpn_q hO 5 [] [(0, .slice A0 p0.length c0), (1, .int .i64 p1), (4, .pointer (some ⟨b3, 0, none⟩)), (7, .pointer (some ⟨b4, 0, none⟩)), (8, .pointer (some ⟨b12, 0, none⟩)), (11, .int .i64 x142), (170, .bool ((!c355) || (decide (x142 > (p0.length : Int)))))] (And.intro (And.intro rfl rfl) (fun _ => ar (ar (ar (ar (ar (ar (ar trivial)))))))) fun j => ?_
          obtain ⟨c359, h360, hF⟩ := bind_some hF
          refine wpn_mid 2 (fun e' σ' => ∃ (τ' : Hp), agr [(179, .bool c359), (4, .pointer (some ⟨b3, 0, none⟩)), (7, .pointer (some ⟨b4, 0, none⟩)), (8, .pointer (some ⟨b12, 0, none⟩)), (11, .int .i64 x142)] e' ∧ Obs τ' σ' [some (b3, ⟨[.int .u8 0, .int .u8 0, .int .i64 0, .int .i64 0, .int .i64 0, .int .i64 0, .int .i64 0], 24, 7, true⟩), some (b4, ⟨[.int .u8 0, .int .u8 0, .int .i64 0, .int .i64 0, .int .i64 0, .int .i64 0, .int .i64 0], 24, 7, true⟩), some (b12, ⟨[.int .u8 (y7.toNat : Int), .int .u8 x136, .int .i64 x137, .int .i64 x138, .int .i64 x139, .int .i64 x140, .int .i64 x141], 24, 7, true⟩)] ∧ Hp.le τ τ') ?_ ?_
          · have hF := h360
            rcases ite_some hF with ⟨hb361, hF⟩ | ⟨hb361, hF⟩
            · refine wpn_gF (congrArg (fun x => isB (.bool x) false) hb361) ?_
              refine wpn_pk (congrArg Value.bool hb361) ?_
              refine wpn_nil ?_
              injection hF with hF
              subst hF
              refine wpn_end ?_
              exact ⟨rfl, _, ar (ar (ar (ar (ar trivial)))), hO, hL⟩
            · refine wpn_gT (congrArg (fun x => isB (.bool x) false) hb361) ?_
              refine wpn_q hO 4 [2] [(4, .pointer (some ⟨b3, 0, none⟩)), (7, .pointer (some ⟨b4, 0, none⟩)), (8, .pointer (some ⟨b12, 0, none⟩)), (11, .int .i64 x142), (170, .bool ((!c355) || (decide (x142 > (p0.length : Int))))), (171, .agg #[(.int .u8 (y7.toNat : Int)), (.int .u8 x136), (.int .i64 x137), (.int .i64 x138), (.int .i64 x139), (.int .i64 x140), (.int .i64 x141)]), (173, .slice A0 p0.length c0), (174, .int .i64 p1), (175, .int .i64 x142)] (And.intro (And.intro rfl rfl) (ar (ar (ar (ar (ar (ar (ar (ar (ar trivial)))))))))) fun j => ?_
              obtain ⟨y362, g363, hF⟩ := bind_some hF
              refine wpn_sl (T := Ty.u8) r135 rfl rfl rfl g363 fun _ r364 => ?_
              obtain ⟨A365, c366, rfl, -⟩ := r364.form
              obtain ⟨z367, hz367, hF⟩ := bind_some hF
              obtain ⟨c368, h369, hF⟩ := bind_some hF
              refine wpn_c0 hO (zdZ (RdT.nil Ty.u8 _) h369) (by rw [← u8o_eq hz367]; rfl) fun _ σ _ _ hO h370 h371 => ?_
              have hL := hL.trans h370
              have r135 := r135.le h370
              have r364 := r364.le h370
              obtain ⟨v372, o375, rfl, rfl, w376⟩ := h371
              obtain ⟨A373, c374, rfl, -⟩ := w376.form
              have hO : Obs _ _ [_, _, _, _] := hO
              obtain ⟨_, h378, r377, hO⟩ := w376.share hO (i := 3) rfl
              have hL := hL.trans h378
              have r135 := r135.le h378
              have r364 := r364.le h378
              have hO : Obs _ _ [_, _, _, _] := hO
              obtain ⟨c379, h380, hF⟩ := bind_some hF
              refine wpn_c0 hO (zdQ r377 r364 h380) rfl fun _ σ _ _ hO h381 h382 => ?_
              have hL := hL.trans h381
              have r377 := r377.le h381
              have r135 := r135.le h381
              have r364 := r364.le h381
              obtain ⟨rfl, rfl⟩ := h382
              have hO : Obs _ _ [_, _, _, _] := hO
              refine wpn_q hO 1 [] [(4, .pointer (some ⟨b3, 0, none⟩)), (7, .pointer (some ⟨b4, 0, none⟩)), (8, .pointer (some ⟨b12, 0, none⟩)), (11, .int .i64 x142), (170, .bool ((!c355) || (decide (x142 > (p0.length : Int))))), (178, .bool (!c379))] (ar (ar (ar (ar (ar (ar trivial)))))) fun j => ?_
              refine wpn_pk (congrArg Value.bool hb361) ?_
              refine wpn_nil ?_
              injection hF with hF
              subst hF
              refine wpn_end ?_
              have hO := hO.sel [0, 1, 2] (by decide)
              exact ⟨rfl, _, ar (ar (ar (ar (ar trivial)))), hO, hL⟩
          · rintro e σ ⟨_, hA, hO, hL⟩
            rw [← sets_agr _ _ hA]
            refine wpn_nil ?_
            rcases ite_some hF with ⟨hb383, hF⟩ | ⟨hb383, hF⟩
            · refine wpn_cT (congrArg Value.bool hb383) ?_
              refine wpn_assoc ?_
              refine wpn_q hO 1 [1] [(4, .pointer (some ⟨b3, 0, none⟩)), (180, .agg #[(.int .u8 0), (.int .u8 0), (.int .i64 0), (.int .i64 0), (.int .i64 0), (.int .i64 0), (.int .i64 0)])] (And.intro (And.intro rfl rfl) (ar (ar trivial))) fun j => ?_
              refine wpn_st hO (i := 0) rfl (off := 0) rfl rfl rfl rfl (Nat.le_of_ble_eq_true rfl) rfl fun σ hO => ?_
              have hO : Obs _ _ [_, _, _] := hO
              refine wpn_qa hO [] [(4, .pointer (some ⟨b3, 0, none⟩)), (5, .int .i64 0), (6, .int .i64 5)] (ar (ar (ar trivial))) fun j => ?_
              refine wpn_rt ?_
              injection hF with hF
              subst hF
              have hV0 := hO.val (i := 0) rfl (off := 0) (agg := true) (n := 7) rfl
              have hO := hO.sel [] (by decide)
              exact hQ _ _ _ _ _ (resvs_c rfl (hV0) (resvs_t (resvs_t rfl))) hO hL ⟨rfl, rfl⟩
            · refine wpn_cF (congrArg Value.bool hb383) ?_
              refine wpn_sk ?_
              refine wpn_q hO 2 [2] [(4, .pointer (some ⟨b3, 0, none⟩)), (181, .agg #[(.int .u8 (y7.toNat : Int)), (.int .u8 x136), (.int .i64 x137), (.int .i64 x138), (.int .i64 x139), (.int .i64 x140), (.int .i64 x141)]), (182, .int .i64 x142)] (And.intro (And.intro rfl rfl) (ar (ar (ar trivial)))) fun j => ?_
              refine wpn_st hO (i := 0) rfl (off := 0) rfl rfl rfl rfl (Nat.le_of_ble_eq_true rfl) rfl fun σ hO => ?_
              have hO : Obs _ _ [_, _, _] := hO
              refine wpn_qa hO [] [(4, .pointer (some ⟨b3, 0, none⟩)), (5, .int .i64 x142), (6, .int .i64 0)] (ar (ar (ar trivial))) fun j => ?_
              refine wpn_r1 ?_
              obtain ⟨z384, hz384, hF⟩ := bind_some hF
              injection hF with hF
              subst hF
              have hV0 := hO.val (i := 0) rfl (off := 0) (agg := true) (n := 7) rfl
              have hO := hO.sel [] (by decide)
              exact hQ _ _ _ _ _ (resvs_c rfl (hV0) (resvs_t (resvs_t rfl))) hO hL ⟨(by first | rfl | (simp only [u8o_eq hz384]; done) | (simp only [← u8o_eq hz384]; try rfl)), rfl⟩
theorem zfa {τ : Hp} {v0 : Value} {p0 : (List UInt8)} {p1 : Int} (r0 : RdT Ty.u8 τ v0 p0) {rr : Bool} (hF : zcF p0 p1 = some rr) :
    Ctr Try.prog 4 #[v0, .int .i64 p1] τ [] (fun v τ' vs' => v = .bool rr ∧ vs' = []) := by
  obtain ⟨A0, c0, rfl, -⟩ := r0.form
  refine ctr_of (args := [.slice A0 p0.length c0, .int .i64 p1]) hm Try.func4 s4 rfl fun w0 σ hO Q hQ => ?_
  unfold zcF at hF
  have hL := Hp.le.refl τ
  show wpn _ _ a4.body _ _ _
  unfold a4
  dsimp only
  refine wpn_qa hO [] [(0, .slice A0 p0.length c0), (1, .int .i64 p1)] (ar (ar trivial)) fun j => ?_
  refine wpn_assoc ?_
  refine wpn_qa hO [] [(0, .slice A0 p0.length c0), (1, .int .i64 p1), (14, .bool (decide ((p0.length : Int) > 65536)))] (ar (ar (ar trivial))) fun j => ?_
  rcases ite_some hF with ⟨hb3, hF⟩ | ⟨hb3, hF⟩
  · refine wpn_cT (congrArg Value.bool hb3) ?_
    refine wpn_assoc ?_
    obtain ⟨c4, h5, hF⟩ := bind_some hF
    refine wpn_c0 hO (zdD h5) rfl fun _ σ _ _ hO h6 h7 => ?_
    have hL := hL.trans h6
    have r0 := r0.le h6
    obtain ⟨rfl, rfl⟩ := h7
    have hO : Obs _ _ [] := hO
    refine wpn_qa hO [] [(4, .bool c4)] (ar trivial) fun j => ?_
    refine wpn_rt ?_
    injection hF with hF
    subst hF
    exact hQ _ _ _ _ _ rfl hO hL ⟨rfl, rfl⟩
  · refine wpn_cF (congrArg Value.bool hb3) ?_
    refine wpn_sk ?_
    refine wpn_q hO 1 [] [(0, .slice A0 p0.length c0), (1, .int .i64 p1), (16, .slice A0 p0.length c0)] (ar (ar (ar trivial))) fun j => ?_
    obtain ⟨c8, h9, hF⟩ := bind_some hF
    refine wpn_c0 hO (zeq r0 h9) rfl fun _ σ _ _ hO h10 h11 => ?_
    have hL := hL.trans h10
    have r0 := r0.le h10
    obtain ⟨v12, rfl, rfl, r15, f16⟩ := h11
    obtain ⟨A13, n17, rfl, f16⟩ := f16
    obtain ⟨_, _, h18, -⟩ := r15.form
    injection h18 with _ h18 _
    subst h18
    have f16 : Full Ty.u8 _ (.slice A13 c8.1.length c8.2.length) c8.2 := ⟨_, _, rfl, f16⟩
    have hO : Obs _ _ [] := hO
    refine wpn_qa hO [] [(0, .slice A0 p0.length c0), (1, .int .i64 p1), (5, .slice A13 c8.1.length c8.2.length)] (ar (ar (ar trivial))) fun j => ?_
    refine wpn_q hO 2 [] [(0, .slice A0 p0.length c0), (1, .int .i64 p1), (5, .slice A13 c8.1.length c8.2.length), (19, .slice A13 c8.1.length c8.2.length), (20, .int .i64 p1)] (ar (ar (ar (ar (ar trivial))))) fun j => ?_
    obtain ⟨c19, h20, hF⟩ := bind_some hF
    refine wpn_c0 hO (zdp r15 h20) rfl fun _ σ _ _ hO h21 h22 => ?_
    have hL := hL.trans h21
    have r0 := r0.le h21
    have r15 := r15.le h21
    have f16 := f16.le h21
    obtain ⟨rfl, rfl⟩ := h22
    have hO : Obs _ _ [] := hO
    refine wpn_q hO 4 [] [(0, .slice A0 p0.length c0), (1, .int .i64 p1), (5, .slice A13 c8.1.length c8.2.length), (22, .agg #[(.int .u8 (c19.1.Kind.toNat : Int)), (.int .u8 (c19.1.Op.toNat : Int)), (.int .i64 c19.1.R), (.int .i64 c19.1.S), (.int .i64 c19.1.T), (.int .i64 c19.1.N), (.int .i64 c19.1.M)]), (23, .int .i64 c19.2.1), (24, .int .i64 c19.2.2)] (ar (ar (ar (ar (ar (ar trivial)))))) fun j => ?_
    refine wpn_al hO fun b23 σ hO => ?_
    have hO : Obs _ _ [_] := hO
    refine wpn_st hO (i := 0) rfl (off := 0) rfl rfl rfl rfl (Nat.le_of_ble_eq_true rfl) rfl fun σ hO => ?_
    have hO : Obs _ _ [_] := hO
    refine wpn_qa hO [] [(0, .slice A0 p0.length c0), (1, .int .i64 p1), (5, .slice A13 c8.1.length c8.2.length), (6, .pointer (some ⟨b23, 0, none⟩)), (7, .int .i64 c19.2.1), (8, .int .i64 c19.2.2)] (ar (ar (ar (ar (ar (ar trivial)))))) fun j => ?_
    refine wpn_q hO 2 [] [(0, .slice A0 p0.length c0), (5, .slice A13 c8.1.length c8.2.length), (6, .pointer (some ⟨b23, 0, none⟩)), (7, .int .i64 c19.2.1), (8, .int .i64 c19.2.2), (26, .slice A0 p0.length c0), (27, .int .i64 p1)] (ar (ar (ar (ar (ar (ar (ar trivial))))))) fun j => ?_
    obtain ⟨c24, h25, hF⟩ := bind_some hF
    refine wpn_c0 hO (ze2 r0 h25) rfl fun _ σ _ _ hO h26 h27 => ?_
    have hL := hL.trans h26
    have r0 := r0.le h26
    have r15 := r15.le h26
    have f16 := f16.le h26
    obtain ⟨rfl, rfl⟩ := h27
    have hO : Obs _ _ [_] := hO
    refine wpn_q hO 4 [] [(0, .slice A0 p0.length c0), (5, .slice A13 c8.1.length c8.2.length), (6, .pointer (some ⟨b23, 0, none⟩)), (7, .int .i64 c19.2.1), (8, .int .i64 c19.2.2), (29, .agg #[(.int .u8 (c24.1.Kind.toNat : Int)), (.int .u8 (c24.1.Op.toNat : Int)), (.int .i64 c24.1.R), (.int .i64 c24.1.S), (.int .i64 c24.1.T), (.int .i64 c24.1.N), (.int .i64 c24.1.M)]), (30, .int .i64 c24.2.1), (31, .int .i64 c24.2.2)] (ar (ar (ar (ar (ar (ar (ar (ar trivial)))))))) fun j => ?_
    refine wpn_al hO fun b28 σ hO => ?_
    have hO : Obs _ _ [_, _] := hO
    refine wpn_st hO (i := 1) rfl (off := 0) rfl rfl rfl rfl (Nat.le_of_ble_eq_true rfl) rfl fun σ hO => ?_
    have hO : Obs _ _ [_, _] := hO
    refine wpn_qa hO [] [(0, .slice A0 p0.length c0), (5, .slice A13 c8.1.length c8.2.length), (6, .pointer (some ⟨b23, 0, none⟩)), (7, .int .i64 c19.2.1), (8, .int .i64 c19.2.2), (9, .pointer (some ⟨b28, 0, none⟩)), (10, .int .i64 c24.2.1), (11, .int .i64 c24.2.2)] (ar (ar (ar (ar (ar (ar (ar (ar trivial)))))))) fun j => ?_
    refine wpn_q hO 10 [0, 1] [(0, .slice A0 p0.length c0), (5, .slice A13 c8.1.length c8.2.length), (45, .bool (((( (c19.1.Kind.toNat : Int) == (c24.1.Kind.toNat : Int)) && (( (c19.1.Op.toNat : Int) == (c24.1.Op.toNat : Int)) && (( c19.1.R == c24.1.R) && (( c19.1.S == c24.1.S) && (( c19.1.T == c24.1.T) && (( c19.1.N == c24.1.N) && (( c19.1.M == c24.1.M) && true))))))) && (c19.2.1 == c24.2.1)) && (c19.2.2 == c24.2.2)))] (And.intro (And.intro rfl rfl) (And.intro (And.intro rfl rfl) (And.intro (And.intro rfl rfl) (fun _ => And.intro (And.intro rfl rfl) (fun _ => ar (ar (ar trivial))))))) fun j => ?_
    have hO := hO.sel [] (by decide)
    have hO : Obs _ _ [] := hO
    obtain ⟨c29, h30, hF⟩ := bind_some hF
    refine wpn_mid 2 (fun e' σ' => ∃ (τ' : Hp), agr [(49, .bool c29)] e' ∧ Obs τ' σ' [] ∧ Hp.le τ τ') ?_ ?_
    · have hF := h30
      rcases ite_some hF with ⟨hb31, hF⟩ | ⟨hb31, hF⟩
      · refine wpn_gT (congrArg (fun x => isB (.bool x) true) hb31) ?_
        refine wpn_q hO 2 [] [(45, .bool (((( (c19.1.Kind.toNat : Int) == (c24.1.Kind.toNat : Int)) && (( (c19.1.Op.toNat : Int) == (c24.1.Op.toNat : Int)) && (( c19.1.R == c24.1.R) && (( c19.1.S == c24.1.S) && (( c19.1.T == c24.1.T) && (( c19.1.N == c24.1.N) && (( c19.1.M == c24.1.M) && true))))))) && (c19.2.1 == c24.2.1)) && (c19.2.2 == c24.2.2))), (46, .slice A13 c8.1.length c8.2.length), (47, .slice A0 p0.length c0)] (ar (ar (ar trivial))) fun j => ?_
        obtain ⟨c32, h33, hF⟩ := bind_some hF
        refine wpn_c0 hO (zej r15 f16 r0 h33) rfl fun _ σ _ _ hO h34 h35 => ?_
        have hL := hL.trans h34
        have r15 := r15.le h34
        have f16 := f16.le h34
        have r0 := r0.le h34
        obtain ⟨rfl, rfl⟩ := h35
        have hO : Obs _ _ [] := hO
        refine wpn_pk (congrArg Value.bool hb31) ?_
        refine wpn_nil ?_
        injection hF with hF
        subst hF
        refine wpn_end ?_
        exact ⟨rfl, _, ar (trivial), hO, hL⟩
      · refine wpn_gF (congrArg (fun x => isB (.bool x) true) hb31) ?_
        refine wpn_pk (congrArg Value.bool hb31) ?_
        refine wpn_nil ?_
        injection hF with hF
        subst hF
        refine wpn_end ?_
        exact ⟨rfl, _, ar (trivial), hO, hL⟩
    · rintro e σ ⟨_, hA, hO, hL⟩
      rw [← sets_agr _ _ hA]
      refine wpn_q hO 1 [] [(50, .bool c29)] (ar trivial) fun j => ?_
      obtain ⟨c36, h37, hF⟩ := bind_some hF
      refine wpn_mid 2 (fun e' σ' => ∃ (τ' : Hp), agr [(52, .bool c36)] e' ∧ Obs τ' σ' [] ∧ Hp.le τ τ') ?_ ?_
      · have hF := h37
        rcases ite_some hF with ⟨hb38, hF⟩ | ⟨hb38, hF⟩
        · refine wpn_gT (congrArg (fun x => isB (.bool x) true) hb38) ?_
          obtain ⟨c39, h40, hF⟩ := bind_some hF
          refine wpn_c0 hO (zdD h40) rfl fun _ σ _ _ hO h41 h42 => ?_
          have hL := hL.trans h41
          obtain ⟨rfl, rfl⟩ := h42
          have hO : Obs _ _ [] := hO
          refine wpn_pk (congrArg Value.bool hb38) ?_
          refine wpn_nil ?_
          injection hF with hF
          subst hF
          refine wpn_end ?_
          exact ⟨rfl, _, ar (trivial), hO, hL⟩
        · refine wpn_gF (congrArg (fun x => isB (.bool x) true) hb38) ?_
          refine wpn_pk (congrArg Value.bool hb38) ?_
          refine wpn_nil ?_
          injection hF with hF
          subst hF
          refine wpn_end ?_
          exact ⟨rfl, _, ar (trivial), hO, hL⟩
      · rintro e σ ⟨_, hA, hO, hL⟩
        rw [← sets_agr _ _ hA]
        refine wpn_qa hO [] [(4, .bool c36)] (ar trivial) fun j => ?_
        refine wpn_r1 ?_
        injection hF with hF
        subst hF
        exact hQ _ _ _ _ _ rfl hO hL ⟨rfl, rfl⟩
end Go.Proofs.Ytnaafaopdefigaa
