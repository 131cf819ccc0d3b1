import Derived.Test.YtmcfgapknoiohaaF
import Derived.Test.YtmcfgapknoiohaaAc0
import Derived.Test.YtmcfgapknoiohaaM00
import Derived.Test.YtmcfgapknoiohaaM01
import Derived.Test.YtmcfgapknoiohaaG1
namespace Go.Proofs.Ytmcfgapknoiohaa
open Go.Ab Go.RowKit
set_option linter.unusedVariables false
set_option linter.unusedSimpArgs false
set_option maxRecDepth 10000
theorem zbc {τ : Hp} {v0 : Value} {p0 : (List UInt8)} {o0 : Ob} {p1 : za} (wp0 : OwnO Ty.u8 5 τ v0 p0 o0) {rr : (List UInt8) × Bool} (hF : zn p0 p1 = some rr) :
    Ctr Try.prog 43 #[v0, .agg #[.int .u8 p1.Kind.toNat, .int .i64 p1.High, .int .i64 p1.Low, .int .i64 p1.Place, .string p1.Text]] τ [o0] (fun v τ' vs' => ∃ (v0 : Value) (o0 : Ob), v = .tuple #[v0, .bool rr.2] ∧ vs' = [o0] ∧ OwnO Ty.u8 5 τ' v0 rr.1 o0) := by
  obtain ⟨A0, c0, rfl, -⟩ := wp0.form
  refine ctr_of (args := [.slice A0 p0.length c0, .agg #[.int .u8 p1.Kind.toNat, .int .i64 p1.High, .int .i64 p1.Low, .int .i64 p1.Place, .string p1.Text]]) hm Try.func43 s43 rfl fun w0 σ hO Q hQ => ?_
  unfold zn at hF
  have hL := Hp.le.refl τ
  show wpn _ _ a43.body _ _ _
  unfold a43
  dsimp only
  refine wpn_bx (n := 5) hO rfl rfl fun b3 σ hO => ?_
  have hO : Obs _ _ [_, _] := hO
  refine wpn_qa hO [] [(0, .slice A0 p0.length c0), (3, .pointer (some ⟨b3, 0, none⟩))] (ar (ar trivial)) fun j => ?_
  refine wpn_assoc ?_
  refine wpn_qa hO [1] [(0, .slice A0 p0.length c0), (3, .pointer (some ⟨b3, 0, none⟩)), (14, .int .u8 (Int.tmod (p1.Kind.toNat : Int) 3))] (And.intro (And.intro rfl rfl) (ar (ar (ar trivial)))) fun j => ?_
  refine wpn_bl ?_
  refine wpn_qa hO [] [(0, .slice A0 p0.length c0), (3, .pointer (some ⟨b3, 0, none⟩)), (14, .int .u8 (Int.tmod (p1.Kind.toNat : Int) 3)), (15, .bool ((Int.tmod (p1.Kind.toNat : Int) 3) == 0))] (ar (ar (ar (ar trivial)))) fun j => ?_
  refine wpn_clast ?_
  rcases ite_some hF with ⟨hb4, hF⟩ | ⟨hb4, hF⟩
  · refine wpn_cT (congrArg Value.bool hb4) ?_
    refine wpn_assoc ?_
    refine wpn_q hO 4 [1, 1] [(0, .slice A0 p0.length c0), (19, .int .i64 p1.High), (21, .int .i64 p1.Low)] (And.intro (And.intro rfl rfl) (And.intro (And.intro rfl rfl) (ar (ar (ar trivial))))) fun j => ?_
    obtain ⟨c5, h6, hF⟩ := bind_some hF
    refine wpn_c0 hO (zS h6) rfl fun _ σ _ _ hO h7 h8 => ?_
    have hL := hL.trans h7
    have wp0 := wp0.le h7
    obtain ⟨rfl, rfl⟩ := h8
    have hO : Obs _ _ [_, _] := hO
    refine wpn_qa hO [] [(0, .slice A0 p0.length c0), (6, .int .u8 c5.1), (7, .bool c5.2)] (ar (ar (ar trivial))) fun j => ?_
    refine wpn_assoc ?_
    refine wpn_q hO 2 [] [(7, .bool c5.2), (25, .slice A0 p0.length c0), (26, .int .u8 c5.1)] (ar (ar (ar trivial))) fun j => ?_
    obtain ⟨z9, hz9, hF⟩ := bind_some hF
    obtain ⟨_, hr, hF⟩ := bind_some hF
    refine wpn_ap1 (T := Ty.u8) (y := z9) hO wp0 (i := 0) rfl rfl (fun _ => rfl) rfl (u8R hz9) rfl hr (by decide) fun u _ σ o12 w13 hO => ?_
    obtain ⟨A10, c11, rfl, -⟩ := w13.form
    have hO : Obs _ _ [_, _] := hO
    refine wpn_qa hO [] [(4, .slice A10 (p0 ++ [z9]).length c11), (5, .bool c5.2)] (ar (ar trivial)) fun j => ?_
    refine wpn_rt ?_
    refine inb_r1 ?_
    refine thn_r1 ?_
    injection hF with hF
    subst hF
    have hO := hO.sel [0] (by decide)
    exact hQ _ _ _ _ _ rfl hO hL ⟨_, _, rfl, rfl, w13⟩
  · refine wpn_cF (congrArg Value.bool hb4) ?_
    refine wpn_assoc ?_
    refine wpn_qa hO [] [(0, .slice A0 p0.length c0), (3, .pointer (some ⟨b3, 0, none⟩)), (30, .bool ((Int.tmod (p1.Kind.toNat : Int) 3) == 1))] (ar (ar (ar trivial))) fun j => ?_
    rcases ite_some hF with ⟨hb14, hF⟩ | ⟨hb14, hF⟩
    · refine wpn_cT (congrArg Value.bool hb14) ?_
      refine wpn_assoc ?_
      refine wpn_q hO 3 [1] [(33, .slice A0 p0.length c0), (35, .int .i64 p1.Place)] (And.intro (And.intro rfl rfl) (ar (ar trivial))) fun j => ?_
      obtain ⟨_, h16, r15, hO⟩ := wp0.share hO (i := 0) rfl
      have hL := hL.trans h16
      have hO : Obs _ _ [_, _] := hO
      obtain ⟨c17, h18, hF⟩ := bind_some hF
      refine wpn_c0 hO (zN r15 h18) rfl fun _ σ _ _ hO h19 h20 => ?_
      have hL := hL.trans h19
      have r15 := r15.le h19
      obtain ⟨v21, o24, rfl, rfl, w25⟩ := h20
      obtain ⟨A22, c23, rfl, -⟩ := w25.form
      have hO : Obs _ _ [_, _, _] := hO
      refine wpn_qa hO [] [(8, .slice A22 c17.1.length c23), (9, .int .i64 c17.2)] (ar (ar trivial)) fun j => ?_
      refine wpn_assoc ?_
      refine wpn_qa hO [] [(4, .slice A22 c17.1.length c23), (5, .bool (c17.2 == 0))] (ar (ar trivial)) fun j => ?_
      refine wpn_rt ?_
      refine inb_r1 ?_
      refine thn_r1 ?_
      injection hF with hF
      subst hF
      have hO := hO.sel [2] (by decide)
      exact hQ _ _ _ _ _ rfl hO hL ⟨_, _, rfl, rfl, w25⟩
    · refine wpn_cF (congrArg Value.bool hb14) ?_
      refine wpn_sk ?_
      refine wpn_end ?_
      refine inb_i ?_
      refine thn_i ?_
      refine wpn_q hO 3 [1] [(43, .slice A0 p0.length c0), (45, .string p1.Text)] (And.intro (And.intro rfl rfl) (ar (ar trivial))) fun j => ?_
      obtain ⟨_, h27, r26, hO⟩ := wp0.share hO (i := 0) rfl
      have hL := hL.trans h27
      have hO : Obs _ _ [_, _] := hO
      obtain ⟨c28, h29, hF⟩ := bind_some hF
      refine wpn_c0 hO (zW r26 h29) rfl fun _ σ _ _ hO h30 h31 => ?_
      have hL := hL.trans h30
      have r26 := r26.le h30
      obtain ⟨v32, o35, rfl, rfl, w36⟩ := h31
      obtain ⟨A33, c34, rfl, -⟩ := w36.form
      have hO : Obs _ _ [_, _, _] := hO
      refine wpn_qa hO [] [(10, .slice A33 c28.1.length c34), (11, .int .i64 c28.2)] (ar (ar trivial)) fun j => ?_
      refine wpn_qa hO [] [(4, .slice A33 c28.1.length c34), (5, .bool (c28.2 == 0))] (ar (ar trivial)) fun j => ?_
      refine wpn_r1 ?_
      injection hF with hF
      subst hF
      have hO := hO.sel [2] (by decide)
      exact hQ _ _ _ _ _ rfl hO hL ⟨_, _, rfl, rfl, w36⟩
theorem zX {τ : Hp} {v0 : Value} {p0 : (List UInt8)} {p1 : Int} {p2 : za} (r0 : RdT Ty.u8 τ v0 p0) {rr : Int × Bool} (hF : ze p0 p1 p2 = some rr) :
    Ctr Try.prog 44 #[v0, .int .i64 p1, .agg #[.int .u8 p2.Kind.toNat, .int .i64 p2.High, .int .i64 p2.Low, .int .i64 p2.Place, .string p2.Text]] τ [] (fun v τ' vs' => v = .tuple #[.int .i64 rr.1, .bool rr.2] ∧ vs' = []) := by
  obtain ⟨A0, c0, rfl, -⟩ := r0.form
  refine ctr_of (args := [.slice A0 p0.length c0, .int .i64 p1, .agg #[.int .u8 p2.Kind.toNat, .int .i64 p2.High, .int .i64 p2.Low, .int .i64 p2.Place, .string p2.Text]]) hm Try.func44 s44 rfl fun w0 σ hO Q hQ => ?_
  unfold ze at hF
  have hL := Hp.le.refl τ
  show wpn _ _ a44.body _ _ _
  unfold a44
  dsimp only
  refine wpn_bx (n := 5) hO rfl rfl fun b4 σ hO => ?_
  have hO : Obs _ _ [_] := hO
  refine wpn_qa hO [] [(0, .slice A0 p0.length c0), (1, .int .i64 p1), (5, .pointer (some ⟨b4, 0, none⟩))] (ar (ar (ar trivial))) fun j => ?_
  refine wpn_assoc ?_
  refine wpn_qa hO [0] [(0, .slice A0 p0.length c0), (1, .int .i64 p1), (5, .pointer (some ⟨b4, 0, none⟩)), (21, .int .u8 (Int.tmod (p2.Kind.toNat : Int) 3))] (And.intro (And.intro rfl rfl) (ar (ar (ar (ar trivial))))) fun j => ?_
  refine wpn_bl ?_
  refine wpn_qa hO [] [(0, .slice A0 p0.length c0), (1, .int .i64 p1), (5, .pointer (some ⟨b4, 0, none⟩)), (21, .int .u8 (Int.tmod (p2.Kind.toNat : Int) 3)), (22, .bool ((Int.tmod (p2.Kind.toNat : Int) 3) == 0))] (ar (ar (ar (ar (ar trivial))))) fun j => ?_
  refine wpn_clast ?_
  rcases ite_some hF with ⟨hb5, hF⟩ | ⟨hb5, hF⟩
  · refine wpn_cT (congrArg Value.bool hb5) ?_
    refine wpn_assoc ?_
    refine wpn_q hO 2 [] [(5, .pointer (some ⟨b4, 0, none⟩)), (25, .slice A0 p0.length c0), (26, .int .i64 p1)] (ar (ar (ar trivial))) fun j => ?_
    obtain ⟨c6, h7, hF⟩ := bind_some hF
    refine wpn_c0 hO (zM r0 h7) rfl fun _ σ _ _ hO h8 h9 => ?_
    have hL := hL.trans h8
    have r0 := r0.le h8
    obtain ⟨rfl, rfl⟩ := h9
    have hO : Obs _ _ [_] := hO
    refine wpn_qa hO [] [(5, .pointer (some ⟨b4, 0, none⟩)), (8, .int .u8 c6.1), (9, .int .i64 c6.2.1), (10, .int .i64 c6.2.2)] (ar (ar (ar (ar trivial)))) fun j => ?_
    refine wpn_assoc ?_
    refine wpn_q hO 1 [] [(5, .pointer (some ⟨b4, 0, none⟩)), (9, .int .i64 c6.2.1), (10, .int .i64 c6.2.2), (32, .int .u8 c6.1)] (ar (ar (ar (ar trivial)))) fun j => ?_
    obtain ⟨c10, h11, hF⟩ := bind_some hF
    refine wpn_c0 hO (zU h11) rfl fun _ σ _ _ hO h12 h13 => ?_
    have hL := hL.trans h12
    obtain ⟨rfl, rfl⟩ := h13
    have hO : Obs _ _ [_] := hO
    refine wpn_qa hO [] [(5, .pointer (some ⟨b4, 0, none⟩)), (9, .int .i64 c6.2.1), (10, .int .i64 c6.2.2), (11, .int .i64 c10.1), (12, .int .i64 c10.2)] (ar (ar (ar (ar (ar trivial))))) fun j => ?_
    refine wpn_assoc ?_
    refine wpn_p2r ?_
    refine wpn_qa hO [0, 0] [(6, .int .i64 c6.2.1), (7, .bool (((c6.2.2 == 0) && (c10.1 == p2.High)) && (c10.2 == p2.Low)))] (And.intro (And.intro rfl rfl) (And.intro (And.intro rfl rfl) (fun _ => And.intro (And.intro rfl rfl) (And.intro (And.intro rfl rfl) (fun _ => ar (ar trivial)))))) fun j => ?_
    refine wpn_rt ?_
    refine inb_r1 ?_
    refine thn_r1 ?_
    injection hF with hF
    subst hF
    have hO := hO.sel [] (by decide)
    exact hQ _ _ _ _ _ rfl hO hL ⟨rfl, rfl⟩
  · refine wpn_cF (congrArg Value.bool hb5) ?_
    refine wpn_assoc ?_
    refine wpn_qa hO [] [(0, .slice A0 p0.length c0), (1, .int .i64 p1), (5, .pointer (some ⟨b4, 0, none⟩)), (51, .bool ((Int.tmod (p2.Kind.toNat : Int) 3) == 1))] (ar (ar (ar (ar trivial)))) fun j => ?_
    rcases ite_some hF with ⟨hb14, hF⟩ | ⟨hb14, hF⟩
    · refine wpn_cT (congrArg Value.bool hb14) ?_
      refine wpn_assoc ?_
      refine wpn_q hO 2 [] [(5, .pointer (some ⟨b4, 0, none⟩)), (54, .slice A0 p0.length c0), (55, .int .i64 p1)] (ar (ar (ar trivial))) fun j => ?_
      obtain ⟨c15, h16, hF⟩ := bind_some hF
      refine wpn_c0 hO (zP r0 h16) rfl fun _ σ _ _ hO h17 h18 => ?_
      have hL := hL.trans h17
      have r0 := r0.le h17
      obtain ⟨rfl, rfl⟩ := h18
      have hO : Obs _ _ [_] := hO
      refine wpn_qa hO [] [(5, .pointer (some ⟨b4, 0, none⟩)), (13, .int .i64 c15.1), (14, .int .i64 c15.2.1), (15, .int .i64 c15.2.2)] (ar (ar (ar (ar trivial)))) fun j => ?_
      refine wpn_assoc ?_
      refine wpn_p2r ?_
      refine wpn_qa hO [0] [(6, .int .i64 c15.2.1), (7, .bool ((c15.2.2 == 0) && (c15.1 == p2.Place)))] (And.intro (And.intro rfl rfl) (And.intro (And.intro rfl rfl) (fun _ => ar (ar trivial)))) fun j => ?_
      refine wpn_rt ?_
      refine inb_r1 ?_
      refine thn_r1 ?_
      injection hF with hF
      subst hF
      have hO := hO.sel [] (by decide)
      exact hQ _ _ _ _ _ rfl hO hL ⟨rfl, rfl⟩
    · refine wpn_cF (congrArg Value.bool hb14) ?_
      refine wpn_sk ?_
      refine wpn_end ?_
      refine inb_i ?_
      refine thn_i ?_
      refine wpn_q hO 2 [] [(5, .pointer (some ⟨b4, 0, none⟩)), (70, .slice A0 p0.length c0), (71, .int .i64 p1)] (ar (ar (ar trivial))) fun j => ?_
      obtain ⟨c19, h20, hF⟩ := bind_some hF
      refine wpn_c0 hO (zV r0 h20) rfl fun _ σ _ _ hO h21 h22 => ?_
      have hL := hL.trans h21
      have r0 := r0.le h21
      obtain ⟨rfl, rfl⟩ := h22
      have hO : Obs _ _ [_] := hO
      refine wpn_qa hO [] [(5, .pointer (some ⟨b4, 0, none⟩)), (16, .string c19.1), (17, .int .i64 c19.2.1), (18, .int .i64 c19.2.2)] (ar (ar (ar (ar trivial)))) fun j => ?_
      refine wpn_p2r ?_
      refine wpn_qa hO [0] [(6, .int .i64 c19.2.1), (7, .bool ((c19.2.2 == 0) && (strEq c19.1 p2.Text)))] (And.intro (And.intro rfl rfl) (And.intro (And.intro rfl rfl) (fun _ => ar (ar trivial)))) fun j => ?_
      refine wpn_r1 ?_
      injection hF with hF
      subst hF
      have hO := hO.sel [] (by decide)
      exact hQ _ _ _ _ _ rfl hO hL ⟨rfl, rfl⟩
theorem z3 {τ : Hp} {v0 : Value} {p0 : (List UInt8)} (r0 : RdT Ty.u8 τ v0 p0) {rr : (List UInt8)} (hF : zB p0 = some rr) :
    Ctr Try.prog 31 #[v0] τ [] (fun v τ' vs' => ∃ (v0 : Value) (o0 : Ob), v = v0 ∧ vs' = [o0] ∧ OwnO Ty.u8 5 τ' v0 rr o0) := by
  obtain ⟨A0, c0, rfl, -⟩ := r0.form
  refine ctr_of (args := [.slice A0 p0.length c0]) hm Try.func31 s31 rfl fun w0 σ hO Q hQ => ?_
  unfold zB at hF
  have hL := Hp.le.refl τ
  show wpn _ _ a31.body _ _ _
  unfold a31
  dsimp only
  refine wpn_qa hO [] [(0, .slice A0 p0.length c0)] (ar trivial) fun j => ?_
  refine wpn_q hO 5 [] [(0, .slice A0 p0.length c0), (6, .int .i64 (p0.length : Int)), (9, .int .i64 (IntKind.i64.wrap ((p0.length : Int) + 40)))] (ar (ar (ar trivial))) fun j => ?_
  obtain ⟨y2, g3, hF⟩ := bind_some hF
  refine wpn_mkb (T := Ty.u8) hO rfl rfl g3 (show _ = _ from rfl) (by decide) fun b8 c5 σ o6 w7 hO => ?_
  have hO : Obs _ _ [_] := hO
  refine wpn_qa hO [] [(0, .slice A0 p0.length c0), (3, .slice (some ⟨b8, 0, none⟩) y2.length c5)] (ar (ar trivial)) fun j => ?_
  refine wpn_assoc ?_
  refine wpn_qa hO [] [(0, .slice A0 p0.length c0), (3, .slice (some ⟨b8, 0, none⟩) y2.length c5), (4, .int .i64 0)] (ar (ar (ar trivial))) fun j => ?_
  refine wpn_bl ?_
  refine wpn_lp (fun (n : Nat) e' σ' => ∃ (k31 : Nat) (A32 : Option Addr) (c33 : Nat) (o34 : Ob) (x35 : List UInt8) (x38 : Int) (τ' : Hp), agr [(0, .slice A0 p0.length c0), (3, .slice A32 k31 c33), (4, .int .i64 x38)] e' ∧ Obs τ' σ' [o34] ∧ Hp.le τ τ' ∧ RdT Ty.u8 τ' (.slice A0 p0.length c0) p0 ∧ k31 = x35.length ∧ OwnO Ty.u8 5 τ' (.slice A32 k31 c33) x35 o34 ∧ zu p0 n x35 x38 = some rr) big ⟨y2.length, (some ⟨b8, 0, none⟩), c5, o6, y2, 0, _, ar (ar (ar trivial)), hO, hL, r0, w7.len, w7, hF⟩ ?_
  clear hF hO hL
  rintro n54 e σ ⟨k31, A32, c33, o34, x35, x38, _, hA, hO, hL, r30, hk36, w37, hF⟩
  rw [← sets_agr _ _ hA]
  cases n54 with
  | zero => exact nomatch (show none = some rr from hF)
  | succ n54 =>
    replace hF : zw (zu p0 n54) p0 x35 x38 = some rr := hF
    unfold zw at hF
    subst hk36
    refine wpn_assoc ?_
    refine wpn_qa hO [] [(0, .slice A0 p0.length c0), (3, .slice A32 x35.length c33), (4, .int .i64 x38), (14, .bool (decide (x38 < (p0.length : Int))))] (ar (ar (ar (ar trivial)))) fun j => ?_
    rcases ite_some hF with ⟨hb55, hF⟩ | ⟨hb55, hF⟩
    · refine wpn_cT (congrArg Value.bool hb55) ?_
      refine wpn_sk ?_
      refine wpn_bl ?_
      refine wpn_rlast ?_
      refine wpn_q hO 4 [] [(0, .slice A0 p0.length c0), (3, .slice A32 x35.length c33), (4, .int .i64 x38), (17, .slice A32 x35.length c33), (18, .int .i64 x38), (19, .slice A0 p0.length c0), (20, .int .i64 x38)] (ar (ar (ar (ar (ar (ar (ar trivial))))))) fun j => ?_
      obtain ⟨y56, g57, hF⟩ := bind_some hF
      refine wpn_idx (T := Ty.u8) r30 hO.base rfl rfl g57 (by decide) fun a58 _ k59 m60 => ?_
      obtain rfl : _ = ([.int .u8 y56.toNat] : List Value) := k59
      refine wpn_ld rfl (m60.le hO.base).fst ?_
      obtain ⟨y61, g62, hF⟩ := bind_some hF
      refine wpn_ido (T := Ty.u8) hO w37 (i := 0) rfl rfl rfl g62 (by decide) fun a63 _ k64 m65 i66 => ?_
      have k67 := k64
      obtain rfl : _ = ([.int .u8 y61.toNat] : List Value) := k67
      refine wpn_sto (T := Ty.u8) (off := 0) (vs := [.int .u8 (y56.toNat : Int)]) hO w37 (i := 0) rfl (by rw [add_zero]; rfl) i66 g62 k64 m65 rfl rfl rfl rfl (by decide) (show _ = _ from rfl) fun σ o68 w69 hO => ?_
      have hO : Obs _ _ [_] := hO
      refine wpn_nil ?_
      refine wpn_end ?_
      refine inb_i ?_
      refine thn_i ?_
      refine wpn_rlast ?_
      refine wpn_qa hO [] [(0, .slice A0 p0.length c0), (3, .slice A32 x35.length c33), (4, .int .i64 (IntKind.i64.wrap (x38 + 1)))] (ar (ar (ar trivial))) fun j => ?_
      refine wpn_end ?_
      refine thn_i ?_
      exact ⟨n54, Nat.lt_succ_self _, x35.length, A32, c33, o68, (x35.set (Int.toNat x38) y56), (IntKind.i64.wrap (x38 + 1)), _, ar (ar (ar trivial)), hO, hL, r30, w69.len, w69, hF⟩
    · refine wpn_cF (congrArg Value.bool hb55) ?_
      refine wpn_ex ?_
      refine thn_x ?_
      refine inb_x ?_
      refine thn_i ?_
      refine wpn_qa hO [] [(2, .slice A32 x35.length c33)] (ar trivial) fun j => ?_
      refine wpn_r1 ?_
      injection hF with hF
      subst hF
      exact hQ _ _ _ _ _ rfl hO hL ⟨_, _, rfl, rfl, w37⟩
theorem zbd {τ : Hp} {v0 : Value} {p0 : (List za)} (r0 : RdT zb τ v0 p0) {rr : Bool} (hF : zI p0 = some rr) :
    Ctr Try.prog 11 #[v0] τ [] (fun v τ' vs' => v = .bool rr ∧ vs' = []) := by
  obtain ⟨A0, c0, rfl, -⟩ := r0.form
  refine ctr_of (args := [.slice A0 p0.length c0]) hm Try.func11 s11 rfl fun w0 σ hO Q hQ => ?_
  unfold zI at hF
  have hL := Hp.le.refl τ
  show wpn _ _ a11.body _ _ _
  unfold a11
  dsimp only
  refine wpn_qa hO [] [(0, .slice A0 p0.length c0)] (ar trivial) fun j => ?_
  refine wpn_assoc ?_
  refine wpn_qa hO [] [(0, .slice A0 p0.length c0), (17, .bool (decide ((p0.length : Int) > 60)))] (ar (ar trivial)) fun j => ?_
  rcases ite_some hF with ⟨hb2, hF⟩ | ⟨hb2, hF⟩
  · refine wpn_cT (congrArg Value.bool hb2) ?_
    refine wpn_assoc ?_
    obtain ⟨c3, h4, hF⟩ := bind_some hF
    refine wpn_c0 hO (zH h4) rfl fun _ σ _ _ hO h5 h6 => ?_
    have hL := hL.trans h5
    have r0 := r0.le h5
    obtain ⟨rfl, rfl⟩ := h6
    have hO : Obs _ _ [] := hO
    refine wpn_qa hO [] [(2, .bool c3)] (ar trivial) fun j => ?_
    refine wpn_rt ?_
    injection hF with hF
    subst hF
    exact hQ _ _ _ _ _ rfl hO hL ⟨rfl, rfl⟩
  · refine wpn_cF (congrArg Value.bool hb2) ?_
    refine wpn_sk ?_
    refine wpn_qa hO [] [(0, .slice A0 p0.length c0), (3, .slice none 0 0)] (ar (ar trivial)) fun j => ?_
    refine wpn_qa hO [] [(0, .slice A0 p0.length c0), (3, .slice none 0 0), (4, .slice none 0 0)] (ar (ar (ar trivial))) fun j => ?_
    refine wpn_qa hO [] [(0, .slice A0 p0.length c0), (3, .slice none 0 0), (4, .slice none 0 0), (5, .int .i64 0)] (ar (ar (ar (ar trivial)))) fun j => ?_
    refine wpn_assoc ?_
    refine wpn_qa hO [] [(0, .slice A0 p0.length c0), (3, .slice none 0 0), (4, .slice none 0 0), (5, .int .i64 0), (6, .int .i64 0)] (ar (ar (ar (ar (ar trivial))))) fun j => ?_
    refine wpn_bl ?_
    have hO := hO.no
    have hO : Obs _ _ [_] := hO
    refine wpn_lp (fun (n : Nat) e' σ' => ∃ (A319 : Option Addr) (c320 : Nat) (x321 : List UInt8) (A323 : Option Addr) (c324 : Nat) (o325 : Ob) (x326 : List za) (x328 : Int) (x329 : Int) (τ' : Hp), agr [(0, .slice A0 p0.length c0), (3, .slice A319 x321.length c320), (4, .slice A323 x326.length c324), (5, .int .i64 x328), (6, .int .i64 x329)] e' ∧ Obs τ' σ' [o325] ∧ Hp.le τ τ' ∧ RdT zb τ' (.slice A0 p0.length c0) p0 ∧ RdT Ty.u8 τ' (.slice A319 x321.length c320) x321 ∧ OwnO zb 58 τ' (.slice A323 x326.length c324) x326 o325 ∧ zA p0 n x321 x326 x328 x329 = some rr) big ⟨none, 0, [], none, 0, none, [], 0, 0, _, ar (ar (ar (ar (ar trivial)))), hO, hL, r0, RdT.nil _ _, OwnO.nil _ _ _, hF⟩ ?_
    clear hF hO hL
    rintro n509 e σ ⟨A319, c320, x321, A323, c324, o325, x326, x328, x329, _, hA, hO, hL, r318, r322, w327, hF⟩
    rw [← sets_agr _ _ hA]
    cases n509 with
    | zero => exact nomatch (show none = some rr from hF)
    | succ n509 =>
      replace hF : zz (zA p0 n509) p0 x321 x326 x328 x329 = some rr := hF
      unfold zz at hF
      refine wpn_assoc ?_
      refine wpn_qa hO [] [(0, .slice A0 p0.length c0), (3, .slice A319 x321.length c320), (4, .slice A323 x326.length c324), (5, .int .i64 x328), (6, .int .i64 x329), (22, .bool (decide (x329 < (p0.length : Int))))] (ar (ar (ar (ar (ar (ar trivial)))))) fun j => ?_
      rcases ite_some hF with ⟨hb510, hF⟩ | ⟨hb510, hF⟩
      · refine wpn_cT (congrArg Value.bool hb510) ?_
        refine wpn_sk ?_
        refine wpn_bl ?_
        refine wpn_assoc ?_
        refine wpn_q hO 2 [] [(0, .slice A0 p0.length c0), (3, .slice A319 x321.length c320), (4, .slice A323 x326.length c324), (5, .int .i64 x328), (6, .int .i64 x329), (25, .slice A0 p0.length c0), (26, .int .i64 x329)] (ar (ar (ar (ar (ar (ar (ar trivial))))))) fun j => ?_
        obtain ⟨y511, g512, hF⟩ := bind_some hF
        refine wpn_idx (T := zb) r318 hO.base rfl rfl g512 (by decide) fun a513 _ k514 m515 => ?_
        obtain rfl : _ = ([.int .u8 y511.Kind.toNat, .int .i64 y511.High, .int .i64 y511.Low, .int .i64 y511.Place, .string y511.Text] : List Value) := k514
        refine wpn_q hO 1 [] [(0, .slice A0 p0.length c0), (3, .slice A319 x321.length c320), (4, .slice A323 x326.length c324), (5, .int .i64 x328), (6, .int .i64 x329), (28, .pointer (some (a513.add 4)))] (ar (ar (ar (ar (ar (ar trivial)))))) fun j => ?_
        refine wpn_ld rfl ((m515.le hO.base).one 4 rfl) ?_
        refine wpn_qa hO [] [(0, .slice A0 p0.length c0), (3, .slice A319 x321.length c320), (4, .slice A323 x326.length c324), (5, .int .i64 x328), (6, .int .i64 x329), (31, .bool (decide ((y511.Text.size : Int) > 1000)))] (ar (ar (ar (ar (ar (ar trivial)))))) fun j => ?_
        rcases ite_some hF with ⟨hb516, hF⟩ | ⟨hb516, hF⟩
        · refine wpn_cT (congrArg Value.bool hb516) ?_
          refine wpn_assoc ?_
          obtain ⟨c517, h518, hF⟩ := bind_some hF
          refine wpn_c0 hO (zH h518) rfl fun _ σ _ _ hO h519 h520 => ?_
          have hL := hL.trans h519
          have r318 := r318.le h519
          have r322 := r322.le h519
          have w327 := w327.le h519
          obtain ⟨rfl, rfl⟩ := h520
          have hO : Obs _ _ [_] := hO
          refine wpn_qa hO [] [(2, .bool c517)] (ar trivial) fun j => ?_
          refine wpn_rt ?_
          refine inb_r1 ?_
          refine thn_r1 ?_
          refine thn_r1 ?_
          refine inb_r1 ?_
          refine thn_r1 ?_
          injection hF with hF
          subst hF
          have hO := hO.sel [] (by decide)
          exact hQ _ _ _ _ _ rfl hO hL ⟨rfl, rfl⟩
        · refine wpn_cF (congrArg Value.bool hb516) ?_
          refine wpn_sk ?_
          refine wpn_p2r ?_
          refine wpn_q hO 3 [] [(0, .slice A0 p0.length c0), (3, .slice A319 x321.length c320), (4, .slice A323 x326.length c324), (5, .int .i64 x328), (6, .int .i64 x329), (34, .slice A319 x321.length c320), (36, .slice A0 p0.length c0), (37, .int .i64 x329)] (ar (ar (ar (ar (ar (ar (ar (ar trivial)))))))) fun j => ?_
          obtain ⟨y521, g522, hF⟩ := bind_some hF
          refine wpn_idx (T := zb) r318 hO.base rfl rfl g522 (by decide) fun a523 _ k524 m525 => ?_
          obtain rfl : _ = ([.int .u8 y521.Kind.toNat, .int .i64 y521.High, .int .i64 y521.Low, .int .i64 y521.Place, .string y521.Text] : List Value) := k524
          refine wpn_ld rfl ((m525.le hO.base).all rfl) ?_
          refine wpn_late ?_
          obtain ⟨c526, h527, hF⟩ := bind_some hF
          refine wpn_c0 hO (z3 r322 h527) rfl fun _ σ _ _ hO h528 h529 => ?_
          have hL := hL.trans h528
          have r318 := r318.le h528
          have r322 := r322.le h528
          have w327 := w327.le h528
          have m525 := m525.le h528
          obtain ⟨v530, o533, rfl, rfl, w534⟩ := h529
          obtain ⟨A531, c532, rfl, -⟩ := w534.form
          have hO : Obs _ _ [_, _] := hO
          refine wpn_nil ?_
          refine wpn_ag ⟨(again_ld rfl ((m525.le hO.base).all rfl) rfl), trivial⟩ ?_
          obtain ⟨c535, h536, hF⟩ := bind_some hF
          refine wpn_c (hs := [_]) (vs := [_]) hO (zbc w534 h536) rfl fun _ σ _ _ hO h537 h538 => ?_
          have hL := hL.trans h537
          have r318 := r318.le h537
          have r322 := r322.le h537
          have w327 := w327.le h537
          have m525 := m525.le h537
          obtain ⟨v539, o542, rfl, rfl, w543⟩ := h538
          obtain ⟨A540, c541, rfl, -⟩ := w543.form
          have hO : Obs _ _ [_, _] := hO
          refine wpn_qa hO [] [(0, .slice A0 p0.length c0), (3, .slice A319 x321.length c320), (4, .slice A323 x326.length c324), (5, .int .i64 x328), (6, .int .i64 x329), (7, .slice A540 c535.1.length c541), (8, .bool c535.2)] (ar (ar (ar (ar (ar (ar (ar trivial))))))) fun j => ?_
          refine wpn_qa hO [] [(0, .slice A0 p0.length c0), (3, .slice A319 x321.length c320), (4, .slice A323 x326.length c324), (5, .int .i64 x328), (6, .int .i64 x329), (7, .slice A540 c535.1.length c541), (43, .bool c535.2)] (ar (ar (ar (ar (ar (ar (ar trivial))))))) fun j => ?_
          refine wpn_clast ?_
          rcases ite_some hF with ⟨hb544, hF⟩ | ⟨hb544, hF⟩
          · refine wpn_cT (congrArg Value.bool hb544) ?_
            refine wpn_assoc ?_
            refine wpn_qa hO [] [(0, .slice A0 p0.length c0), (4, .slice A323 x326.length c324), (5, .int .i64 (x321.length : Int)), (6, .int .i64 x329), (7, .slice A540 c535.1.length c541)] (ar (ar (ar (ar (ar trivial))))) fun j => ?_
            refine wpn_assoc ?_
            refine wpn_qa hO [] [(0, .slice A0 p0.length c0), (3, .slice A540 c535.1.length c541), (4, .slice A323 x326.length c324), (5, .int .i64 (x321.length : Int)), (6, .int .i64 x329)] (ar (ar (ar (ar (ar trivial))))) fun j => ?_
            refine wpn_q hO 3 [] [(0, .slice A0 p0.length c0), (3, .slice A540 c535.1.length c541), (5, .int .i64 (x321.length : Int)), (6, .int .i64 x329), (47, .slice A323 x326.length c324), (48, .slice A0 p0.length c0), (49, .int .i64 x329)] (ar (ar (ar (ar (ar (ar (ar trivial))))))) fun j => ?_
            obtain ⟨y545, g546, hF⟩ := bind_some hF
            refine wpn_idx (T := zb) r318 hO.base rfl rfl g546 (by decide) fun a547 _ k548 m549 => ?_
            obtain rfl : _ = ([.int .u8 y545.Kind.toNat, .int .i64 y545.High, .int .i64 y545.Low, .int .i64 y545.Place, .string y545.Text] : List Value) := k548
            refine wpn_ld rfl ((m549.le hO.base).all rfl) ?_
            obtain ⟨_, hr, hF⟩ := bind_some hF
            refine wpn_ap1 (T := zb) (y := (⟨y545.Kind, y545.High, y545.Low, y545.Place, y545.Text⟩ : za)) hO w327 (i := 0) rfl rfl (fun _ => rfl) rfl rfl rfl hr (by decide) fun u _ σ o552 w553 hO => ?_
            obtain ⟨A550, c551, rfl, -⟩ := w553.form
            have hO : Obs _ _ [_, _] := hO
            refine wpn_qa hO [] [(0, .slice A0 p0.length c0), (3, .slice A540 c535.1.length c541), (4, .slice A550 (x326 ++ [(⟨y545.Kind, y545.High, y545.Low, y545.Place, y545.Text⟩ : za)]).length c551), (5, .int .i64 (x321.length : Int)), (6, .int .i64 x329)] (ar (ar (ar (ar (ar trivial))))) fun j => ?_
            refine wpn_end ?_
            refine inb_i ?_
            refine thn_i ?_
            refine wpn_rlast ?_
            refine wpn_qa hO [] [(0, .slice A0 p0.length c0), (3, .slice A540 c535.1.length c541), (4, .slice A550 (x326 ++ [(⟨y545.Kind, y545.High, y545.Low, y545.Place, y545.Text⟩ : za)]).length c551), (5, .int .i64 (x321.length : Int)), (6, .int .i64 (IntKind.i64.wrap (x329 + 1)))] (ar (ar (ar (ar (ar trivial))))) fun j => ?_
            refine wpn_end ?_
            refine thn_i ?_
            obtain ⟨_, h555, r554, hO⟩ := w543.share hO (i := 1) rfl
            have hL := hL.trans h555
            have r318 := r318.le h555
            have w553 := w553.le h555
            have hO : Obs _ _ [_, _] := hO
            have hO := hO.sel [0] (by decide)
            exact ⟨n509, Nat.lt_succ_self _, A540, c541, c535.1, A550, c551, o552, (x326 ++ [(⟨y545.Kind, y545.High, y545.Low, y545.Place, y545.Text⟩ : za)]), (x321.length : Int), (IntKind.i64.wrap (x329 + 1)), _, ar (ar (ar (ar (ar trivial)))), hO, hL, r318, r554, w553, hF⟩
          · refine wpn_cF (congrArg Value.bool hb544) ?_
            refine wpn_sk ?_
            refine wpn_end ?_
            refine inb_i ?_
            refine thn_i ?_
            refine wpn_rlast ?_
            refine wpn_qa hO [] [(0, .slice A0 p0.length c0), (3, .slice A319 x321.length c320), (4, .slice A323 x326.length c324), (5, .int .i64 x328), (6, .int .i64 (IntKind.i64.wrap (x329 + 1)))] (ar (ar (ar (ar (ar trivial))))) fun j => ?_
            refine wpn_end ?_
            refine thn_i ?_
            have hO := hO.sel [0] (by decide)
            exact ⟨n509, Nat.lt_succ_self _, A319, c320, x321, A323, c324, o325, x326, x328, (IntKind.i64.wrap (x329 + 1)), _, ar (ar (ar (ar (ar trivial)))), hO, hL, r318, r322, w327, hF⟩
      · refine wpn_cF (congrArg Value.bool hb510) ?_
        refine wpn_ex ?_
        refine thn_x ?_
        refine inb_x ?_
        refine thn_i ?_
        refine wpn_qa hO [] [(3, .slice A319 x321.length c320), (4, .slice A323 x326.length c324), (5, .int .i64 x328), (9, .int .i64 0)] (ar (ar (ar (ar trivial)))) fun j => ?_
        refine wpn_assoc ?_
        refine wpn_qa hO [] [(3, .slice A319 x321.length c320), (4, .slice A323 x326.length c324), (5, .int .i64 x328), (9, .int .i64 0), (10, .int .i64 0)] (ar (ar (ar (ar (ar trivial))))) fun j => ?_
        refine wpn_bl ?_
        refine wpn_lp (fun (n : Nat) e' σ' => ∃ (A603 : Option Addr) (c604 : Nat) (o605 : Ob) (x606 : List za) (x608 : Int) (x609 : Int) (τ' : Hp), agr [(3, .slice A319 x321.length c320), (4, .slice A603 x606.length c604), (5, .int .i64 x328), (9, .int .i64 x608), (10, .int .i64 x609)] e' ∧ Obs τ' σ' [o605] ∧ Hp.le τ τ' ∧ RdT Ty.u8 τ' (.slice A319 x321.length c320) x321 ∧ OwnO zb 58 τ' (.slice A603 x606.length c604) x606 o605 ∧ zs x321 x328 n x606 x608 x609 = some rr) big ⟨A323, c324, o325, x326, 0, 0, _, ar (ar (ar (ar (ar trivial)))), hO, hL, r322, w327, hF⟩ ?_
        clear hF hO hL
        rintro n650 e σ ⟨A603, c604, o605, x606, x608, x609, _, hA, hO, hL, r602, w607, hF⟩
        rw [← sets_agr _ _ hA]
        cases n650 with
        | zero => exact nomatch (show none = some rr from hF)
        | succ n650 =>
          replace hF : zp (zs x321 x328 n650) x321 x328 x606 x608 x609 = some rr := hF
          unfold zp at hF
          refine wpn_assoc ?_
          refine wpn_qa hO [] [(3, .slice A319 x321.length c320), (4, .slice A603 x606.length c604), (5, .int .i64 x328), (9, .int .i64 x608), (10, .int .i64 x609), (57, .bool (decide (x609 < (x606.length : Int))))] (ar (ar (ar (ar (ar (ar trivial)))))) fun j => ?_
          rcases ite_some hF with ⟨hb651, hF⟩ | ⟨hb651, hF⟩
          · refine wpn_cT (congrArg Value.bool hb651) ?_
            refine wpn_sk ?_
            refine wpn_bl ?_
            refine wpn_q hO 4 [] [(3, .slice A319 x321.length c320), (4, .slice A603 x606.length c604), (5, .int .i64 x328), (9, .int .i64 x608), (10, .int .i64 x609), (61, .slice A319 x321.length c320), (62, .int .i64 x608), (63, .slice A603 x606.length c604), (64, .int .i64 x609)] (ar (ar (ar (ar (ar (ar (ar (ar (ar trivial))))))))) fun j => ?_
            obtain ⟨y652, g653, hF⟩ := bind_some hF
            refine wpn_ido (T := zb) hO w607 (i := 0) rfl rfl rfl g653 (by decide) fun a654 _ k655 m656 i657 => ?_
            have k658 := k655
            obtain rfl : _ = ([.int .u8 y652.Kind.toNat, .int .i64 y652.High, .int .i64 y652.Low, .int .i64 y652.Place, .string y652.Text] : List Value) := k658
            refine wpn_ld rfl (m656.all rfl) ?_
            obtain ⟨c659, h660, hF⟩ := bind_some hF
            refine wpn_c0 hO (zX r602 h660) rfl fun _ σ _ _ hO h661 h662 => ?_
            have hL := hL.trans h661
            have r602 := r602.le h661
            have w607 := w607.le h661
            obtain ⟨rfl, rfl⟩ := h662
            have hO : Obs _ _ [_] := hO
            refine wpn_qa hO [] [(3, .slice A319 x321.length c320), (4, .slice A603 x606.length c604), (5, .int .i64 x328), (9, .int .i64 x608), (10, .int .i64 x609), (11, .int .i64 c659.1), (12, .bool c659.2)] (ar (ar (ar (ar (ar (ar (ar trivial))))))) fun j => ?_
            refine wpn_assoc ?_
            refine wpn_qa hO [] [(3, .slice A319 x321.length c320), (4, .slice A603 x606.length c604), (5, .int .i64 x328), (10, .int .i64 x609), (11, .int .i64 c659.1), (76, .bool ((!c659.2) || (decide (c659.1 ≤ x608))))] (And.intro (And.intro rfl rfl) (fun _ => ar (ar (ar (ar (ar (ar trivial))))))) fun j => ?_
            rcases ite_some hF with ⟨hb663, hF⟩ | ⟨hb663, hF⟩
            · refine wpn_cT (congrArg Value.bool hb663) ?_
              refine wpn_assoc ?_
              refine wpn_qa hO [] [(2, .bool false)] (ar trivial) fun j => ?_
              refine wpn_rt ?_
              refine inb_r1 ?_
              refine thn_r1 ?_
              refine thn_r1 ?_
              refine inb_r1 ?_
              refine thn_r1 ?_
              injection hF with hF
              subst hF
              have hO := hO.sel [] (by decide)
              exact hQ _ _ _ _ _ rfl hO hL ⟨rfl, rfl⟩
            · refine wpn_cF (congrArg Value.bool hb663) ?_
              refine wpn_sk ?_
              refine wpn_rlast ?_
              refine wpn_qa hO [] [(3, .slice A319 x321.length c320), (4, .slice A603 x606.length c604), (5, .int .i64 x328), (9, .int .i64 c659.1), (10, .int .i64 x609)] (ar (ar (ar (ar (ar trivial))))) fun j => ?_
              refine wpn_end ?_
              refine inb_i ?_
              refine thn_i ?_
              refine wpn_rlast ?_
              refine wpn_qa hO [] [(3, .slice A319 x321.length c320), (4, .slice A603 x606.length c604), (5, .int .i64 x328), (9, .int .i64 c659.1), (10, .int .i64 (IntKind.i64.wrap (x609 + 1)))] (ar (ar (ar (ar (ar trivial))))) fun j => ?_
              refine wpn_end ?_
              refine thn_i ?_
              exact ⟨n650, Nat.lt_succ_self _, A603, c604, o605, x606, c659.1, (IntKind.i64.wrap (x609 + 1)), _, ar (ar (ar (ar (ar trivial)))), hO, hL, r602, w607, hF⟩
          · refine wpn_cF (congrArg Value.bool hb651) ?_
            refine wpn_ex ?_
            refine thn_x ?_
            refine inb_x ?_
            refine thn_i ?_
            refine wpn_assoc ?_
            refine wpn_qa hO [] [(3, .slice A319 x321.length c320), (4, .slice A603 x606.length c604), (5, .int .i64 x328), (81, .bool (x608 != (x321.length : Int)))] (ar (ar (ar (ar trivial)))) fun j => ?_
            rcases ite_some hF with ⟨hb664, hF⟩ | ⟨hb664, hF⟩
            · refine wpn_cT (congrArg Value.bool hb664) ?_
              refine wpn_assoc ?_
              refine wpn_qa hO [] [(2, .bool false)] (ar trivial) fun j => ?_
              refine wpn_rt ?_
              injection hF with hF
              subst hF
              have hO := hO.sel [] (by decide)
              exact hQ _ _ _ _ _ rfl hO hL ⟨rfl, rfl⟩
            · refine wpn_cF (congrArg Value.bool hb664) ?_
              refine wpn_sk ?_
              refine wpn_assoc ?_
              refine wpn_qa hO [] [(3, .slice A319 x321.length c320), (4, .slice A603 x606.length c604), (5, .int .i64 x328), (84, .bool (decide ((x606.length : Int) > 0)))] (ar (ar (ar (ar trivial)))) fun j => ?_
              rcases ite_some hF with ⟨hb665, hF⟩ | ⟨hb665, hF⟩
              · refine wpn_cT (congrArg Value.bool hb665) ?_
                refine wpn_assoc ?_
                refine wpn_p2r ?_
                refine wpn_q hO 4 [] [(4, .slice A603 x606.length c604), (5, .int .i64 x328), (86, .slice A319 x321.length c320), (89, .int .i64 (IntKind.i64.wrap ((x321.length : Int) - 1)))] (ar (ar (ar (ar trivial)))) fun j => ?_
                obtain ⟨y666, g667, hF⟩ := bind_some hF
                refine wpn_sl (T := Ty.u8) r602 rfl rfl rfl g667 fun _ r668 => ?_
                obtain ⟨A669, c670, rfl, -⟩ := r668.form
                refine wpn_q hO 5 [] [(90, .slice A669 y666.length c670), (91, .int .i64 x328), (92, .slice A603 x606.length c604), (95, .int .i64 (IntKind.i64.wrap ((x606.length : Int) - 1)))] (ar (ar (ar (ar trivial)))) fun j => ?_
                obtain ⟨y671, g672, hF⟩ := bind_some hF
                refine wpn_ido (T := zb) hO w607 (i := 0) rfl rfl rfl g672 (by decide) fun a673 _ k674 m675 i676 => ?_
                have k677 := k674
                obtain rfl : _ = ([.int .u8 y671.Kind.toNat, .int .i64 y671.High, .int .i64 y671.Low, .int .i64 y671.Place, .string y671.Text] : List Value) := k677
                refine wpn_ld rfl (m675.all rfl) ?_
                obtain ⟨c678, h679, hF⟩ := bind_some hF
                refine wpn_c0 hO (zX r668 h679) rfl fun _ σ _ _ hO h680 h681 => ?_
                have hL := hL.trans h680
                have r668 := r668.le h680
                have w607 := w607.le h680
                obtain ⟨rfl, rfl⟩ := h681
                have hO : Obs _ _ [_] := hO
                refine wpn_qa hO [] [(14, .bool c678.2)] (ar trivial) fun j => ?_
                refine wpn_assoc ?_
                refine wpn_qa hO [] [(101, .bool c678.2)] (ar trivial) fun j => ?_
                rcases ite_some hF with ⟨hb682, hF⟩ | ⟨hb682, hF⟩
                · refine wpn_cT (congrArg Value.bool hb682) ?_
                  refine wpn_assoc ?_
                  refine wpn_qa hO [] [(2, .bool false)] (ar trivial) fun j => ?_
                  refine wpn_rt ?_
                  injection hF with hF
                  subst hF
                  have hO := hO.sel [] (by decide)
                  exact hQ _ _ _ _ _ rfl hO hL ⟨rfl, rfl⟩
                · refine wpn_cF (congrArg Value.bool hb682) ?_
                  refine wpn_sk ?_
                  obtain ⟨c683, h684, hF⟩ := bind_some hF
                  refine wpn_c0 hO (zH h684) rfl fun _ σ _ _ hO h685 h686 => ?_
                  have hL := hL.trans h685
                  obtain ⟨rfl, rfl⟩ := h686
                  have hO : Obs _ _ [_] := hO
                  refine wpn_qa hO [] [(2, .bool c683)] (ar trivial) fun j => ?_
                  refine wpn_r1 ?_
                  injection hF with hF
                  subst hF
                  have hO := hO.sel [] (by decide)
                  exact hQ _ _ _ _ _ rfl hO hL ⟨rfl, rfl⟩
              · refine wpn_cF (congrArg Value.bool hb665) ?_
                refine wpn_sk ?_
                obtain ⟨c687, h688, hF⟩ := bind_some hF
                refine wpn_c0 hO (zH h688) rfl fun _ σ _ _ hO h689 h690 => ?_
                have hL := hL.trans h689
                have r602 := r602.le h689
                have w607 := w607.le h689
                obtain ⟨rfl, rfl⟩ := h690
                have hO : Obs _ _ [_] := hO
                refine wpn_qa hO [] [(2, .bool c687)] (ar trivial) fun j => ?_
                refine wpn_r1 ?_
                injection hF with hF
                subst hF
                have hO := hO.sel [] (by decide)
                exact hQ _ _ _ _ _ rfl hO hL ⟨rfl, rfl⟩
end Go.Proofs.Ytmcfgapknoiohaa
