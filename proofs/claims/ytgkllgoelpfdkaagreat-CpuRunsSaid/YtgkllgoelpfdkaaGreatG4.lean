import Derived.Test.YtgkllgoelpfdkaaGreatG3
namespace Go.Proofs.YtgkllgoelpfdkaaGreat
open Go.Ab Go.RowKit
set_option linter.unusedVariables false
set_option linter.unusedSimpArgs false
set_option maxRecDepth 10000
set_option maxHeartbeats 1000000
theorem zpb {τ : Hp} {v0 : Value} {p0 : (List UInt8)} {p1 : Int} (r0 : RdT Ty.u8 τ v0 p0) {rr : Int × Int × Int} (hF : zgd p0 p1 = some rr) :
  Ctr Tryz.prog 50 #[v0, .int .i64 p1] τ [] (fun v τ' vs' => v = .tuple #[.int .u64 rr.1, .int .i64 rr.2.1, .int .i64 rr.2.2] ∧ vs' = []) := by
 obtain ⟨A0, c0, rfl, -⟩ := r0.form
 refine zu (args := [.slice A0 p0.length c0, .int .i64 p1]) hm Tryz.func50 s50 rfl fun w0 σ hO Q hQ => ?_
 unfold zgd at hF
 have hL := Hp.le.refl τ
 show wpn _ _ a50.body _ _ _
 unfold a50
 dsimp only
 refine za hO [] [] [0, 1] zsN fun j => ?_
 refine zb (za hO [] [(16, .bool ((decide (p1 < 0)) || (decide (p1 > (p0.length : Int)))))] [0, 1] (And.intro (And.intro rfl rfl) (fun _ => zs1 zsN)) fun j => ?_)
 refine zi hF rfl (fun hF => ?_) fun hF => ?_
 ·refine zb (zj hO [] [(4, .int .u64 0), (5, zs2 0), (6, zs2 1)] zsO fun j => ?_)
  refine zp ?_
  cases hF
  exact hQ _ _ _ _ _ rfl hO hL ⟨rfl, rfl⟩
 refine zl (zc hO 2 [] [(17, zs9 A0 p0 c0), (18, zs2 p1)] [0, 1] zsP fun j => ?_)
 obtain ⟨c4, h5, hF⟩ := zs8 hF
 refine zo hO (zmL (r0.le hL) h5) rfl fun _ σ _ _ hO h6 h7 => ?_
 have hL := hL.trans h6
 obtain ⟨rfl, rfl⟩ := h7
 have hO : Obs _ _ [] := hO
 refine za hO [] [(7, zs2 c4)] [0, 1] zsO fun j => ?_
 refine zc hO 3 [] [(20, zs9 A0 p0 c0), (21, zs2 p1), (22, zs2 c4)] [0, 1, 7] zsR fun j => ?_
 obtain ⟨c8, h9, hF⟩ := zs8 hF
 refine zo hO (znh (r0.le hL) h9) rfl fun _ σ _ _ hO h10 h11 => ?_
 have hL := hL.trans h10
 obtain ⟨rfl, rfl⟩ := h11
 have hO : Obs _ _ [] := hO
 refine za hO [] [(8, .int .u64 c8)] [0, 1, 7] zsP fun j => ?_
 refine zb (zc hO 3 [] [(26, .bool (c4 == 0))] [0, 1, 7, 8] zsQ fun j => ?_)
 obtain ⟨c12, h13, hF⟩ := zs8 hF
 refine zbN 2 (fun e' σ' => ∃ (τ' : Hp), agr [(33, .bool c12), (1, zs2 p1), (7, zs2 c4), (8, .int .u64 c8)] e' ∧ Obs τ' σ' [] ∧ Hp.le τ τ') ?_ ?_
 ·have hF := h13
  rcases z1 hF with ⟨hb14, hF⟩ | ⟨hb14, hF⟩
  ·refine zP (zs5 hb14) ?_
   refine zw (zs4 hb14) ?_
   refine ze ?_
   cases hF
   refine zg ?_
   exact ⟨rfl, _, zs1 zsO, hO, hL⟩
  refine zK (zs5 hb14) ?_
  refine zc hO 3 [] [(27, zs9 A0 p0 c0), (28, zs2 p1), (29, .int .u64 c8)] [1, 7, 8, 26] zsS fun j => ?_
  obtain ⟨c15, h16, hF⟩ := zs8 hF
  refine zo hO (zm5 (RdT.nil Ty.u8 _) h16) rfl fun _ σ _ _ hO h17 h18 => ?_
  have hL := hL.trans h17
  obtain ⟨v19, o22, rfl, rfl, w23⟩ := h18
  obtain ⟨A20, c21, rfl, -⟩ := w23.form
  have hO := zs71 hO
  obtain ⟨_, h25, r24, hO⟩ := w23.share hO (i := 0) rfl
  have hL := hL.trans h25
  have hO := zs71 hO
  obtain ⟨c26, h27, hF⟩ := zs8 hF
  refine zo hO (zm2 (r0.le hL) r24 h27) rfl fun _ σ _ _ hO h28 h29 => ?_
  have hL := hL.trans h28
  have r24 := r24.le h28
  obtain ⟨rfl, rfl⟩ := h29
  have hO := zs71 hO
  refine zZ hO 1 [] [(1, zs2 p1), (7, zs2 c4), (8, .int .u64 c8), (26, .bool (c4 == 0)), (32, .bool (!c26))] zsQ fun j => ?_
  refine zw (zs4 hb14) ?_
  refine ze ?_
  cases hF
  refine zg ?_
  have hO := hO.sel []
  exact ⟨rfl, _, zs1 zsO, hO, hL⟩
 rintro e σ ⟨_, hA, hO, hL⟩
 rw [← zD _ _ hA]
 refine ze (zi hF rfl (fun hF => ?_) fun hF => ?_)
 ·refine zb (zj hO [] [(4, .int .u64 0), (5, zs2 0), (6, zs2 5)] zsO fun j => ?_)
  refine zp ?_
  cases hF
  exact hQ _ _ _ _ _ rfl hO hL ⟨rfl, rfl⟩
 refine zl (zj hO [] [(4, .int .u64 c8), (5, zs2 (IntKind.i64.wrap (p1 + c4))), (6, zs2 0)] zsO fun j => ?_)
 refine zq ?_
 cases hF
 exact hQ _ _ _ _ _ rfl hO hL ⟨rfl, rfl⟩
theorem zqV {τ : Hp} {v0 : Value} {p0 : (List UInt8)} {p1 : Int} (r0 : RdT Ty.u8 τ v0 p0) {rr : Int × Int × Int} (hF : zfr p0 p1 = some rr) :
  Ctr Tryz.prog 51 #[v0, .int .i64 p1] τ [] (fun v τ' vs' => v = .tuple #[.int .i64 rr.1, .int .i64 rr.2.1, .int .i64 rr.2.2] ∧ vs' = []) := by
 obtain ⟨A0, c0, rfl, -⟩ := r0.form
 refine zu (args := [.slice A0 p0.length c0, .int .i64 p1]) hm Tryz.func51 s51 rfl fun w0 σ hO Q hQ => ?_
 unfold zfr at hF
 have hL := Hp.le.refl τ
 show wpn _ _ a51.body _ _ _
 unfold a51
 dsimp only
 refine za hO [] [] [0, 1] zsN fun j => ?_
 refine zc hO 2 [] [(8, zs9 A0 p0 c0), (9, zs2 p1)] [0, 1] zsP fun j => ?_
 obtain ⟨c3, h4, hF⟩ := zs8 hF
 refine zo hO (zl7 (r0.le hL) h4) rfl fun _ σ _ _ hO h5 h6 => ?_
 have hL := hL.trans h5
 obtain ⟨rfl, rfl⟩ := h6
 have hO : Obs _ _ [] := hO
 refine za hO [] [(7, zs2 c3)] [0, 1] zsO fun j => ?_
 refine zb (za hO [] [(12, .bool (c3 != 0))] [0, 1, 7] zsP fun j => ?_)
 refine zi hF rfl (fun hF => ?_) fun hF => ?_
 ·refine zb (zj hO [] [(4, zs2 0), (5, zs2 0), (6, zs2 c3)] zsO fun j => ?_)
  refine zp ?_
  cases hF
  exact hQ _ _ _ _ _ rfl hO hL ⟨rfl, rfl⟩
 refine zl (z8 (zc hO 2 [] [(14, zs9 A0 p0 c0), (15, zs2 p1)] [0, 1] zsP fun j => ?_))
 obtain ⟨y8, g9, hF⟩ := zs8 hF
 refine zbJ (T := Ty.u8) (r0.le hL) hO.base rfl rfl g9 (by decide) fun a10 _ k11 m12 => ?_
 obtain rfl : _ = ([.int .u8 y8.toNat] : List Value) := k11
 refine zL rfl (m12.le hO.base).fst ?_
 refine zc hO 5 [] [(19, zs2 (IntKind.i64.wrap (65536 * (IntKind.i64.wrap (y8.toNat : Int))))), (20, zs9 A0 p0 c0), (22, zs2 (IntKind.i64.wrap (p1 + 1)))] [0, 1] zsQ fun j => ?_
 obtain ⟨y13, g14, hF⟩ := zs8 hF
 refine zbJ (T := Ty.u8) (r0.le hL) hO.base rfl rfl g14 (by decide) fun a15 _ k16 m17 => ?_
 obtain rfl : _ = ([.int .u8 y13.toNat] : List Value) := k16
 refine zL rfl (m17.le hO.base).fst ?_
 refine zc hO 6 [] [(27, zs2 (IntKind.i64.wrap ((IntKind.i64.wrap (65536 * (IntKind.i64.wrap (y8.toNat : Int)))) + (IntKind.i64.wrap (256 * (IntKind.i64.wrap (y13.toNat : Int))))))), (28, zs9 A0 p0 c0), (30, zs2 (IntKind.i64.wrap (p1 + 2)))] [1] zsP fun j => ?_
 obtain ⟨y18, g19, hF⟩ := zs8 hF
 refine zbJ (T := Ty.u8) (r0.le hL) hO.base rfl rfl g19 (by decide) fun a20 _ k21 m22 => ?_
 obtain rfl : _ = ([.int .u8 y18.toNat] : List Value) := k21
 refine zL rfl (m22.le hO.base).fst ?_
 refine zj hO [] [(4, zs2 (IntKind.i64.wrap ((IntKind.i64.wrap ((IntKind.i64.wrap (65536 * (IntKind.i64.wrap (y8.toNat : Int)))) + (IntKind.i64.wrap (256 * (IntKind.i64.wrap (y13.toNat : Int)))))) + (IntKind.i64.wrap (y18.toNat : Int))))), (5, zs2 (IntKind.i64.wrap (p1 + 3))), (6, zs2 0)] zsO fun j => ?_
 refine zq ?_
 cases hF
 exact hQ _ _ _ _ _ rfl hO hL ⟨rfl, rfl⟩
theorem znk {τ : Hp} {v0 : Value} {p0 : (List UInt8)} {p1 : Int} (r0 : RdT Ty.u8 τ v0 p0) {rr : zf × Int × Int} (hF : zeN p0 p1 = some rr) :
  Ctr Tryz.prog 33 #[v0, .int .i64 p1] τ [] (fun v τ' vs' => v = .tuple #[.agg #[.int .u8 rr.1.Kind.toNat, .int .u8 rr.1.Op.toNat, .int .i64 rr.1.R, .int .i64 rr.1.S, .int .i64 rr.1.T, .int .i64 rr.1.N, .int .i64 rr.1.M], .int .i64 rr.2.1, .int .i64 rr.2.2] ∧ vs' = []) := by
 obtain ⟨A0, c0, rfl, -⟩ := r0.form
 refine zu (args := [.slice A0 p0.length c0, .int .i64 p1]) hm Tryz.func33 s33 rfl fun w0 σ hO Q hQ => ?_
 unfold zeN at hF
 have hL := Hp.le.refl τ
 show wpn _ _ a33.body _ _ _
 unfold a33
 dsimp only
 refine zbE hO fun b3 σ hO => ?_
 have hO := zs71 hO
 refine za hO [] [] [0, 1, 4] zsO fun j => ?_
 refine zbE hO fun b4 σ hO => ?_
 have hO := zs72 hO
 refine ze (zb (za hO [] [(28, .bool ((decide (p1 < 0)) || (decide (p1 > (p0.length : Int)))))] [0, 1, 4, 7] (And.intro (And.intro rfl rfl) (fun _ => zs1 zsP)) fun j => ?_))
 refine zi hF rfl (fun hF => ?_) fun hF => ?_
 ·refine zb (zc hO 1 [1] [(29, .agg #[(.int .u8 0), (.int .u8 0), (.int .i64 0), (.int .i64 0), (.int .i64 0), (.int .i64 0), (.int .i64 0)])] [4] (And.intro (And.intro rfl rfl) zsN) fun j => ?_)
  refine zH hO (i := 0) rfl (off := 0) rfl rfl rfl rfl (Nat.le_of_ble_eq_true rfl) rfl fun σ hO => ?_
  have hO := zs72 hO
  refine za hO [] [(5, zs2 0), (6, zs2 1)] [4] zsO fun j => ?_
  refine zp ?_
  cases hF
  have hV0 := hO.val (i := 0) rfl (off := 0) (agg := true) (n := 7) rfl
  have hO := hO.sel []
  exact hQ _ _ _ _ _ (zbH rfl (hV0) (zbZ (zbZ rfl))) hO hL ⟨rfl, rfl⟩
 refine zl (zb (za hO [] [(33, .bool (p1 == (p0.length : Int)))] [0, 1, 4, 7] zsQ fun j => ?_))
 refine zi hF rfl (fun hF => ?_) fun hF => ?_
 ·refine zb (zc hO 1 [1] [(34, .agg #[(.int .u8 0), (.int .u8 0), (.int .i64 0), (.int .i64 0), (.int .i64 0), (.int .i64 0), (.int .i64 0)])] [4] (And.intro (And.intro rfl rfl) zsN) fun j => ?_)
  refine zH hO (i := 0) rfl (off := 0) rfl rfl rfl rfl (Nat.le_of_ble_eq_true rfl) rfl fun σ hO => ?_
  have hO := zs72 hO
  refine za hO [] [(5, zs2 0), (6, zs2 5)] [4] zsO fun j => ?_
  refine zp ?_
  cases hF
  have hV0 := hO.val (i := 0) rfl (off := 0) (agg := true) (n := 7) rfl
  have hO := hO.sel []
  exact hQ _ _ _ _ _ (zbH rfl (hV0) (zbZ (zbZ rfl))) hO hL ⟨rfl, rfl⟩
 refine zl (zc hO 2 [] [(35, zs9 A0 p0 c0), (36, zs2 p1)] [0, 1, 4, 7] zsR fun j => ?_)
 obtain ⟨y7, g8, hF⟩ := zs8 hF
 refine zbJ (T := Ty.u8) (r0.le hL) hO.base rfl rfl g8 (by decide) fun a9 _ k10 m11 => ?_
 obtain rfl : _ = ([.int .u8 y7.toNat] : List Value) := k10
 refine zL rfl (m11.le hO.base).fst ?_
 refine zc hO 1 [] [(39, .agg #[(.int .u8 (y7.toNat : Int)), (.int .u8 0), (.int .i64 0), (.int .i64 0), (.int .i64 0), (.int .i64 0), (.int .i64 0)])] [0, 1, 4, 7] zsQ fun j => ?_
 refine zbE hO fun b12 σ hO => ?_
 have hO := zs73 hO
 refine zH hO (i := 2) rfl (off := 0) rfl rfl rfl rfl (Nat.le_of_ble_eq_true rfl) rfl fun σ hO => ?_
 have hO := zs73 hO
 refine ze (zc hO 2 [2] [(42, .int .u8 (y7.toNat : Int))] [0, 1, 4, 7, 8] (And.intro (And.intro rfl rfl) zsR) fun j => ?_)
 obtain ⟨c13, h14, hF⟩ := zs8 hF
 refine zo hO (zkx h14) rfl fun _ σ _ _ hO h15 h16 => ?_
 have hL := hL.trans h15
 obtain ⟨rfl, rfl⟩ := h16
 have hO := zs73 hO
 refine za hO [] [(9, .string c13.1)] [0, 1, 4, 7, 8] zsR fun j => ?_
 refine za hO [] [(11, zs2 (IntKind.i64.wrap (p1 + 1)))] [0, 1, 4, 7, 8, 9] zsS fun j => ?_
 refine zb (zj hO [] [(0, zs9 A0 p0 c0), (1, zs2 p1), (4, zs3 b3), (7, zs3 b4), (8, zs3 b12), (9, .string c13.1), (11, zs2 (IntKind.i64.wrap (p1 + 1))), (12, zs2 0)] zsT fun j => ?_)
 refine zW (zbG (fun (n : Nat) e' σ' => ∃ (x132 x133 x134 x135 x136 x137 x138 x139 : Int) (τ' : Hp), agr [(0, zs9 A0 p0 c0), (1, zs2 p1), (4, zs3 b3), (7, zs3 b4), (8, zs3 b12), (9, .string c13.1), (11, zs2 x138), (12, zs2 x139)] e' ∧ Obs τ' σ' [zy b3 0 0 0 0 0 0 0, zy b4 0 0 0 0 0 0 0, zy b12 (y7.toNat : Int) x132 x133 x134 x135 x136 x137] ∧ Hp.le τ τ' ∧ zcF p0 p1 y7 c13 n x132 x133 x134 x135 x136 x137 x138 x139 = some rr) big ⟨0, 0, 0, 0, 0, 0, (IntKind.i64.wrap (p1 + 1)), 0, _, zs1 zsS, hO, hL, hF⟩ ?_)
 clear hF hO hL
 rintro n258 e σ ⟨x132, x133, x134, x135, x136, x137, x138, x139, _, hA, hO, hL, hF⟩
 rw [← zD _ _ hA]
 cases n258 with
 | zero => exact nomatch (show none = some rr from hF)
 | succ n258 =>
 replace hF : zdU (zcF p0 p1 y7 c13 n258) p0 p1 y7 c13 x132 x133 x134 x135 x136 x137 x138 x139 = some rr := hF
 unfold zdU at hF
 refine zb (za hO [] [(51, .bool (decide (x139 < (c13.1.size : Int))))] [0, 1, 4, 7, 8, 9, 11, 12] zsU fun j => ?_)
 refine zi hF rfl (fun hF => ?_) fun hF => ?_
 ·refine zl (zW (za hO [] [(13, zs2 0)] [0, 1, 4, 7, 8, 9, 11, 12] zsU fun j => ?_))
  refine za hO [] [(14, .int .u8 0)] [0, 1, 4, 7, 8, 9, 11, 12, 13] zsV fun j => ?_
  refine zb (zc hO 2 [] [(54, .string c13.1), (55, zs2 x139)] [0, 1, 4, 7, 8, 9, 11, 12, 13, 14] zsX fun j => ?_)
  obtain ⟨y260, g261, hF⟩ := zs8 hF
  refine zeL rfl rfl g261 ?_
  refine zc hO 2 [] [(58, .bool ((y260.toNat : Int) == 111))] [0, 1, 4, 7, 8, 9, 11, 12, 13, 14] zsW fun j => ?_
  obtain ⟨c262, h263, hF⟩ := zs8 hF
  refine zcg 2 [(63, .bool c262), (0, zs9 A0 p0 c0), (1, zs2 p1), (4, zs3 b3), (7, zs3 b4), (8, zs3 b12), (9, .string c13.1), (11, zs2 x138), (12, zs2 x139), (13, zs2 0), (14, .int .u8 0)] (fun Q hQ => ?_) fun j => ?_
  ·have hF := h263
   rcases z1 hF with ⟨hb264, hF⟩ | ⟨hb264, hF⟩
   ·refine zP (zs5 hb264) ?_
    refine zw (zs4 hb264) ?_
    refine ze ?_
    cases hF
    refine zg ?_
    exact hQ _ zsW
   refine zK (zs5 hb264) ?_
   refine zc hO 2 [] [(59, .string c13.1), (60, zs2 x139)] [0, 1, 4, 7, 8, 9, 11, 12, 13, 14, 58] zsY fun j => ?_
   obtain ⟨y265, g266, hF⟩ := zs8 hF
   refine zeL rfl rfl g266 ?_
   refine zc hO 1 [] [(62, .bool ((y265.toNat : Int) == 114))] [0, 1, 4, 7, 8, 9, 11, 12, 13, 14, 58] zsX fun j => ?_
   refine zw (zs4 hb264) ?_
   refine ze ?_
   cases hF
   refine zg ?_
   exact hQ _ zsW
  refine zc hO 1 [] [(64, .bool c262)] [0, 1, 4, 7, 8, 9, 11, 12, 13, 14] zsW fun j => ?_
  obtain ⟨c267, h268, hF⟩ := zs8 hF
  refine zcg 2 [(69, .bool c267), (0, zs9 A0 p0 c0), (1, zs2 p1), (4, zs3 b3), (7, zs3 b4), (8, zs3 b12), (9, .string c13.1), (11, zs2 x138), (12, zs2 x139), (13, zs2 0), (14, .int .u8 0)] (fun Q hQ => ?_) fun j => ?_
  ·have hF := h268
   rcases z1 hF with ⟨hb269, hF⟩ | ⟨hb269, hF⟩
   ·refine zP (zs5 hb269) ?_
    refine zw (zs4 hb269) ?_
    refine ze ?_
    cases hF
    refine zg ?_
    exact hQ _ zsW
   refine zK (zs5 hb269) ?_
   refine zc hO 2 [] [(65, .string c13.1), (66, zs2 x139)] [0, 1, 4, 7, 8, 9, 11, 12, 13, 14, 64] zsY fun j => ?_
   obtain ⟨y270, g271, hF⟩ := zs8 hF
   refine zeL rfl rfl g271 ?_
   refine zc hO 1 [] [(68, .bool ((y270.toNat : Int) == 97))] [0, 1, 4, 7, 8, 9, 11, 12, 13, 14, 64] zsX fun j => ?_
   refine zw (zs4 hb269) ?_
   refine ze ?_
   cases hF
   refine zg ?_
   exact hQ _ zsW
  refine zc hO 1 [] [(70, .bool c267)] [0, 1, 4, 7, 8, 9, 11, 12, 13, 14] zsW fun j => ?_
  obtain ⟨c272, h273, hF⟩ := zs8 hF
  refine zcg 2 [(75, .bool c272), (0, zs9 A0 p0 c0), (1, zs2 p1), (4, zs3 b3), (7, zs3 b4), (8, zs3 b12), (9, .string c13.1), (11, zs2 x138), (12, zs2 x139), (13, zs2 0), (14, .int .u8 0)] (fun Q hQ => ?_) fun j => ?_
  ·have hF := h273
   rcases z1 hF with ⟨hb274, hF⟩ | ⟨hb274, hF⟩
   ·refine zP (zs5 hb274) ?_
    refine zw (zs4 hb274) ?_
    refine ze ?_
    cases hF
    refine zg ?_
    exact hQ _ zsW
   refine zK (zs5 hb274) ?_
   refine zc hO 2 [] [(71, .string c13.1), (72, zs2 x139)] [0, 1, 4, 7, 8, 9, 11, 12, 13, 14, 70] zsY fun j => ?_
   obtain ⟨y275, g276, hF⟩ := zs8 hF
   refine zeL rfl rfl g276 ?_
   refine zZ hO 1 [] [(0, zs9 A0 p0 c0), (1, zs2 p1), (4, zs3 b3), (7, zs3 b4), (8, zs3 b12), (9, .string c13.1), (11, zs2 x138), (12, zs2 x139), (13, zs2 0), (14, .int .u8 0), (70, .bool c267), (74, .bool ((y275.toNat : Int) == 116))] zsX fun j => ?_
   refine zw (zs4 hb274) ?_
   refine ze ?_
   cases hF
   refine zg ?_
   exact hQ _ zsW
  refine zc hO 1 [] [(76, .bool c272)] [0, 1, 4, 7, 8, 9, 11, 12, 13, 14] zsW fun j => ?_
  obtain ⟨c277, h278, hF⟩ := zs8 hF
  refine zcg 2 [(81, .bool c277), (0, zs9 A0 p0 c0), (1, zs2 p1), (4, zs3 b3), (7, zs3 b4), (8, zs3 b12), (9, .string c13.1), (11, zs2 x138), (12, zs2 x139), (13, zs2 0), (14, .int .u8 0)] (fun Q hQ => ?_) fun j => ?_
  ·have hF := h278
   rcases z1 hF with ⟨hb279, hF⟩ | ⟨hb279, hF⟩
   ·refine zP (zs5 hb279) ?_
    refine zw (zs4 hb279) ?_
    refine ze ?_
    cases hF
    refine zg ?_
    exact hQ _ zsW
   refine zK (zs5 hb279) ?_
   refine zZ hO 2 [] [(0, zs9 A0 p0 c0), (1, zs2 p1), (4, zs3 b3), (7, zs3 b4), (8, zs3 b12), (9, .string c13.1), (11, zs2 x138), (12, zs2 x139), (13, zs2 0), (14, .int .u8 0), (76, .bool c272), (77, .string c13.1), (78, zs2 x139)] zsY fun j => ?_
   obtain ⟨y280, g281, hF⟩ := zs8 hF
   refine zeL rfl rfl g281 ?_
   refine zc hO 1 [] [(80, .bool ((y280.toNat : Int) == 107))] [0, 1, 4, 7, 8, 9, 11, 12, 13, 14, 76] zsX fun j => ?_
   refine zw (zs4 hb279) ?_
   refine ze ?_
   cases hF
   refine zg ?_
   exact hQ _ zsW
  refine ze (zbK (fun e' σ' => ∃ (x287 x288 x289 : Int) (τ' : Hp), agr [(0, zs9 A0 p0 c0), (1, zs2 p1), (4, zs3 b3), (7, zs3 b4), (8, zs3 b12), (9, .string c13.1), (11, zs2 x287), (12, zs2 x139), (13, zs2 x288), (14, .int .u8 x289)] e' ∧ Obs τ' σ' [zy b3 0 0 0 0 0 0 0, zy b4 0 0 0 0 0 0 0, zy b12 (y7.toNat : Int) x132 x133 x134 x135 x136 x137] ∧ Hp.le τ τ' ∧ zhg (zcF p0 p1 y7 c13 n258) p0 c13 x132 x133 x134 x135 x136 x137 x139 x287 x288 x289 = some rr) ?_ ?_)
  ·refine z5 (zi hF rfl (fun hF => ?_) fun hF => ?_)
   ·refine zZ hO 2 [] [(0, zs9 A0 p0 c0), (1, zs2 p1), (4, zs3 b3), (7, zs3 b4), (8, zs3 b12), (9, .string c13.1), (12, zs2 x139), (83, zs9 A0 p0 c0), (84, zs2 x138)] zsU fun j => ?_
    obtain ⟨c342, h343, hF⟩ := zs8 hF
    refine zo hO (zsB (r0.le hL) h343) rfl fun _ σ _ _ hO h344 h345 => ?_
    have hL := hL.trans h344
    obtain ⟨rfl, rfl⟩ := h345
    have hO := zs73 hO
    refine za hO [] [(11, zs2 c342.2.1), (13, zs2 c342.2.2), (14, .int .u8 c342.1)] [0, 1, 4, 7, 8, 9, 12] zsV fun j => ?_
    refine zg (zk ?_)
    exact ⟨c342.2.1, c342.2.2, c342.1, _, zs1 zsU, hO, hL, hF⟩
   refine zl (zg (zk ?_))
   exact ⟨x138, 0, 0, _, zs1 zsU, hO, hL, hF⟩
  rintro e σ ⟨x287, x288, x289, _, hA, hO, hL, hF⟩
  rw [← zD _ _ hA]
  unfold zhg at hF
  refine zb (zc hO 2 [] [(89, .string c13.1), (90, zs2 x139)] [0, 1, 4, 7, 8, 9, 11, 12, 13, 14] zsX fun j => ?_)
  obtain ⟨y290, g291, hF⟩ := zs8 hF
  refine zeL rfl rfl g291 ?_
  refine ze (zef (fun e' σ' => ∃ (x312 x313 x314 x315 x316 x317 x318 x319 : Int) (τ' : Hp), agr [(0, zs9 A0 p0 c0), (1, zs2 p1), (4, zs3 b3), (7, zs3 b4), (8, zs3 b12), (9, .string c13.1), (11, zs2 x318), (12, zs2 x139), (13, zs2 x319)] e' ∧ Obs τ' σ' [zy b3 0 0 0 0 0 0 0, zy b4 0 0 0 0 0 0 0, zy b12 (y7.toNat : Int) x312 x313 x314 x315 x316 x317] ∧ Hp.le τ τ' ∧ zcZ (zcF p0 p1 y7 c13 n258) x139 x312 x313 x314 x315 x316 x317 x318 x319 = some rr) ?_ ?_)
  ·refine za hO [] [(92, .bool ((y290.toNat : Int) == 111))] [0, 1, 4, 7, 8, 9, 11, 12, 13, 14, 91] zsX fun j => ?_
   refine z5 (zi hF rfl (fun hF => ?_) fun hF => ?_)
   ·refine zc hO 2 [] [(94, .int .u8 x289), (95, .pointer (some ⟨b12, 1, none⟩))] [0, 1, 4, 7, 8, 9, 11, 12, 13] zsW fun j => ?_
    refine zH hO (i := 2) rfl (off := 1) rfl rfl rfl rfl (Nat.le_of_ble_eq_true rfl) rfl fun σ hO => ?_
    have hO := zs73 hO
    refine ze (zg (zF (zk ?_)))
    exact ⟨x289, x133, x134, x135, x136, x137, x287, x288, _, zs1 zsT, hO, hL, hF⟩
   refine zb (za hO [] [(96, .bool ((y290.toNat : Int) == 114))] [0, 1, 4, 7, 8, 9, 11, 12, 13, 14, 91] zsX fun j => ?_)
   refine zi hF rfl (fun hF => ?_) fun hF => ?_
   ·refine zc hO 3 [] [(99, zs2 (IntKind.i64.wrap x289)), (100, .pointer (some ⟨b12, 2, none⟩))] [0, 1, 4, 7, 8, 9, 11, 12, 13] zsW fun j => ?_
    refine zH hO (i := 2) rfl (off := 2) rfl rfl rfl rfl (Nat.le_of_ble_eq_true rfl) rfl fun σ hO => ?_
    have hO := zs73 hO
    refine ze (zg (zF (zk ?_)))
    exact ⟨x132, (IntKind.i64.wrap x289), x134, x135, x136, x137, x287, x288, _, zs1 zsT, hO, hL, hF⟩
   refine zb (za hO [] [(101, .bool ((y290.toNat : Int) == 97))] [0, 1, 4, 7, 8, 9, 11, 12, 13, 14, 91] zsX fun j => ?_)
   refine zi hF rfl (fun hF => ?_) fun hF => ?_
   ·refine zb (zc hO 4 [] [(105, zs2 (IntKind.i64.wrap (IntKind.u8.wrap (Int.tdiv x289 16)))), (106, .pointer (some ⟨b12, 2, none⟩))] [0, 1, 4, 7, 8, 9, 11, 12, 13, 14] zsX fun j => ?_)
    refine zH hO (i := 2) rfl (off := 2) rfl rfl rfl rfl (Nat.le_of_ble_eq_true rfl) rfl fun σ hO => ?_
    have hO := zs73 hO
    refine ze (zc hO 4 [] [(109, zs2 (IntKind.i64.wrap (Int.tmod x289 16))), (110, .pointer (some ⟨b12, 3, none⟩))] [0, 1, 4, 7, 8, 9, 11, 12, 13] zsW fun j => ?_)
    refine zH hO (i := 2) rfl (off := 3) rfl rfl rfl rfl (Nat.le_of_ble_eq_true rfl) rfl fun σ hO => ?_
    have hO := zs73 hO
    refine ze (zg (zF (zk ?_)))
    exact ⟨x132, (IntKind.i64.wrap (IntKind.u8.wrap (Int.tdiv x289 16))), (IntKind.i64.wrap (Int.tmod x289 16)), x135, x136, x137, x287, x288, _, zs1 zsT, hO, hL, hF⟩
   refine zb (za hO [] [(111, .bool ((y290.toNat : Int) == 116))] [0, 1, 4, 7, 8, 9, 11, 12, 13, 14, 91] zsX fun j => ?_)
   refine zi hF rfl (fun hF => ?_) fun hF => ?_
   ·refine zc hO 3 [] [(114, zs2 (IntKind.i64.wrap x289)), (115, .pointer (some ⟨b12, 4, none⟩))] [0, 1, 4, 7, 8, 9, 11, 12, 13] zsW fun j => ?_
    refine zH hO (i := 2) rfl (off := 4) rfl rfl rfl rfl (Nat.le_of_ble_eq_true rfl) rfl fun σ hO => ?_
    have hO := zs73 hO
    refine ze (zg (zF (zk ?_)))
    exact ⟨x132, x133, x134, (IntKind.i64.wrap x289), x136, x137, x287, x288, _, zs1 zsT, hO, hL, hF⟩
   refine zb (za hO [] [(116, .bool ((y290.toNat : Int) == 107))] [0, 1, 4, 7, 8, 9, 11, 12, 13, 14, 91] zsX fun j => ?_)
   refine zi hF rfl (fun hF => ?_) fun hF => ?_
   ·refine zc hO 3 [] [(119, zs2 (IntKind.i64.wrap x289)), (120, .pointer (some ⟨b12, 5, none⟩))] [0, 1, 4, 7, 8, 9, 11, 12, 13] zsW fun j => ?_
    refine zH hO (i := 2) rfl (off := 5) rfl rfl rfl rfl (Nat.le_of_ble_eq_true rfl) rfl fun σ hO => ?_
    have hO := zs73 hO
    refine ze (zg (zF (zk ?_)))
    exact ⟨x132, x133, x134, x135, (IntKind.i64.wrap x289), x137, x287, x288, _, zs1 zsT, hO, hL, hF⟩
   refine zb (za hO [] [(121, .bool ((y290.toNat : Int) == 110))] [0, 1, 4, 7, 8, 9, 11, 12, 13, 91] zsW fun j => ?_)
   refine zi hF rfl (fun hF => ?_) fun hF => ?_
   ·refine zc hO 2 [] [(124, zs9 A0 p0 c0), (125, zs2 x287)] [0, 1, 4, 7, 8, 9, 12] zsU fun j => ?_
    obtain ⟨c327, h328, hF⟩ := zs8 hF
    refine zo hO (zpp (r0.le hL) h328) rfl fun _ σ _ _ hO h329 h330 => ?_
    have hL := hL.trans h329
    obtain ⟨rfl, rfl⟩ := h330
    have hO := zs73 hO
    refine zZ hO 5 [] [(0, zs9 A0 p0 c0), (1, zs2 p1), (4, zs3 b3), (7, zs3 b4), (8, zs3 b12), (9, .string c13.1), (12, zs2 x139), (127, zs2 c327.1), (128, zs2 c327.2.1), (129, zs2 c327.2.2), (130, .pointer (some ⟨b12, 5, none⟩))] zsW fun j => ?_
    refine zH hO (i := 2) rfl (off := 5) rfl rfl rfl rfl (Nat.le_of_ble_eq_true rfl) rfl fun σ hO => ?_
    have hO := zs73 hO
    refine za hO [] [(11, zs2 c327.2.1), (13, zs2 c327.2.2)] [0, 1, 4, 7, 8, 9, 12] zsU fun j => ?_
    refine zg (zF (zk ?_))
    exact ⟨x132, x133, x134, x135, c327.1, x137, c327.2.1, c327.2.2, _, zs1 zsT, hO, hL, hF⟩
   refine zb (za hO [] [(131, .bool ((y290.toNat : Int) == 109))] [0, 1, 4, 7, 8, 9, 11, 12, 13, 91] zsW fun j => ?_)
   refine zi hF rfl (fun hF => ?_) fun hF => ?_
   ·refine zb (zZ hO 2 [] [(0, zs9 A0 p0 c0), (1, zs2 p1), (4, zs3 b3), (7, zs3 b4), (8, zs3 b12), (9, .string c13.1), (12, zs2 x139), (134, zs9 A0 p0 c0), (135, zs2 x287)] zsU fun j => ?_)
    obtain ⟨c332, h333, hF⟩ := zs8 hF
    refine zo hO (zpb (r0.le hL) h333) rfl fun _ σ _ _ hO h334 h335 => ?_
    have hL := hL.trans h334
    obtain ⟨rfl, rfl⟩ := h335
    have hO := zs73 hO
    refine za hO [] [(15, .int .u64 c332.1), (16, zs2 c332.2.1), (17, zs2 c332.2.2)] [0, 1, 4, 7, 8, 9, 12] zsV fun j => ?_
    refine zb (zc hO 3 [] [(141, zs2 (IntKind.i64.wrap c332.1)), (142, .pointer (some ⟨b12, 6, none⟩))] [0, 1, 4, 7, 8, 9, 12, 16, 17] zsW fun j => ?_)
    refine zH hO (i := 2) rfl (off := 6) rfl rfl rfl rfl (Nat.le_of_ble_eq_true rfl) rfl fun σ hO => ?_
    have hO := zs73 hO
    refine ze (zb (za hO [] [(11, zs2 c332.2.1)] [0, 1, 4, 7, 8, 9, 12, 17] zsU fun j => ?_))
    refine za hO [] [(13, zs2 c332.2.2)] [0, 1, 4, 7, 8, 9, 11, 12] zsU fun j => ?_
    refine zg (zF (zk ?_))
    exact ⟨x132, x133, x134, x135, x136, (IntKind.i64.wrap c332.1), c332.2.1, c332.2.2, _, zs1 zsT, hO, hL, hF⟩
   refine zb (zj hO [] [(0, zs9 A0 p0 c0), (1, zs2 p1), (4, zs3 b3), (7, zs3 b4), (8, zs3 b12), (9, .string c13.1), (11, zs2 x287), (12, zs2 x139), (13, zs2 x288), (145, .bool ((y290.toNat : Int) == 106))] zsV fun j => ?_)
   refine zi hF rfl (fun hF => ?_) fun hF => ?_
   ·refine zb (zc hO 2 [] [(148, zs9 A0 p0 c0), (149, zs2 x287)] [0, 1, 4, 7, 8, 9, 12] zsU fun j => ?_)
    obtain ⟨c337, h338, hF⟩ := zs8 hF
    refine zo hO (zqV (r0.le hL) h338) rfl fun _ σ _ _ hO h339 h340 => ?_
    have hL := hL.trans h339
    obtain ⟨rfl, rfl⟩ := h340
    have hO := zs73 hO
    refine za hO [] [(18, zs2 c337.1), (19, zs2 c337.2.1), (20, zs2 c337.2.2)] [0, 1, 4, 7, 8, 9, 12] zsV fun j => ?_
    refine zb (zc hO 2 [] [(154, zs2 c337.1), (155, .pointer (some ⟨b12, 5, none⟩))] [0, 1, 4, 7, 8, 9, 12, 19, 20] zsW fun j => ?_)
    refine zH hO (i := 2) rfl (off := 5) rfl rfl rfl rfl (Nat.le_of_ble_eq_true rfl) rfl fun σ hO => ?_
    have hO := zs73 hO
    refine ze (zb (za hO [] [(11, zs2 c337.2.1)] [0, 1, 4, 7, 8, 9, 12, 20] zsU fun j => ?_))
    refine za hO [] [(13, zs2 c337.2.2)] [0, 1, 4, 7, 8, 9, 11, 12] zsU fun j => ?_
    refine zg (zF (zk ?_))
    exact ⟨x132, x133, x134, x135, c337.1, x137, c337.2.1, c337.2.2, _, zs1 zsT, hO, hL, hF⟩
   refine zl (zg (zF (zk ?_)))
   exact ⟨x132, x133, x134, x135, x136, x137, x287, x288, _, zs1 zsT, hO, hL, hF⟩
  rintro e σ ⟨x312, x313, x314, x315, x316, x317, x318, x319, _, hA, hO, hL, hF⟩
  rw [← zD _ _ hA]
  unfold zcZ at hF
  refine za hO [] [(159, .bool (x319 != 0))] [0, 1, 4, 7, 8, 9, 11, 12] zsU fun j => ?_
  refine z5 (zi hF rfl (fun hF => ?_) fun hF => ?_)
  ·refine zb (zc hO 1 [1] [(160, .agg #[(.int .u8 0), (.int .u8 0), (.int .i64 0), (.int .i64 0), (.int .i64 0), (.int .i64 0), (.int .i64 0)])] [4] (And.intro (And.intro rfl rfl) zsN) fun j => ?_)
   refine zH hO (i := 0) rfl (off := 0) rfl rfl rfl rfl (Nat.le_of_ble_eq_true rfl) rfl fun σ hO => ?_
   have hO := zs73 hO
   refine za hO [] [(5, zs2 0), (6, zs2 5)] [4] zsO fun j => ?_
   refine zp (zJ (zB (zB (zJ (zB ?_)))))
   cases hF
   have hV0 := hO.val (i := 0) rfl (off := 0) (agg := true) (n := 7) rfl
   have hO := hO.sel []
   exact hQ _ _ _ _ _ (zbH rfl (hV0) (zbZ (zbZ rfl))) hO hL ⟨rfl, rfl⟩
  refine zl (zg (zF (zk (zV (za hO [] [(12, zs2 (IntKind.i64.wrap (x139 + 1)))] [0, 1, 4, 7, 8, 9, 11] zsT fun j => ?_)))))
  refine zg (zk ?_)
  exact ⟨n258, Nat.lt_succ_self _, x312, x313, x314, x315, x316, x317, x318, (IntKind.i64.wrap (x139 + 1)), _, zs1 zsS, hO, hL, hF⟩
 refine zbl (zbw (zbD (zk (zb (z8 (zc hO 1 [2] [(161, .agg #[(.int .u8 (y7.toNat : Int)), (.int .u8 x132), (.int .i64 x133), (.int .i64 x134), (.int .i64 x135), (.int .i64 x136), (.int .i64 x137)])] [0, 1, 4, 7, 8, 11] (And.intro (And.intro rfl rfl) zsS) fun j => ?_))))))
 obtain ⟨z346, hz346, hF⟩ := zs8 hF
 obtain ⟨c347, h348, hF⟩ := zs8 hF
 refine zo hO (znq (p0 := (⟨y7, z346, x133, x134, x135, x136, x137⟩ : zf)) h348) (by rw [← zcQ hz346]; rfl) fun _ σ _ _ hO h349 h350 => ?_
 have hL := hL.trans h349
 obtain ⟨rfl, rfl⟩ := h350
 have hO := zs73 hO
 refine zc hO 5 [] [(170, .bool ((!c347) || (decide (x138 > (p0.length : Int)))))] [0, 1, 4, 7, 8, 11] (And.intro (And.intro rfl rfl) (fun _ => zs1 zsR)) fun j => ?_
 obtain ⟨c351, h352, hF⟩ := zs8 hF
 refine zbN 2 (fun e' σ' => ∃ (τ' : Hp), agr [(179, .bool c351), (4, zs3 b3), (7, zs3 b4), (8, zs3 b12), (11, zs2 x138)] e' ∧ Obs τ' σ' [zy b3 0 0 0 0 0 0 0, zy b4 0 0 0 0 0 0 0, zy b12 (y7.toNat : Int) x132 x133 x134 x135 x136 x137] ∧ Hp.le τ τ') ?_ ?_
 ·have hF := h352
  rcases z1 hF with ⟨hb353, hF⟩ | ⟨hb353, hF⟩
  ·refine zP (zs5 hb353) ?_
   refine zw (zs4 hb353) ?_
   refine ze ?_
   cases hF
   refine zg ?_
   exact ⟨rfl, _, zs1 zsP, hO, hL⟩
  refine zK (zs5 hb353) ?_
  refine zc hO 4 [2] [(171, .agg #[(.int .u8 (y7.toNat : Int)), (.int .u8 x132), (.int .i64 x133), (.int .i64 x134), (.int .i64 x135), (.int .i64 x136), (.int .i64 x137)]), (173, zs9 A0 p0 c0), (174, zs2 p1), (175, zs2 x138)] [4, 7, 8, 11, 170] (And.intro (And.intro rfl rfl) zsU) fun j => ?_
  obtain ⟨y354, g355, hF⟩ := zs8 hF
  refine zdB (T := Ty.u8) (r0.le hL) rfl rfl rfl g355 fun _ r356 => ?_
  obtain ⟨A357, c358, rfl, -⟩ := r356.form
  obtain ⟨z359, hz359, hF⟩ := zs8 hF
  obtain ⟨c360, h361, hF⟩ := zs8 hF
  refine zo hO (zmd (p1 := (⟨y7, z359, x133, x134, x135, x136, x137⟩ : zf)) (RdT.nil Ty.u8 _) h361) (by rw [← zcQ hz359]; rfl) fun _ σ _ _ hO h362 h363 => ?_
  have hL := hL.trans h362
  have r356 := r356.le h362
  obtain ⟨v364, o367, rfl, rfl, w368⟩ := h363
  obtain ⟨A365, c366, rfl, -⟩ := w368.form
  have hO := zs74 hO
  obtain ⟨_, h370, r369, hO⟩ := w368.share hO (i := 3) rfl
  have hL := hL.trans h370
  have r356 := r356.le h370
  have hO := zs74 hO
  obtain ⟨c371, h372, hF⟩ := zs8 hF
  refine zo hO (zk3 r369 r356 h372) rfl fun _ σ _ _ hO h373 h374 => ?_
  have hL := hL.trans h373
  have r369 := r369.le h373
  have r356 := r356.le h373
  obtain ⟨rfl, rfl⟩ := h374
  have hO := zs74 hO
  refine zc hO 1 [] [(178, .bool (!c371))] [4, 7, 8, 11, 170] zsR fun j => ?_
  refine zw (zs4 hb353) ?_
  refine ze ?_
  cases hF
  refine zg ?_
  have hO := hO.sel [0, 1, 2]
  exact ⟨rfl, _, zs1 zsP, hO, hL⟩
 rintro e σ ⟨_, hA, hO, hL⟩
 rw [← zD _ _ hA]
 refine ze (zi hF rfl (fun hF => ?_) fun hF => ?_)
 ·refine zb (zc hO 1 [1] [(180, .agg #[(.int .u8 0), (.int .u8 0), (.int .i64 0), (.int .i64 0), (.int .i64 0), (.int .i64 0), (.int .i64 0)])] [4] (And.intro (And.intro rfl rfl) zsN) fun j => ?_)
  refine zH hO (i := 0) rfl (off := 0) rfl rfl rfl rfl (Nat.le_of_ble_eq_true rfl) rfl fun σ hO => ?_
  have hO := zs73 hO
  refine za hO [] [(5, zs2 0), (6, zs2 5)] [4] zsO fun j => ?_
  refine zp ?_
  cases hF
  have hV0 := hO.val (i := 0) rfl (off := 0) (agg := true) (n := 7) rfl
  have hO := hO.sel []
  exact hQ _ _ _ _ _ (zbH rfl (hV0) (zbZ (zbZ rfl))) hO hL ⟨rfl, rfl⟩
 refine zl (zc hO 2 [2] [(181, .agg #[(.int .u8 (y7.toNat : Int)), (.int .u8 x132), (.int .i64 x133), (.int .i64 x134), (.int .i64 x135), (.int .i64 x136), (.int .i64 x137)]), (182, zs2 x138)] [4] (And.intro (And.intro rfl rfl) zsO) fun j => ?_)
 refine zH hO (i := 0) rfl (off := 0) rfl rfl rfl rfl (Nat.le_of_ble_eq_true rfl) rfl fun σ hO => ?_
 have hO := zs73 hO
 refine za hO [] [(5, zs2 x138), (6, zs2 0)] [4] zsO fun j => ?_
 refine zq ?_
 obtain ⟨z376, hz376, hF⟩ := zs8 hF
 cases hF
 have hV0 := hO.val (i := 0) rfl (off := 0) (agg := true) (n := 7) rfl
 have hO := hO.sel []
 exact hQ _ _ _ _ _ (zbH rfl (hV0) (zbZ (zbZ rfl))) hO hL ⟨(by first | rfl | (simp only [zcQ hz376]; done) | (simp only [← zcQ hz376]; try rfl)), rfl⟩
theorem zpV {τ : Hp} {p0 p1 p2 : Int}  {rr : Int × Bool} (hF : zcJ p0 p1 p2 = some rr) :
  Ctr Tryz.prog 52 #[.int .u8 p0, .int .i64 p1, .int .i64 p2] τ [] (fun v τ' vs' => v = .tuple #[.int .i64 rr.1, .bool rr.2] ∧ vs' = []) := by
 refine zu (args := [.int .u8 p0, .int .i64 p1, .int .i64 p2]) hm Tryz.func52 s52 rfl fun w0 σ hO Q hQ => ?_
 unfold zcJ at hF
 have hL := Hp.le.refl τ
 show wpn _ _ a52.body _ _ _
 unfold a52
 dsimp only
 refine za hO [] [] [0, 1, 2] zsO fun j => ?_
 refine za hO [] [(8, .bool false)] [0, 1, 2] zsP fun j => ?_
 refine zb (za hO [] [(9, .int .u8 p0)] [0, 1, 2, 8] zsQ fun j => ?_)
 refine zef (fun e' σ' => ∃ (x27 : Bool) (τ' : Hp), agr [(8, .bool x27)] e' ∧ Obs τ' σ' [] ∧ Hp.le τ τ' ∧ zcC x27 = some rr) ?_ ?_
 ·refine za hO [] [(10, .bool (p0 == 1))] [0, 1, 2, 8, 9] zsR fun j => ?_
  refine z5 (zi hF rfl (fun hF => ?_) fun hF => ?_)
  ·refine zb (zj hO [] [(6, zs2 (IntKind.i64.wrap (p1 + p2))), (7, .bool true)] zsN fun j => ?_)
   refine zp (zJ (zB ?_))
   cases hF
   exact hQ _ _ _ _ _ rfl hO hL ⟨rfl, rfl⟩
  refine zb (za hO [] [(15, .bool (p0 == 2))] [0, 1, 2, 8, 9] zsR fun j => ?_)
  refine zi hF rfl (fun hF => ?_) fun hF => ?_
  ·refine zb (zj hO [] [(6, zs2 (IntKind.i64.wrap (p1 - p2))), (7, .bool true)] zsN fun j => ?_)
   refine zp (zJ (zB ?_))
   cases hF
   exact hQ _ _ _ _ _ rfl hO hL ⟨rfl, rfl⟩
  refine zb (za hO [] [(20, .bool (p0 == 3))] [0, 1, 2, 8, 9] zsR fun j => ?_)
  refine zi hF rfl (fun hF => ?_) fun hF => ?_
  ·refine zb (zj hO [] [(6, zs2 (IntKind.i64.wrap (p1 * p2))), (7, .bool true)] zsN fun j => ?_)
   refine zp (zJ (zB ?_))
   cases hF
   exact hQ _ _ _ _ _ rfl hO hL ⟨rfl, rfl⟩
  refine zb (zb (za hO [] [(25, .bool (p0 == 4))] [0, 1, 2, 8, 9] zsR fun j => ?_))
  refine zbK (fun e' σ' => ∃ (x33 : Bool) (τ' : Hp), agr [(0, .int .u8 p0), (1, zs2 p1), (2, zs2 p2), (8, .bool false), (9, .int .u8 p0), (25, .bool x33)] e' ∧ Obs τ' σ' [] ∧ Hp.le τ τ' ∧ zcE p0 p1 p2 x33 = some rr) ?_ ?_
  ·refine z5 (zi hF rfl (fun hF => ?_) fun hF => ?_)
   ·refine zl (zg (zk ?_))
    exact ⟨(p0 == 4), _, zs1 zsQ, hO, hL, hF⟩
   refine za hO [] [(25, .bool (p0 == 5))] [0, 1, 2, 8, 9] zsR fun j => ?_
   refine zg (zk ?_)
   exact ⟨(p0 == 5), _, zs1 zsQ, hO, hL, hF⟩
  rintro e σ ⟨x33, _, hA, hO, hL, hF⟩
  rw [← zD _ _ hA]
  unfold zcE at hF
  refine zi hF rfl (fun hF => ?_) fun hF => ?_
  ·refine zb (zb (za hO [] [(29, .bool (p2 == 0))] [0, 1, 2] zsP fun j => ?_))
   refine zi hF rfl (fun hF => ?_) fun hF => ?_
   ·refine zb (zj hO [] [(6, zs2 0), (7, .bool false)] zsN fun j => ?_)
    refine zp (zJ (zB ?_))
    cases hF
    exact hQ _ _ _ _ _ rfl hO hL ⟨rfl, rfl⟩
   refine zl (zb (zb (za hO [] [(35, .bool ((p2 == (-1)) && (p0 == 4)))] [0, 1, 2] (And.intro (And.intro rfl rfl) (fun _ => zs1 zsO)) fun j => ?_)))
   refine zi hF rfl (fun hF => ?_) fun hF => ?_
   ·refine zb (zj hO [] [(6, zs2 (IntKind.i64.wrap (0 - p1))), (7, .bool true)] zsN fun j => ?_)
    refine zp (zJ (zB ?_))
    cases hF
    exact hQ _ _ _ _ _ rfl hO hL ⟨rfl, rfl⟩
   refine zl (zb (zb (za hO [] [(39, .bool (p2 == (-1)))] [0, 1, 2] zsP fun j => ?_)))
   refine zi hF rfl (fun hF => ?_) fun hF => ?_
   ·refine zb (zj hO [] [(6, zs2 0), (7, .bool true)] zsN fun j => ?_)
    refine zp (zJ (zB ?_))
    cases hF
    exact hQ _ _ _ _ _ rfl hO hL ⟨rfl, rfl⟩
   refine zl (zb (zb (za hO [] [(41, .bool (p0 == 4))] [1, 2] zsO fun j => ?_)))
   refine zi hF rfl (fun hF => ?_) fun hF => ?_
   ·refine zb (zZ hO 2 [] [(42, zs2 p1), (43, zs2 p2)] zsN fun j => ?_)
    obtain ⟨y39, g40, hF⟩ := zs8 hF
    refine zc7 (znd g40) ?_
    refine zj hO [] [(6, zs2 y39), (7, .bool true)] zsN fun j => ?_
    refine zp (zJ (zB ?_))
    cases hF
    exact hQ _ _ _ _ _ rfl hO hL ⟨rfl, rfl⟩
   refine zl (zb (zZ hO 2 [] [(45, zs2 p1), (46, zs2 p2)] zsN fun j => ?_))
   obtain ⟨y41, g42, hF⟩ := zs8 hF
   refine zc7 (zm9 g42) ?_
   refine zj hO [] [(6, zs2 y41), (7, .bool true)] zsN fun j => ?_
   refine zp (zJ (zB ?_))
   cases hF
   exact hQ _ _ _ _ _ rfl hO hL ⟨rfl, rfl⟩
  refine zb (za hO [] [(48, .bool (p0 == 6))] [1, 2, 8, 9] zsQ fun j => ?_)
  refine zi hF rfl (fun hF => ?_) fun hF => ?_
  ·refine zj hO [] [(8, .bool (p1 == p2))] zsM fun j => ?_
   refine zg (zF (zk ?_))
   exact ⟨(p1 == p2), _, zs1 trivial, hO, hL, hF⟩
  refine zb (za hO [] [(53, .bool (p0 == 7))] [1, 2, 8, 9] zsQ fun j => ?_)
  refine zi hF rfl (fun hF => ?_) fun hF => ?_
  ·refine zj hO [] [(8, .bool (p1 != p2))] zsM fun j => ?_
   refine zg (zF (zk ?_))
   exact ⟨(p1 != p2), _, zs1 trivial, hO, hL, hF⟩
  refine zb (za hO [] [(58, .bool (p0 == 8))] [1, 2, 8, 9] zsQ fun j => ?_)
  refine zi hF rfl (fun hF => ?_) fun hF => ?_
  ·refine zj hO [] [(8, .bool (decide (p1 < p2)))] zsM fun j => ?_
   refine zg (zF (zk ?_))
   exact ⟨(decide (p1 < p2)), _, zs1 trivial, hO, hL, hF⟩
  refine zb (za hO [] [(63, .bool (p0 == 9))] [1, 2, 8, 9] zsQ fun j => ?_)
  refine zi hF rfl (fun hF => ?_) fun hF => ?_
  ·refine zj hO [] [(8, .bool (decide (p1 ≤ p2)))] zsM fun j => ?_
   refine zg (zF (zk ?_))
   exact ⟨(decide (p1 ≤ p2)), _, zs1 trivial, hO, hL, hF⟩
  refine zb (za hO [] [(68, .bool (p0 == 10))] [1, 2, 8, 9] zsQ fun j => ?_)
  refine zi hF rfl (fun hF => ?_) fun hF => ?_
  ·refine zj hO [] [(8, .bool (decide (p1 > p2)))] zsM fun j => ?_
   refine zg (zF (zk ?_))
   exact ⟨(decide (p1 > p2)), _, zs1 trivial, hO, hL, hF⟩
  refine zb (za hO [] [(73, .bool (p0 == 11))] [1, 2, 8, 9] zsQ fun j => ?_)
  refine zi hF rfl (fun hF => ?_) fun hF => ?_
  ·refine zj hO [] [(8, .bool (decide (p1 ≥ p2)))] zsM fun j => ?_
   refine zg (zF (zk ?_))
   exact ⟨(decide (p1 ≥ p2)), _, zs1 trivial, hO, hL, hF⟩
  refine zb (za hO [] [(78, .bool (p0 == 12))] [1, 2, 8, 9] zsQ fun j => ?_)
  refine zi hF rfl (fun hF => ?_) fun hF => ?_
  ·refine zb (zj hO [] [(6, zs2 (zcz .i64 p1 p2)), (7, .bool true)] zsN fun j => ?_)
   refine zp (zJ (zB ?_))
   cases hF
   exact hQ _ _ _ _ _ rfl hO hL ⟨rfl, rfl⟩
  refine zb (za hO [] [(83, .bool (p0 == 13))] [1, 2, 8] zsP fun j => ?_)
  refine zi hF rfl (fun hF => ?_) fun hF => ?_
  ·refine zb (zj hO [] [(6, zs2 (orI .i64 p1 p2)), (7, .bool true)] zsN fun j => ?_)
   refine zp (zJ (zB ?_))
   cases hF
   exact hQ _ _ _ _ _ rfl hO hL ⟨rfl, rfl⟩
  refine zl (zg (zF (zk ?_)))
  exact ⟨false, _, zs1 trivial, hO, hL, hF⟩
 rintro e σ ⟨x27, _, hA, hO, hL, hF⟩
 rw [← zD _ _ hA]
 unfold zcC at hF
 refine zb (zj hO [] [(88, .bool x27)] zsM fun j => ?_)
 refine zi hF rfl (fun hF => ?_) fun hF => ?_
 ·refine zb (zj hO [] [(6, zs2 1), (7, .bool true)] zsN fun j => ?_)
  refine zp ?_
  cases hF
  exact hQ _ _ _ _ _ rfl hO hL ⟨rfl, rfl⟩
 refine zl (zj hO [] [(6, zs2 0), (7, .bool true)] zsN fun j => ?_)
 refine zq ?_
 cases hF
 exact hQ _ _ _ _ _ rfl hO hL ⟨rfl, rfl⟩
theorem zrs {τ : Hp} {p0 p1 : Int}  {rr : Int} (hF : zjx p0 p1 = some rr) :
  Ctr Tryz.prog 53 #[.int .u8 p0, .int .i64 p1] τ [] (fun v τ' vs' => v = .int .i64 rr ∧ vs' = []) := by
 refine zu (args := [.int .u8 p0, .int .i64 p1]) hm Tryz.func53 s53 rfl fun w0 σ hO Q hQ => ?_
 unfold zjx at hF
 have hL := Hp.le.refl τ
 show wpn _ _ a53.body _ _ _
 unfold a53
 dsimp only
 refine za hO [] [] [0, 1] zsN fun j => ?_
 refine zb (za hO [] [(6, .bool (p0 == 14))] [1] zsN fun j => ?_)
 refine zi hF rfl (fun hF => ?_) fun hF => ?_
 ·refine zb (zj hO [] [(4, zs2 (IntKind.i64.wrap (1 - p1)))] zsM fun j => ?_)
  refine zp ?_
  cases hF
  exact hQ _ _ _ _ _ rfl hO hL ⟨rfl, rfl⟩
 refine zl (zj hO [] [(4, zs2 (IntKind.i64.wrap (0 - p1)))] zsM fun j => ?_)
 refine zq ?_
 cases hF
 exact hQ _ _ _ _ _ rfl hO hL ⟨rfl, rfl⟩
theorem zk2 {τ : Hp} {q0 : zQ} {bm0 : Nat} {vm0_0 vm0_2 : Value} {om0_2 : Ob} {vm0_3 : Value} {om0_3 : Ob} {vm0_4 vm0_5 : Value} {p1 : Int} (rm0_0 : RdT Ty.u8 τ vm0_0 q0.Code) (wm0_2 : zd (Ty.int .i64) 2 τ vm0_2 q0.R om0_2) (wm0_3 : zd (Ty.int .i64) 2 τ vm0_3 q0.W om0_3) (rm0_4 : RdT (Ty.int .i64) τ vm0_4 q0.In) (rm0_5 : RdT (Ty.int .i64) τ vm0_5 q0.Out) {rr : Bool} (hF : zeJ q0 p1 = some rr) :
  Ctr Tryz.prog 54 #[.pointer (some ⟨bm0, 0, none⟩), .int .i64 p1] τ [zbz bm0 vm0_0 q0.Pc vm0_2 vm0_3 vm0_4 vm0_5 q0.How.toNat q0.Final, om0_2, om0_3] (fun v τ' vs' => v = .bool rr ∧ vs' = [zbz bm0 vm0_0 q0.Pc vm0_2 vm0_3 vm0_4 vm0_5 q0.How.toNat q0.Final, om0_2, om0_3]) := by
 obtain ⟨Am0_0, cm0_0, rfl, -⟩ := rm0_0.form
 obtain ⟨Am0_2, cm0_2, rfl, -⟩ := wm0_2.form
 obtain ⟨Am0_3, cm0_3, rfl, -⟩ := wm0_3.form
 obtain ⟨Am0_4, cm0_4, rfl, -⟩ := rm0_4.form
 obtain ⟨Am0_5, cm0_5, rfl, -⟩ := rm0_5.form
 refine zu (args := [.pointer (some ⟨bm0, 0, none⟩), .int .i64 p1]) hm Tryz.func54 s54 rfl fun w0 σ hO Q hQ => ?_
 unfold zeJ at hF
 have hL := Hp.le.refl τ
 show wpn _ _ a54.body _ _ _
 unfold a54
 dsimp only
 refine za hO [] [] [0, 1] zsN fun j => ?_
 refine za hO [0] [(4, .bool ((decide (p1 ≥ 0)) && (decide (p1 < (q0.W.length : Int)))))] [0] (And.intro (And.intro rfl rfl) (And.intro (And.intro rfl rfl) (fun _ => zs1 zsM))) fun j => ?_
 refine zq ?_
 cases hF
 exact hQ _ _ _ _ _ rfl hO hL ⟨rfl, rfl⟩
theorem zo0 {τ : Hp} {q0 : zQ} {bm0 : Nat} {vm0_0 vm0_2 : Value} {om0_2 : Ob} {vm0_3 : Value} {om0_3 : Ob} {vm0_4 vm0_5 : Value} {p1 : zf} {p2 : Int} (rm0_0 : RdT Ty.u8 τ vm0_0 q0.Code) (wm0_2 : zd (Ty.int .i64) 2 τ vm0_2 q0.R om0_2) (wm0_3 : zd (Ty.int .i64) 2 τ vm0_3 q0.W om0_3) (rm0_4 : RdT (Ty.int .i64) τ vm0_4 q0.In) (rm0_5 : RdT (Ty.int .i64) τ vm0_5 q0.Out) {rr : Int × zQ} (hF : zfR q0 p1 p2 = some rr) :
  Ctr Tryz.prog 34 #[.pointer (some ⟨bm0, 0, none⟩), .agg #[.int .u8 p1.Kind.toNat, .int .u8 p1.Op.toNat, .int .i64 p1.R, .int .i64 p1.S, .int .i64 p1.T, .int .i64 p1.N, .int .i64 p1.M], .int .i64 p2] τ [zbz bm0 vm0_0 q0.Pc vm0_2 vm0_3 vm0_4 vm0_5 q0.How.toNat q0.Final, om0_2, om0_3] (fun v τ' vs' => ∃ (u0_0 u0_2 : Value) (y0_2 : Ob) (u0_3 : Value) (y0_3 : Ob) (u0_4 u0_5 : Value), v = .int .u8 rr.1 ∧ vs' = [zbz bm0 u0_0 rr.2.Pc u0_2 u0_3 u0_4 u0_5 rr.2.How.toNat rr.2.Final, y0_2, y0_3] ∧ RdT Ty.u8 τ' u0_0 rr.2.Code ∧ zd (Ty.int .i64) 2 τ' u0_2 rr.2.R y0_2 ∧ zd (Ty.int .i64) 2 τ' u0_3 rr.2.W y0_3 ∧ RdT (Ty.int .i64) τ' u0_4 rr.2.In ∧ RdT (Ty.int .i64) τ' u0_5 rr.2.Out) := by
 obtain ⟨Am0_0, cm0_0, rfl, -⟩ := rm0_0.form
 obtain ⟨Am0_2, cm0_2, rfl, -⟩ := wm0_2.form
 obtain ⟨Am0_3, cm0_3, rfl, -⟩ := wm0_3.form
 obtain ⟨Am0_4, cm0_4, rfl, -⟩ := rm0_4.form
 obtain ⟨Am0_5, cm0_5, rfl, -⟩ := rm0_5.form
 refine zu (args := [.pointer (some ⟨bm0, 0, none⟩), .agg #[.int .u8 p1.Kind.toNat, .int .u8 p1.Op.toNat, .int .i64 p1.R, .int .i64 p1.S, .int .i64 p1.T, .int .i64 p1.N, .int .i64 p1.M], .int .i64 p2]) hm Tryz.func34 s34 rfl fun w0 σ hO Q hQ => ?_
 unfold zfR at hF
 have hL := Hp.le.refl τ
 show wpn _ _ a34.body _ _ _
 unfold a34
 dsimp only
 refine zbq (n := 7) hO rfl rfl fun b4 σ hO => ?_
 have hO := zs74 hO
 refine za hO [] [] [0, 2, 4] zsO fun j => ?_
 refine z8 (zc hO 6 [0, 3] [(17, zs9 Am0_2 q0.R cm0_2), (19, zs2 p1.S)] [0, 2, 4] (And.intro (And.intro rfl rfl) (And.intro (And.intro rfl rfl) zsQ)) fun j => ?_)
 obtain ⟨y5, g6, hF⟩ := zs8 hF
 refine zbg (T := (Ty.int .i64)) hO (wm0_2.le hL) (i := 1) rfl rfl rfl g6 (by decide) fun a7 _ k8 m9 i10 => ?_
 have k11 := k8
 obtain rfl : _ = ([.int .i64 y5] : List Value) := k11
 refine zL rfl m9.fst ?_
 refine za hO [] [(7, zs2 y5)] [0, 2, 4] zsP fun j => ?_
 refine za hO [3] [(8, zs2 (IntKind.i64.wrap (y5 + p1.N)))] [0, 2, 4, 7] (And.intro (And.intro rfl rfl) zsQ) fun j => ?_
 refine zb (za hO [3] [(27, .int .u8 (p1.Kind.toNat : Int))] [0, 2, 4, 7, 8] (And.intro (And.intro rfl rfl) zsR) fun j => ?_)
 refine zef (fun e' σ' => ∃ (k380 : Nat) (A381 : Option Addr) (c382 : Nat) (o383 : Ob) (x384 : List Int) (k387 : Nat) (A388 : Option Addr) (c389 : Nat) (o390 : Ob) (x391 : List Int) (A394 : Option Addr) (c395 : Nat) (x396 : List Int) (A398 : Option Addr) (c399 : Nat) (x400 : List Int) (τ' : Hp), agr [(0, zs3 bm0), (2, zs2 p2)] e' ∧ Obs τ' σ' [zbz bm0 (zs9 Am0_0 q0.Code cm0_0) q0.Pc (.slice A381 k380 c382) (.slice A388 k387 c389) (zs9 A394 x396 c395) (zs9 A398 x400 c399) (q0.How.toNat : Int) q0.Final, o383, o390] ∧ Hp.le τ τ' ∧ k380 = x384.length ∧ zd (Ty.int .i64) 2 τ' (.slice A381 k380 c382) x384 o383 ∧ k387 = x391.length ∧ zd (Ty.int .i64) 2 τ' (.slice A388 k387 c389) x391 o390 ∧ RdT (Ty.int .i64) τ' (zs9 A394 x396 c395) x396 ∧ RdT (Ty.int .i64) τ' (zs9 A398 x400 c399) x400 ∧ zbS q0 p2 x384 x391 x396 x400 = some rr) ?_ ?_
 ·refine za hO [] [(28, .bool ((p1.Kind.toNat : Int) == 2))] [0, 2, 4, 7, 8, 27] zsS fun j => ?_
  refine z5 (zi hF rfl (fun hF => ?_) fun hF => ?_)
  ·refine z8 (zc hO 8 [0, 3, 3] [(33, zs9 Am0_2 q0.R cm0_2), (35, zs2 p1.R), (37, zs2 p1.N)] [0, 2] (And.intro (And.intro rfl rfl) (And.intro (And.intro rfl rfl) (And.intro (And.intro rfl rfl) zsQ))) fun j => ?_)
   obtain ⟨y403, g404, hF⟩ := zs8 hF
   refine zbg (T := (Ty.int .i64)) hO (wm0_2.le hL) (i := 1) rfl rfl rfl g404 (by decide) fun a405 _ k406 m407 i408 => ?_
   have k409 := k406
   obtain rfl : _ = ([.int .i64 y403] : List Value) := k409
   refine zce (T := (Ty.int .i64)) (z' := p1.N) (off := 0) (vs := [.int .i64 p1.N]) hO (wm0_2.le hL) (i := 1) rfl (by rw [add_zero]; rfl) i408 g404 k406 m407 rfl rfl rfl rfl (by decide) (show _ = _ from rfl) fun σ o410 w411 hO => ?_
   have hO := zs74 hO
   refine ze (zg (zF (zk ?_)))
   have hO := hO.sel [0, 1, 2]
   exact ⟨q0.R.length, Am0_2, cm0_2, o410, (q0.R.set (Int.toNat p1.R) p1.N), q0.W.length, Am0_3, cm0_3, om0_3, q0.W, Am0_4, cm0_4, q0.In, Am0_5, cm0_5, q0.Out, _, zs1 zsM, hO, hL, w411.len, w411, (wm0_3.le hL).len, (wm0_3.le hL), (rm0_4.le hL), (rm0_5.le hL), hF⟩
  refine zb (za hO [] [(39, .bool ((p1.Kind.toNat : Int) == 3))] [0, 2, 4, 7, 8, 27] zsS fun j => ?_)
  refine zi hF rfl (fun hF => ?_) fun hF => ?_
  ·refine z8 (zc hO 7 [0, 3] [(44, zs9 Am0_2 q0.R cm0_2), (46, zs2 p1.R), (47, zs2 y5)] [0, 2] (And.intro (And.intro rfl rfl) (And.intro (And.intro rfl rfl) zsQ)) fun j => ?_)
   obtain ⟨y413, g414, hF⟩ := zs8 hF
   refine zbg (T := (Ty.int .i64)) hO (wm0_2.le hL) (i := 1) rfl rfl rfl g414 (by decide) fun a415 _ k416 m417 i418 => ?_
   have k419 := k416
   obtain rfl : _ = ([.int .i64 y413] : List Value) := k419
   refine zce (T := (Ty.int .i64)) (z' := y5) (off := 0) (vs := [.int .i64 y5]) hO (wm0_2.le hL) (i := 1) rfl (by rw [add_zero]; rfl) i418 g414 k416 m417 rfl rfl rfl rfl (by decide) (show _ = _ from rfl) fun σ o420 w421 hO => ?_
   have hO := zs74 hO
   refine ze (zg (zF (zk ?_)))
   have hO := hO.sel [0, 1, 2]
   exact ⟨q0.R.length, Am0_2, cm0_2, o420, (q0.R.set (Int.toNat p1.R) y5), q0.W.length, Am0_3, cm0_3, om0_3, q0.W, Am0_4, cm0_4, q0.In, Am0_5, cm0_5, q0.Out, _, zs1 zsM, hO, hL, w421.len, w421, (wm0_3.le hL).len, (wm0_3.le hL), (rm0_4.le hL), (rm0_5.le hL), hF⟩
  refine zb (za hO [] [(49, .bool ((p1.Kind.toNat : Int) == 4))] [0, 2, 4, 7, 8, 27] zsS fun j => ?_)
  refine zi hF rfl (fun hF => ?_) fun hF => ?_
  ·refine zb (z8 (zZ hO 9 [3, 0, 3] [(0, zs3 bm0), (2, zs2 p2), (4, zs3 b4), (53, .int .u8 (p1.Op.toNat : Int)), (54, zs2 y5), (58, zs9 Am0_2 q0.R cm0_2), (60, zs2 p1.T)] (And.intro (And.intro rfl rfl) (And.intro (And.intro rfl rfl) (And.intro (And.intro rfl rfl) zsS))) fun j => ?_))
   obtain ⟨y423, g424, hF⟩ := zs8 hF
   refine zbg (T := (Ty.int .i64)) hO (wm0_2.le hL) (i := 1) rfl rfl rfl g424 (by decide) fun a425 _ k426 m427 i428 => ?_
   have k429 := k426
   obtain rfl : _ = ([.int .i64 y423] : List Value) := k429
   refine zL rfl m427.fst ?_
   obtain ⟨c430, h431, hF⟩ := zs8 hF
   refine zo hO (zpV h431) rfl fun _ σ _ _ hO h432 h433 => ?_
   have hL := hL.trans h432
   obtain ⟨rfl, rfl⟩ := h433
   have hO := zs74 hO
   refine za hO [] [(9, zs2 c430.1), (10, .bool c430.2)] [0, 2, 4] zsQ fun j => ?_
   refine zb (zb (za hO [] [(67, .bool (!c430.2))] [0, 2, 4, 9] zsQ fun j => ?_))
   refine zi hF rfl (fun hF => ?_) fun hF => ?_
   ·refine zb (za hO [] [(6, .int .u8 2)] [0] zsN fun j => ?_)
    refine zp (zJ (zB ?_))
    cases hF
    have hO := hO.sel [0, 1, 2]
    exact hQ _ _ _ _ _ rfl hO hL ⟨_, _, _, _, _, _, _, rfl, rfl, (rm0_0.le hL), (wm0_2.le hL), (wm0_3.le hL), (rm0_4.le hL), (rm0_5.le hL)⟩
   refine zl (z8 (zc hO 7 [0, 3] [(71, zs9 Am0_2 q0.R cm0_2), (73, zs2 p1.R), (74, zs2 c430.1)] [0, 2] (And.intro (And.intro rfl rfl) (And.intro (And.intro rfl rfl) zsQ)) fun j => ?_))
   obtain ⟨y435, g436, hF⟩ := zs8 hF
   refine zbg (T := (Ty.int .i64)) hO (wm0_2.le hL) (i := 1) rfl rfl rfl g436 (by decide) fun a437 _ k438 m439 i440 => ?_
   have k441 := k438
   obtain rfl : _ = ([.int .i64 y435] : List Value) := k441
   refine zce (T := (Ty.int .i64)) (z' := c430.1) (off := 0) (vs := [.int .i64 c430.1]) hO (wm0_2.le hL) (i := 1) rfl (by rw [add_zero]; rfl) i440 g436 k438 m439 rfl rfl rfl rfl (by decide) (show _ = _ from rfl) fun σ o442 w443 hO => ?_
   have hO := zs74 hO
   refine ze (zg (zF (zk ?_)))
   have hO := hO.sel [0, 1, 2]
   exact ⟨q0.R.length, Am0_2, cm0_2, o442, (q0.R.set (Int.toNat p1.R) c430.1), q0.W.length, Am0_3, cm0_3, om0_3, q0.W, Am0_4, cm0_4, q0.In, Am0_5, cm0_5, q0.Out, _, zs1 zsM, hO, hL, w443.len, w443, (wm0_3.le hL).len, (wm0_3.le hL), (rm0_4.le hL), (rm0_5.le hL), hF⟩
  refine zb (zj hO [] [(0, zs3 bm0), (2, zs2 p2), (4, zs3 b4), (7, zs2 y5), (8, zs2 (IntKind.i64.wrap (y5 + p1.N))), (27, .int .u8 (p1.Kind.toNat : Int)), (76, .bool ((p1.Kind.toNat : Int) == 5))] zsS fun j => ?_)
  refine zi hF rfl (fun hF => ?_) fun hF => ?_
  ·refine z8 (zc hO 9 [0, 3, 3] [(80, .pointer (some ⟨bm0, 2, none⟩)), (81, zs9 Am0_2 q0.R cm0_2), (82, .pointer (some ⟨b4, 2, none⟩)), (83, zs2 p1.R), (85, .int .u8 (p1.Op.toNat : Int)), (86, zs2 y5)] [0, 2] (And.intro (And.intro rfl rfl) (And.intro (And.intro rfl rfl) (And.intro (And.intro rfl rfl) zsT))) fun j => ?_)
   refine zbx ?_
   obtain ⟨c445, h446, hF⟩ := zs8 hF
   refine zo hO (zrs h446) rfl fun _ σ _ _ hO h447 h448 => ?_
   have hL := hL.trans h447
   obtain ⟨rfl, rfl⟩ := h448
   have hO := zs74 hO
   refine ze (zby ⟨(zbh rfl (hO.val (i := 3) (off := 2) (agg := false) (n := 1) rfl rfl) rfl), (zbh rfl (hO.val (i := 0) (off := 2) (agg := false) (n := 1) rfl rfl) rfl), trivial⟩ ?_)
   obtain ⟨y449, g450, hF⟩ := zs8 hF
   refine zbg (T := (Ty.int .i64)) hO (wm0_2.le hL) (i := 1) rfl rfl rfl g450 (by decide) fun a451 _ k452 m453 i454 => ?_
   have k455 := k452
   obtain rfl : _ = ([.int .i64 y449] : List Value) := k455
   refine zce (T := (Ty.int .i64)) (z' := c445) (off := 0) (vs := [.int .i64 c445]) hO (wm0_2.le hL) (i := 1) rfl (by rw [add_zero]; rfl) i454 g450 k452 m453 rfl rfl rfl rfl (by decide) (show _ = _ from rfl) fun σ o456 w457 hO => ?_
   have hO := zs74 hO
   refine ze (zg (zF (zk ?_)))
   have hO := hO.sel [0, 1, 2]
   exact ⟨q0.R.length, Am0_2, cm0_2, o456, (q0.R.set (Int.toNat p1.R) c445), q0.W.length, Am0_3, cm0_3, om0_3, q0.W, Am0_4, cm0_4, q0.In, Am0_5, cm0_5, q0.Out, _, zs1 zsM, hO, hL, w457.len, w457, (wm0_3.le hL).len, (wm0_3.le hL), (rm0_4.le hL), (rm0_5.le hL), hF⟩
  refine zb (zb (za hO [] [(89, .bool ((p1.Kind.toNat : Int) == 6))] [0, 2, 4, 8, 27] zsR fun j => ?_))
  refine zbK (fun e' σ' => ∃ (x461 : Bool) (τ' : Hp), agr [(0, zs3 bm0), (2, zs2 p2), (4, zs3 b4), (8, zs2 (IntKind.i64.wrap (y5 + p1.N))), (27, .int .u8 (p1.Kind.toNat : Int)), (89, .bool x461)] e' ∧ Obs τ' σ' [zbz bm0 (zs9 Am0_0 q0.Code cm0_0) q0.Pc (zs9 Am0_2 q0.R cm0_2) (zs9 Am0_3 q0.W cm0_3) (zs9 Am0_4 q0.In cm0_4) (zs9 Am0_5 q0.Out cm0_5) (q0.How.toNat : Int) q0.Final, om0_2, om0_3, zy b4 (p1.Kind.toNat : Int) (p1.Op.toNat : Int) p1.R p1.S p1.T p1.N p1.M] ∧ Hp.le τ τ' ∧ zbO q0 p1 p2 y5 x461 = some rr) ?_ ?_
  ·refine z5 (zi hF rfl (fun hF => ?_) fun hF => ?_)
   ·refine zl (zg (zk ?_))
    exact ⟨((p1.Kind.toNat : Int) == 6), _, zs1 zsQ, hO, hL, hF⟩
   refine zb (za hO [] [(89, .bool ((p1.Kind.toNat : Int) == 7))] [0, 2, 4, 8, 27] zsR fun j => ?_)
   refine zi hF rfl (fun hF => ?_) fun hF => ?_
   ·refine zl (zg (zk ?_))
    exact ⟨((p1.Kind.toNat : Int) == 7), _, zs1 zsQ, hO, hL, hF⟩
   refine zb (za hO [] [(89, .bool ((p1.Kind.toNat : Int) == 8))] [0, 2, 4, 8, 27] zsR fun j => ?_)
   refine zi hF rfl (fun hF => ?_) fun hF => ?_
   ·refine zl (zg (zk ?_))
    exact ⟨((p1.Kind.toNat : Int) == 8), _, zs1 zsQ, hO, hL, hF⟩
   refine za hO [] [(89, .bool ((p1.Kind.toNat : Int) == 9))] [0, 2, 4, 8, 27] zsR fun j => ?_
   refine zg (zk ?_)
   exact ⟨((p1.Kind.toNat : Int) == 9), _, zs1 zsQ, hO, hL, hF⟩
  rintro e σ ⟨x461, _, hA, hO, hL, hF⟩
  rw [← zD _ _ hA]
  unfold zbO at hF
  refine zi hF rfl (fun hF => ?_) fun hF => ?_
  ·refine zb (zb (za hO [3, 3] [(101, .bool (((p1.Kind.toNat : Int) == 8) || ((p1.Kind.toNat : Int) == 9)))] [0, 2, 4, 8] (And.intro (And.intro rfl rfl) (And.intro (And.intro rfl rfl) (And.intro (And.intro rfl rfl) (fun _ => zs1 zsP)))) fun j => ?_))
   refine zbK (fun e' σ' => ∃ (x489 : Int) (τ' : Hp), agr [(0, zs3 bm0), (2, zs2 p2), (4, zs3 b4), (8, zs2 x489)] e' ∧ Obs τ' σ' [zbz bm0 (zs9 Am0_0 q0.Code cm0_0) q0.Pc (zs9 Am0_2 q0.R cm0_2) (zs9 Am0_3 q0.W cm0_3) (zs9 Am0_4 q0.In cm0_4) (zs9 Am0_5 q0.Out cm0_5) (q0.How.toNat : Int) q0.Final, om0_2, om0_3, zy b4 (p1.Kind.toNat : Int) (p1.Op.toNat : Int) p1.R p1.S p1.T p1.N p1.M] ∧ Hp.le τ τ' ∧ zfK q0 p1 p2 x489 = some rr) ?_ ?_
   ·refine z5 (zi hF rfl (fun hF => ?_) fun hF => ?_)
    ·refine zb (zb (z8 (zc hO 6 [0, 3] [(105, zs9 Am0_2 q0.R cm0_2), (107, zs2 p1.T)] [0, 2, 4, 8] (And.intro (And.intro rfl rfl) (And.intro (And.intro rfl rfl) zsR)) fun j => ?_)))
     obtain ⟨y529, g530, hF⟩ := zs8 hF
     refine zbg (T := (Ty.int .i64)) hO (wm0_2.le hL) (i := 1) rfl rfl rfl g530 (by decide) fun a531 _ k532 m533 i534 => ?_
     have k535 := k532
     obtain rfl : _ = ([.int .i64 y529] : List Value) := k535
     refine zL rfl m533.fst ?_
     refine zc hO 2 [] [(111, .bool (decide (y529 < 0)))] [0, 2, 4, 8] zsQ fun j => ?_
     obtain ⟨c536, h537, hF⟩ := zs8 hF
     refine zcg 2 [(123, .bool c536), (0, zs3 bm0), (2, zs2 p2), (4, zs3 b4), (8, zs2 (IntKind.i64.wrap (y5 + p1.N)))] (fun Q hQ => ?_) fun j => ?_
     ·have hF := h537
      rcases z1 hF with ⟨hb538, hF⟩ | ⟨hb538, hF⟩
      ·refine zP (zs5 hb538) ?_
       refine zw (zs4 hb538) ?_
       refine ze ?_
       cases hF
       refine zg ?_
       exact hQ _ zsQ
      refine zK (zs5 hb538) ?_
      refine zc hO 6 [0, 3] [(115, zs9 Am0_2 q0.R cm0_2), (117, zs2 p1.T)] [0, 2, 4, 8, 111] (And.intro (And.intro rfl rfl) (And.intro (And.intro rfl rfl) zsS)) fun j => ?_
      obtain ⟨y539, g540, hF⟩ := zs8 hF
      refine zbg (T := (Ty.int .i64)) hO (wm0_2.le hL) (i := 1) rfl rfl rfl g540 (by decide) fun a541 _ k542 m543 i544 => ?_
      have k545 := k542
      obtain rfl : _ = ([.int .i64 y539] : List Value) := k545
      refine zL rfl m543.fst ?_
      refine zc hO 3 [3] [(122, .bool (decide (y539 ≥ p1.M)))] [0, 2, 4, 8, 111] (And.intro (And.intro rfl rfl) zsR) fun j => ?_
      refine zw (zs4 hb538) ?_
      refine ze ?_
      cases hF
      refine zg ?_
      exact hQ _ zsQ
     refine ze (zi hF rfl (fun hF => ?_) fun hF => ?_)
     ·refine zb (za hO [] [(6, .int .u8 3)] [0] zsN fun j => ?_)
      refine zp (zB (zJ (zB ?_)))
      cases hF
      have hO := hO.sel [0, 1, 2]
      exact hQ _ _ _ _ _ rfl hO hL ⟨_, _, _, _, _, _, _, rfl, rfl, (rm0_0.le hL), (wm0_2.le hL), (wm0_3.le hL), (rm0_4.le hL), (rm0_5.le hL)⟩
     refine zl (z8 (zc hO 7 [0, 3] [(124, zs2 (IntKind.i64.wrap (y5 + p1.N))), (128, zs9 Am0_2 q0.R cm0_2), (130, zs2 p1.T)] [0, 2, 4] (And.intro (And.intro rfl rfl) (And.intro (And.intro rfl rfl) zsR)) fun j => ?_))
     obtain ⟨y547, g548, hF⟩ := zs8 hF
     refine zbg (T := (Ty.int .i64)) hO (wm0_2.le hL) (i := 1) rfl rfl rfl g548 (by decide) fun a549 _ k550 m551 i552 => ?_
     have k553 := k550
     obtain rfl : _ = ([.int .i64 y547] : List Value) := k553
     refine zL rfl m551.fst ?_
     refine za hO [] [(8, zs2 (IntKind.i64.wrap ((IntKind.i64.wrap (y5 + p1.N)) + y547)))] [0, 2, 4] zsP fun j => ?_
     refine zg (zk ?_)
     exact ⟨(IntKind.i64.wrap ((IntKind.i64.wrap (y5 + p1.N)) + y547)), _, zs1 zsO, hO, hL, hF⟩
    refine zl (zg (zk ?_))
    exact ⟨(IntKind.i64.wrap (y5 + p1.N)), _, zs1 zsO, hO, hL, hF⟩
   rintro e σ ⟨x489, _, hA, hO, hL, hF⟩
   rw [← zD _ _ hA]
   unfold zfK at hF
   refine zb (zb (zc hO 2 [] [(134, zs3 bm0), (135, zs2 x489)] [0, 2, 4, 8] zsR fun j => ?_))
   obtain ⟨c490, h491, hF⟩ := zs8 hF
   have hO := hO.sel [3, 0, 1, 2]
   refine zbe (hs := [_]) (vs := [_, _, _]) hO (zk2 (q0 := (⟨q0.Code, q0.Pc, q0.R, q0.W, q0.In, q0.Out, q0.How, q0.Final⟩ : zQ)) (rm0_0.le hL) (wm0_2.le hL) (wm0_3.le hL) (rm0_4.le hL) (rm0_5.le hL) h491) rfl fun _ σ _ _ hO h492 h493 => ?_
   have hL := hL.trans h492
   obtain ⟨rfl, rfl⟩ := h493
   have hO := zs74 hO
   have hO := hO.sel [1, 2, 3, 0]
   have hO := zs74 hO
   refine za hO [] [(137, .bool (!c490))] [0, 2, 4, 8] zsQ fun j => ?_
   refine zi hF rfl (fun hF => ?_) fun hF => ?_
   ·refine zb (za hO [] [(6, .int .u8 6)] [0] zsN fun j => ?_)
    refine zp (zJ (zB ?_))
    cases hF
    have hO := hO.sel [0, 1, 2]
    exact hQ _ _ _ _ _ rfl hO hL ⟨_, _, _, _, _, _, _, rfl, rfl, (rm0_0.le hL), (wm0_2.le hL), (wm0_3.le hL), (rm0_4.le hL), (rm0_5.le hL)⟩
   refine zl (zb (za hO [3, 3] [(145, .bool (((p1.Kind.toNat : Int) == 6) || ((p1.Kind.toNat : Int) == 8)))] [0, 2, 4, 8] (And.intro (And.intro rfl rfl) (And.intro (And.intro rfl rfl) (And.intro (And.intro rfl rfl) (fun _ => zs1 zsP)))) fun j => ?_))
   refine zi hF rfl (fun hF => ?_) fun hF => ?_
   ·refine z8 (zc hO 11 [0, 3, 0] [(149, zs9 Am0_2 q0.R cm0_2), (151, zs2 p1.R), (155, zs9 Am0_3 q0.W cm0_3), (156, zs2 x489)] [0, 2] (And.intro (And.intro rfl rfl) (And.intro (And.intro rfl rfl) (And.intro (And.intro rfl rfl) zsR))) fun j => ?_)
    obtain ⟨y496, g497, hF⟩ := zs8 hF
    refine zbg (T := (Ty.int .i64)) hO (wm0_3.le hL) (i := 2) rfl rfl rfl g497 (by decide) fun a498 _ k499 m500 i501 => ?_
    have k502 := k499
    obtain rfl : _ = ([.int .i64 y496] : List Value) := k502
    refine zL rfl m500.fst ?_
    obtain ⟨y503, g504, hF⟩ := zs8 hF
    refine zbg (T := (Ty.int .i64)) hO (wm0_2.le hL) (i := 1) rfl rfl rfl g504 (by decide) fun a505 _ k506 m507 i508 => ?_
    have k509 := k506
    obtain rfl : _ = ([.int .i64 y503] : List Value) := k509
    refine zce (T := (Ty.int .i64)) (z' := y496) (off := 0) (vs := [.int .i64 y496]) hO (wm0_2.le hL) (i := 1) rfl (by rw [add_zero]; rfl) i508 g504 k506 m507 rfl rfl rfl rfl (by decide) (show _ = _ from rfl) fun σ o510 w511 hO => ?_
    have hO := zs74 hO
    refine ze (zg (zF (zk ?_)))
    have hO := hO.sel [0, 1, 2]
    exact ⟨q0.R.length, Am0_2, cm0_2, o510, (q0.R.set (Int.toNat p1.R) y496), q0.W.length, Am0_3, cm0_3, om0_3, q0.W, Am0_4, cm0_4, q0.In, Am0_5, cm0_5, q0.Out, _, zs1 zsM, hO, hL, w511.len, w511, (wm0_3.le hL).len, (wm0_3.le hL), (rm0_4.le hL), (rm0_5.le hL), hF⟩
   refine z8 (zc hO 11 [0, 0, 3] [(163, zs9 Am0_3 q0.W cm0_3), (164, zs2 x489), (168, zs9 Am0_2 q0.R cm0_2), (170, zs2 p1.R)] [0, 2] (And.intro (And.intro rfl rfl) (And.intro (And.intro rfl rfl) (And.intro (And.intro rfl rfl) zsR))) fun j => ?_)
   obtain ⟨y512, g513, hF⟩ := zs8 hF
   refine zbg (T := (Ty.int .i64)) hO (wm0_2.le hL) (i := 1) rfl rfl rfl g513 (by decide) fun a514 _ k515 m516 i517 => ?_
   have k518 := k515
   obtain rfl : _ = ([.int .i64 y512] : List Value) := k518
   refine zL rfl m516.fst ?_
   obtain ⟨y519, g520, hF⟩ := zs8 hF
   refine zbg (T := (Ty.int .i64)) hO (wm0_3.le hL) (i := 2) rfl rfl rfl g520 (by decide) fun a521 _ k522 m523 i524 => ?_
   have k525 := k522
   obtain rfl : _ = ([.int .i64 y519] : List Value) := k525
   refine zce (T := (Ty.int .i64)) (z' := y512) (off := 0) (vs := [.int .i64 y512]) hO (wm0_3.le hL) (i := 2) rfl (by rw [add_zero]; rfl) i524 g520 k522 m523 rfl rfl rfl rfl (by decide) (show _ = _ from rfl) fun σ o526 w527 hO => ?_
   have hO := zs74 hO
   refine ze (zg (zF (zk ?_)))
   have hO := hO.sel [0, 1, 2]
   exact ⟨q0.R.length, Am0_2, cm0_2, om0_2, q0.R, q0.W.length, Am0_3, cm0_3, o526, (q0.W.set (Int.toNat x489) y512), Am0_4, cm0_4, q0.In, Am0_5, cm0_5, q0.Out, _, zs1 zsM, hO, hL, (wm0_2.le hL).len, (wm0_2.le hL), w527.len, w527, (rm0_4.le hL), (rm0_5.le hL), hF⟩
  refine zb (za hO [] [(174, .bool ((p1.Kind.toNat : Int) == 10))] [0, 2, 4, 27] zsQ fun j => ?_)
  refine zi hF rfl (fun hF => ?_) fun hF => ?_
  ·refine zb (zc hO 5 [3] [(178, zs2 p1.N), (180, .pointer (some ⟨bm0, 1, none⟩))] [0] (And.intro (And.intro rfl rfl) zsO) fun j => ?_)
   refine zH hO (i := 0) rfl (off := 1) rfl rfl rfl rfl (Nat.le_of_ble_eq_true rfl) rfl fun σ hO => ?_
   have hO := zs74 hO
   refine ze (zb (za hO [] [(6, .int .u8 0)] [0] zsN fun j => ?_))
   refine zp (zJ (zB ?_))
   cases hF
   have hO := hO.sel [0, 1, 2]
   exact hQ _ _ _ _ _ rfl hO hL ⟨_, _, _, _, _, _, _, rfl, rfl, (rm0_0.le hL), (wm0_2.le hL), (wm0_3.le hL), (rm0_4.le hL), (rm0_5.le hL)⟩
  refine zb (za hO [] [(181, .bool ((p1.Kind.toNat : Int) == 11))] [0, 2, 4, 27] zsQ fun j => ?_)
  refine zi hF rfl (fun hF => ?_) fun hF => ?_
  ·refine zb (z8 (zc hO 6 [0, 3] [(186, zs9 Am0_2 q0.R cm0_2), (188, zs2 p1.R)] [0, 2, 4] (And.intro (And.intro rfl rfl) (And.intro (And.intro rfl rfl) zsQ)) fun j => ?_))
   obtain ⟨y556, g557, hF⟩ := zs8 hF
   refine zbg (T := (Ty.int .i64)) hO (wm0_2.le hL) (i := 1) rfl rfl rfl g557 (by decide) fun a558 _ k559 m560 i561 => ?_
   have k562 := k559
   obtain rfl : _ = ([.int .i64 y556] : List Value) := k562
   refine zL rfl m560.fst ?_
   refine za hO [] [(191, .bool (y556 == 0))] [0, 2, 4] zsP fun j => ?_
   refine zi hF rfl (fun hF => ?_) fun hF => ?_
   ·refine zb (zc hO 5 [3] [(194, zs2 p1.N), (196, .pointer (some ⟨bm0, 1, none⟩))] [0] (And.intro (And.intro rfl rfl) zsO) fun j => ?_)
    refine zH hO (i := 0) rfl (off := 1) rfl rfl rfl rfl (Nat.le_of_ble_eq_true rfl) rfl fun σ hO => ?_
    have hO := zs74 hO
    refine ze (zb (za hO [] [(6, .int .u8 0)] [0] zsN fun j => ?_))
    refine zp (zJ (zB ?_))
    cases hF
    have hO := hO.sel [0, 1, 2]
    exact hQ _ _ _ _ _ rfl hO hL ⟨_, _, _, _, _, _, _, rfl, rfl, (rm0_0.le hL), (wm0_2.le hL), (wm0_3.le hL), (rm0_4.le hL), (rm0_5.le hL)⟩
   refine zl (zg (zF (zk ?_)))
   have hO := hO.sel [0, 1, 2]
   exact ⟨q0.R.length, Am0_2, cm0_2, om0_2, q0.R, q0.W.length, Am0_3, cm0_3, om0_3, q0.W, Am0_4, cm0_4, q0.In, Am0_5, cm0_5, q0.Out, _, zs1 zsM, hO, hL, (wm0_2.le hL).len, (wm0_2.le hL), (wm0_3.le hL).len, (wm0_3.le hL), (rm0_4.le hL), (rm0_5.le hL), hF⟩
  refine zb (za hO [] [(197, .bool ((p1.Kind.toNat : Int) == 12))] [0, 2, 4, 27] zsQ fun j => ?_)
  refine zi hF rfl (fun hF => ?_) fun hF => ?_
  ·refine zb (zc hO 4 [0] [(202, zs9 Am0_2 q0.R cm0_2)] [0, 2, 4] (And.intro (And.intro rfl rfl) zsP) fun j => ?_)
   obtain ⟨y565, g566, hF⟩ := zs8 hF
   refine zbg (T := (Ty.int .i64)) hO (wm0_2.le hL) (i := 1) rfl rfl rfl g566 (by decide) fun a567 _ k568 m569 i570 => ?_
   have k571 := k568
   obtain rfl : _ = ([.int .i64 y565] : List Value) := k571
   refine zL rfl m569.fst ?_
   refine za hO [] [(11, zs2 (IntKind.i64.wrap (y565 - 1)))] [0, 2, 4] zsP fun j => ?_
   refine zb (zb (za hO [] [(207, .bool (decide ((IntKind.i64.wrap (y565 - 1)) < 0)))] [0, 2, 4, 11] zsQ fun j => ?_))
   refine zi hF rfl (fun hF => ?_) fun hF => ?_
   ·refine zb (za hO [] [(6, .int .u8 7)] [0] zsN fun j => ?_)
    refine zp (zJ (zB ?_))
    cases hF
    have hO := hO.sel [0, 1, 2]
    exact hQ _ _ _ _ _ rfl hO hL ⟨_, _, _, _, _, _, _, rfl, rfl, (rm0_0.le hL), (wm0_2.le hL), (wm0_3.le hL), (rm0_4.le hL), (rm0_5.le hL)⟩
   refine zl (zb (zb (zc hO 2 [] [(208, zs3 bm0), (209, zs2 (IntKind.i64.wrap (y565 - 1)))] [0, 2, 4, 11] zsR fun j => ?_)))
   obtain ⟨c573, h574, hF⟩ := zs8 hF
   have hO := hO.sel [3, 0, 1, 2]
   refine zbe (hs := [_]) (vs := [_, _, _]) hO (zk2 (q0 := (⟨q0.Code, q0.Pc, q0.R, q0.W, q0.In, q0.Out, q0.How, q0.Final⟩ : zQ)) (rm0_0.le hL) (wm0_2.le hL) (wm0_3.le hL) (rm0_4.le hL) (rm0_5.le hL) h574) rfl fun _ σ _ _ hO h575 h576 => ?_
   have hL := hL.trans h575
   obtain ⟨rfl, rfl⟩ := h576
   have hO := zs74 hO
   have hO := hO.sel [1, 2, 3, 0]
   have hO := zs74 hO
   refine za hO [] [(211, .bool (!c573))] [0, 2, 4, 11] zsQ fun j => ?_
   refine zi hF rfl (fun hF => ?_) fun hF => ?_
   ·refine zb (zj hO [] [(0, zs3 bm0), (6, .int .u8 6)] zsN fun j => ?_)
    refine zp (zJ (zB ?_))
    cases hF
    have hO := hO.sel [0, 1, 2]
    exact hQ _ _ _ _ _ rfl hO hL ⟨_, _, _, _, _, _, _, rfl, rfl, (rm0_0.le hL), (wm0_2.le hL), (wm0_3.le hL), (rm0_4.le hL), (rm0_5.le hL)⟩
   refine zl (zb (zZ hO 5 [0] [(0, zs3 bm0), (2, zs2 p2), (4, zs3 b4), (11, zs2 (IntKind.i64.wrap (y565 - 1))), (215, zs9 Am0_2 q0.R cm0_2), (216, zs2 (IntKind.i64.wrap (y565 - 1)))] (And.intro (And.intro rfl rfl) zsR) fun j => ?_))
   obtain ⟨y578, g579, hF⟩ := zs8 hF
   refine zbg (T := (Ty.int .i64)) hO (wm0_2.le hL) (i := 1) rfl rfl rfl g579 (by decide) fun a580 _ k581 m582 i583 => ?_
   have k584 := k581
   obtain rfl : _ = ([.int .i64 y578] : List Value) := k584
   refine zce (T := (Ty.int .i64)) (z' := (IntKind.i64.wrap (y565 - 1))) (off := 0) (vs := [.int .i64 (IntKind.i64.wrap (y565 - 1))]) hO (wm0_2.le hL) (i := 1) rfl (by rw [add_zero]; rfl) i583 g579 k581 m582 rfl rfl rfl rfl (by decide) (show _ = _ from rfl) fun σ o585 w586 hO => ?_
   have hO := zs74 hO
   refine ze (zb (zc hO 6 [0] [(221, zs9 Am0_3 q0.W cm0_3), (222, zs2 (IntKind.i64.wrap (y565 - 1))), (223, zs2 p2)] [0, 4] (And.intro (And.intro rfl rfl) zsQ) fun j => ?_))
   obtain ⟨y587, g588, hF⟩ := zs8 hF
   refine zbg (T := (Ty.int .i64)) hO (wm0_3.le hL) (i := 2) rfl rfl rfl g588 (by decide) fun a589 _ k590 m591 i592 => ?_
   have k593 := k590
   obtain rfl : _ = ([.int .i64 y587] : List Value) := k593
   refine zce (T := (Ty.int .i64)) (z' := p2) (off := 0) (vs := [.int .i64 p2]) hO (wm0_3.le hL) (i := 2) rfl (by rw [add_zero]; rfl) i592 g588 k590 m591 rfl rfl rfl rfl (by decide) (show _ = _ from rfl) fun σ o594 w595 hO => ?_
   have hO := zs74 hO
   refine ze (zb (zc hO 5 [3] [(227, zs2 p1.N), (229, .pointer (some ⟨bm0, 1, none⟩))] [0] (And.intro (And.intro rfl rfl) zsO) fun j => ?_))
   refine zH hO (i := 0) rfl (off := 1) rfl rfl rfl rfl (Nat.le_of_ble_eq_true rfl) rfl fun σ hO => ?_
   have hO := zs74 hO
   refine ze (zb (za hO [] [(6, .int .u8 0)] [0] zsN fun j => ?_))
   refine zp (zJ (zB ?_))
   cases hF
   have hO := hO.sel [0, 1, 2]
   exact hQ _ _ _ _ _ rfl hO hL ⟨_, _, _, _, _, _, _, rfl, rfl, (rm0_0.le hL), w586, w595, (rm0_4.le hL), (rm0_5.le hL)⟩
  refine zb (za hO [] [(230, .bool ((p1.Kind.toNat : Int) == 13))] [0, 2, 4, 27] zsQ fun j => ?_)
  refine zi hF rfl (fun hF => ?_) fun hF => ?_
  ·refine zb (zc hO 4 [0] [(235, zs9 Am0_2 q0.R cm0_2)] [0] (And.intro (And.intro rfl rfl) zsN) fun j => ?_)
   obtain ⟨y597, g598, hF⟩ := zs8 hF
   refine zbg (T := (Ty.int .i64)) hO (wm0_2.le hL) (i := 1) rfl rfl rfl g598 (by decide) fun a599 _ k600 m601 i602 => ?_
   have k603 := k600
   obtain rfl : _ = ([.int .i64 y597] : List Value) := k603
   refine zL rfl m601.fst ?_
   refine za hO [] [(12, zs2 y597)] [0] zsN fun j => ?_
   refine zb (zb (zc hO 2 [] [(238, zs3 bm0), (239, zs2 y597)] [0, 12] zsP fun j => ?_))
   obtain ⟨c604, h605, hF⟩ := zs8 hF
   have hO := hO.sel [3, 0, 1, 2]
   refine zbe (hs := [_]) (vs := [_, _, _]) hO (zk2 (q0 := (⟨q0.Code, q0.Pc, q0.R, q0.W, q0.In, q0.Out, q0.How, q0.Final⟩ : zQ)) (rm0_0.le hL) (wm0_2.le hL) (wm0_3.le hL) (rm0_4.le hL) (rm0_5.le hL) h605) rfl fun _ σ _ _ hO h606 h607 => ?_
   have hL := hL.trans h606
   obtain ⟨rfl, rfl⟩ := h607
   have hO := zs74 hO
   have hO := hO.sel [1, 2, 3, 0]
   have hO := zs74 hO
   refine za hO [] [(241, .bool (!c604))] [0, 12] zsO fun j => ?_
   refine zi hF rfl (fun hF => ?_) fun hF => ?_
   ·refine zb (zj hO [] [(0, zs3 bm0), (6, .int .u8 6)] zsN fun j => ?_)
    refine zp (zJ (zB ?_))
    cases hF
    have hO := hO.sel [0, 1, 2]
    exact hQ _ _ _ _ _ rfl hO hL ⟨_, _, _, _, _, _, _, rfl, rfl, (rm0_0.le hL), (wm0_2.le hL), (wm0_3.le hL), (rm0_4.le hL), (rm0_5.le hL)⟩
   refine zl (zb (zb (zZ hO 5 [0] [(0, zs3 bm0), (12, zs2 y597), (245, zs9 Am0_3 q0.W cm0_3), (246, zs2 y597)] (And.intro (And.intro rfl rfl) zsP) fun j => ?_)))
   obtain ⟨y609, g610, hF⟩ := zs8 hF
   refine zbg (T := (Ty.int .i64)) hO (wm0_3.le hL) (i := 2) rfl rfl rfl g610 (by decide) fun a611 _ k612 m613 i614 => ?_
   have k615 := k612
   obtain rfl : _ = ([.int .i64 y609] : List Value) := k615
   refine zL rfl m613.fst ?_
   refine zc hO 2 [] [(250, .bool (decide (y609 < 0)))] [0, 12] zsO fun j => ?_
   obtain ⟨c616, h617, hF⟩ := zs8 hF
   refine zcg 2 [(259, .bool c616), (0, zs3 bm0), (12, zs2 y597)] (fun Q hQ => ?_) fun j => ?_
   ·have hF := h617
    rcases z1 hF with ⟨hb618, hF⟩ | ⟨hb618, hF⟩
    ·refine zP (zs5 hb618) ?_
     refine zw (zs4 hb618) ?_
     refine ze ?_
     cases hF
     refine zg ?_
     exact hQ _ zsO
    refine zK (zs5 hb618) ?_
    refine zc hO 5 [0] [(254, zs9 Am0_3 q0.W cm0_3), (255, zs2 y597)] [0, 12, 250] (And.intro (And.intro rfl rfl) zsQ) fun j => ?_
    obtain ⟨y619, g620, hF⟩ := zs8 hF
    refine zbg (T := (Ty.int .i64)) hO (wm0_3.le hL) (i := 2) rfl rfl rfl g620 (by decide) fun a621 _ k622 m623 i624 => ?_
    have k625 := k622
    obtain rfl : _ = ([.int .i64 y619] : List Value) := k625
    refine zL rfl m623.fst ?_
    refine zc hO 1 [] [(258, .bool (decide (y619 ≥ 16777216)))] [0, 12, 250] zsP fun j => ?_
    refine zw (zs4 hb618) ?_
    refine ze ?_
    cases hF
    refine zg ?_
    exact hQ _ zsO
   refine ze (zi hF rfl (fun hF => ?_) fun hF => ?_)
   ·refine zb (za hO [] [(6, .int .u8 5)] [0] zsN fun j => ?_)
    refine zp (zJ (zB ?_))
    cases hF
    have hO := hO.sel [0, 1, 2]
    exact hQ _ _ _ _ _ rfl hO hL ⟨_, _, _, _, _, _, _, rfl, rfl, (rm0_0.le hL), (wm0_2.le hL), (wm0_3.le hL), (rm0_4.le hL), (rm0_5.le hL)⟩
   refine zl (zb (zc hO 6 [0] [(263, zs9 Am0_2 q0.R cm0_2), (265, zs2 (IntKind.i64.wrap (y597 + 1)))] [0, 12] (And.intro (And.intro rfl rfl) zsP) fun j => ?_))
   obtain ⟨y627, g628, hF⟩ := zs8 hF
   refine zbg (T := (Ty.int .i64)) hO (wm0_2.le hL) (i := 1) rfl rfl rfl g628 (by decide) fun a629 _ k630 m631 i632 => ?_
   have k633 := k630
   obtain rfl : _ = ([.int .i64 y627] : List Value) := k633
   refine zce (T := (Ty.int .i64)) (z' := (IntKind.i64.wrap (y597 + 1))) (off := 0) (vs := [.int .i64 (IntKind.i64.wrap (y597 + 1))]) hO (wm0_2.le hL) (i := 1) rfl (by rw [add_zero]; rfl) i632 g628 k630 m631 rfl rfl rfl rfl (by decide) (show _ = _ from rfl) fun σ o634 w635 hO => ?_
   have hO := zs74 hO
   refine ze (zb (zc hO 6 [0] [(267, zs3 bm0), (271, zs9 Am0_3 q0.W cm0_3), (272, zs2 y597)] [0] (And.intro (And.intro rfl rfl) zsP) fun j => ?_))
   obtain ⟨y636, g637, hF⟩ := zs8 hF
   refine zbg (T := (Ty.int .i64)) hO (wm0_3.le hL) (i := 2) rfl rfl rfl g637 (by decide) fun a638 _ k639 m640 i641 => ?_
   have k642 := k639
   obtain rfl : _ = ([.int .i64 y636] : List Value) := k642
   refine zL rfl m640.fst ?_
   refine zc hO 2 [] [(276, .pointer (some ⟨bm0, 1, none⟩))] [0, 274] zsO fun j => ?_
   refine zH hO (i := 0) rfl (off := 1) rfl rfl rfl rfl (Nat.le_of_ble_eq_true rfl) rfl fun σ hO => ?_
   have hO := zs74 hO
   refine ze (zb (za hO [] [(6, .int .u8 0)] [0] zsN fun j => ?_))
   refine zp (zJ (zB ?_))
   cases hF
   have hO := hO.sel [0, 1, 2]
   exact hQ _ _ _ _ _ rfl hO hL ⟨_, _, _, _, _, _, _, rfl, rfl, (rm0_0.le hL), w635, (wm0_3.le hL), (rm0_4.le hL), (rm0_5.le hL)⟩
  refine zb (za hO [] [(277, .bool ((p1.Kind.toNat : Int) == 14))] [0, 2, 4, 27] zsQ fun j => ?_)
  refine zi hF rfl (fun hF => ?_) fun hF => ?_
  ·refine zb (z8 (zc hO 4 [0] [(282, zs9 Am0_2 q0.R cm0_2)] [0, 2, 4] (And.intro (And.intro rfl rfl) zsP) fun j => ?_))
   obtain ⟨y644, g645, hF⟩ := zs8 hF
   refine zbg (T := (Ty.int .i64)) hO (wm0_2.le hL) (i := 1) rfl rfl rfl g645 (by decide) fun a646 _ k647 m648 i649 => ?_
   have k650 := k647
   obtain rfl : _ = ([.int .i64 y644] : List Value) := k650
   refine zL rfl m648.fst ?_
   refine za hO [3] [(13, zs2 (IntKind.i64.wrap (y644 - p1.N)))] [0, 2] (And.intro (And.intro rfl rfl) zsO) fun j => ?_
   refine zb (zb (za hO [] [(289, .bool (decide ((IntKind.i64.wrap (y644 - p1.N)) < 0)))] [0, 2, 13] zsP fun j => ?_))
   refine zi hF rfl (fun hF => ?_) fun hF => ?_
   ·refine zb (zj hO [] [(0, zs3 bm0), (6, .int .u8 7)] zsN fun j => ?_)
    refine zp (zJ (zB ?_))
    cases hF
    have hO := hO.sel [0, 1, 2]
    exact hQ _ _ _ _ _ rfl hO hL ⟨_, _, _, _, _, _, _, rfl, rfl, (rm0_0.le hL), (wm0_2.le hL), (wm0_3.le hL), (rm0_4.le hL), (rm0_5.le hL)⟩
   refine zl (zb (zb (zj hO [0] [(0, zs3 bm0), (2, zs2 p2), (13, zs2 (IntKind.i64.wrap (y644 - p1.N))), (296, .bool (decide ((IntKind.i64.wrap (y644 - p1.N)) > (q0.W.length : Int))))] (And.intro (And.intro rfl rfl) zsP) fun j => ?_)))
   refine zi hF rfl (fun hF => ?_) fun hF => ?_
   ·refine zb (za hO [] [(6, .int .u8 6)] [0] zsN fun j => ?_)
    refine zp (zJ (zB ?_))
    cases hF
    have hO := hO.sel [0, 1, 2]
    exact hQ _ _ _ _ _ rfl hO hL ⟨_, _, _, _, _, _, _, rfl, rfl, (rm0_0.le hL), (wm0_2.le hL), (wm0_3.le hL), (rm0_4.le hL), (rm0_5.le hL)⟩
   refine zl (zc hO 5 [0] [(300, zs9 Am0_2 q0.R cm0_2), (301, zs2 (IntKind.i64.wrap (y644 - p1.N)))] [0, 2] (And.intro (And.intro rfl rfl) zsP) fun j => ?_)
   obtain ⟨y653, g654, hF⟩ := zs8 hF
   refine zbg (T := (Ty.int .i64)) hO (wm0_2.le hL) (i := 1) rfl rfl rfl g654 (by decide) fun a655 _ k656 m657 i658 => ?_
   have k659 := k656
   obtain rfl : _ = ([.int .i64 y653] : List Value) := k659
   refine zce (T := (Ty.int .i64)) (z' := (IntKind.i64.wrap (y644 - p1.N))) (off := 0) (vs := [.int .i64 (IntKind.i64.wrap (y644 - p1.N))]) hO (wm0_2.le hL) (i := 1) rfl (by rw [add_zero]; rfl) i658 g654 k656 m657 rfl rfl rfl rfl (by decide) (show _ = _ from rfl) fun σ o660 w661 hO => ?_
   have hO := zs74 hO
   refine ze (zg (zF (zk ?_)))
   have hO := hO.sel [0, 1, 2]
   exact ⟨q0.R.length, Am0_2, cm0_2, o660, (q0.R.set (Int.toNat 15) (IntKind.i64.wrap (y644 - p1.N))), q0.W.length, Am0_3, cm0_3, om0_3, q0.W, Am0_4, cm0_4, q0.In, Am0_5, cm0_5, q0.Out, _, zs1 zsM, hO, hL, w661.len, w661, (wm0_3.le hL).len, (wm0_3.le hL), (rm0_4.le hL), (rm0_5.le hL), hF⟩
  refine zb (za hO [] [(303, .bool ((p1.Kind.toNat : Int) == 15))] [0, 2, 4, 27] zsQ fun j => ?_)
  refine zi hF rfl (fun hF => ?_) fun hF => ?_
  ·refine zb (zb (za hO [0] [(310, .bool ((q0.In.length : Int) == 0))] [0, 2, 4] (And.intro (And.intro rfl rfl) zsP) fun j => ?_))
   refine zi hF rfl (fun hF => ?_) fun hF => ?_
   ·refine zb (za hO [] [(6, .int .u8 4)] [0] zsN fun j => ?_)
    refine zp (zJ (zB ?_))
    cases hF
    have hO := hO.sel [0, 1, 2]
    exact hQ _ _ _ _ _ rfl hO hL ⟨_, _, _, _, _, _, _, rfl, rfl, (rm0_0.le hL), (wm0_2.le hL), (wm0_3.le hL), (rm0_4.le hL), (rm0_5.le hL)⟩
   refine zl (zb (z8 (zc hO 10 [0, 3, 0] [(314, zs9 Am0_2 q0.R cm0_2), (316, zs2 p1.R), (320, zs9 Am0_4 q0.In cm0_4)] [0, 2] (And.intro (And.intro rfl rfl) (And.intro (And.intro rfl rfl) (And.intro (And.intro rfl rfl) zsQ))) fun j => ?_)))
   obtain ⟨y664, g665, hF⟩ := zs8 hF
   refine zbJ (T := (Ty.int .i64)) (rm0_4.le hL) hO.base rfl rfl g665 (by decide) fun a666 _ k667 m668 => ?_
   obtain rfl : _ = ([.int .i64 y664] : List Value) := k667
   refine zL rfl (m668.le hO.base).fst ?_
   obtain ⟨y669, g670, hF⟩ := zs8 hF
   refine zbg (T := (Ty.int .i64)) hO (wm0_2.le hL) (i := 1) rfl rfl rfl g670 (by decide) fun a671 _ k672 m673 i674 => ?_
   have k675 := k672
   obtain rfl : _ = ([.int .i64 y669] : List Value) := k675
   refine zce (T := (Ty.int .i64)) (z' := y664) (off := 0) (vs := [.int .i64 y664]) hO (wm0_2.le hL) (i := 1) rfl (by rw [add_zero]; rfl) i674 g670 k672 m673 rfl rfl rfl rfl (by decide) (show _ = _ from rfl) fun σ o676 w677 hO => ?_
   have hO := zs74 hO
   refine ze (zZ hO 1 [] [(0, zs3 bm0), (2, zs2 p2), (324, zs3 bm0)] zsO fun j => ?_)
   refine zbv (T := (Ty.int .i64)) (l := ([] : List Int)) (cs := []) hO rfl rfl rfl (by decide) fun _ σ o680 w681 hO => ?_
   obtain ⟨A678, c679, rfl, -⟩ := w681.form
   have hO := zs75 hO
   refine zc hO 4 [0] [(329, zs9 Am0_4 q0.In cm0_4)] [0, 2, 324, 325] (And.intro (And.intro rfl rfl) zsQ) fun j => ?_
   obtain ⟨y682, g683, hF⟩ := zs8 hF
   refine zdB (T := (Ty.int .i64)) (rm0_4.le hL) rfl rfl rfl g683 fun _ r684 => ?_
   obtain ⟨A685, c686, rfl, -⟩ := r684.form
   obtain ⟨_, hr691, hF⟩ := zs8 hF
   refine zdt (T := (Ty.int .i64)) hO w681 (i := 4) rfl rfl rfl r684 hr691 (by decide) fun _ σ o689 w690 hO => ?_
   obtain ⟨A687, c688, rfl, -⟩ := w690.form
   have hO := zs75 hO
   refine zc hO 2 [] [(333, .pointer (some ⟨bm0, 4, none⟩))] [0, 2, 331] zsP fun j => ?_
   refine zH hO (i := 0) rfl (off := 4) rfl rfl rfl rfl (Nat.le_of_ble_eq_true rfl) rfl fun σ hO => ?_
   have hO := zs75 hO
   refine ze (zg (zF (zk ?_)))
   obtain ⟨_, h693, r692, hO⟩ := w690.share hO (i := 4) rfl
   have hL := hL.trans h693
   have w677 := w677.le h693
   have hO := zs75 hO
   have hO := hO.sel [0, 1, 2]
   exact ⟨q0.R.length, Am0_2, cm0_2, o676, (q0.R.set (Int.toNat p1.R) y664), q0.W.length, Am0_3, cm0_3, om0_3, q0.W, A687, c688, (([] : List Int) ++ y682), Am0_5, cm0_5, q0.Out, _, zs1 zsM, hO, hL, w677.len, w677, (wm0_3.le hL).len, (wm0_3.le hL), r692, (rm0_5.le hL), hF⟩
  refine zb (za hO [] [(334, .bool ((p1.Kind.toNat : Int) == 16))] [0, 2, 4, 27] zsQ fun j => ?_)
  refine zi hF rfl (fun hF => ?_) fun hF => ?_
  ·refine zG (za hO [] [(336, zs3 bm0)] [0, 2, 4] zsP fun j => ?_)
   refine zG (zj hO [] [(0, zs3 bm0), (2, zs2 p2), (4, zs3 b4), (336, zs3 bm0), (338, zs3 bm0)] zsQ fun j => ?_)
   refine zG (za hO [] [(339, zs3 bm0)] [0, 2, 4, 336] zsQ fun j => ?_)
   refine zG (za hO [] [(340, .pointer (some ⟨bm0, 5, none⟩))] [0, 2, 4, 336] zsQ fun j => ?_)
   refine zG (za hO [0] [(341, zs9 Am0_5 q0.Out cm0_5)] [0, 2, 4, 336, 340] (And.intro (And.intro rfl rfl) zsR) fun j => ?_)
   refine zG (za hO [] [(343, zs3 bm0)] [0, 2, 4, 336, 340, 341] zsS fun j => ?_)
   refine zG (za hO [] [(344, zs3 bm0)] [0, 2, 4, 336, 340, 341] zsS fun j => ?_)
   refine zG (za hO [] [(345, .pointer (some ⟨bm0, 2, none⟩))] [0, 2, 4, 336, 340, 341] zsS fun j => ?_)
   refine zG (za hO [0] [(346, zs9 Am0_2 q0.R cm0_2)] [0, 2, 4, 336, 340, 341, 345] (And.intro (And.intro rfl rfl) zsT) fun j => ?_)
   refine zG (za hO [] [(347, .pointer (some ⟨b4, 2, none⟩))] [0, 2, 336, 340, 341, 345, 346] zsT fun j => ?_)
   refine zG (zj hO [3] [(0, zs3 bm0), (2, zs2 p2), (336, zs3 bm0), (340, .pointer (some ⟨bm0, 5, none⟩)), (341, zs9 Am0_5 q0.Out cm0_5), (345, .pointer (some ⟨bm0, 2, none⟩)), (346, zs9 Am0_2 q0.R cm0_2), (347, .pointer (some ⟨b4, 2, none⟩)), (348, zs2 p1.R)] (And.intro (And.intro rfl rfl) zsU) fun j => ?_)
   refine zG ?_
   obtain ⟨y695, g696, hF⟩ := zs8 hF
   refine zbg (T := (Ty.int .i64)) hO (wm0_2.le hL) (i := 1) rfl rfl rfl g696 (by decide) fun a697 _ k698 m699 i700 => ?_
   have k701 := k698
   obtain rfl : _ = ([.int .i64 y695] : List Value) := k701
   refine ze (zG (zL rfl m699.fst ?_))
   refine ze ?_
   obtain ⟨_, hr710, hF⟩ := zs8 hF
   obtain ⟨_, hr719, hF⟩ := zs8 hF
   refine zdr ?_ ?_
   ·refine zU (zbx (zbv (T := (Ty.int .i64)) (l := ([] : List Int)) (cs := []) hO rfl rfl rfl (by decide) fun _ σ o704 w705 hO => ?_))
    obtain ⟨A702, c703, rfl, -⟩ := w705.form
    have hO := zs75 hO
    refine ze (zby ⟨(zbh rfl (zd.lookI hO (wm0_2.le hL) (i := 1) rfl g696 i700) rfl), (zbh rfl (hO.val (i := 3) (off := 2) (agg := false) (n := 1) rfl rfl) rfl), (zbh rfl (hO.val (i := 0) (off := 2) (agg := false) (n := 1) rfl rfl) rfl), (zbh rfl (hO.val (i := 0) (off := 5) (agg := false) (n := 1) rfl rfl) rfl), trivial⟩ ?_)
    refine ze (zdr ?_ ?_)
    ·refine zU (zbx (zdt (T := (Ty.int .i64)) hO w705 (i := 4) rfl rfl rfl (rm0_5.le hL) hr710 (by decide) fun _ σ o708 w709 hO => ?_))
     obtain ⟨A706, c707, rfl, -⟩ := w709.form
     have hO := zs75 hO
     refine ze (zby ⟨(zbh rfl (zd.lookI hO (wm0_2.le hL) (i := 1) rfl g696 i700) rfl), (zbh rfl (hO.val (i := 3) (off := 2) (agg := false) (n := 1) rfl rfl) rfl), (zbh rfl (hO.val (i := 0) (off := 2) (agg := false) (n := 1) rfl rfl) rfl), trivial⟩ ?_)
     refine ze (zU (zbx (zbv (T := (Ty.int .i64)) (l := ([y695] : List Int)) (cs := [.int .i64 y695]) hO rfl ⟨[.int .i64 y695], _, rfl, rfl, rfl⟩ rfl (by decide) fun _ σ o713 w714 hO => ?_)))
     obtain ⟨A711, c712, rfl, -⟩ := w714.form
     have hO := zs76 hO
     refine ze (zby ⟨(zbh rfl (hO.val (i := 0) (off := 5) (agg := false) (n := 1) rfl rfl) rfl), trivial⟩ ?_)
     refine ze (zU (zgk (T := (Ty.int .i64)) (Ty.sc_flat _ _) hO w709 (i := 4) rfl rfl rfl (w714.rd hO (i := 5) rfl) hr719 (by decide) fun _ σ o717 w718 hO => ?_))
     obtain ⟨A715, c716, rfl, -⟩ := w718.form
     have hO := zs76 hO
     refine ze (zG (za hO [] [(353, zs3 bm0)] [0, 2, 352] zsP fun j => ?_))
     refine zG (za hO [] [(354, .pointer (some ⟨bm0, 5, none⟩))] [0, 2, 352] zsP fun j => ?_)
     refine zU (zH hO (i := 0) rfl (off := 5) rfl rfl rfl rfl (Nat.le_of_ble_eq_true rfl) rfl fun σ hO => ?_)
     have hO := zs76 hO
     refine ze (zcq (zg (zF (zk ?_))))
     obtain ⟨_, h721, r720, hO⟩ := w718.share hO (i := 4) rfl
     have hL := hL.trans h721
     have hO := zs76 hO
     have hO := hO.sel [0, 1, 2]
     exact ⟨q0.R.length, Am0_2, cm0_2, om0_2, q0.R, q0.W.length, Am0_3, cm0_3, om0_3, q0.W, Am0_4, cm0_4, q0.In, A715, c716, ((([] : List Int) ++ q0.Out) ++ ([y695] : List Int)), _, zs1 zsM, hO, hL, (wm0_2.le hL).len, (wm0_2.le hL), (wm0_3.le hL).len, (wm0_3.le hL), (rm0_4.le hL), r720, hF⟩
    refine zU (zbx (zbv (T := (Ty.int .i64)) (l := ([y695] : List Int)) (cs := [.int .i64 y695]) hO rfl ⟨[.int .i64 y695], _, rfl, rfl, rfl⟩ rfl (by decide) fun _ σ o713 w714 hO => ?_))
    obtain ⟨A711, c712, rfl, -⟩ := w714.form
    have hO := zs76 hO
    refine ze (zby ⟨(zbh rfl (hO.val (i := 0) (off := 5) (agg := false) (n := 1) rfl rfl) rfl), trivial⟩ ?_)
    refine ze (zU (zbx (zdt (T := (Ty.int .i64)) hO w705 (i := 4) rfl rfl rfl (rm0_5.le hL) hr710 (by decide) fun _ σ o708 w709 hO => ?_)))
    obtain ⟨A706, c707, rfl, -⟩ := w709.form
    have hO := zs76 hO
    refine ze (zby ⟨(zbh rfl (zd.lookI hO (wm0_2.le hL) (i := 1) rfl g696 i700) rfl), (zbh rfl (hO.val (i := 3) (off := 2) (agg := false) (n := 1) rfl rfl) rfl), (zbh rfl (hO.val (i := 0) (off := 2) (agg := false) (n := 1) rfl rfl) rfl), trivial⟩ ?_)
    refine ze (zU (zgk (T := (Ty.int .i64)) (Ty.sc_flat _ _) hO w709 (i := 4) rfl rfl rfl (w714.rd hO (i := 5) rfl) hr719 (by decide) fun _ σ o717 w718 hO => ?_))
    obtain ⟨A715, c716, rfl, -⟩ := w718.form
    have hO := zs76 hO
    refine ze (zG (za hO [] [(353, zs3 bm0)] [0, 2, 352] zsP fun j => ?_))
    refine zG (za hO [] [(354, .pointer (some ⟨bm0, 5, none⟩))] [0, 2, 352] zsP fun j => ?_)
    refine zU (zH hO (i := 0) rfl (off := 5) rfl rfl rfl rfl (Nat.le_of_ble_eq_true rfl) rfl fun σ hO => ?_)
    have hO := zs76 hO
    refine ze (zcq (zg (zF (zk ?_))))
    obtain ⟨_, h721, r720, hO⟩ := w718.share hO (i := 4) rfl
    have hL := hL.trans h721
    have hO := zs76 hO
    have hO := hO.sel [0, 1, 2]
    exact ⟨q0.R.length, Am0_2, cm0_2, om0_2, q0.R, q0.W.length, Am0_3, cm0_3, om0_3, q0.W, Am0_4, cm0_4, q0.In, A715, c716, ((([] : List Int) ++ q0.Out) ++ ([y695] : List Int)), _, zs1 zsM, hO, hL, (wm0_2.le hL).len, (wm0_2.le hL), (wm0_3.le hL).len, (wm0_3.le hL), (rm0_4.le hL), r720, hF⟩
   refine zU (zbx (zbv (T := (Ty.int .i64)) (l := ([y695] : List Int)) (cs := [.int .i64 y695]) hO rfl ⟨[.int .i64 y695], _, rfl, rfl, rfl⟩ rfl (by decide) fun _ σ o713 w714 hO => ?_))
   obtain ⟨A711, c712, rfl, -⟩ := w714.form
   have hO := zs75 hO
   refine ze (zby ⟨(zbh rfl (hO.val (i := 0) (off := 5) (agg := false) (n := 1) rfl rfl) rfl), trivial⟩ ?_)
   refine ze (zU (zbx (zbv (T := (Ty.int .i64)) (l := ([] : List Int)) (cs := []) hO rfl rfl rfl (by decide) fun _ σ o704 w705 hO => ?_)))
   obtain ⟨A702, c703, rfl, -⟩ := w705.form
   have hO := zs76 hO
   refine ze (zby ⟨(zbh rfl (zd.lookI hO (wm0_2.le hL) (i := 1) rfl g696 i700) rfl), (zbh rfl (hO.val (i := 3) (off := 2) (agg := false) (n := 1) rfl rfl) rfl), (zbh rfl (hO.val (i := 0) (off := 2) (agg := false) (n := 1) rfl rfl) rfl), (zbh rfl (hO.val (i := 0) (off := 5) (agg := false) (n := 1) rfl rfl) rfl), trivial⟩ ?_)
   refine ze (zU (zbx (zdt (T := (Ty.int .i64)) hO w705 (i := 5) rfl rfl rfl (rm0_5.le hL) hr710 (by decide) fun _ σ o708 w709 hO => ?_)))
   obtain ⟨A706, c707, rfl, -⟩ := w709.form
   have hO := zs76 hO
   refine ze (zby ⟨(zbh rfl (zd.lookI hO (wm0_2.le hL) (i := 1) rfl g696 i700) rfl), (zbh rfl (hO.val (i := 3) (off := 2) (agg := false) (n := 1) rfl rfl) rfl), (zbh rfl (hO.val (i := 0) (off := 2) (agg := false) (n := 1) rfl rfl) rfl), trivial⟩ ?_)
   refine ze (zU (zgk (T := (Ty.int .i64)) (Ty.sc_flat _ _) hO w709 (i := 5) rfl rfl rfl (w714.rd hO (i := 4) rfl) hr719 (by decide) fun _ σ o717 w718 hO => ?_))
   obtain ⟨A715, c716, rfl, -⟩ := w718.form
   have hO := zs76 hO
   refine ze (zG (za hO [] [(353, zs3 bm0)] [0, 2, 352] zsP fun j => ?_))
   refine zG (za hO [] [(354, .pointer (some ⟨bm0, 5, none⟩))] [0, 2, 352] zsP fun j => ?_)
   refine zU (zH hO (i := 0) rfl (off := 5) rfl rfl rfl rfl (Nat.le_of_ble_eq_true rfl) rfl fun σ hO => ?_)
   have hO := zs76 hO
   refine ze (zcq (zg (zF (zk ?_))))
   obtain ⟨_, h721, r720, hO⟩ := w718.share hO (i := 5) rfl
   have hL := hL.trans h721
   have hO := zs76 hO
   have hO := hO.sel [0, 1, 2]
   exact ⟨q0.R.length, Am0_2, cm0_2, om0_2, q0.R, q0.W.length, Am0_3, cm0_3, om0_3, q0.W, Am0_4, cm0_4, q0.In, A715, c716, ((([] : List Int) ++ q0.Out) ++ ([y695] : List Int)), _, zs1 zsM, hO, hL, (wm0_2.le hL).len, (wm0_2.le hL), (wm0_3.le hL).len, (wm0_3.le hL), (rm0_4.le hL), r720, hF⟩
  refine zb (za hO [] [(355, .bool ((p1.Kind.toNat : Int) == 17))] [0, 2, 4, 27] zsQ fun j => ?_)
  refine zi hF rfl (fun hF => ?_) fun hF => ?_
  ·refine zb (z8 (zZ hO 7 [0, 3] [(0, zs3 bm0), (357, zs3 bm0), (361, zs9 Am0_2 q0.R cm0_2), (363, zs2 p1.R)] (And.intro (And.intro rfl rfl) (And.intro (And.intro rfl rfl) zsP)) fun j => ?_))
   obtain ⟨y723, g724, hF⟩ := zs8 hF
   refine zbg (T := (Ty.int .i64)) hO (wm0_2.le hL) (i := 1) rfl rfl rfl g724 (by decide) fun a725 _ k726 m727 i728 => ?_
   have k729 := k726
   obtain rfl : _ = ([.int .i64 y723] : List Value) := k729
   refine zL rfl m727.fst ?_
   refine zc hO 2 [] [(367, .pointer (some ⟨bm0, 7, none⟩))] [0, 365] zsO fun j => ?_
   refine zH hO (i := 0) rfl (off := 7) rfl rfl rfl rfl (Nat.le_of_ble_eq_true rfl) rfl fun σ hO => ?_
   have hO := zs74 hO
   refine ze (zb (za hO [] [(6, .int .u8 1)] [0] zsN fun j => ?_))
   refine zp (zJ (zB ?_))
   cases hF
   have hO := hO.sel [0, 1, 2]
   exact hQ _ _ _ _ _ rfl hO hL ⟨_, _, _, _, _, _, _, rfl, rfl, (rm0_0.le hL), (wm0_2.le hL), (wm0_3.le hL), (rm0_4.le hL), (rm0_5.le hL)⟩
  refine zb (zj hO [] [(0, zs3 bm0), (2, zs2 p2), (4, zs3 b4), (368, .bool ((p1.Kind.toNat : Int) == 18))] zsP fun j => ?_)
  refine zi hF rfl (fun hF => ?_) fun hF => ?_
  ·refine zb (za hO [3] [(6, .int .u8 (IntKind.u8.wrap p1.N))] [0] (And.intro (And.intro rfl rfl) zsN) fun j => ?_)
   refine zp (zJ (zB ?_))
   cases hF
   have hO := hO.sel [0, 1, 2]
   exact hQ _ _ _ _ _ rfl hO hL ⟨_, _, _, _, _, _, _, rfl, rfl, (rm0_0.le hL), (wm0_2.le hL), (wm0_3.le hL), (rm0_4.le hL), (rm0_5.le hL)⟩
  refine zl (zg (zF (zk ?_)))
  have hO := hO.sel [0, 1, 2]
  exact ⟨q0.R.length, Am0_2, cm0_2, om0_2, q0.R, q0.W.length, Am0_3, cm0_3, om0_3, q0.W, Am0_4, cm0_4, q0.In, Am0_5, cm0_5, q0.Out, _, zs1 zsM, hO, hL, (wm0_2.le hL).len, (wm0_2.le hL), (wm0_3.le hL).len, (wm0_3.le hL), (rm0_4.le hL), (rm0_5.le hL), hF⟩
 rintro e σ ⟨k380, A381, c382, o383, x384, k387, A388, c389, o390, x391, A394, c395, x396, A398, c399, x400, _, hA, hO, hL, hk385, w386, hk392, w393, r397, r401, hF⟩
 rw [← zD _ _ hA]
 unfold zbS at hF
 subst hk385
 subst hk392
 refine zc hO 4 [] [(374, zs2 p2), (376, .pointer (some ⟨bm0, 1, none⟩))] [0] zsO fun j => ?_
 refine zH hO (i := 0) rfl (off := 1) rfl rfl rfl rfl (Nat.le_of_ble_eq_true rfl) rfl fun σ hO => ?_
 have hO := zs73 hO
 refine ze (za hO [] [(6, .int .u8 0)] [0] zsN fun j => ?_)
 refine zq ?_
 cases hF
 exact hQ _ _ _ _ _ rfl hO hL ⟨_, _, _, _, _, _, _, rfl, rfl, (rm0_0.le hL), w386, w393, r397, r401⟩
theorem zrF {τ : Hp} {q0 : zQ} {bm0 : Nat} {vm0_0 vm0_2 : Value} {om0_2 : Ob} {vm0_3 : Value} {om0_3 : Ob} {vm0_4 vm0_5 : Value} (rm0_0 : RdT Ty.u8 τ vm0_0 q0.Code) (wm0_2 : zd (Ty.int .i64) 2 τ vm0_2 q0.R om0_2) (wm0_3 : zd (Ty.int .i64) 2 τ vm0_3 q0.W om0_3) (rm0_4 : RdT (Ty.int .i64) τ vm0_4 q0.In) (rm0_5 : RdT (Ty.int .i64) τ vm0_5 q0.Out) {rr : Int × zQ} (hF : zf6 q0 = some rr) :
  Ctr Tryz.prog 23 #[.pointer (some ⟨bm0, 0, none⟩)] τ [zbz bm0 vm0_0 q0.Pc vm0_2 vm0_3 vm0_4 vm0_5 q0.How.toNat q0.Final, om0_2, om0_3] (fun v τ' vs' => ∃ (u0_0 u0_2 : Value) (y0_2 : Ob) (u0_3 : Value) (y0_3 : Ob) (u0_4 u0_5 : Value), v = .int .u8 rr.1 ∧ vs' = [zbz bm0 u0_0 rr.2.Pc u0_2 u0_3 u0_4 u0_5 rr.2.How.toNat rr.2.Final, y0_2, y0_3] ∧ RdT Ty.u8 τ' u0_0 rr.2.Code ∧ zd (Ty.int .i64) 2 τ' u0_2 rr.2.R y0_2 ∧ zd (Ty.int .i64) 2 τ' u0_3 rr.2.W y0_3 ∧ RdT (Ty.int .i64) τ' u0_4 rr.2.In ∧ RdT (Ty.int .i64) τ' u0_5 rr.2.Out) := by
 obtain ⟨Am0_0, cm0_0, rfl, -⟩ := rm0_0.form
 obtain ⟨Am0_2, cm0_2, rfl, -⟩ := wm0_2.form
 obtain ⟨Am0_3, cm0_3, rfl, -⟩ := wm0_3.form
 obtain ⟨Am0_4, cm0_4, rfl, -⟩ := rm0_4.form
 obtain ⟨Am0_5, cm0_5, rfl, -⟩ := rm0_5.form
 refine zu (args := [.pointer (some ⟨bm0, 0, none⟩)]) hm Tryz.func23 s23 rfl fun w0 σ hO Q hQ => ?_
 unfold zf6 at hF
 have hL := Hp.le.refl τ
 show wpn _ _ a23.body _ _ _
 unfold a23
 dsimp only
 refine za hO [] [] [0] zsM fun j => ?_
 refine zb (za hO [] [(7, .bool false)] [0] zsN fun j => ?_)
 refine zbU rfl ?_
 refine zl (zb (za hO [0] [(12, .bool ((q0.How.toNat : Int) != 0))] [0] (And.intro (And.intro rfl rfl) zsN) fun j => ?_))
 refine zi hF rfl (fun hF => ?_) fun hF => ?_
 ·refine zb (za hO [0] [(2, .int .u8 (q0.How.toNat : Int))] [0] (And.intro (And.intro rfl rfl) zsN) fun j => ?_)
  refine zp ?_
  cases hF
  exact hQ _ _ _ _ _ rfl hO hL ⟨_, _, _, _, _, _, _, rfl, rfl, (rm0_0.le hL), (wm0_2.le hL), (wm0_3.le hL), (rm0_4.le hL), (rm0_5.le hL)⟩
 refine zl (zG (za hO [] [(18, zs3 bm0)] [0] zsN fun j => ?_))
 refine zG (za hO [] [(19, zs3 bm0)] [0] zsN fun j => ?_)
 refine zG (za hO [] [(20, zs3 bm0)] [0] zsN fun j => ?_)
 refine zG (za hO [0] [(21, zs9 Am0_0 q0.Code cm0_0)] [0, 20] (And.intro (And.intro rfl rfl) zsO) fun j => ?_)
 refine zG (za hO [] [(22, zs3 bm0)] [0, 20, 21] zsP fun j => ?_)
 refine zG (zj hO [] [(0, zs3 bm0), (20, zs3 bm0), (21, zs9 Am0_0 q0.Code cm0_0), (23, zs3 bm0)] zsP fun j => ?_)
 refine zG (za hO [] [(24, .pointer (some ⟨bm0, 1, none⟩))] [0, 20, 21] zsP fun j => ?_)
 refine zG (za hO [0] [(25, zs2 q0.Pc)] [0, 20, 21, 24] (And.intro (And.intro rfl rfl) zsQ) fun j => ?_)
 refine zbK (fun e' σ' => ∃ (b8 : Nat) (x9 x10 : UInt8) (x11 x12 x13 x14 x15 x16 x17 : Int) (τ' : Hp), agr [(0, zs3 bm0), (3, zs3 b8), (4, zs2 x16), (5, zs2 x17)] e' ∧ Obs τ' σ' [zbz bm0 (zs9 Am0_0 q0.Code cm0_0) q0.Pc (zs9 Am0_2 q0.R cm0_2) (zs9 Am0_3 q0.W cm0_3) (zs9 Am0_4 q0.In cm0_4) (zs9 Am0_5 q0.Out cm0_5) (q0.How.toNat : Int) q0.Final, om0_2, om0_3, zy b8 (x9.toNat : Int) (x10.toNat : Int) x11 x12 x13 x14 x15] ∧ Hp.le τ τ' ∧ zi4 q0 x9 x10 x11 x12 x13 x14 x15 x16 x17 = some rr) ?_ ?_
 ·refine ziC ?_
  obtain ⟨c46, h47, hF⟩ := zs8 hF
  refine zdr ?_ ?_
  ·refine zU (zo hO (znk (rm0_0.le hL) h47) rfl fun _ σ _ _ hO h48 h49 => ?_)
   have hL := hL.trans h48
   obtain ⟨rfl, rfl⟩ := h49
   have hO := zs73 hO
   refine ze (zG (za hO [] [(17, .tuple #[(.agg #[(.int .u8 (c46.1.Kind.toNat : Int)), (.int .u8 (c46.1.Op.toNat : Int)), (.int .i64 c46.1.R), (.int .i64 c46.1.S), (.int .i64 c46.1.T), (.int .i64 c46.1.N), (.int .i64 c46.1.M)]), (.int .i64 c46.2.1), (.int .i64 c46.2.2)])] [0, 20, 21, 24, 25] zsR fun j => ?_))
   refine zG (za hO [] [(27, .agg #[(.int .u8 (c46.1.Kind.toNat : Int)), (.int .u8 (c46.1.Op.toNat : Int)), (.int .i64 c46.1.R), (.int .i64 c46.1.S), (.int .i64 c46.1.T), (.int .i64 c46.1.N), (.int .i64 c46.1.M)])] [0, 17, 20, 21, 24, 25] zsS fun j => ?_)
   refine zG (za hO [] [(28, zs2 c46.2.1)] [0, 17, 20, 21, 24, 25, 27] zsT fun j => ?_)
   refine zG (za hO [] [(29, zs2 c46.2.2)] [0, 20, 21, 24, 25, 27, 28] zsT fun j => ?_)
   refine zU (zbx (zbE hO fun b50 σ hO => ?_))
   have hO := zs74 hO
   refine ze (zby ⟨(zbh rfl (hO.val (i := 0) (off := 1) (agg := false) (n := 1) rfl rfl) rfl), (zbh rfl (hO.val (i := 0) (off := 0) (agg := false) (n := 1) rfl rfl) rfl), trivial⟩ ?_)
   refine ze (zU (zH hO (i := 3) rfl (off := 0) rfl rfl rfl rfl (Nat.le_of_ble_eq_true rfl) rfl fun σ hO => ?_))
   have hO := zs74 hO
   refine ze (zG (za hO [] [(4, zs2 c46.2.1)] [0, 3, 29] zsP fun j => ?_))
   refine zG (za hO [] [(5, zs2 c46.2.2)] [0, 3, 4] zsP fun j => ?_)
   refine zcq (zg (zk ?_))
   exact ⟨b50, c46.1.Kind, c46.1.Op, c46.1.R, c46.1.S, c46.1.T, c46.1.N, c46.1.M, c46.2.1, c46.2.2, _, zs1 zsO, hO, hL, hF⟩
  refine zU (zbx (zbE hO fun b50 σ hO => ?_))
  have hO := zs74 hO
  refine ze (zby ⟨(zbh rfl (hO.val (i := 0) (off := 1) (agg := false) (n := 1) rfl rfl) rfl), (zbh rfl (hO.val (i := 0) (off := 0) (agg := false) (n := 1) rfl rfl) rfl), trivial⟩ ?_)
  refine ze (zU (zo hO (znk (rm0_0.le hL) h47) rfl fun _ σ _ _ hO h48 h49 => ?_))
  have hL := hL.trans h48
  obtain ⟨rfl, rfl⟩ := h49
  have hO := zs74 hO
  refine ze (zG (za hO [] [(17, .tuple #[(.agg #[(.int .u8 (c46.1.Kind.toNat : Int)), (.int .u8 (c46.1.Op.toNat : Int)), (.int .i64 c46.1.R), (.int .i64 c46.1.S), (.int .i64 c46.1.T), (.int .i64 c46.1.N), (.int .i64 c46.1.M)]), (.int .i64 c46.2.1), (.int .i64 c46.2.2)])] [0, 3] zsO fun j => ?_))
  refine zG (za hO [] [(27, .agg #[(.int .u8 (c46.1.Kind.toNat : Int)), (.int .u8 (c46.1.Op.toNat : Int)), (.int .i64 c46.1.R), (.int .i64 c46.1.S), (.int .i64 c46.1.T), (.int .i64 c46.1.N), (.int .i64 c46.1.M)])] [0, 3, 17] zsP fun j => ?_)
  refine zG (za hO [] [(28, zs2 c46.2.1)] [0, 3, 17, 27] zsQ fun j => ?_)
  refine zG (za hO [] [(29, zs2 c46.2.2)] [0, 3, 27, 28] zsQ fun j => ?_)
  refine zU (zH hO (i := 3) rfl (off := 0) rfl rfl rfl rfl (Nat.le_of_ble_eq_true rfl) rfl fun σ hO => ?_)
  have hO := zs74 hO
  refine ze (zG (za hO [] [(4, zs2 c46.2.1)] [0, 3, 29] zsP fun j => ?_))
  refine zG (za hO [] [(5, zs2 c46.2.2)] [0, 3, 4] zsP fun j => ?_)
  refine zcq (zg (zk ?_))
  exact ⟨b50, c46.1.Kind, c46.1.Op, c46.1.R, c46.1.S, c46.1.T, c46.1.N, c46.1.M, c46.2.1, c46.2.2, _, zs1 zsO, hO, hL, hF⟩
 rintro e σ ⟨b8, x9, x10, x11, x12, x13, x14, x15, x16, x17, _, hA, hO, hL, hF⟩
 rw [← zD _ _ hA]
 unfold zi4 at hF
 refine zb (za hO [] [(31, .bool (x17 != 0))] [0, 3, 4] zsP fun j => ?_)
 refine zi hF rfl (fun hF => ?_) fun hF => ?_
 ·refine zb (zc hO 3 [] [(34, .pointer (some ⟨bm0, 6, none⟩))] [0] zsN fun j => ?_)
  refine zH hO (i := 0) rfl (off := 6) rfl rfl rfl rfl (Nat.le_of_ble_eq_true rfl) rfl fun σ hO => ?_
  have hO := zs74 hO
  refine ze (zb (za hO [] [(2, .int .u8 5)] [0] zsN fun j => ?_))
  refine zp ?_
  cases hF
  have hO := hO.sel [0, 1, 2]
  exact hQ _ _ _ _ _ rfl hO hL ⟨_, _, _, _, _, _, _, rfl, rfl, (rm0_0.le hL), (wm0_2.le hL), (wm0_3.le hL), (rm0_4.le hL), (rm0_5.le hL)⟩
 refine zl (zc hO 4 [3] [(35, zs3 bm0), (36, zs3 bm0), (37, .agg #[(.int .u8 (x9.toNat : Int)), (.int .u8 (x10.toNat : Int)), (.int .i64 x11), (.int .i64 x12), (.int .i64 x13), (.int .i64 x14), (.int .i64 x15)]), (38, zs2 x16)] [0] (And.intro (And.intro rfl rfl) zsQ) fun j => ?_)
 obtain ⟨c19, h20, hF⟩ := zs8 hF
 have hO := hO.sel [3, 0, 1, 2]
 refine zbe (hs := [_]) (vs := [_, _, _]) hO (zo0 (q0 := (⟨q0.Code, q0.Pc, q0.R, q0.W, q0.In, q0.Out, q0.How, q0.Final⟩ : zQ)) (p1 := (⟨x9, x10, x11, x12, x13, x14, x15⟩ : zf)) (rm0_0.le hL) (wm0_2.le hL) (wm0_3.le hL) (rm0_4.le hL) (rm0_5.le hL) h20) rfl fun _ σ _ _ hO h21 h22 => ?_
 have hL := hL.trans h21
 obtain ⟨v23, v27, o30, v32, o35, v37, v41, rfl, rfl, r26, w31, w36, r40, r44⟩ := h22
 obtain ⟨A24, c25, rfl, -⟩ := r26.form
 obtain ⟨A28, c29, rfl, -⟩ := w31.form
 obtain ⟨A33, c34, rfl, -⟩ := w36.form
 obtain ⟨A38, c39, rfl, -⟩ := r40.form
 obtain ⟨A42, c43, rfl, -⟩ := r44.form
 have hO := zs74 hO
 refine zc hO 2 [] [(41, .pointer (some ⟨bm0, 6, none⟩))] [0, 39] zsO fun j => ?_
 refine zH hO (i := 1) rfl (off := 6) rfl rfl rfl rfl (Nat.le_of_ble_eq_true rfl) rfl fun σ hO => ?_
 have hO := zs74 hO
 refine ze (za hO [1] [(2, .int .u8 c19.1)] [0] (And.intro (And.intro rfl rfl) zsN) fun j => ?_)
 refine zq ?_
 obtain ⟨z45, hz45, hF⟩ := zs8 hF
 cases hF
 have hO := hO.sel [1, 2, 3]
 exact hQ _ _ _ _ _ rfl hO hL ⟨_, _, _, _, _, _, _, (by first | rfl | (simp only [zcQ hz45]; done) | (simp only [← zcQ hz45]; try rfl)), (by first | rfl | (simp only [zcQ hz45]; done) | (simp only [← zcQ hz45]; try rfl)), r26, w31, w36, r40, r44⟩
theorem zpX {τ : Hp} {q0 : zh} {bm0 : Nat} {vm0_0 vm0_18 : Value} {om0_18 : Ob} {vm0_19 vm0_20 : Value} {om0_20 : Ob} {p1 : Int} (rm0_0 : RdT Ty.u8 τ vm0_0 q0.code) (wm0_18 : zd (Ty.int .i64) 2 τ vm0_18 q0.words om0_18) (rm0_19 : RdT (Ty.int .i64) τ vm0_19 q0.input) (wm0_20 : zd (Ty.int .i64) 2 τ vm0_20 q0.out om0_20) {rr : Int × Bool} (hF : zjz q0 p1 = some rr) :
  Ctr Tryz.prog 24 #[.pointer (some ⟨bm0, 0, none⟩), .int .i64 p1] τ [zI bm0 vm0_0 q0.pc q0.regs vm0_18 vm0_19 vm0_20 q0.how.toNat q0.halting, om0_18, om0_20] (fun v τ' vs' => v = .tuple #[.int .i64 rr.1, .bool rr.2] ∧ vs' = [zI bm0 vm0_0 q0.pc q0.regs vm0_18 vm0_19 vm0_20 q0.how.toNat q0.halting, om0_18, om0_20]) := by
 obtain ⟨Am0_0, cm0_0, rfl, -⟩ := rm0_0.form
 obtain ⟨Am0_18, cm0_18, rfl, -⟩ := wm0_18.form
 obtain ⟨Am0_19, cm0_19, rfl, -⟩ := rm0_19.form
 obtain ⟨Am0_20, cm0_20, rfl, -⟩ := wm0_20.form
 refine zu (args := [.pointer (some ⟨bm0, 0, none⟩), .int .i64 p1]) hm Tryz.func24 s24 rfl fun w0 σ hO Q hQ => ?_
 unfold zjz at hF
 have hL := Hp.le.refl τ
 show wpn _ _ a24.body _ _ _
 unfold a24
 dsimp only
 refine za hO [] [] [0, 1] zsN fun j => ?_
 refine zb (za hO [0] [(20, .bool ((false || (decide (p1 < 0))) || (decide (p1 ≥ (q0.words.length : Int)))))] [0, 1] (And.intro (And.intro rfl rfl) (fun _ => And.intro (And.intro rfl rfl) (And.intro (And.intro rfl rfl) (fun _ => zs1 zsN)))) fun j => ?_)
 refine zi hF rfl (fun hF => ?_) fun hF => ?_
 ·refine zb (za hO [] [(4, zs2 0), (5, .bool false)] [0] zsO fun j => ?_)
  refine zp ?_
  cases hF
  exact hQ _ _ _ _ _ rfl hO hL ⟨rfl, rfl⟩
 refine zl (zc hO 5 [0] [(24, zs9 Am0_18 q0.words cm0_18), (25, zs2 p1)] [0] (And.intro (And.intro rfl rfl) zsO) fun j => ?_)
 obtain ⟨y4, g5, hF⟩ := zs8 hF
 refine zbg (T := (Ty.int .i64)) hO (wm0_18.le hL) (i := 1) rfl rfl rfl g5 (by decide) fun a6 _ k7 m8 i9 => ?_
 have k10 := k7
 obtain rfl : _ = ([.int .i64 y4] : List Value) := k10
 refine zL rfl m8.fst ?_
 refine za hO [] [(4, zs2 y4), (5, .bool true)] [0] zsO fun j => ?_
 refine zq ?_
 cases hF
 exact hQ _ _ _ _ _ rfl hO hL ⟨rfl, rfl⟩
end Go.Proofs.YtgkllgoelpfdkaaGreat
