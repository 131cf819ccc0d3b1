import Derived.Test.YtnhboaaikehpoaaG3
namespace Go.Proofs.Ytnhboaaikehpoaa
open Go.Ab Go.RowKit
set_option linter.unusedVariables false
set_option linter.unusedSimpArgs false
set_option maxRecDepth 10000
set_option maxHeartbeats 1000000
theorem zrd {τ : Hp} {q0 : zj} {bm0 : Nat} {vm0_0 : Value} {p1 : Int} (rm0_0 : RdT zl τ vm0_0 q0.L) {rr : zo × zj} (hF : zez q0 p1 = some rr) :
  Ctr Try.prog 27 #[.pointer (some ⟨bm0, 0, none⟩), .int .i64 p1] τ [zba bm0 vm0_0 q0.At q0.Failed] (fun v τ' vs' => ∃ (v0_2 v0_6 u0_0 : Value), v = .agg #[.string rr.1.Name, .int .i64 rr.1.Line, v0_2, .int .u8 rr.1.Result.Kind.toNat, .int .i64 rr.1.Result.N, .string rr.1.Result.Name, v0_6] ∧ vs' = [zba bm0 u0_0 rr.2.At rr.2.Failed] ∧ RdT zcp τ' v0_2 rr.1.Params ∧ RdT zv τ' v0_6 rr.1.Body ∧ RdT zl τ' u0_0 rr.2.L) := by
 obtain ⟨Am0_0, cm0_0, rfl, -⟩ := rm0_0.form
 refine zbf (args := [.pointer (some ⟨bm0, 0, none⟩), .int .i64 p1]) hm Try.func27 s27 rfl fun w0 σ hO Q hQ => ?_
 unfold zez at hF
 have hL := Hp.le.refl τ
 show wpn _ _ a27.body _ _ _
 unfold a27
 dsimp only
 refine zbm hO fun b3 σ hO => ?_
 have hO := zrS2 hO
 refine zc (za hO 2 [] [(7, zrN p1), (8, zrO bm0)] [0, 4] zrA fun j => ?_)
 obtain ⟨c4, h5, hF⟩ := zrT hF
 have hO := hO.sel [1, 0]
 refine zn (hs := [_]) (vs := [_]) hO (zdu (rm0_0.le hL) h5) rfl fun _ σ _ _ hO h6 h7 => ?_
 have hL := hL.trans h6
 obtain ⟨v8, rfl, rfl, r11⟩ := h7
 obtain ⟨A9, c10, rfl, -⟩ := r11.form
 have hO := zrS2 hO
 refine za hO 1 [] [(10, .agg #[(.string c4.1), (.int .i64 p1), (.slice none 0 0), (.int .u8 0), (.int .i64 0), (.string (⟨#[]⟩ : ByteArray)), (.slice none 0 0)])] [0, 4] zrz fun j => ?_
 refine zbm hO fun b12 σ hO => ?_
 have hO := zrS3 hO
 refine zk hO (i := 2) rfl (off := 0) rfl rfl rfl rfl (Nat.le_of_ble_eq_true rfl) rfl fun σ hO => ?_
 have hO := zrS3 hO
 refine zc (za hO 1 [] [(11, zrO bm0)] [0, 4, 5] zrA fun j => ?_)
 obtain ⟨c13, h14, hF⟩ := zrT hF
 have hO := hO.sel [0, 2, 1]
 refine zn (hs := [_, _]) (vs := [_]) hO (zbT (p1 := (⟨#[40]⟩ : ByteArray)) r11 h14) rfl fun _ σ _ _ hO h15 h16 => ?_
 have hL := hL.trans h15
 obtain ⟨v17, rfl, rfl, r20⟩ := h16
 obtain ⟨A18, c19, rfl, -⟩ := r20.form
 have hO := zrS3 hO
 refine zc (zJ ?_)
 have hO := hO.no
 have hO := zrS4 hO
 have hO := hO.sel [2, 0, 1, 3]
 refine zby (fun (n : Nat) e' σ' => ∃ (A108 : Option Addr) (c109 : Nat) (x110 : List zp) (x112 : Int) (x113 : Bool) (A114 : Option Addr) (c115 : Nat) (o116 : Ob) (x117 : List zbc) (τ' : Hp), agr [(0, zrO bm0), (4, zrO b3), (5, zrO b12)] e' ∧ Obs τ' σ' [zba bm0 (zrU A108 x110 c109) x112 x113, zdo b3 (⟨#[]⟩ : ByteArray) 0 (.slice none 0 0) 0 0 (⟨#[]⟩ : ByteArray) (.slice none 0 0), zdo b12 c4.1 p1 (zrU A114 x117 c115) 0 0 (⟨#[]⟩ : ByteArray) (.slice none 0 0), o116] ∧ Hp.le τ τ' ∧ RdT zl τ' (zrU A108 x110 c109) x110 ∧ ze zcp 77 τ' (zrU A114 x117 c115) x117 o116 ∧ zc6 p1 c4 n x110 x112 x113 x117 = some rr) big ⟨A18, c19, c13.L, c13.At, c13.Failed, none, 0, none, [], _, zrM zry, hO, hL, r20, ze.nil _ _ _, hF⟩ ?_
 clear hF hO hL
 rintro n211 e σ ⟨A108, c109, x110, x112, x113, A114, c115, o116, x117, _, hA, hO, hL, r111, w118, hF⟩
 rw [← zW _ _ hA]
 cases n211 with
 | zero => exact nomatch (show none = some rr from hF)
 | succ n211 =>
 replace hF : zfq (zc6 p1 c4 n211) p1 c4 x110 x112 x113 x117 = some rr := hF
 unfold zfq at hF
 refine zg (za hO 6 [0] [(18, .bool (!x113))] [0, 4, 5] (And.intro (And.intro rfl rfl) zrA) fun j => ?_)
 obtain ⟨c212, h213, hF⟩ := zrT hF
 refine zcg 2 (fun e' σ' => ∃ (τ' : Hp), agr [(22, .bool c212), (0, zrO bm0), (4, zrO b3), (5, zrO b12)] e' ∧ Obs τ' σ' [zba bm0 (zrU A108 x110 c109) x112 x113, zdo b3 (⟨#[]⟩ : ByteArray) 0 (.slice none 0 0) 0 0 (⟨#[]⟩ : ByteArray) (.slice none 0 0), zdo b12 c4.1 p1 (zrU A114 x117 c115) 0 0 (⟨#[]⟩ : ByteArray) (.slice none 0 0), o116] ∧ Hp.le τ τ' ∧ RdT zl τ' (zrU A108 x110 c109) x110 ∧ ze zcp 77 τ' (zrU A114 x117 c115) x117 o116) ?_ ?_
 ·have hF := h213
  rcases zbr hF with ⟨hb214, hF⟩ | ⟨hb214, hF⟩
  ·refine zbi (zrR hb214) ?_
   refine za hO 1 [] [(19, zrO bm0)] [0, 4, 5, 18] zrB fun j => ?_
   obtain ⟨c215, h216, hF⟩ := zrT hF
   have hO := hO.sel [1, 2, 3, 0]
   refine zn (hs := [_, _, _]) (vs := [_]) hO (zbK (q0 := (⟨x110, x112, x113⟩ : zj)) (p2 := (⟨#[41]⟩ : ByteArray)) r111 h216) rfl fun _ σ _ _ hO h217 h218 => ?_
   have hL := hL.trans h217
   have w118 := w118.le h217
   have r111 := r111.le h217
   obtain ⟨rfl, rfl⟩ := h218
   have hO := zrS4 hO
   have hO := hO.sel [3, 0, 1, 2]
   have hO := zrS4 hO
   refine za hO 1 [] [(21, .bool (!c215))] [0, 4, 5, 18] zrB fun j => ?_
   refine zF (zrP hb214) ?_
   refine zc ?_
   cases hF
   refine zi ?_
   exact ⟨rfl, _, zrM zrz, hO, hL, r111, w118⟩
  refine zbk (zrR hb214) ?_
  refine zF (zrP hb214) ?_
  refine zc ?_
  cases hF
  refine zi ?_
  exact ⟨rfl, _, zrM zrz, hO, hL, r111, w118⟩
 rintro e σ ⟨_, hA, hO, hL, r111, w118⟩
 rw [← zW _ _ hA]
 refine zc (zq hF rfl (fun hF => ?_) fun hF => ?_)
 ·refine zz (zbV (zJ (zg (zf hO [2] [(26, .bool (decide ((x117.length : Int) > 0)))] [0, 4, 5] (And.intro (And.intro rfl rfl) zrA) fun j => ?_))))
  refine zgI (fun e' σ' => ∃ (A229 : Option Addr) (c230 : Nat) (x231 : List zp) (x233 : Int) (x234 : Bool) (A235 : Option Addr) (c236 : Nat) (o237 : Ob) (x238 : List zbc) (τ' : Hp), agr [(0, zrO bm0), (4, zrO b3), (5, zrO b12)] e' ∧ Obs τ' σ' [zba bm0 (zrU A229 x231 c230) x233 x234, zdo b3 (⟨#[]⟩ : ByteArray) 0 (.slice none 0 0) 0 0 (⟨#[]⟩ : ByteArray) (.slice none 0 0), zdo b12 c4.1 p1 (zrU A235 x238 c236) 0 0 (⟨#[]⟩ : ByteArray) (.slice none 0 0), o237] ∧ Hp.le τ τ' ∧ RdT zl τ' (zrU A229 x231 c230) x231 ∧ ze zcp 77 τ' (zrU A235 x238 c236) x238 o237 ∧ zeq (zc6 p1 c4 n211) x231 x233 x234 x238 = some rr) ?_ ?_
  ·refine zbF (zq hF rfl (fun hF => ?_) fun hF => ?_)
   ·refine za hO 1 [] [(27, zrO bm0)] [0, 4, 5] zrA fun j => ?_
    obtain ⟨c263, h264, hF⟩ := zrT hF
    have hO := hO.sel [1, 2, 3, 0]
    refine zn (hs := [_, _, _]) (vs := [_]) hO (zbT (q0 := (⟨x110, x112, x113⟩ : zj)) (p1 := (⟨#[44]⟩ : ByteArray)) r111 h264) rfl fun _ σ _ _ hO h265 h266 => ?_
    have hL := hL.trans h265
    have w118 := w118.le h265
    obtain ⟨v267, rfl, rfl, r270⟩ := h266
    obtain ⟨A268, c269, rfl, -⟩ := r270.form
    have hO := zrS4 hO
    refine zc (zi (zm ?_))
    have hO := hO.sel [3, 0, 1, 2]
    exact ⟨A268, c269, c263.L, c263.At, c263.Failed, A114, c115, o116, x117, _, zrM zry, hO, hL, r270, w118, hF⟩
   refine zz (zi (zm ?_))
   exact ⟨A108, c109, x110, x112, x113, A114, c115, o116, x117, _, zrM zry, hO, hL, r111, w118, hF⟩
  rintro e σ ⟨A229, c230, x231, x233, x234, A235, c236, o237, x238, _, hA, hO, hL, r232, w239, hF⟩
  rw [← zW _ _ hA]
  unfold zeq at hF
  refine za hO 1 [] [(29, zrO bm0)] [0, 4, 5] zrA fun j => ?_
  obtain ⟨c240, h241, hF⟩ := zrT hF
  have hO := hO.sel [1, 2, 3, 0]
  refine zn (hs := [_, _, _]) (vs := [_]) hO (zdu (q0 := (⟨x231, x233, x234⟩ : zj)) r232 h241) rfl fun _ σ _ _ hO h242 h243 => ?_
  have hL := hL.trans h242
  have w239 := w239.le h242
  obtain ⟨v244, rfl, rfl, r247⟩ := h243
  obtain ⟨A245, c246, rfl, -⟩ := r247.form
  have hO := zrS4 hO
  refine za hO 1 [] [(31, .agg #[(.string c240.1), (.int .u8 0), (.int .i64 0), (.string (⟨#[]⟩ : ByteArray))])] [0, 4, 5] zrA fun j => ?_
  refine zbm hO fun b248 σ hO => ?_
  have hO := zrS5 hO
  refine zk hO (i := 4) rfl (off := 0) rfl rfl rfl rfl (Nat.le_of_ble_eq_true rfl) rfl fun σ hO => ?_
  have hO := zrS5 hO
  refine zc (za hO 1 [] [(32, zrO bm0)] [0, 4, 5, 6] zrB fun j => ?_)
  obtain ⟨c249, h250, hF⟩ := zrT hF
  have hO := hO.sel [0, 1, 2, 4, 3]
  refine zn (hs := [_, _, _, _]) (vs := [_]) hO (zkp r247 h250) rfl fun _ σ _ _ hO h251 h252 => ?_
  have hL := hL.trans h251
  have w239 := w239.le h251
  obtain ⟨v253, rfl, rfl, r256⟩ := h252
  obtain ⟨A254, c255, rfl, -⟩ := r256.form
  have hO := zrS5 hO
  refine za hO 1 [] [(34, .pointer (some ⟨b248, 1, none⟩))] [0, 4, 5, 6, 33] zrC fun j => ?_
  refine zk hO (i := 3) rfl (off := 1) rfl rfl rfl rfl (Nat.le_of_ble_eq_true rfl) rfl fun σ hO => ?_
  have hO := zrS5 hO
  refine zc (zbv (za hO 3 [1, 3] [(36, zrU A235 x238 c236), (37, .agg #[(.string c240.1), (.int .u8 (c249.1.Kind.toNat : Int)), (.int .i64 c249.1.N), (.string c249.1.Name)])] [0, 4, 5] (And.intro (And.intro rfl rfl) (And.intro (And.intro rfl rfl) zrB)) fun j => ?_))
  obtain ⟨_, hr261, hF⟩ := zrT hF
  refine zhN (T := zcp) (y := (⟨c240.1, (⟨c249.1.Kind, c249.1.N, c249.1.Name⟩ : zD)⟩ : zbc)) hO w239 (i := 2) rfl rfl (fun _ => rfl) rfl rfl rfl hr261 (by decide) fun u _ σ o259 w260 hO => ?_
  obtain ⟨A257, c258, rfl, -⟩ := w260.form
  have hO := zrS5 hO
  refine za hO 1 [] [(40, .pointer (some ⟨b12, 2, none⟩))] [0, 4, 5, 39] zrB fun j => ?_
  refine zk hO (i := 1) rfl (off := 2) rfl rfl rfl rfl (Nat.le_of_ble_eq_true rfl) rfl fun σ hO => ?_
  have hO := zrS5 hO
  refine zc (zi (zM (zm (zi (zm ?_)))))
  have hO := hO.sel [4, 0, 1, 2]
  exact ⟨n211, Nat.lt_succ_self _, A254, c255, c249.2.L, c249.2.At, c249.2.Failed, A257, c258, o259, (x238 ++ [(⟨c240.1, (⟨c249.1.Kind, c249.1.N, c249.1.Name⟩ : zD)⟩ : zbc)]), _, zrM zry, hO, hL, r256, w260, hF⟩
 refine zbA (zbB (zbz (zm (za hO 1 [] [(41, zrO bm0)] [0, 4, 5] zrA fun j => ?_))))
 obtain ⟨c271, h272, hF⟩ := zrT hF
 have hO := hO.sel [1, 2, 3, 0]
 refine zn (hs := [_, _, _]) (vs := [_]) hO (zbT (q0 := (⟨x110, x112, x113⟩ : zj)) (p1 := (⟨#[41]⟩ : ByteArray)) r111 h272) rfl fun _ σ _ _ hO h273 h274 => ?_
 have hL := hL.trans h273
 have w118 := w118.le h273
 obtain ⟨v275, rfl, rfl, r278⟩ := h274
 obtain ⟨A276, c277, rfl, -⟩ := r278.form
 have hO := zrS4 hO
 refine zc (za hO 1 [] [(43, zrO bm0)] [0, 4, 5] zrA fun j => ?_)
 obtain ⟨c279, h280, hF⟩ := zrT hF
 refine zn (hs := [_, _, _]) (vs := [_]) hO (zkp r278 h280) rfl fun _ σ _ _ hO h281 h282 => ?_
 have hL := hL.trans h281
 have w118 := w118.le h281
 obtain ⟨v283, rfl, rfl, r286⟩ := h282
 obtain ⟨A284, c285, rfl, -⟩ := r286.form
 have hO := zrS4 hO
 refine za hO 1 [] [(45, .pointer (some ⟨b12, 3, none⟩))] [0, 4, 5, 44] zrB fun j => ?_
 refine zk hO (i := 1) rfl (off := 3) rfl rfl rfl rfl (Nat.le_of_ble_eq_true rfl) rfl fun σ hO => ?_
 have hO := zrS4 hO
 refine zc (za hO 1 [] [(46, zrO bm0)] [0, 4, 5] zrA fun j => ?_)
 obtain ⟨c287, h288, hF⟩ := zrT hF
 refine zn (hs := [_, _, _]) (vs := [_]) hO (zp8 r286 h288) rfl fun _ σ _ _ hO h289 h290 => ?_
 have hL := hL.trans h289
 have w118 := w118.le h289
 obtain ⟨v291, o294, v296, rfl, rfl, w295, r299⟩ := h290
 obtain ⟨A292, c293, rfl, -⟩ := w295.form
 obtain ⟨A297, c298, rfl, -⟩ := r299.form
 have hO := zrS5 hO
 refine za hO 1 [] [(48, .pointer (some ⟨b12, 6, none⟩))] [0, 4, 5, 47] zrB fun j => ?_
 refine zk hO (i := 1) rfl (off := 6) rfl rfl rfl rfl (Nat.le_of_ble_eq_true rfl) rfl fun σ hO => ?_
 have hO := zrS5 hO
 refine zc (za hO 1 [1] [(49, .agg #[(.string c4.1), (.int .i64 p1), (zrU A114 x117 c115), (.int .u8 (c279.1.Kind.toNat : Int)), (.int .i64 c279.1.N), (.string c279.1.Name), (zrU A292 c287.1 c293)])] [0, 4] (And.intro (And.intro rfl rfl) zrz) fun j => ?_)
 refine zk hO (i := 0) rfl (off := 0) rfl rfl rfl rfl (Nat.le_of_ble_eq_true rfl) rfl fun σ hO => ?_
 have hO := zrS5 hO
 refine zc (z3 ?_)
 obtain ⟨_, h301, r300, hO⟩ := w118.share hO (i := 2) rfl
 have hL := hL.trans h301
 have w295 := w295.le h301
 have r299 := r299.le h301
 have hO := zrS5 hO
 obtain ⟨_, h303, r302, hO⟩ := w295.share hO (i := 3) rfl
 have hL := hL.trans h303
 have r300 := r300.le h303
 have r299 := r299.le h303
 have hO := zrS5 hO
 cases hF
 have hV0 := hO.val (i := 0) rfl (off := 0) (agg := true) (n := 7) rfl
 have hO := hO.sel [4]
 exact hQ _ _ _ _ _ (z8 rfl (hV0) rfl) hO hL ⟨_, _, _, rfl, rfl, r300, r302, r299⟩
theorem zrh {τ : Hp} {v0 : Value} {p0 : (List zp)} (r0 : RdT zl τ v0 p0) {rr : zO × Int × Int} (hF : zil p0 = some rr) :
  Ctr Try.prog 10 #[v0] τ [] (fun v τ' vs' => ∃ (v0_0 v0_1 : Value), v = .tuple #[.agg #[v0_0, v0_1], .int .i64 rr.2.1, .int .i64 rr.2.2] ∧ vs' = [] ∧ RdT zu τ' v0_0 rr.1.Structs ∧ RdT zt τ' v0_1 rr.1.Funcs) := by
 obtain ⟨A0, c0, rfl, -⟩ := r0.form
 refine zbf (args := [.slice A0 p0.length c0]) hm Try.func10 s10 rfl fun w0 σ hO Q hQ => ?_
 unfold zil at hF
 have hL := Hp.le.refl τ
 show wpn _ _ a10.body _ _ _
 unfold a10
 dsimp only
 refine zbm hO fun b2 σ hO => ?_
 have hO := zrS1 hO
 refine zf hO [] [] [0, 2] zry fun j => ?_
 refine za hO 2 [] [(10, .agg #[(zrU A0 p0 c0), (.int .i64 0), (.bool false)])] [0, 2] zrz fun j => ?_
 refine zc8 (n := 3) hO rfl rfl fun b3 σ hO => ?_
 have hO := zrS2 hO
 refine zf hO [] [(5, zrO b3)] [0, 2] zrz fun j => ?_
 refine zbm hO fun b4 σ hO => ?_
 have hO := zrS3 hO
 refine zc (zJ ?_)
 have hO := hO.no
 have hO := zrS4 hO
 have hO := hO.no
 have hO := zrS5 hO
 refine zby (fun (n : Nat) e' σ' => ∃ (A264 : Option Addr) (c265 : Nat) (x266 : List zp) (x268 : Int) (x269 : Bool) (A270 : Option Addr) (c271 : Nat) (o272 : Ob) (x273 : List zw) (A275 : Option Addr) (c276 : Nat) (o277 : Ob) (x278 : List zo) (τ' : Hp), agr [(0, zrU A0 p0 c0), (2, zrO b2), (5, zrO b3), (6, zrO b4)] e' ∧ Obs τ' σ' [some (b2, ⟨[.slice none 0 0, .slice none 0 0], 27, 2, true⟩), zba b3 (zrU A264 x266 c265) x268 x269, some (b4, ⟨[zrU A270 x273 c271, zrU A275 x278 c276], 27, 2, true⟩), o272, o277] ∧ Hp.le τ τ' ∧ RdT zl τ' (zrU A264 x266 c265) x266 ∧ ze zu 71 τ' (zrU A270 x273 c271) x273 o272 ∧ ze zt 50 τ' (zrU A275 x278 c276) x278 o277 ∧ zcE p0 n x266 x268 x269 x273 x278 = some rr) big ⟨A0, c0, p0, 0, false, none, 0, none, [], none, 0, none, [], _, zrM zrz, hO, hL, (r0.le hL), ze.nil _ _ _, ze.nil _ _ _, hF⟩ ?_
 clear hF hO hL
 rintro n560 e σ ⟨A264, c265, x266, x268, x269, A270, c271, o272, x273, A275, c276, o277, x278, _, hA, hO, hL, r267, w274, w279, hF⟩
 rw [← zW _ _ hA]
 cases n560 with
 | zero => exact nomatch (show none = some rr from hF)
 | succ n560 =>
 replace hF : zfj (zcE p0 n560) p0 x266 x268 x269 x273 x278 = some rr := hF
 unfold zfj at hF
 refine zg (zf hO [1, 1] [(25, .bool ((!x269) && (decide (x268 < (p0.length : Int)))))] [0, 2, 5, 6] (And.intro (And.intro rfl rfl) (And.intro (And.intro rfl rfl) (And.intro (And.intro rfl rfl) (fun _ => zrM zrA)))) fun j => ?_)
 refine zq hF rfl (fun hF => ?_) fun hF => ?_
 ·refine zz (zbV (zJ (zg (za hO 1 [] [(26, zrO b3)] [0, 2, 5, 6] zrB fun j => ?_))))
  obtain ⟨c562, h563, hF⟩ := zrT hF
  have hO := hO.sel [0, 2, 3, 4, 1]
  refine zn (hs := [_, _, _, _]) (vs := [_]) hO (zbK (q0 := (⟨x266, x268, x269⟩ : zj)) (p2 := (⟨#[116, 121, 112, 101]⟩ : ByteArray)) r267 h563) rfl fun _ σ _ _ hO h564 h565 => ?_
  have hL := hL.trans h564
  have w274 := w274.le h564
  have w279 := w279.le h564
  have r267 := r267.le h564
  obtain ⟨rfl, rfl⟩ := h565
  have hO := zrS5 hO
  have hO := hO.sel [0, 4, 1, 2, 3]
  have hO := zrS5 hO
  refine zc (zq hF rfl (fun hF => ?_) fun hF => ?_)
  ·refine zg (za hO 7 [1] [(32, zrN (IntKind.i64.wrap (x268 + 1))), (34, .pointer (some ⟨b3, 1, none⟩))] [0, 2, 5, 6] (And.intro (And.intro rfl rfl) zrC) fun j => ?_)
   refine zk hO (i := 1) rfl (off := 1) rfl rfl rfl rfl (Nat.le_of_ble_eq_true rfl) rfl fun σ hO => ?_
   have hO := zrS5 hO
   refine zc (zg (za hO 1 [] [(35, zrO b3)] [0, 2, 5, 6] zrB fun j => ?_))
   obtain ⟨c567, h568, hF⟩ := zrT hF
   have hO := hO.sel [0, 2, 3, 4, 1]
   refine zn (hs := [_, _, _, _]) (vs := [_]) hO (zdu (q0 := (⟨x266, (IntKind.i64.wrap (x268 + 1)), x269⟩ : zj)) r267 h568) rfl fun _ σ _ _ hO h569 h570 => ?_
   have hL := hL.trans h569
   have w274 := w274.le h569
   have w279 := w279.le h569
   obtain ⟨v571, rfl, rfl, r574⟩ := h570
   obtain ⟨A572, c573, rfl, -⟩ := r574.form
   have hO := zrS5 hO
   refine za hO 1 [] [(37, .agg #[(.string c567.1), (.slice none 0 0)])] [0, 2, 5, 6] zrB fun j => ?_
   refine zbm hO fun b575 σ hO => ?_
   have hO := zrS6 hO
   refine zk hO (i := 5) rfl (off := 0) rfl rfl rfl rfl (Nat.le_of_ble_eq_true rfl) rfl fun σ hO => ?_
   have hO := zrS6 hO
   refine zc (zg (za hO 1 [] [(38, zrO b3)] [0, 2, 5, 6, 7] zrC fun j => ?_))
   obtain ⟨c576, h577, hF⟩ := zrT hF
   have hO := hO.sel [0, 1, 2, 3, 5, 4]
   refine zn (hs := [_, _, _, _, _]) (vs := [_]) hO (ziT (p1 := (⟨#[115, 116, 114, 117, 99, 116]⟩ : ByteArray)) r574 h577) rfl fun _ σ _ _ hO h578 h579 => ?_
   have hL := hL.trans h578
   have w274 := w274.le h578
   have w279 := w279.le h578
   obtain ⟨v580, rfl, rfl, r583⟩ := h579
   obtain ⟨A581, c582, rfl, -⟩ := r583.form
   have hO := zrS6 hO
   refine zc (zg (za hO 1 [] [(40, zrO b3)] [0, 2, 5, 6, 7] zrC fun j => ?_))
   obtain ⟨c584, h585, hF⟩ := zrT hF
   refine zn (hs := [_, _, _, _, _]) (vs := [_]) hO (zbT (p1 := (⟨#[123]⟩ : ByteArray)) r583 h585) rfl fun _ σ _ _ hO h586 h587 => ?_
   have hL := hL.trans h586
   have w274 := w274.le h586
   have w279 := w279.le h586
   obtain ⟨v588, rfl, rfl, r591⟩ := h587
   obtain ⟨A589, c590, rfl, -⟩ := r591.form
   have hO := zrS6 hO
   refine zc (zg (zJ ?_))
   have hO := hO.no
   have hO := zrS7 hO
   have hO := hO.sel [0, 5, 1, 2, 3, 4, 6]
   refine zby (fun (n : Nat) e' σ' => ∃ (A658 : Option Addr) (c659 : Nat) (x660 : List zp) (x662 : Int) (x663 : Bool) (A664 : Option Addr) (c665 : Nat) (o666 : Ob) (x667 : List zw) (A669 : Option Addr) (c670 : Nat) (o671 : Ob) (x672 : List zo) (A674 : Option Addr) (c675 : Nat) (o676 : Ob) (x677 : List ByteArray) (τ' : Hp), agr [(0, zrU A0 p0 c0), (2, zrO b2), (5, zrO b3), (6, zrO b4), (7, zrO b575)] e' ∧ Obs τ' σ' [some (b2, ⟨[.slice none 0 0, .slice none 0 0], 27, 2, true⟩), zba b3 (zrU A658 x660 c659) x662 x663, some (b4, ⟨[zrU A664 x667 c665, zrU A669 x672 c670], 27, 2, true⟩), o666, o671, some (b575, ⟨[.string c567.1, zrU A674 x677 c675], 71, 2, true⟩), o676] ∧ Hp.le τ τ' ∧ RdT zl τ' (zrU A658 x660 c659) x660 ∧ ze zu 71 τ' (zrU A664 x667 c665) x667 o666 ∧ ze zt 50 τ' (zrU A669 x672 c670) x672 o671 ∧ ze Ty.str 9 τ' (zrU A674 x677 c675) x677 o676 ∧ zd0 (zcE p0 n560) c567 n x660 x662 x663 x667 x672 x677 = some rr) big ⟨A589, c590, c584.L, c584.At, c584.Failed, A270, c271, o272, x273, A275, c276, o277, x278, none, 0, none, [], _, zrM zrA, hO, hL, r591, w274, w279, ze.nil _ _ _, hF⟩ ?_
   clear hF hO hL
   rintro n735 e σ ⟨A658, c659, x660, x662, x663, A664, c665, o666, x667, A669, c670, o671, x672, A674, c675, o676, x677, _, hA, hO, hL, r661, w668, w673, w678, hF⟩
   rw [← zW _ _ hA]
   cases n735 with
   | zero => exact nomatch (show none = some rr from hF)
   | succ n735 =>
   replace hF : zhO (zd0 (zcE p0 n560) c567 n735) (zcE p0 n560) c567 x660 x662 x663 x667 x672 x677 = some rr := hF
   unfold zhO at hF
   refine zg (za hO 6 [1] [(47, .bool (!x663))] [0, 2, 5, 6, 7] (And.intro (And.intro rfl rfl) zrC) fun j => ?_)
   obtain ⟨c736, h737, hF⟩ := zrT hF
   refine zcg 2 (fun e' σ' => ∃ (τ' : Hp), agr [(51, .bool c736), (0, zrU A0 p0 c0), (2, zrO b2), (5, zrO b3), (6, zrO b4), (7, zrO b575)] e' ∧ Obs τ' σ' [some (b2, ⟨[.slice none 0 0, .slice none 0 0], 27, 2, true⟩), zba b3 (zrU A658 x660 c659) x662 x663, some (b4, ⟨[zrU A664 x667 c665, zrU A669 x672 c670], 27, 2, true⟩), o666, o671, some (b575, ⟨[.string c567.1, zrU A674 x677 c675], 71, 2, true⟩), o676] ∧ Hp.le τ τ' ∧ RdT zl τ' (zrU A658 x660 c659) x660 ∧ ze zu 71 τ' (zrU A664 x667 c665) x667 o666 ∧ ze zt 50 τ' (zrU A669 x672 c670) x672 o671 ∧ ze Ty.str 9 τ' (zrU A674 x677 c675) x677 o676) ?_ ?_
   ·have hF := h737
    rcases zbr hF with ⟨hb738, hF⟩ | ⟨hb738, hF⟩
    ·refine zbi (zrR hb738) ?_
     refine za hO 1 [] [(48, zrO b3)] [0, 2, 5, 6, 7, 47] zrD fun j => ?_
     obtain ⟨c739, h740, hF⟩ := zrT hF
     have hO := hO.sel [0, 2, 3, 4, 5, 6, 1]
     refine zn (hs := [_, _, _, _, _, _]) (vs := [_]) hO (zbK (q0 := (⟨x660, x662, x663⟩ : zj)) (p2 := (⟨#[125]⟩ : ByteArray)) r661 h740) rfl fun _ σ _ _ hO h741 h742 => ?_
     have hL := hL.trans h741
     have w668 := w668.le h741
     have w673 := w673.le h741
     have w678 := w678.le h741
     have r661 := r661.le h741
     obtain ⟨rfl, rfl⟩ := h742
     have hO := zrS7 hO
     have hO := hO.sel [0, 6, 1, 2, 3, 4, 5]
     have hO := zrS7 hO
     refine za hO 1 [] [(50, .bool (!c739))] [0, 2, 5, 6, 7, 47] zrD fun j => ?_
     refine zF (zrP hb738) ?_
     refine zc ?_
     cases hF
     refine zi ?_
     exact ⟨rfl, _, zrM zrB, hO, hL, r661, w668, w673, w678⟩
    refine zbk (zrR hb738) ?_
    refine zF (zrP hb738) ?_
    refine zc ?_
    cases hF
    refine zi ?_
    exact ⟨rfl, _, zrM zrB, hO, hL, r661, w668, w673, w678⟩
   rintro e σ ⟨_, hA, hO, hL, r661, w668, w673, w678⟩
   rw [← zW _ _ hA]
   refine zc (zq hF rfl (fun hF => ?_) fun hF => ?_)
   ·refine zz (zbV (zJ (zbS (za hO 3 [5] [(52, .pointer (some ⟨b575, 1, none⟩)), (53, zrU A674 x677 c675), (54, zrO b3)] [0, 2, 5, 6, 7] (And.intro (And.intro rfl rfl) zrE) fun j => ?_))))
    refine zcc ?_
    obtain ⟨c744, h745, hF⟩ := zrT hF
    have hO := hO.sel [0, 2, 3, 4, 5, 6, 1]
    refine zn (hs := [_, _, _, _, _, _]) (vs := [_]) hO (zdu (q0 := (⟨x660, x662, x663⟩ : zj)) r661 h745) rfl fun _ σ _ _ hO h746 h747 => ?_
    have hL := hL.trans h746
    have w678 := w678.le h746
    have w668 := w668.le h746
    have w673 := w673.le h746
    obtain ⟨v748, rfl, rfl, r751⟩ := h747
    obtain ⟨A749, c750, rfl, -⟩ := r751.form
    have hO := zrS7 hO
    refine zc (zb9 ⟨(zb4 rfl (hO.val (i := 4) (off := 1) (agg := false) (n := 1) rfl rfl) rfl), trivial⟩ ?_)
    refine zcc (zB (T := Ty.str) (l := ([c744.1] : List ByteArray)) (cs := [.string c744.1]) hO rfl ⟨[.string c744.1], _, rfl, rfl, rfl⟩ rfl (by decide) fun _ σ o754 w755 hO => ?_)
    obtain ⟨A752, c753, rfl, -⟩ := w755.form
    have hO := zrS8 hO
    refine zc (zb9 ⟨(zb4 rfl (hO.val (i := 4) (off := 1) (agg := false) (n := 1) rfl rfl) rfl), trivial⟩ ?_)
    obtain ⟨_, hr760, hF⟩ := zrT hF
    refine ziQ (T := Ty.str) (Ty.sc_flat _ _) hO w678 (i := 5) rfl rfl rfl (w755.rd hO (i := 7) rfl) hr760 (by decide) fun _ σ o758 w759 hO => ?_
    obtain ⟨A756, c757, rfl, -⟩ := w759.form
    have hO := zrS8 hO
    refine za hO 1 [] [(58, .pointer (some ⟨b575, 1, none⟩))] [0, 2, 5, 6, 7, 57] zrD fun j => ?_
    refine zk hO (i := 4) rfl (off := 1) rfl rfl rfl rfl (Nat.le_of_ble_eq_true rfl) rfl fun σ hO => ?_
    have hO := zrS8 hO
    refine zc (za hO 1 [] [(59, zrO b3)] [0, 2, 5, 6, 7] zrC fun j => ?_)
    obtain ⟨c761, h762, hF⟩ := zrT hF
    have hO := hO.sel [0, 1, 2, 3, 4, 5, 7, 6]
    refine zn (hs := [_, _, _, _, _, _, _]) (vs := [_]) hO (ziT (p1 := (⟨#[105, 110, 116]⟩ : ByteArray)) r751 h762) rfl fun _ σ _ _ hO h763 h764 => ?_
    have hL := hL.trans h763
    have w668 := w668.le h763
    have w673 := w673.le h763
    have w759 := w759.le h763
    obtain ⟨v765, rfl, rfl, r768⟩ := h764
    obtain ⟨A766, c767, rfl, -⟩ := r768.form
    have hO := zrS8 hO
    refine zc (zbv (za hO 1 [] [(61, zrO b3)] [0, 2, 5, 6, 7] zrC fun j => ?_))
    obtain ⟨c769, h770, hF⟩ := zrT hF
    refine zn (hs := [_, _, _, _, _, _, _]) (vs := [_]) hO (zbT (p1 := (⟨#[59]⟩ : ByteArray)) r768 h770) rfl fun _ σ _ _ hO h771 h772 => ?_
    have hL := hL.trans h771
    have w668 := w668.le h771
    have w673 := w673.le h771
    have w759 := w759.le h771
    obtain ⟨v773, rfl, rfl, r776⟩ := h772
    obtain ⟨A774, c775, rfl, -⟩ := r776.form
    have hO := zrS8 hO
    refine zc (zi (zM (zm (zi (zm ?_)))))
    have hO := hO.sel [0, 7, 1, 2, 3, 4, 5]
    exact ⟨n735, Nat.lt_succ_self _, A774, c775, c769.L, c769.At, c769.Failed, A664, c665, o666, x667, A669, c670, o671, x672, A756, c757, o758, (x677 ++ ([c744.1] : List ByteArray)), _, zrM zrA, hO, hL, r776, w668, w673, w759, hF⟩
   refine zbA (zbB (zbz (zm (zg (za hO 1 [] [(63, zrO b3)] [0, 2, 5, 6, 7] zrC fun j => ?_)))))
   obtain ⟨c777, h778, hF⟩ := zrT hF
   have hO := hO.sel [0, 2, 3, 4, 5, 6, 1]
   refine zn (hs := [_, _, _, _, _, _]) (vs := [_]) hO (zbT (q0 := (⟨x660, x662, x663⟩ : zj)) (p1 := (⟨#[125]⟩ : ByteArray)) r661 h778) rfl fun _ σ _ _ hO h779 h780 => ?_
   have hL := hL.trans h779
   have w668 := w668.le h779
   have w673 := w673.le h779
   have w678 := w678.le h779
   obtain ⟨v781, rfl, rfl, r784⟩ := h780
   obtain ⟨A782, c783, rfl, -⟩ := r784.form
   have hO := zrS7 hO
   refine zc (zg (za hO 3 [1, 4] [(66, zrU A664 x667 c665), (67, .agg #[(.string c567.1), (zrU A674 x677 c675)])] [0, 2, 5, 6] (And.intro (And.intro rfl rfl) (And.intro (And.intro rfl rfl) zrC)) fun j => ?_))
   obtain ⟨_, h786, r785, hO⟩ := w678.share hO (i := 5) rfl
   have hL := hL.trans h786
   have w668 := w668.le h786
   have w673 := w673.le h786
   have r784 := r784.le h786
   have hO := zrS7 hO
   obtain ⟨_, hr791, hF⟩ := zrT hF
   refine zhN (T := zu) (y := (⟨c567.1, x677⟩ : zw)) hO w668 (i := 2) rfl rfl (fun _ => rfl) rfl ⟨_, rfl, r785⟩ rfl hr791 (by decide) fun u _ σ o789 w790 hO => ?_
   obtain ⟨A787, c788, rfl, -⟩ := w790.form
   have hO := zrS7 hO
   refine za hO 1 [] [(70, zrO b4)] [0, 2, 5, 6, 69] zrC fun j => ?_
   refine zk hO (i := 1) rfl (off := 0) rfl rfl rfl rfl (Nat.le_of_ble_eq_true rfl) rfl fun σ hO => ?_
   have hO := zrS7 hO
   refine zc (zbA (zbz (zm (zi (zm ?_)))))
   have hO := hO.sel [0, 6, 1, 2, 3]
   exact ⟨n560, Nat.lt_succ_self _, A782, c783, c777.L, c777.At, c777.Failed, A787, c788, o789, (x667 ++ [(⟨c567.1, x677⟩ : zw)]), A669, c670, o671, x672, _, zrM zrz, hO, hL, r784, w790, w673, hF⟩
  refine zz (za hO 1 [] [(71, zrO b3)] [0, 2, 5, 6] zrB fun j => ?_)
  obtain ⟨c792, h793, hF⟩ := zrT hF
  have hO := hO.sel [0, 2, 3, 4, 1]
  refine zn (hs := [_, _, _, _]) (vs := [_]) hO (zk6 (q0 := (⟨x266, x268, x269⟩ : zj)) r267 h793) rfl fun _ σ _ _ hO h794 h795 => ?_
  have hL := hL.trans h794
  have w274 := w274.le h794
  have w279 := w279.le h794
  have r267 := r267.le h794
  obtain ⟨rfl, rfl⟩ := h795
  have hO := zrS5 hO
  have hO := hO.sel [0, 4, 1, 2, 3]
  have hO := zrS5 hO
  refine zf hO [] [(8, zrN c792)] [0, 2, 5, 6] zrB fun j => ?_
  refine za hO 1 [] [(73, zrO b3)] [0, 2, 5, 6, 8] zrC fun j => ?_
  obtain ⟨c796, h797, hF⟩ := zrT hF
  have hO := hO.sel [0, 2, 3, 4, 1]
  refine zn (hs := [_, _, _, _]) (vs := [_]) hO (ziT (q0 := (⟨x266, x268, x269⟩ : zj)) (p1 := (⟨#[102, 117, 110, 99]⟩ : ByteArray)) r267 h797) rfl fun _ σ _ _ hO h798 h799 => ?_
  have hL := hL.trans h798
  have w274 := w274.le h798
  have w279 := w279.le h798
  obtain ⟨v800, rfl, rfl, r803⟩ := h799
  obtain ⟨A801, c802, rfl, -⟩ := r803.form
  have hO := zrS5 hO
  refine zc (zhd (za hO 4 [1] [(75, .pointer (some ⟨b4, 1, none⟩)), (76, zrU A275 x278 c276), (77, zrO b3), (78, zrN c792)] [0, 2, 5, 6] (And.intro (And.intro rfl rfl) zrE) fun j => ?_))
  refine zcc ?_
  obtain ⟨c804, h805, hF⟩ := zrT hF
  refine zn (hs := [_, _, _, _]) (vs := [_]) hO (zrd r803 h805) rfl fun _ σ _ _ hO h806 h807 => ?_
  have hL := hL.trans h806
  have w279 := w279.le h806
  have w274 := w274.le h806
  obtain ⟨v808, v812, v816, rfl, rfl, r809, r813, r819⟩ := h807
  obtain ⟨A810, c811, rfl, -⟩ := r809.form
  obtain ⟨A814, c815, rfl, -⟩ := r813.form
  obtain ⟨A817, c818, rfl, -⟩ := r819.form
  have hO := zrS5 hO
  refine zc (zb9 ⟨(zb4 rfl (hO.val (i := 1) (off := 1) (agg := false) (n := 1) rfl rfl) rfl), trivial⟩ ?_)
  refine zcc (zB (T := zt) (l := ([(⟨c804.1.Name, c804.1.Line, c804.1.Params, (⟨c804.1.Result.Kind, c804.1.Result.N, c804.1.Result.Name⟩ : zD), c804.1.Body⟩ : zo)] : List zo)) (cs := [.string c804.1.Name, .int .i64 c804.1.Line, zrU A810 c804.1.Params c811, .int .u8 (c804.1.Result.Kind.toNat : Int), .int .i64 c804.1.Result.N, .string c804.1.Result.Name, zrU A814 c804.1.Body c815]) hO rfl ⟨[.string c804.1.Name, .int .i64 c804.1.Line, zrU A810 c804.1.Params c811, .int .u8 (c804.1.Result.Kind.toNat : Int), .int .i64 c804.1.Result.N, .string c804.1.Result.Name, zrU A814 c804.1.Body c815], _, rfl, ⟨_, _, rfl, r809, r813⟩, rfl⟩ rfl (by decide) fun _ σ o822 w823 hO => ?_)
  obtain ⟨A820, c821, rfl, -⟩ := w823.form
  have hO := zrS6 hO
  refine zc (zb9 ⟨(zb4 rfl (hO.val (i := 1) (off := 1) (agg := false) (n := 1) rfl rfl) rfl), trivial⟩ ?_)
  obtain ⟨_, h825, r824, hO⟩ := w823.share hO (i := 5) rfl
  have hL := hL.trans h825
  have w279 := w279.le h825
  have r809 := r809.le h825
  have r813 := r813.le h825
  have w274 := w274.le h825
  have r819 := r819.le h825
  have hO := zrS6 hO
  obtain ⟨_, hr830, hF⟩ := zrT hF
  refine zhI (T := zt) hO w279 (i := 3) rfl rfl rfl r824 hr830 (by decide) fun _ σ o828 w829 hO => ?_
  obtain ⟨A826, c827, rfl, -⟩ := w829.form
  have hO := zrS6 hO
  refine za hO 1 [] [(82, .pointer (some ⟨b4, 1, none⟩))] [0, 2, 5, 6, 81] zrC fun j => ?_
  refine zk hO (i := 1) rfl (off := 1) rfl rfl rfl rfl (Nat.le_of_ble_eq_true rfl) rfl fun σ hO => ?_
  have hO := zrS6 hO
  refine zc (zi (zM (zm (zi (zm ?_)))))
  have hO := hO.sel [0, 4, 1, 2, 3]
  exact ⟨n560, Nat.lt_succ_self _, A817, c818, c804.2.L, c804.2.At, c804.2.Failed, A270, c271, o272, x273, A826, c827, o828, (x278 ++ ([(⟨c804.1.Name, c804.1.Line, c804.1.Params, (⟨c804.1.Result.Kind, c804.1.Result.N, c804.1.Result.Name⟩ : zD), c804.1.Body⟩ : zo)] : List zo)), _, zrM zrz, hO, hL, r819, w274, w829, hF⟩
 refine zbA (zbB (zbz (zm (zg (zf hO [1] [(86, .bool x269)] [2, 5, 6] (And.intro (And.intro rfl rfl) zrA) fun j => ?_)))))
 refine zq hF rfl (fun hF => ?_) fun hF => ?_
 ·refine zg (zbS (za hO 5 [1] [(87, .agg #[(.slice none 0 0), (.slice none 0 0)]), (90, .pointer (some ⟨b3, 1, none⟩)), (91, zrN x268)] [2] (And.intro (And.intro rfl rfl) zrA) fun j => ?_))
  refine zcc (zk hO (i := 0) rfl (off := 0) rfl rfl rfl rfl (Nat.le_of_ble_eq_true rfl) rfl fun σ hO => ?_)
  have hO := zrS5 hO
  refine zc (zb9 ⟨(zb4 rfl (hO.val (i := 1) (off := 1) (agg := false) (n := 1) rfl rfl) rfl), trivial⟩ ?_)
  refine zf hO [] [(3, zrN x268), (4, zrN 7)] [2] zrz fun j => ?_
  refine z1 ?_
  cases hF
  have hV0 := hO.val (i := 0) rfl (off := 0) (agg := true) (n := 2) rfl
  have hO := hO.sel []
  exact hQ _ _ _ _ _ (z8 rfl (hV0) (zcQ (zcQ rfl))) hO hL ⟨_, _, rfl, rfl, (RdT.nil _ _), (RdT.nil _ _)⟩
 refine zz (zg (za hO 1 [2] [(92, .agg #[(zrU A270 x273 c271), (zrU A275 x278 c276)])] [2, 6] (And.intro (And.intro rfl rfl) zrz) fun j => ?_))
 obtain ⟨_, h833, r832, hO⟩ := w274.share hO (i := 3) rfl
 have hL := hL.trans h833
 have w279 := w279.le h833
 have r267 := r267.le h833
 have hO := zrS5 hO
 obtain ⟨_, h835, r834, hO⟩ := w279.share hO (i := 4) rfl
 have hL := hL.trans h835
 have r832 := r832.le h835
 have r267 := r267.le h835
 have hO := zrS5 hO
 obtain ⟨c836, h837, hF⟩ := zrT hF
 refine zbh hO (zpV (p0 := (⟨x273, x278⟩ : zO)) r832 r834 h837) rfl fun _ σ _ _ hO h838 h839 => ?_
 have hL := hL.trans h838
 have r832 := r832.le h838
 have r834 := r834.le h838
 have r267 := r267.le h838
 obtain ⟨rfl, rfl⟩ := h839
 have hO := zrS5 hO
 refine zc (zq hF rfl (fun hF => ?_) fun hF => ?_)
 ·refine zg (za hO 1 [] [(94, .agg #[(.slice none 0 0), (.slice none 0 0)])] [2] zry fun j => ?_)
  refine zk hO (i := 0) rfl (off := 0) rfl rfl rfl rfl (Nat.le_of_ble_eq_true rfl) rfl fun σ hO => ?_
  have hO := zrS5 hO
  refine zf hO [] [(3, zrN 0), (4, zrN 11)] [2] zrz fun j => ?_
  refine z1 ?_
  cases hF
  have hV0 := hO.val (i := 0) rfl (off := 0) (agg := true) (n := 2) rfl
  have hO := hO.sel []
  exact hQ _ _ _ _ _ (z8 rfl (hV0) (zcQ (zcQ rfl))) hO hL ⟨_, _, rfl, rfl, (RdT.nil _ _), (RdT.nil _ _)⟩
 refine zz (za hO 1 [2] [(95, .agg #[(zrU A270 x273 c271), (zrU A275 x278 c276)])] [2] (And.intro (And.intro rfl rfl) zry) fun j => ?_)
 refine zk hO (i := 0) rfl (off := 0) rfl rfl rfl rfl (Nat.le_of_ble_eq_true rfl) rfl fun σ hO => ?_
 have hO := zrS5 hO
 refine zf hO [] [(3, zrN 0), (4, zrN 0)] [2] zrz fun j => ?_
 refine z3 ?_
 cases hF
 have hV0 := hO.val (i := 0) rfl (off := 0) (agg := true) (n := 2) rfl
 have hO := hO.sel []
 exact hQ _ _ _ _ _ (z8 rfl (hV0) (zcQ (zcQ rfl))) hO hL ⟨_, _, rfl, rfl, r832, r834⟩
def zlt (gn : Nat) : Prop := ∀ {τ : Hp} {v0 : Value} {p0 : (List zb)} {v1 : Value} {p1 : (List zb)} (r0 : RdT zr τ v0 p0) (r1 : RdT zr τ v1 p1) {rr : Bool} (hF : (zeg gn) p0 p1 = some rr), Ctr Try.prog 50 #[v0, v1] τ [] (fun v τ' vs' => v = .bool rr ∧ vs' = [])
theorem znK {gn : Nat} (ih_ref12_sameExps : zlt gn) {τ : Hp} {v0 : Value} {p0 : (List zb)} {v1 : Value} {p1 : (List zb)} (r0 : RdT zr τ v0 p0) (r1 : RdT zr τ v1 p1) {rr : Bool} (hF : zgQ (zeg gn) p0 p1 = some rr) :
  Ctr Try.prog 50 #[v0, v1] τ [] (fun v τ' vs' => v = .bool rr ∧ vs' = []) := by
 obtain ⟨A0, c0, rfl, -⟩ := r0.form
 obtain ⟨A1, c1, rfl, -⟩ := r1.form
 refine zbf (args := [.slice A0 p0.length c0, .slice A1 p1.length c1]) hm Try.func50 s50 rfl fun w0 σ hO Q hQ => ?_
 unfold zgQ at hF
 have hL := Hp.le.refl τ
 show wpn _ _ a50.body _ _ _
 unfold a50
 dsimp only
 refine zf hO [] [] [0, 1] zry fun j => ?_
 refine zg (zf hO [] [(10, .bool ((p0.length : Int) != (p1.length : Int)))] [0, 1] zrz fun j => ?_)
 refine zq hF rfl (fun hF => ?_) fun hF => ?_
 ·refine zg (zZ hO [] [(4, .bool false)] zrx fun j => ?_)
  refine z1 ?_
  cases hF
  exact hQ _ _ _ _ _ rfl hO hL ⟨rfl, rfl⟩
 refine zz (zg (zf hO [] [(5, zrN 0)] [0, 1] zrz fun j => ?_))
 refine zJ (zby (fun (n : Nat) e' σ' => ∃ (x133 : Int) (τ' : Hp), agr [(0, zrU A0 p0 c0), (1, zrU A1 p1 c1), (5, zrN x133)] e' ∧ Obs τ' σ' [] ∧ Hp.le τ τ' ∧ zgr (zeg gn) p0 p1 n x133 = some rr) big ⟨0, _, zrM zry, hO, hL, hF⟩ ?_)
 clear hF hO hL
 rintro n263 e σ ⟨x133, _, hA, hO, hL, hF⟩
 rw [← zW _ _ hA]
 cases n263 with
 | zero => exact nomatch (show none = some rr from hF)
 | succ n263 =>
 replace hF : zgR (zgr (zeg gn) p0 p1 n263) (zeg gn) p0 p1 x133 = some rr := hF
 unfold zgR at hF
 refine zg (zf hO [] [(14, .bool (decide (x133 < (p0.length : Int))))] [0, 1, 5] zrA fun j => ?_)
 refine zq hF rfl (fun hF => ?_) fun hF => ?_
 ·refine zz (zJ (zbS (za hO 2 [] [(17, zrU A0 p0 c0), (18, zrN x133)] [0, 1, 5] zrB fun j => ?_)))
  obtain ⟨y265, g266, hF⟩ := zrT hF
  refine zV (T := zr) (r0.le hL) hO.base rfl rfl g266 (by decide) fun a267 _ k268 m269 => ?_
  obtain ⟨v270, rfl, r271⟩ := zcd k268
  obtain ⟨A272, c273, rfl, -⟩ := r271.form
  refine za hO 1 [] [(20, .pointer (some a267))] [0, 1, 5] zrA fun j => ?_
  refine zN rfl (m269.le hO.base).fst ?_
  refine za hO 2 [] [(22, zrU A1 p1 c1), (23, zrN x133)] [0, 1, 5, 21] zrC fun j => ?_
  obtain ⟨y274, g275, hF⟩ := zrT hF
  refine zV (T := zr) (r1.le hL) hO.base rfl rfl g275 (by decide) fun a276 _ k277 m278 => ?_
  obtain ⟨v279, rfl, r280⟩ := zcd k277
  obtain ⟨A281, c282, rfl, -⟩ := r280.form
  refine za hO 1 [] [(25, .pointer (some a276))] [0, 1, 5, 21] zrB fun j => ?_
  refine zN rfl (m278.le hO.base).fst ?_
  refine za hO 2 [] [(28, .bool ((y265.Kind.toNat : Int) != (y274.Kind.toNat : Int)))] [0, 1, 5] zrA fun j => ?_
  obtain ⟨c283, h284, hF⟩ := zrT hF
  refine zcw 2 [(40, .bool c283), (0, zrU A0 p0 c0), (1, zrU A1 p1 c1), (5, zrN x133)] (fun Q hQ => ?_) fun j => ?_
  ·have hF := h284
   rcases zbr hF with ⟨hb285, hF⟩ | ⟨hb285, hF⟩
   ·refine zbk (zrQ hb285) ?_
    refine zF (zrP hb285) ?_
    refine zc ?_
    cases hF
    refine zi ?_
    exact hQ _ zrA
   refine zbi (zrQ hb285) ?_
   refine za hO 2 [] [(29, zrU A0 p0 c0), (30, zrN x133)] [0, 1, 5, 28] zrC fun j => ?_
   obtain ⟨y286, g287, hF⟩ := zrT hF
   refine zV (T := zr) (r0.le hL) hO.base rfl rfl g287 (by decide) fun a288 _ k289 m290 => ?_
   obtain ⟨v291, rfl, r292⟩ := zcd k289
   obtain ⟨A293, c294, rfl, -⟩ := r292.form
   refine za hO 1 [] [(32, .pointer (some (a288.add 1)))] [0, 1, 5, 28] zrB fun j => ?_
   refine zN rfl ((m290.le hO.base).one 1 rfl) ?_
   refine zbn hO 2 [] [(0, zrU A0 p0 c0), (1, zrU A1 p1 c1), (5, zrN x133), (28, .bool ((y265.Kind.toNat : Int) != (y274.Kind.toNat : Int))), (33, zrN y286.Num), (34, zrU A1 p1 c1), (35, zrN x133)] zrD fun j => ?_
   obtain ⟨y295, g296, hF⟩ := zrT hF
   refine zV (T := zr) (r1.le hL) hO.base rfl rfl g296 (by decide) fun a297 _ k298 m299 => ?_
   obtain ⟨v300, rfl, r301⟩ := zcd k298
   obtain ⟨A302, c303, rfl, -⟩ := r301.form
   refine za hO 1 [] [(37, .pointer (some (a297.add 1)))] [0, 1, 5, 28, 33] zrC fun j => ?_
   refine zN rfl ((m299.le hO.base).one 1 rfl) ?_
   refine za hO 1 [] [(39, .bool (y286.Num != y295.Num))] [0, 1, 5, 28] zrB fun j => ?_
   refine zF (zrP hb285) ?_
   refine zc ?_
   cases hF
   refine zi ?_
   exact hQ _ zrA
  refine za hO 1 [] [(41, .bool c283)] [0, 1, 5] zrA fun j => ?_
  obtain ⟨c304, h305, hF⟩ := zrT hF
  refine zcw 2 [(53, .bool c304), (0, zrU A0 p0 c0), (1, zrU A1 p1 c1), (5, zrN x133)] (fun Q hQ => ?_) fun j => ?_
  ·have hF := h305
   rcases zbr hF with ⟨hb306, hF⟩ | ⟨hb306, hF⟩
   ·refine zbk (zrQ hb306) ?_
    refine zF (zrP hb306) ?_
    refine zc ?_
    cases hF
    refine zi ?_
    exact hQ _ zrA
   refine zbi (zrQ hb306) ?_
   refine za hO 2 [] [(42, zrU A0 p0 c0), (43, zrN x133)] [0, 1, 5, 41] zrC fun j => ?_
   obtain ⟨y307, g308, hF⟩ := zrT hF
   refine zV (T := zr) (r0.le hL) hO.base rfl rfl g308 (by decide) fun a309 _ k310 m311 => ?_
   obtain ⟨v312, rfl, r313⟩ := zcd k310
   obtain ⟨A314, c315, rfl, -⟩ := r313.form
   refine zbn hO 1 [] [(0, zrU A0 p0 c0), (1, zrU A1 p1 c1), (5, zrN x133), (41, .bool c283), (45, .pointer (some (a309.add 2)))] zrB fun j => ?_
   refine zN rfl ((m311.le hO.base).one 2 rfl) ?_
   refine za hO 2 [] [(47, zrU A1 p1 c1), (48, zrN x133)] [0, 1, 5, 41, 46] zrD fun j => ?_
   obtain ⟨y316, g317, hF⟩ := zrT hF
   refine zV (T := zr) (r1.le hL) hO.base rfl rfl g317 (by decide) fun a318 _ k319 m320 => ?_
   obtain ⟨v321, rfl, r322⟩ := zcd k319
   obtain ⟨A323, c324, rfl, -⟩ := r322.form
   refine za hO 1 [] [(50, .pointer (some (a318.add 2)))] [0, 1, 5, 41, 46] zrC fun j => ?_
   refine zN rfl ((m320.le hO.base).one 2 rfl) ?_
   refine za hO 1 [] [(52, .bool (!(zbl y307.Name y316.Name)))] [0, 1, 5, 41] zrB fun j => ?_
   refine zF (zrP hb306) ?_
   refine zc ?_
   cases hF
   refine zi ?_
   exact hQ _ zrA
  refine za hO 1 [] [(54, .bool c304)] [0, 1, 5] zrA fun j => ?_
  obtain ⟨c325, h326, hF⟩ := zrT hF
  refine zcw 2 [(66, .bool c325), (0, zrU A0 p0 c0), (1, zrU A1 p1 c1), (5, zrN x133)] (fun Q hQ => ?_) fun j => ?_
  ·have hF := h326
   rcases zbr hF with ⟨hb327, hF⟩ | ⟨hb327, hF⟩
   ·refine zbk (zrQ hb327) ?_
    refine zF (zrP hb327) ?_
    refine zc ?_
    cases hF
    refine zi ?_
    exact hQ _ zrA
   refine zbi (zrQ hb327) ?_
   refine zbn hO 2 [] [(0, zrU A0 p0 c0), (1, zrU A1 p1 c1), (5, zrN x133), (54, .bool c304), (55, zrU A0 p0 c0), (56, zrN x133)] zrC fun j => ?_
   obtain ⟨y328, g329, hF⟩ := zrT hF
   refine zV (T := zr) (r0.le hL) hO.base rfl rfl g329 (by decide) fun a330 _ k331 m332 => ?_
   obtain ⟨v333, rfl, r334⟩ := zcd k331
   obtain ⟨A335, c336, rfl, -⟩ := r334.form
   refine za hO 1 [] [(58, .pointer (some (a330.add 3)))] [0, 1, 5, 54] zrB fun j => ?_
   refine zN rfl ((m332.le hO.base).one 3 rfl) ?_
   refine za hO 2 [] [(60, zrU A1 p1 c1), (61, zrN x133)] [0, 1, 5, 54, 59] zrD fun j => ?_
   obtain ⟨y337, g338, hF⟩ := zrT hF
   refine zV (T := zr) (r1.le hL) hO.base rfl rfl g338 (by decide) fun a339 _ k340 m341 => ?_
   obtain ⟨v342, rfl, r343⟩ := zcd k340
   obtain ⟨A344, c345, rfl, -⟩ := r343.form
   refine za hO 1 [] [(63, .pointer (some (a339.add 3)))] [0, 1, 5, 54, 59] zrC fun j => ?_
   refine zN rfl ((m341.le hO.base).one 3 rfl) ?_
   refine za hO 1 [] [(65, .bool (!(zbl y328.Field y337.Field)))] [0, 1, 5, 54] zrB fun j => ?_
   refine zF (zrP hb327) ?_
   refine zc ?_
   cases hF
   refine zi ?_
   exact hQ _ zrA
  refine zbn hO 1 [] [(0, zrU A0 p0 c0), (1, zrU A1 p1 c1), (5, zrN x133), (67, .bool c325)] zrA fun j => ?_
  obtain ⟨c346, h347, hF⟩ := zrT hF
  refine zcw 2 [(79, .bool c346), (0, zrU A0 p0 c0), (1, zrU A1 p1 c1), (5, zrN x133)] (fun Q hQ => ?_) fun j => ?_
  ·have hF := h347
   rcases zbr hF with ⟨hb348, hF⟩ | ⟨hb348, hF⟩
   ·refine zbk (zrQ hb348) ?_
    refine zF (zrP hb348) ?_
    refine zc ?_
    cases hF
    refine zi ?_
    exact hQ _ zrA
   refine zbi (zrQ hb348) ?_
   refine za hO 2 [] [(68, zrU A0 p0 c0), (69, zrN x133)] [0, 1, 5, 67] zrC fun j => ?_
   obtain ⟨y349, g350, hF⟩ := zrT hF
   refine zV (T := zr) (r0.le hL) hO.base rfl rfl g350 (by decide) fun a351 _ k352 m353 => ?_
   obtain ⟨v354, rfl, r355⟩ := zcd k352
   obtain ⟨A356, c357, rfl, -⟩ := r355.form
   refine za hO 1 [] [(71, .pointer (some (a351.add 4)))] [0, 1, 5, 67] zrB fun j => ?_
   refine zN rfl ((m353.le hO.base).one 4 rfl) ?_
   refine za hO 2 [] [(73, zrU A1 p1 c1), (74, zrN x133)] [0, 1, 5, 67, 72] zrD fun j => ?_
   obtain ⟨y358, g359, hF⟩ := zrT hF
   refine zV (T := zr) (r1.le hL) hO.base rfl rfl g359 (by decide) fun a360 _ k361 m362 => ?_
   obtain ⟨v363, rfl, r364⟩ := zcd k361
   obtain ⟨A365, c366, rfl, -⟩ := r364.form
   refine za hO 1 [] [(76, .pointer (some (a360.add 4)))] [0, 1, 5, 67, 72] zrC fun j => ?_
   refine zN rfl ((m362.le hO.base).one 4 rfl) ?_
   refine za hO 1 [] [(78, .bool (!(zbl y349.Op y358.Op)))] [0, 1, 5, 67] zrB fun j => ?_
   refine zF (zrP hb348) ?_
   refine zc ?_
   cases hF
   refine zi ?_
   exact hQ _ zrA
  refine za hO 1 [] [(80, .bool c346)] [0, 1, 5] zrA fun j => ?_
  obtain ⟨c367, h368, hF⟩ := zrT hF
  refine zcg 2 (fun e' σ' => ∃ (τ' : Hp), agr [(93, .bool c367), (0, zrU A0 p0 c0), (1, zrU A1 p1 c1), (5, zrN x133)] e' ∧ Obs τ' σ' [] ∧ Hp.le τ τ') ?_ ?_
  ·have hF := h368
   rcases zbr hF with ⟨hb369, hF⟩ | ⟨hb369, hF⟩
   ·refine zbk (zrQ hb369) ?_
    refine zF (zrP hb369) ?_
    refine zc ?_
    cases hF
    refine zi ?_
    exact ⟨rfl, _, zrM zrz, hO, hL⟩
   refine zbi (zrQ hb369) ?_
   refine za hO 2 [] [(81, zrU A0 p0 c0), (82, zrN x133)] [0, 1, 5, 80] zrC fun j => ?_
   obtain ⟨y370, g371, hF⟩ := zrT hF
   refine zV (T := zr) (r0.le hL) hO.base rfl rfl g371 (by decide) fun a372 _ k373 m374 => ?_
   obtain ⟨v375, rfl, r376⟩ := zcd k373
   obtain ⟨A377, c378, rfl, -⟩ := r376.form
   refine za hO 1 [] [(84, .pointer (some (a372.add 5)))] [0, 1, 5, 80] zrB fun j => ?_
   refine zN rfl ((m374.le hO.base).one 5 rfl) ?_
   refine za hO 2 [] [(86, zrU A1 p1 c1), (87, zrN x133)] [0, 1, 5, 80, 85] zrD fun j => ?_
   obtain ⟨y379, g380, hF⟩ := zrT hF
   refine zV (T := zr) (r1.le hL) hO.base rfl rfl g380 (by decide) fun a381 _ k382 m383 => ?_
   obtain ⟨v384, rfl, r385⟩ := zcd k382
   obtain ⟨A386, c387, rfl, -⟩ := r385.form
   refine za hO 1 [] [(89, .pointer (some (a381.add 5)))] [0, 1, 5, 80, 85] zrC fun j => ?_
   refine zN rfl ((m383.le hO.base).one 5 rfl) ?_
   obtain ⟨c388, h389, hF⟩ := zrT hF
   refine zbh hO (ih_ref12_sameExps r376 r385 h389) rfl fun _ σ _ _ hO h390 h391 => ?_
   have hL := hL.trans h390
   have r376 := r376.le h390
   have m383 := m383.le h390
   have r385 := r385.le h390
   obtain ⟨rfl, rfl⟩ := h391
   have hO : Obs _ _ [] := hO
   refine za hO 1 [] [(92, .bool (!c388))] [0, 1, 5, 80] zrB fun j => ?_
   refine zF (zrP hb369) ?_
   refine zc ?_
   cases hF
   refine zi ?_
   exact ⟨rfl, _, zrM zrz, hO, hL⟩
  rintro e σ ⟨_, hA, hO, hL⟩
  rw [← zW _ _ hA]
  refine zc (zbF (zq hF rfl (fun hF => ?_) fun hF => ?_))
  ·refine zg (zZ hO [] [(4, .bool false)] zrx fun j => ?_)
   refine z1 (zY (zE (zE (zY (zE ?_)))))
   cases hF
   exact hQ _ _ _ _ _ rfl hO hL ⟨rfl, rfl⟩
  refine zz (zi (zM (zm (zbv (zf hO [] [(5, zrN (IntKind.i64.wrap (x133 + 1)))] [0, 1] zrz fun j => ?_)))))
  refine zi (zm ?_)
  exact ⟨n263, Nat.lt_succ_self _, (IntKind.i64.wrap (x133 + 1)), _, zrM zry, hO, hL, hF⟩
 refine zbA (zbB (zbz (zm (zZ hO [] [(4, .bool true)] zrx fun j => ?_))))
 refine z3 ?_
 cases hF
 exact hQ _ _ _ _ _ rfl hO hL ⟨rfl, rfl⟩
theorem zq1 (n : Nat) : zlt n := by
 induction n with
 | zero =>
  intro τ v0 p0 v1 p1 r0 r1 rr hF; exact nomatch (show none = some rr from hF)
 | succ n ih =>
  intro τ v0 p0 v1 p1 r0 r1 rr hF; exact znK ih r0 r1 hF
theorem zq4 : ∀ {τ : Hp} {v0 : Value} {p0 : (List zb)} {v1 : Value} {p1 : (List zb)} (r0 : RdT zr τ v0 p0) (r1 : RdT zr τ v1 p1) {rr : Bool} (hF : zke p0 p1 = some rr), Ctr Try.prog 50 #[v0, v1] τ [] (fun v τ' vs' => v = .bool rr ∧ vs' = []) := (zq1 big)
def zk2 (gn : Nat) : Prop := ∀ {τ : Hp} {v0 : Value} {p0 : (List zh)} {v1 : Value} {p1 : (List zh)} (r0 : RdT zv τ v0 p0) (r1 : RdT zv τ v1 p1) {rr : Bool} (hF : (zd7 gn) p0 p1 = some rr), Ctr Try.prog 28 #[v0, v1] τ [] (fun v τ' vs' => v = .bool rr ∧ vs' = [])
theorem zot {gn : Nat} (ih_ref12_sameStmts : zk2 gn) {τ : Hp} {v0 : Value} {p0 : (List zh)} {v1 : Value} {p1 : (List zh)} (r0 : RdT zv τ v0 p0) (r1 : RdT zv τ v1 p1) {rr : Bool} (hF : zhf (zd7 gn) p0 p1 = some rr) :
  Ctr Try.prog 28 #[v0, v1] τ [] (fun v τ' vs' => v = .bool rr ∧ vs' = []) := by
 obtain ⟨A0, c0, rfl, -⟩ := r0.form
 obtain ⟨A1, c1, rfl, -⟩ := r1.form
 refine zbf (args := [.slice A0 p0.length c0, .slice A1 p1.length c1]) hm Try.func28 s28 rfl fun w0 σ hO Q hQ => ?_
 unfold zhf at hF
 have hL := Hp.le.refl τ
 show wpn _ _ a28.body _ _ _
 unfold a28
 dsimp only
 refine zf hO [] [] [0, 1] zry fun j => ?_
 refine zg (zf hO [] [(12, .bool ((p0.length : Int) != (p1.length : Int)))] [0, 1] zrz fun j => ?_)
 refine zq hF rfl (fun hF => ?_) fun hF => ?_
 ·refine zg (zZ hO [] [(4, .bool false)] zrx fun j => ?_)
  refine z1 ?_
  cases hF
  exact hQ _ _ _ _ _ rfl hO hL ⟨rfl, rfl⟩
 refine zz (zg (zf hO [] [(5, zrN 0)] [0, 1] zrz fun j => ?_))
 refine zJ (zby (fun (n : Nat) e' σ' => ∃ (x63 : Int) (τ' : Hp), agr [(0, zrU A0 p0 c0), (1, zrU A1 p1 c1), (5, zrN x63)] e' ∧ Obs τ' σ' [] ∧ Hp.le τ τ' ∧ zgn (zd7 gn) p0 p1 n x63 = some rr) big ⟨0, _, zrM zry, hO, hL, hF⟩ ?_)
 clear hF hO hL
 rintro n123 e σ ⟨x63, _, hA, hO, hL, hF⟩
 rw [← zW _ _ hA]
 cases n123 with
 | zero => exact nomatch (show none = some rr from hF)
 | succ n123 =>
 replace hF : zhh (zgn (zd7 gn) p0 p1 n123) (zd7 gn) p0 p1 x63 = some rr := hF
 unfold zhh at hF
 refine zg (zf hO [] [(16, .bool (decide (x63 < (p0.length : Int))))] [0, 1, 5] zrA fun j => ?_)
 refine zq hF rfl (fun hF => ?_) fun hF => ?_
 ·refine zz (zJ (za hO 2 [] [(19, zrU A0 p0 c0), (20, zrN x63)] [0, 1, 5] zrB fun j => ?_))
  obtain ⟨y125, g126, hF⟩ := zrT hF
  refine zV (T := zv) (r0.le hL) hO.base rfl rfl g126 (by decide) fun a127 _ k128 m129 => ?_
  obtain ⟨v130, v134, v138, rfl, r131, r135, r139⟩ := zem k128
  obtain ⟨A132, c133, rfl, -⟩ := r131.form
  obtain ⟨A136, c137, rfl, -⟩ := r135.form
  obtain ⟨A140, c141, rfl, -⟩ := r139.form
  refine zN rfl ((m129.le hO.base).all rfl) ?_
  refine zbm hO fun b142 σ hO => ?_
  have hO := zrS1 hO
  refine zk hO (i := 0) rfl (off := 0) rfl rfl rfl rfl (Nat.le_of_ble_eq_true rfl) rfl fun σ hO => ?_
  have hO := zrS1 hO
  refine zc (za hO 2 [] [(23, zrU A1 p1 c1), (24, zrN x63)] [0, 1, 5, 6] zrC fun j => ?_)
  obtain ⟨y143, g144, hF⟩ := zrT hF
  refine zV (T := zv) (r1.le hL) hO.base rfl rfl g144 (by decide) fun a145 _ k146 m147 => ?_
  obtain ⟨v148, v152, v156, rfl, r149, r153, r157⟩ := zem k146
  obtain ⟨A150, c151, rfl, -⟩ := r149.form
  obtain ⟨A154, c155, rfl, -⟩ := r153.form
  obtain ⟨A158, c159, rfl, -⟩ := r157.form
  refine zN rfl ((m147.le hO.base).all rfl) ?_
  refine zbm hO fun b160 σ hO => ?_
  have hO := zrS2 hO
  refine zk hO (i := 1) rfl (off := 0) rfl rfl rfl rfl (Nat.le_of_ble_eq_true rfl) rfl fun σ hO => ?_
  have hO := zrS2 hO
  refine zc (za hO 21 [0, 1, 0, 1, 0, 1, 0, 1, 0, 1, 0, 1] [(67, .bool (((((((y125.Kind.toNat : Int) != (y143.Kind.toNat : Int)) || (y125.Line != y143.Line)) || (!(zbl y125.Name y143.Name))) || (!(zbl y125.Field y143.Field))) || (!(zbl y125.Call y143.Call))) || (!(( (y125.Type_.Kind.toNat : Int) == (y143.Type_.Kind.toNat : Int)) && (( y125.Type_.N == y143.Type_.N) && ((zbl y125.Type_.Name y143.Type_.Name) && true))))))] [0, 1, 5, 6, 7] (And.intro (And.intro rfl rfl) (And.intro (And.intro rfl rfl) (And.intro (And.intro rfl rfl) (And.intro (And.intro rfl rfl) (And.intro (And.intro rfl rfl) (fun _ => And.intro (And.intro rfl rfl) (And.intro (And.intro rfl rfl) (And.intro (And.intro rfl rfl) (fun _ => And.intro (And.intro rfl rfl) (And.intro (And.intro rfl rfl) (And.intro (And.intro rfl rfl) (fun _ => And.intro (And.intro rfl rfl) (And.intro (And.intro rfl rfl) (And.intro (And.intro rfl rfl) (fun _ => And.intro (And.intro rfl rfl) (And.intro (And.intro rfl rfl) (And.intro (And.intro rfl rfl) (fun _ => zrM zrB)))))))))))))))))) fun j => ?_)
  obtain ⟨c161, h162, hF⟩ := zrT hF
  refine zcg 2 (fun e' σ' => ∃ (τ' : Hp), agr [(74, .bool c161), (0, zrU A0 p0 c0), (1, zrU A1 p1 c1), (5, zrN x63), (6, zrO b142), (7, zrO b160)] e' ∧ Obs τ' σ' [zbQ b142 (y125.Kind.toNat : Int) y125.Line y125.Name y125.Field y125.Call (y125.Type_.Kind.toNat : Int) y125.Type_.N y125.Type_.Name (zrU A132 y125.Kids c133) (zrU A136 y125.Body c137) (zrU A140 y125.Else c141), zbQ b160 (y143.Kind.toNat : Int) y143.Line y143.Name y143.Field y143.Call (y143.Type_.Kind.toNat : Int) y143.Type_.N y143.Type_.Name (zrU A150 y143.Kids c151) (zrU A154 y143.Body c155) (zrU A158 y143.Else c159)] ∧ Hp.le τ τ' ∧ RdT zr τ' (zrU A132 y125.Kids c133) y125.Kids ∧ RdT zv τ' (zrU A136 y125.Body c137) y125.Body ∧ RdT zv τ' (zrU A140 y125.Else c141) y125.Else ∧ RdT zr τ' (zrU A150 y143.Kids c151) y143.Kids ∧ RdT zv τ' (zrU A154 y143.Body c155) y143.Body ∧ RdT zv τ' (zrU A158 y143.Else c159) y143.Else) ?_ ?_
  ·have hF := h162
   rcases zbr hF with ⟨hb163, hF⟩ | ⟨hb163, hF⟩
   ·refine zbk (zrQ hb163) ?_
    refine zF (zrP hb163) ?_
    refine zc ?_
    cases hF
    refine zi ?_
    exact ⟨rfl, _, zrM zrB, hO, hL, r131, r135, r139, r149, r153, r157⟩
   refine zbi (zrQ hb163) ?_
   refine za hO 4 [0, 1] [(69, zrU A132 y125.Kids c133), (71, zrU A150 y143.Kids c151)] [0, 1, 5, 6, 7, 67] (And.intro (And.intro rfl rfl) (And.intro (And.intro rfl rfl) zrE)) fun j => ?_
   obtain ⟨c164, h165, hF⟩ := zrT hF
   refine zbh hO (zq4 r131 r149 h165) rfl fun _ σ _ _ hO h166 h167 => ?_
   have hL := hL.trans h166
   have r131 := r131.le h166
   have r149 := r149.le h166
   have r135 := r135.le h166
   have r139 := r139.le h166
   have r153 := r153.le h166
   have r157 := r157.le h166
   obtain ⟨rfl, rfl⟩ := h167
   have hO := zrS2 hO
   refine za hO 1 [] [(73, .bool (!c164))] [0, 1, 5, 6, 7, 67] zrD fun j => ?_
   refine zF (zrP hb163) ?_
   refine zc ?_
   cases hF
   refine zi ?_
   exact ⟨rfl, _, zrM zrB, hO, hL, r131, r135, r139, r149, r153, r157⟩
  rintro e σ ⟨_, hA, hO, hL, r131, r135, r139, r149, r153, r157⟩
  rw [← zW _ _ hA]
  refine za hO 1 [] [(75, .bool c161)] [0, 1, 5, 6, 7] zrC fun j => ?_
  obtain ⟨c168, h169, hF⟩ := zrT hF
  refine zcg 2 (fun e' σ' => ∃ (τ' : Hp), agr [(82, .bool c168), (0, zrU A0 p0 c0), (1, zrU A1 p1 c1), (5, zrN x63), (6, zrO b142), (7, zrO b160)] e' ∧ Obs τ' σ' [zbQ b142 (y125.Kind.toNat : Int) y125.Line y125.Name y125.Field y125.Call (y125.Type_.Kind.toNat : Int) y125.Type_.N y125.Type_.Name (zrU A132 y125.Kids c133) (zrU A136 y125.Body c137) (zrU A140 y125.Else c141), zbQ b160 (y143.Kind.toNat : Int) y143.Line y143.Name y143.Field y143.Call (y143.Type_.Kind.toNat : Int) y143.Type_.N y143.Type_.Name (zrU A150 y143.Kids c151) (zrU A154 y143.Body c155) (zrU A158 y143.Else c159)] ∧ Hp.le τ τ' ∧ RdT zr τ' (zrU A132 y125.Kids c133) y125.Kids ∧ RdT zv τ' (zrU A136 y125.Body c137) y125.Body ∧ RdT zv τ' (zrU A140 y125.Else c141) y125.Else ∧ RdT zr τ' (zrU A150 y143.Kids c151) y143.Kids ∧ RdT zv τ' (zrU A154 y143.Body c155) y143.Body ∧ RdT zv τ' (zrU A158 y143.Else c159) y143.Else) ?_ ?_
  ·have hF := h169
   rcases zbr hF with ⟨hb170, hF⟩ | ⟨hb170, hF⟩
   ·refine zbk (zrQ hb170) ?_
    refine zF (zrP hb170) ?_
    refine zc ?_
    cases hF
    refine zi ?_
    exact ⟨rfl, _, zrM zrB, hO, hL, r131, r135, r139, r149, r153, r157⟩
   refine zbi (zrQ hb170) ?_
   refine za hO 4 [0, 1] [(77, zrU A136 y125.Body c137), (79, zrU A154 y143.Body c155)] [0, 1, 5, 6, 7, 75] (And.intro (And.intro rfl rfl) (And.intro (And.intro rfl rfl) zrE)) fun j => ?_
   obtain ⟨c171, h172, hF⟩ := zrT hF
   refine zbh hO (ih_ref12_sameStmts r135 r153 h172) rfl fun _ σ _ _ hO h173 h174 => ?_
   have hL := hL.trans h173
   have r135 := r135.le h173
   have r153 := r153.le h173
   have r131 := r131.le h173
   have r139 := r139.le h173
   have r149 := r149.le h173
   have r157 := r157.le h173
   obtain ⟨rfl, rfl⟩ := h174
   have hO := zrS2 hO
   refine za hO 1 [] [(81, .bool (!c171))] [0, 1, 5, 6, 7, 75] zrD fun j => ?_
   refine zF (zrP hb170) ?_
   refine zc ?_
   cases hF
   refine zi ?_
   exact ⟨rfl, _, zrM zrB, hO, hL, r131, r135, r139, r149, r153, r157⟩
  rintro e σ ⟨_, hA, hO, hL, r131, r135, r139, r149, r153, r157⟩
  rw [← zW _ _ hA]
  refine za hO 1 [] [(83, .bool c168)] [0, 1, 5, 6, 7] zrC fun j => ?_
  obtain ⟨c175, h176, hF⟩ := zrT hF
  refine zcg 2 (fun e' σ' => ∃ (τ' : Hp), agr [(90, .bool c175), (0, zrU A0 p0 c0), (1, zrU A1 p1 c1), (5, zrN x63)] e' ∧ Obs τ' σ' [zbQ b142 (y125.Kind.toNat : Int) y125.Line y125.Name y125.Field y125.Call (y125.Type_.Kind.toNat : Int) y125.Type_.N y125.Type_.Name (zrU A132 y125.Kids c133) (zrU A136 y125.Body c137) (zrU A140 y125.Else c141), zbQ b160 (y143.Kind.toNat : Int) y143.Line y143.Name y143.Field y143.Call (y143.Type_.Kind.toNat : Int) y143.Type_.N y143.Type_.Name (zrU A150 y143.Kids c151) (zrU A154 y143.Body c155) (zrU A158 y143.Else c159)] ∧ Hp.le τ τ' ∧ RdT zr τ' (zrU A132 y125.Kids c133) y125.Kids ∧ RdT zv τ' (zrU A136 y125.Body c137) y125.Body ∧ RdT zv τ' (zrU A140 y125.Else c141) y125.Else ∧ RdT zr τ' (zrU A150 y143.Kids c151) y143.Kids ∧ RdT zv τ' (zrU A154 y143.Body c155) y143.Body ∧ RdT zv τ' (zrU A158 y143.Else c159) y143.Else) ?_ ?_
  ·have hF := h176
   rcases zbr hF with ⟨hb177, hF⟩ | ⟨hb177, hF⟩
   ·refine zbk (zrQ hb177) ?_
    refine zF (zrP hb177) ?_
    refine zc ?_
    cases hF
    refine zi ?_
    exact ⟨rfl, _, zrM zrz, hO, hL, r131, r135, r139, r149, r153, r157⟩
   refine zbi (zrQ hb177) ?_
   refine za hO 4 [0, 1] [(85, zrU A140 y125.Else c141), (87, zrU A158 y143.Else c159)] [0, 1, 5, 83] (And.intro (And.intro rfl rfl) (And.intro (And.intro rfl rfl) zrC)) fun j => ?_
   obtain ⟨c178, h179, hF⟩ := zrT hF
   refine zbh hO (ih_ref12_sameStmts r139 r157 h179) rfl fun _ σ _ _ hO h180 h181 => ?_
   have hL := hL.trans h180
   have r139 := r139.le h180
   have r157 := r157.le h180
   have r131 := r131.le h180
   have r135 := r135.le h180
   have r149 := r149.le h180
   have r153 := r153.le h180
   obtain ⟨rfl, rfl⟩ := h181
   have hO := zrS2 hO
   refine za hO 1 [] [(89, .bool (!c178))] [0, 1, 5, 83] zrB fun j => ?_
   refine zF (zrP hb177) ?_
   refine zc ?_
   cases hF
   refine zi ?_
   exact ⟨rfl, _, zrM zrz, hO, hL, r131, r135, r139, r149, r153, r157⟩
  rintro e σ ⟨_, hA, hO, hL, r131, r135, r139, r149, r153, r157⟩
  rw [← zW _ _ hA]
  refine zc (zbF (zq hF rfl (fun hF => ?_) fun hF => ?_))
  ·refine zg (zZ hO [] [(4, .bool false)] zrx fun j => ?_)
   refine z1 (zY (zE (zE (zY (zE ?_)))))
   cases hF
   have hO := hO.sel []
   exact hQ _ _ _ _ _ rfl hO hL ⟨rfl, rfl⟩
  refine zz (zi (zM (zm (zbv (zf hO [] [(5, zrN (IntKind.i64.wrap (x63 + 1)))] [0, 1] zrz fun j => ?_)))))
  refine zi (zm ?_)
  have hO := hO.sel []
  exact ⟨n123, Nat.lt_succ_self _, (IntKind.i64.wrap (x63 + 1)), _, zrM zry, hO, hL, hF⟩
 refine zbA (zbB (zbz (zm (zZ hO [] [(4, .bool true)] zrx fun j => ?_))))
 refine z3 ?_
 cases hF
 exact hQ _ _ _ _ _ rfl hO hL ⟨rfl, rfl⟩
theorem znv (n : Nat) : zk2 n := by
 induction n with
 | zero =>
  intro τ v0 p0 v1 p1 r0 r1 rr hF; exact nomatch (show none = some rr from hF)
 | succ n ih =>
  intro τ v0 p0 v1 p1 r0 r1 rr hF; exact zot ih r0 r1 hF
theorem zqG : ∀ {τ : Hp} {v0 : Value} {p0 : (List zh)} {v1 : Value} {p1 : (List zh)} (r0 : RdT zv τ v0 p0) (r1 : RdT zv τ v1 p1) {rr : Bool} (hF : zje p0 p1 = some rr), Ctr Try.prog 28 #[v0, v1] τ [] (fun v τ' vs' => v = .bool rr ∧ vs' = []) := (znv big)
theorem zqA {τ : Hp} {p0 : zO} {v0_0 v0_1 : Value} {p1 : zO} {v1_0 v1_1 : Value} (r0_0 : RdT zu τ v0_0 p0.Structs) (r0_1 : RdT zt τ v0_1 p0.Funcs) (r1_0 : RdT zu τ v1_0 p1.Structs) (r1_1 : RdT zt τ v1_1 p1.Funcs) {rr : Bool} (hF : zfr p0 p1 = some rr) :
  Ctr Try.prog 11 #[.agg #[v0_0, v0_1], .agg #[v1_0, v1_1]] τ [] (fun v τ' vs' => v = .bool rr ∧ vs' = []) := by
 obtain ⟨A0_0, c0_0, rfl, -⟩ := r0_0.form
 obtain ⟨A0_1, c0_1, rfl, -⟩ := r0_1.form
 obtain ⟨A1_0, c1_0, rfl, -⟩ := r1_0.form
 obtain ⟨A1_1, c1_1, rfl, -⟩ := r1_1.form
 refine zbf (args := [.agg #[(zrU A0_0 p0.Structs c0_0), (zrU A0_1 p0.Funcs c0_1)], .agg #[(zrU A1_0 p1.Structs c1_0), (zrU A1_1 p1.Funcs c1_1)]]) hm Try.func11 s11 rfl fun w0 σ hO Q hQ => ?_
 unfold zfr at hF
 have hL := Hp.le.refl τ
 show wpn _ _ a11.body _ _ _
 unfold a11
 dsimp only
 refine zc8 (n := 2) hO rfl rfl fun b3 σ hO => ?_
 have hO := zrS1 hO
 refine zc8 (n := 2) hO rfl rfl fun b4 σ hO => ?_
 have hO := zrS2 hO
 refine zf hO [] [] [2, 3] zry fun j => ?_
 refine zg (zf hO [0, 1, 0, 1] [(26, .bool (((p0.Structs.length : Int) != (p1.Structs.length : Int)) || ((p0.Funcs.length : Int) != (p1.Funcs.length : Int))))] [2, 3] (And.intro (And.intro rfl rfl) (And.intro (And.intro rfl rfl) (And.intro (And.intro rfl rfl) (And.intro (And.intro rfl rfl) (And.intro (And.intro rfl rfl) (fun _ => zrM zry)))))) fun j => ?_)
 refine zq hF rfl (fun hF => ?_) fun hF => ?_
 ·refine zg (zZ hO [] [(4, .bool false)] zrx fun j => ?_)
  refine z1 ?_
  cases hF
  have hO := hO.sel []
  exact hQ _ _ _ _ _ rfl hO hL ⟨rfl, rfl⟩
 refine zz (zg (zf hO [] [(5, zrN 0)] [2, 3] zrz fun j => ?_))
 refine zJ (zby (fun (n : Nat) e' σ' => ∃ (x417 : Int) (τ' : Hp), agr [(2, zrO b3), (3, zrO b4), (5, zrN x417)] e' ∧ Obs τ' σ' [some (b3, ⟨[zrU A0_0 p0.Structs c0_0, zrU A0_1 p0.Funcs c0_1], 27, 2, true⟩), some (b4, ⟨[zrU A1_0 p1.Structs c1_0, zrU A1_1 p1.Funcs c1_1], 27, 2, true⟩)] ∧ Hp.le τ τ' ∧ zdz p0 p1 n x417 = some rr) big ⟨0, _, zrM zry, hO, hL, hF⟩ ?_)
 clear hF hO hL
 rintro n829 e σ ⟨x417, _, hA, hO, hL, hF⟩
 rw [← zW _ _ hA]
 cases n829 with
 | zero => exact nomatch (show none = some rr from hF)
 | succ n829 =>
 replace hF : zg6 (zdz p0 p1 n829) p0 p1 x417 = some rr := hF
 unfold zg6 at hF
 refine zg (zf hO [0] [(31, .bool (decide (x417 < (p0.Structs.length : Int))))] [2, 3, 5] (And.intro (And.intro rfl rfl) zrA) fun j => ?_)
 refine zq hF rfl (fun hF => ?_) fun hF => ?_
 ·refine zz (zJ (zg (zbS (za hO 3 [0] [(35, zrU A0_0 p0.Structs c0_0), (36, zrN x417)] [2, 3, 5] (And.intro (And.intro rfl rfl) zrB) fun j => ?_))))
  obtain ⟨y831, g832, hF⟩ := zrT hF
  refine zV (T := zu) (r0_0.le hL) hO.base rfl rfl g832 (by decide) fun a833 _ k834 m835 => ?_
  obtain ⟨v836, rfl, r837⟩ := k834
  obtain ⟨A838, c839, rfl, -⟩ := r837.form
  refine za hO 1 [] [(38, .pointer (some a833))] [2, 3, 5] zrA fun j => ?_
  refine zN rfl (m835.le hO.base).fst ?_
  refine za hO 3 [1] [(41, zrU A1_0 p1.Structs c1_0), (42, zrN x417)] [2, 3, 5, 39] (And.intro (And.intro rfl rfl) zrC) fun j => ?_
  obtain ⟨y840, g841, hF⟩ := zrT hF
  refine zV (T := zu) (r1_0.le hL) hO.base rfl rfl g841 (by decide) fun a842 _ k843 m844 => ?_
  obtain ⟨v845, rfl, r846⟩ := k843
  obtain ⟨A847, c848, rfl, -⟩ := r846.form
  refine za hO 1 [] [(44, .pointer (some a842))] [2, 3, 5, 39] zrB fun j => ?_
  refine zN rfl (m844.le hO.base).fst ?_
  refine za hO 2 [] [(47, .bool (!(zbl y831.Name y840.Name)))] [2, 3, 5] zrA fun j => ?_
  obtain ⟨c849, h850, hF⟩ := zrT hF
  refine zcw 2 [(63, .bool c849), (2, zrO b3), (3, zrO b4), (5, zrN x417)] (fun Q hQ => ?_) fun j => ?_
  ·have hF := h850
   rcases zbr hF with ⟨hb851, hF⟩ | ⟨hb851, hF⟩
   ·refine zbk (zrQ hb851) ?_
    refine zF (zrP hb851) ?_
    refine zc ?_
    cases hF
    refine zi ?_
    exact hQ _ zrA
   refine zbi (zrQ hb851) ?_
   refine za hO 3 [0] [(49, zrU A0_0 p0.Structs c0_0), (50, zrN x417)] [2, 3, 5, 47] (And.intro (And.intro rfl rfl) zrC) fun j => ?_
   obtain ⟨y852, g853, hF⟩ := zrT hF
   refine zV (T := zu) (r0_0.le hL) hO.base rfl rfl g853 (by decide) fun a854 _ k855 m856 => ?_
   obtain ⟨v857, rfl, r858⟩ := k855
   obtain ⟨A859, c860, rfl, -⟩ := r858.form
   refine za hO 1 [] [(52, .pointer (some (a854.add 1)))] [2, 3, 5, 47] zrB fun j => ?_
   refine zN rfl ((m856.le hO.base).one 1 rfl) ?_
   refine zbn hO 4 [1] [(2, zrO b3), (3, zrO b4), (5, zrN x417), (47, .bool (!(zbl y831.Name y840.Name))), (54, zrN (y852.Fields.length : Int)), (56, zrU A1_0 p1.Structs c1_0), (57, zrN x417)] (And.intro (And.intro rfl rfl) zrD) fun j => ?_
   obtain ⟨y861, g862, hF⟩ := zrT hF
   refine zV (T := zu) (r1_0.le hL) hO.base rfl rfl g862 (by decide) fun a863 _ k864 m865 => ?_
   obtain ⟨v866, rfl, r867⟩ := k864
   obtain ⟨A868, c869, rfl, -⟩ := r867.form
   refine za hO 1 [] [(59, .pointer (some (a863.add 1)))] [2, 3, 5, 47, 54] zrC fun j => ?_
   refine zN rfl ((m865.le hO.base).one 1 rfl) ?_
   refine za hO 2 [] [(62, .bool ((y852.Fields.length : Int) != (y861.Fields.length : Int)))] [2, 3, 5, 47] zrB fun j => ?_
   refine zF (zrP hb851) ?_
   refine zc ?_
   cases hF
   refine zi ?_
   exact hQ _ zrA
  refine zc (zq hF rfl (fun hF => ?_) fun hF => ?_)
  ·refine zg (zZ hO [] [(4, .bool false)] zrx fun j => ?_)
   refine z1 (zY (zE (zE (zY (zE ?_)))))
   cases hF
   have hO := hO.sel []
   exact hQ _ _ _ _ _ rfl hO hL ⟨rfl, rfl⟩
  refine zz (zf hO [] [(6, zrN 0)] [2, 3, 5] zrA fun j => ?_)
  refine zbV (zJ (zby (fun (n : Nat) e' σ' => ∃ (x910 : Int) (τ' : Hp), agr [(2, zrO b3), (3, zrO b4), (5, zrN x417), (6, zrN x910)] e' ∧ Obs τ' σ' [some (b3, ⟨[zrU A0_0 p0.Structs c0_0, zrU A0_1 p0.Funcs c0_1], 27, 2, true⟩), some (b4, ⟨[zrU A1_0 p1.Structs c1_0, zrU A1_1 p1.Funcs c1_1], 27, 2, true⟩)] ∧ Hp.le τ τ' ∧ ze8 (zdz p0 p1 n829) p0 p1 x417 n x910 = some rr) big ⟨0, _, zrM zrz, hO, hL, hF⟩ ?_))
  clear hF hO hL
  rintro n950 e σ ⟨x910, _, hA, hO, hL, hF⟩
  rw [← zW _ _ hA]
  cases n950 with
  | zero => exact nomatch (show none = some rr from hF)
  | succ n950 =>
  replace hF : zhK (ze8 (zdz p0 p1 n829) p0 p1 x417 n950) (zdz p0 p1 n829) p0 p1 x417 x910 = some rr := hF
  unfold zhK at hF
  refine zg (za hO 4 [0] [(64, zrN x910), (66, zrU A0_0 p0.Structs c0_0), (67, zrN x417)] [2, 3, 5, 6] (And.intro (And.intro rfl rfl) zrD) fun j => ?_)
  obtain ⟨y951, g952, hF⟩ := zrT hF
  refine zV (T := zu) (r0_0.le hL) hO.base rfl rfl g952 (by decide) fun a953 _ k954 m955 => ?_
  obtain ⟨v956, rfl, r957⟩ := k954
  obtain ⟨A958, c959, rfl, -⟩ := r957.form
  refine za hO 1 [] [(69, .pointer (some (a953.add 1)))] [2, 3, 5, 6, 64] zrC fun j => ?_
  refine zN rfl ((m955.le hO.base).one 1 rfl) ?_
  refine zf hO [] [(72, .bool (decide (x910 < (y951.Fields.length : Int))))] [2, 3, 5, 6] zrB fun j => ?_
  refine zq hF rfl (fun hF => ?_) fun hF => ?_
  ·refine zz (zJ (zbS (za hO 3 [0] [(76, zrU A0_0 p0.Structs c0_0), (77, zrN x417)] [2, 3, 5, 6] (And.intro (And.intro rfl rfl) zrC) fun j => ?_)))
   obtain ⟨y961, g962, hF⟩ := zrT hF
   refine zV (T := zu) (r0_0.le hL) hO.base rfl rfl g962 (by decide) fun a963 _ k964 m965 => ?_
   obtain ⟨v966, rfl, r967⟩ := k964
   obtain ⟨A968, c969, rfl, -⟩ := r967.form
   refine za hO 1 [] [(79, .pointer (some (a963.add 1)))] [2, 3, 5, 6] zrB fun j => ?_
   refine zN rfl ((m965.le hO.base).one 1 rfl) ?_
   refine za hO 1 [] [(81, zrN x910)] [2, 3, 5, 6, 80] zrC fun j => ?_
   obtain ⟨y970, g971, hF⟩ := zrT hF
   refine zV (T := Ty.str) r967 hO.base rfl rfl g971 (by decide) fun a972 _ k973 m974 => ?_
   obtain rfl : _ = ([.string y970] : List Value) := k973
   refine zN rfl (m974.le hO.base).fst ?_
   refine za hO 3 [1] [(85, zrU A1_0 p1.Structs c1_0), (86, zrN x417)] [2, 3, 5, 6, 83] (And.intro (And.intro rfl rfl) zrD) fun j => ?_
   obtain ⟨y975, g976, hF⟩ := zrT hF
   refine zV (T := zu) (r1_0.le hL) hO.base rfl rfl g976 (by decide) fun a977 _ k978 m979 => ?_
   obtain ⟨v980, rfl, r981⟩ := k978
   obtain ⟨A982, c983, rfl, -⟩ := r981.form
   refine za hO 1 [] [(88, .pointer (some (a977.add 1)))] [2, 3, 5, 6, 83] zrC fun j => ?_
   refine zN rfl ((m979.le hO.base).one 1 rfl) ?_
   refine zbn hO 1 [] [(2, zrO b3), (3, zrO b4), (5, zrN x417), (6, zrN x910), (83, .string y970), (89, zrU A982 y975.Fields c983), (90, zrN x910)] zrD fun j => ?_
   obtain ⟨y984, g985, hF⟩ := zrT hF
   refine zV (T := Ty.str) r981 hO.base rfl rfl g985 (by decide) fun a986 _ k987 m988 => ?_
   obtain rfl : _ = ([.string y984] : List Value) := k987
   refine zN rfl (m988.le hO.base).fst ?_
   refine zf hO [] [(93, .bool (!(zbl y970 y984)))] [2, 3, 5, 6] zrB fun j => ?_
   refine zbF (zq hF rfl (fun hF => ?_) fun hF => ?_)
   ·refine zg (zZ hO [] [(4, .bool false)] zrx fun j => ?_)
    refine z1 (zY (zE (zE (zY (zE (zY ?_))))))
    refine zE (zE (zY (zE ?_)))
    cases hF
    have hO := hO.sel []
    exact hQ _ _ _ _ _ rfl hO hL ⟨rfl, rfl⟩
   refine zz (zi (zM (zm (zbv (zf hO [] [(6, zrN (IntKind.i64.wrap (x910 + 1)))] [2, 3, 5] zrA fun j => ?_)))))
   refine zi (zm ?_)
   exact ⟨n950, Nat.lt_succ_self _, (IntKind.i64.wrap (x910 + 1)), _, zrM zrz, hO, hL, hF⟩
  refine zbA (zbB (zbz (zm (zi (zM (zm ?_))))))
  refine zbv (zf hO [] [(5, zrN (IntKind.i64.wrap (x417 + 1)))] [2, 3] zrz fun j => ?_)
  refine zi (zm ?_)
  exact ⟨n829, Nat.lt_succ_self _, (IntKind.i64.wrap (x417 + 1)), _, zrM zry, hO, hL, hF⟩
 refine zbA (zbB (zbz (zm (zg (zf hO [] [(7, zrN 0)] [2, 3] zrz fun j => ?_)))))
 refine zJ (zby (fun (n : Nat) e' σ' => ∃ (x1073 : Int) (τ' : Hp), agr [(2, zrO b3), (3, zrO b4), (7, zrN x1073)] e' ∧ Obs τ' σ' [some (b3, ⟨[zrU A0_0 p0.Structs c0_0, zrU A0_1 p0.Funcs c0_1], 27, 2, true⟩), some (b4, ⟨[zrU A1_0 p1.Structs c1_0, zrU A1_1 p1.Funcs c1_1], 27, 2, true⟩)] ∧ Hp.le τ τ' ∧ zdI p0 p1 n x1073 = some rr) big ⟨0, _, zrM zry, hO, hL, hF⟩ ?_)
 clear hF hO hL
 rintro n1157 e σ ⟨x1073, _, hA, hO, hL, hF⟩
 rw [← zW _ _ hA]
 cases n1157 with
 | zero => exact nomatch (show none = some rr from hF)
 | succ n1157 =>
 replace hF : zhD (zdI p0 p1 n1157) p0 p1 x1073 = some rr := hF
 unfold zhD at hF
 refine zg (zf hO [0] [(98, .bool (decide (x1073 < (p0.Funcs.length : Int))))] [2, 3, 7] (And.intro (And.intro rfl rfl) zrA) fun j => ?_)
 refine zq hF rfl (fun hF => ?_) fun hF => ?_
 ·refine zz (zJ (za hO 3 [0] [(102, zrU A0_1 p0.Funcs c0_1), (103, zrN x1073)] [2, 3, 7] (And.intro (And.intro rfl rfl) zrB) fun j => ?_))
  obtain ⟨y1159, g1160, hF⟩ := zrT hF
  refine zV (T := zt) (r0_1.le hL) hO.base rfl rfl g1160 (by decide) fun a1161 _ k1162 m1163 => ?_
  obtain ⟨v1164, v1168, rfl, r1165, r1169⟩ := k1162
  obtain ⟨A1166, c1167, rfl, -⟩ := r1165.form
  obtain ⟨A1170, c1171, rfl, -⟩ := r1169.form
  refine zN rfl ((m1163.le hO.base).all rfl) ?_
  refine zbm hO fun b1172 σ hO => ?_
  have hO := zrS3 hO
  refine zk hO (i := 2) rfl (off := 0) rfl rfl rfl rfl (Nat.le_of_ble_eq_true rfl) rfl fun σ hO => ?_
  have hO := zrS3 hO
  refine zc (za hO 3 [1] [(107, zrU A1_1 p1.Funcs c1_1), (108, zrN x1073)] [2, 3, 7, 8] (And.intro (And.intro rfl rfl) zrC) fun j => ?_)
  obtain ⟨y1173, g1174, hF⟩ := zrT hF
  refine zV (T := zt) (r1_1.le hL) hO.base rfl rfl g1174 (by decide) fun a1175 _ k1176 m1177 => ?_
  obtain ⟨v1178, v1182, rfl, r1179, r1183⟩ := k1176
  obtain ⟨A1180, c1181, rfl, -⟩ := r1179.form
  obtain ⟨A1184, c1185, rfl, -⟩ := r1183.form
  refine zN rfl ((m1177.le hO.base).all rfl) ?_
  refine zbm hO fun b1186 σ hO => ?_
  have hO := zrS4 hO
  refine zk hO (i := 3) rfl (off := 0) rfl rfl rfl rfl (Nat.le_of_ble_eq_true rfl) rfl fun σ hO => ?_
  have hO := zrS4 hO
  refine zc (zg (za hO 15 [2, 3, 2, 3, 2, 3, 2, 3] [(139, .bool ((((!(zbl y1159.Name y1173.Name)) || (y1159.Line != y1173.Line)) || (!(( (y1159.Result.Kind.toNat : Int) == (y1173.Result.Kind.toNat : Int)) && (( y1159.Result.N == y1173.Result.N) && ((zbl y1159.Result.Name y1173.Result.Name) && true))))) || ((y1159.Params.length : Int) != (y1173.Params.length : Int))))] [2, 3, 7, 8, 9] (And.intro (And.intro rfl rfl) (And.intro (And.intro rfl rfl) (And.intro (And.intro rfl rfl) (And.intro (And.intro rfl rfl) (And.intro (And.intro rfl rfl) (fun _ => And.intro (And.intro rfl rfl) (And.intro (And.intro rfl rfl) (And.intro (And.intro rfl rfl) (fun _ => And.intro (And.intro rfl rfl) (And.intro (And.intro rfl rfl) (And.intro (And.intro rfl rfl) (fun _ => zrM zrB)))))))))))) fun j => ?_))
  obtain ⟨c1187, h1188, hF⟩ := zrT hF
  refine zcg 2 (fun e' σ' => ∃ (τ' : Hp), agr [(146, .bool c1187), (2, zrO b3), (3, zrO b4), (7, zrN x1073), (8, zrO b1172), (9, zrO b1186)] e' ∧ Obs τ' σ' [some (b3, ⟨[zrU A0_0 p0.Structs c0_0, zrU A0_1 p0.Funcs c0_1], 27, 2, true⟩), some (b4, ⟨[zrU A1_0 p1.Structs c1_0, zrU A1_1 p1.Funcs c1_1], 27, 2, true⟩), zdo b1172 y1159.Name y1159.Line (zrU A1166 y1159.Params c1167) (y1159.Result.Kind.toNat : Int) y1159.Result.N y1159.Result.Name (zrU A1170 y1159.Body c1171), zdo b1186 y1173.Name y1173.Line (zrU A1180 y1173.Params c1181) (y1173.Result.Kind.toNat : Int) y1173.Result.N y1173.Result.Name (zrU A1184 y1173.Body c1185)] ∧ Hp.le τ τ' ∧ RdT zcp τ' (zrU A1166 y1159.Params c1167) y1159.Params ∧ RdT zv τ' (zrU A1170 y1159.Body c1171) y1159.Body ∧ RdT zcp τ' (zrU A1180 y1173.Params c1181) y1173.Params ∧ RdT zv τ' (zrU A1184 y1173.Body c1185) y1173.Body) ?_ ?_
  ·have hF := h1188
   rcases zbr hF with ⟨hb1189, hF⟩ | ⟨hb1189, hF⟩
   ·refine zbk (zrQ hb1189) ?_
    refine zF (zrP hb1189) ?_
    refine zc ?_
    cases hF
    refine zi ?_
    exact ⟨rfl, _, zrM zrB, hO, hL, r1165, r1169, r1179, r1183⟩
   refine zbi (zrQ hb1189) ?_
   refine za hO 4 [2, 3] [(141, zrU A1170 y1159.Body c1171), (143, zrU A1184 y1173.Body c1185)] [2, 3, 7, 8, 9, 139] (And.intro (And.intro rfl rfl) (And.intro (And.intro rfl rfl) zrE)) fun j => ?_
   obtain ⟨c1190, h1191, hF⟩ := zrT hF
   refine zbh hO (zqG r1169 r1183 h1191) rfl fun _ σ _ _ hO h1192 h1193 => ?_
   have hL := hL.trans h1192
   have r1169 := r1169.le h1192
   have r1183 := r1183.le h1192
   have r1165 := r1165.le h1192
   have r1179 := r1179.le h1192
   obtain ⟨rfl, rfl⟩ := h1193
   have hO := zrS4 hO
   refine za hO 1 [] [(145, .bool (!c1190))] [2, 3, 7, 8, 9, 139] zrD fun j => ?_
   refine zF (zrP hb1189) ?_
   refine zc ?_
   cases hF
   refine zi ?_
   exact ⟨rfl, _, zrM zrB, hO, hL, r1165, r1169, r1179, r1183⟩
  rintro e σ ⟨_, hA, hO, hL, r1165, r1169, r1179, r1183⟩
  rw [← zW _ _ hA]
  refine zc (zq hF rfl (fun hF => ?_) fun hF => ?_)
  ·refine zg (zZ hO [] [(4, .bool false)] zrx fun j => ?_)
   refine z1 (zY (zE (zE (zY (zE ?_)))))
   cases hF
   have hO := hO.sel []
   exact hQ _ _ _ _ _ rfl hO hL ⟨rfl, rfl⟩
  refine zz (zf hO [] [(10, zrN 0)] [2, 3, 7, 8, 9] zrC fun j => ?_)
  refine zbV (zJ (zby (fun (n : Nat) e' σ' => ∃ (x1215 : Int) (τ' : Hp), agr [(2, zrO b3), (3, zrO b4), (7, zrN x1073), (8, zrO b1172), (9, zrO b1186), (10, zrN x1215)] e' ∧ Obs τ' σ' [some (b3, ⟨[zrU A0_0 p0.Structs c0_0, zrU A0_1 p0.Funcs c0_1], 27, 2, true⟩), some (b4, ⟨[zrU A1_0 p1.Structs c1_0, zrU A1_1 p1.Funcs c1_1], 27, 2, true⟩), zdo b1172 y1159.Name y1159.Line (zrU A1166 y1159.Params c1167) (y1159.Result.Kind.toNat : Int) y1159.Result.N y1159.Result.Name (zrU A1170 y1159.Body c1171), zdo b1186 y1173.Name y1173.Line (zrU A1180 y1173.Params c1181) (y1173.Result.Kind.toNat : Int) y1173.Result.N y1173.Result.Name (zrU A1184 y1173.Body c1185)] ∧ Hp.le τ τ' ∧ RdT zcp τ' (zrU A1166 y1159.Params c1167) y1159.Params ∧ RdT zv τ' (zrU A1170 y1159.Body c1171) y1159.Body ∧ RdT zcp τ' (zrU A1180 y1173.Params c1181) y1173.Params ∧ RdT zv τ' (zrU A1184 y1173.Body c1185) y1173.Body ∧ zft (zdI p0 p1 n1157) x1073 y1159 y1173 n x1215 = some rr) big ⟨0, _, zrM zrB, hO, hL, r1165, r1169, r1179, r1183, hF⟩ ?_))
  clear hF hO hL
  rintro n1228 e σ ⟨x1215, _, hA, hO, hL, r1211, r1212, r1213, r1214, hF⟩
  rw [← zW _ _ hA]
  cases n1228 with
  | zero => exact nomatch (show none = some rr from hF)
  | succ n1228 =>
  replace hF : zhC (zft (zdI p0 p1 n1157) x1073 y1159 y1173 n1228) (zdI p0 p1 n1157) x1073 y1159 y1173 x1215 = some rr := hF
  unfold zhC at hF
  refine zg (zf hO [2] [(151, .bool (decide (x1215 < (y1159.Params.length : Int))))] [2, 3, 7, 8, 9, 10] (And.intro (And.intro rfl rfl) zrD) fun j => ?_)
  refine zq hF rfl (fun hF => ?_) fun hF => ?_
  ·refine zz (zJ (zbS (za hO 3 [2] [(155, zrU A1166 y1159.Params c1167), (156, zrN x1215)] [2, 3, 7, 8, 9, 10] (And.intro (And.intro rfl rfl) zrE) fun j => ?_)))
   obtain ⟨y1230, g1231, hF⟩ := zrT hF
   refine zV (T := zcp) r1211 hO.base rfl rfl g1231 (by decide) fun a1232 _ k1233 m1234 => ?_
   obtain rfl : _ = ([.string y1230.Name, .int .u8 y1230.Type_.Kind.toNat, .int .i64 y1230.Type_.N, .string y1230.Type_.Name] : List Value) := k1233
   refine zN rfl ((m1234.le hO.base).all rfl) ?_
   refine za hO 3 [3] [(160, zrU A1180 y1173.Params c1181), (161, zrN x1215)] [2, 3, 7, 8, 9, 10, 158] (And.intro (And.intro rfl rfl) zrF) fun j => ?_
   obtain ⟨y1235, g1236, hF⟩ := zrT hF
   refine zV (T := zcp) r1213 hO.base rfl rfl g1236 (by decide) fun a1237 _ k1238 m1239 => ?_
   obtain rfl : _ = ([.string y1235.Name, .int .u8 y1235.Type_.Kind.toNat, .int .i64 y1235.Type_.N, .string y1235.Type_.Name] : List Value) := k1238
   refine zN rfl ((m1239.le hO.base).all rfl) ?_
   refine zf hO [] [(164, .bool (!((zbl y1230.Name y1235.Name) && (( (y1230.Type_.Kind.toNat : Int) == (y1235.Type_.Kind.toNat : Int)) && (( y1230.Type_.N == y1235.Type_.N) && ((zbl y1230.Type_.Name y1235.Type_.Name) && true))))))] [2, 3, 7, 8, 9, 10] zrD fun j => ?_
   refine zbF (zq hF rfl (fun hF => ?_) fun hF => ?_)
   ·refine zg (zZ hO [] [(4, .bool false)] zrx fun j => ?_)
    refine z1 (zY (zE (zE (zY (zE (zY ?_))))))
    refine zE (zE (zY (zE ?_)))
    cases hF
    have hO := hO.sel []
    exact hQ _ _ _ _ _ rfl hO hL ⟨rfl, rfl⟩
   refine zz (zi (zM (zm (zbv (zf hO [] [(10, zrN (IntKind.i64.wrap (x1215 + 1)))] [2, 3, 7, 8, 9] zrC fun j => ?_)))))
   refine zi (zm ?_)
   exact ⟨n1228, Nat.lt_succ_self _, (IntKind.i64.wrap (x1215 + 1)), _, zrM zrB, hO, hL, r1211, r1212, r1213, r1214, hF⟩
  refine zbA (zbB (zbz (zm (zi (zM (zm ?_))))))
  refine zbv (zf hO [] [(7, zrN (IntKind.i64.wrap (x1073 + 1)))] [2, 3] zrz fun j => ?_)
  refine zi (zm ?_)
  have hO := hO.sel [0, 1]
  exact ⟨n1157, Nat.lt_succ_self _, (IntKind.i64.wrap (x1073 + 1)), _, zrM zry, hO, hL, hF⟩
 refine zbA (zbB (zbz (zm (zZ hO [] [(4, .bool true)] zrx fun j => ?_))))
 refine z3 ?_
 cases hF
 have hO := hO.sel []
 exact hQ _ _ _ _ _ rfl hO hL ⟨rfl, rfl⟩
theorem zof {τ : Hp} {v0 : Value} {p0 : (List UInt8)} (r0 : RdT Ty.u8 τ v0 p0) {rr : Bool} (hF : ziC p0 = some rr) :
  Ctr Try.prog 4 #[v0] τ [] (fun v τ' vs' => v = .bool rr ∧ vs' = []) := by
 obtain ⟨A0, c0, rfl, -⟩ := r0.form
 refine zbf (args := [.slice A0 p0.length c0]) hm Try.func4 s4 rfl fun w0 σ hO Q hQ => ?_
 unfold ziC at hF
 have hL := Hp.le.refl τ
 show wpn _ _ a4.body _ _ _
 unfold a4
 dsimp only
 refine zf hO [] [] [0] zrx fun j => ?_
 refine zg (zf hO [] [(14, .bool (decide ((p0.length : Int) > 8192)))] [0] zry fun j => ?_)
 refine zq hF rfl (fun hF => ?_) fun hF => ?_
 ·refine zg ?_
  obtain ⟨c3, h4, hF⟩ := zrT hF
  refine zbh hO (zkD h4) rfl fun _ σ _ _ hO h5 h6 => ?_
  have hL := hL.trans h5
  obtain ⟨rfl, rfl⟩ := h6
  have hO : Obs _ _ [] := hO
  refine zZ hO [] [(2, .bool c3)] zrx fun j => ?_
  refine z1 ?_
  cases hF
  exact hQ _ _ _ _ _ rfl hO hL ⟨rfl, rfl⟩
 refine zz (zbn hO 1 [] [(17, zrU A0 p0 c0)] zrx fun j => ?_)
 obtain ⟨c7, h8, hF⟩ := zrT hF
 refine zbh hO (znj (r0.le hL) h8) rfl fun _ σ _ _ hO h9 h10 => ?_
 have hL := hL.trans h9
 obtain ⟨v11, o14, rfl, rfl, w15⟩ := h10
 obtain ⟨A12, c13, rfl, -⟩ := w15.form
 have hO := zrS1 hO
 refine zZ hO [] [(3, zrU A12 c7.1 c13), (5, zrN c7.2.2)] zry fun j => ?_
 refine zg (zf hO [] [(23, .bool (c7.2.2 != 0))] [3] zry fun j => ?_)
 refine zq hF rfl (fun hF => ?_) fun hF => ?_
 ·refine zg ?_
  obtain ⟨c17, h18, hF⟩ := zrT hF
  refine zbh hO (zkD h18) rfl fun _ σ _ _ hO h19 h20 => ?_
  have hL := hL.trans h19
  have w15 := w15.le h19
  obtain ⟨rfl, rfl⟩ := h20
  have hO := zrS1 hO
  refine zZ hO [] [(2, .bool c17)] zrx fun j => ?_
  refine z1 ?_
  cases hF
  have hO := hO.sel []
  exact hQ _ _ _ _ _ rfl hO hL ⟨rfl, rfl⟩
 refine zz (za hO 1 [] [(26, zrU A12 c7.1 c13)] [3] zry fun j => ?_)
 obtain ⟨_, h22, r21, hO⟩ := w15.share hO (i := 0) rfl
 have hL := hL.trans h22
 have hO := zrS1 hO
 obtain ⟨c23, h24, hF⟩ := zrT hF
 refine zbh hO (zj9 r21 h24) rfl fun _ σ _ _ hO h25 h26 => ?_
 have hL := hL.trans h25
 have r21 := r21.le h25
 obtain ⟨v27, v31, rfl, rfl, r28, r32⟩ := h26
 obtain ⟨A29, c30, rfl, -⟩ := r28.form
 obtain ⟨A33, c34, rfl, -⟩ := r32.form
 have hO := zrS1 hO
 refine za hO 4 [] [(28, .agg #[(zrU A29 c23.1.Structs c30), (zrU A33 c23.1.Funcs c34)]), (29, zrN c23.2.1), (30, zrN c23.2.2)] [3] zrA fun j => ?_
 refine zbm hO fun b35 σ hO => ?_
 have hO := zrS2 hO
 refine zk hO (i := 1) rfl (off := 0) rfl rfl rfl rfl (Nat.le_of_ble_eq_true rfl) rfl fun σ hO => ?_
 have hO := zrS2 hO
 refine zf hO [] [(7, zrN c23.2.1), (8, zrN c23.2.2)] [3, 6] zrA fun j => ?_
 refine za hO 1 [] [(32, zrU A12 c7.1 c13)] [6, 7, 8] zrA fun j => ?_
 obtain ⟨c36, h37, hF⟩ := zrT hF
 refine zbh hO (zrh r21 h37) rfl fun _ σ _ _ hO h38 h39 => ?_
 have hL := hL.trans h38
 have r21 := r21.le h38
 have r28 := r28.le h38
 have r32 := r32.le h38
 obtain ⟨v40, v44, rfl, rfl, r41, r45⟩ := h39
 obtain ⟨A42, c43, rfl, -⟩ := r41.form
 obtain ⟨A46, c47, rfl, -⟩ := r45.form
 have hO := zrS2 hO
 refine za hO 4 [] [(34, .agg #[(zrU A42 c36.1.Structs c43), (zrU A46 c36.1.Funcs c47)]), (35, zrN c36.2.1), (36, zrN c36.2.2)] [6, 7, 8] zrC fun j => ?_
 refine zbm hO fun b48 σ hO => ?_
 have hO := zrS3 hO
 refine zk hO (i := 2) rfl (off := 0) rfl rfl rfl rfl (Nat.le_of_ble_eq_true rfl) rfl fun σ hO => ?_
 have hO := zrS3 hO
 refine zf hO [] [(10, zrN c36.2.1), (11, zrN c36.2.2)] [6, 7, 8, 9] zrC fun j => ?_
 refine za hO 7 [] [(45, .bool ((c23.2.1 == c36.2.1) && (c23.2.2 == c36.2.2)))] [6, 9] (And.intro (And.intro rfl rfl) (fun _ => zrM zry)) fun j => ?_
 have hO := hO.sel [1, 2]
 have hO := zrS2 hO
 obtain ⟨c49, h50, hF⟩ := zrT hF
 refine zcg 2 (fun e' σ' => ∃ (τ' : Hp), agr [(49, .bool c49)] e' ∧ Obs τ' σ' [some (b35, ⟨[zrU A29 c23.1.Structs c30, zrU A33 c23.1.Funcs c34], 27, 2, true⟩), some (b48, ⟨[zrU A42 c36.1.Structs c43, zrU A46 c36.1.Funcs c47], 27, 2, true⟩)] ∧ Hp.le τ τ' ∧ RdT zu τ' (zrU A29 c23.1.Structs c30) c23.1.Structs ∧ RdT zt τ' (zrU A33 c23.1.Funcs c34) c23.1.Funcs ∧ RdT zu τ' (zrU A42 c36.1.Structs c43) c36.1.Structs ∧ RdT zt τ' (zrU A46 c36.1.Funcs c47) c36.1.Funcs) ?_ ?_
 ·have hF := h50
  rcases zbr hF with ⟨hb51, hF⟩ | ⟨hb51, hF⟩
  ·refine zbi (zrR hb51) ?_
   refine zbn hO 2 [0, 1] [(45, .bool ((c23.2.1 == c36.2.1) && (c23.2.2 == c36.2.2))), (46, .agg #[(zrU A29 c23.1.Structs c30), (zrU A33 c23.1.Funcs c34)]), (47, .agg #[(zrU A42 c36.1.Structs c43), (zrU A46 c36.1.Funcs c47)])] (And.intro (And.intro rfl rfl) (And.intro (And.intro rfl rfl) zrz)) fun j => ?_
   obtain ⟨c52, h53, hF⟩ := zrT hF
   refine zbh hO (zqA r28 r32 r41 r45 h53) rfl fun _ σ _ _ hO h54 h55 => ?_
   have hL := hL.trans h54
   have r28 := r28.le h54
   have r32 := r32.le h54
   have r41 := r41.le h54
   have r45 := r45.le h54
   obtain ⟨rfl, rfl⟩ := h55
   have hO := zrS2 hO
   refine zF (zrP hb51) ?_
   refine zc ?_
   cases hF
   refine zi ?_
   exact ⟨rfl, _, zrM (trivial), hO, hL, r28, r32, r41, r45⟩
  refine zbk (zrR hb51) ?_
  refine zF (zrP hb51) ?_
  refine zc ?_
  cases hF
  refine zi ?_
  exact ⟨rfl, _, zrM (trivial), hO, hL, r28, r32, r41, r45⟩
 rintro e σ ⟨_, hA, hO, hL, r28, r32, r41, r45⟩
 rw [← zW _ _ hA]
 refine zbn hO 1 [] [(50, .bool c49)] zrx fun j => ?_
 have hO := hO.sel []
 have hO : Obs _ _ [] := hO
 obtain ⟨c56, h57, hF⟩ := zrT hF
 refine zcg 2 (fun e' σ' => ∃ (τ' : Hp), agr [(52, .bool c56)] e' ∧ Obs τ' σ' [] ∧ Hp.le τ τ') ?_ ?_
 ·have hF := h57
  rcases zbr hF with ⟨hb58, hF⟩ | ⟨hb58, hF⟩
  ·refine zbi (zrR hb58) ?_
   obtain ⟨c59, h60, hF⟩ := zrT hF
   refine zbh hO (zkD h60) rfl fun _ σ _ _ hO h61 h62 => ?_
   have hL := hL.trans h61
   obtain ⟨rfl, rfl⟩ := h62
   have hO : Obs _ _ [] := hO
   refine zF (zrP hb58) ?_
   refine zc ?_
   cases hF
   refine zi ?_
   exact ⟨rfl, _, zrM (trivial), hO, hL⟩
  refine zbk (zrR hb58) ?_
  refine zF (zrP hb58) ?_
  refine zc ?_
  cases hF
  refine zi ?_
  exact ⟨rfl, _, zrM (trivial), hO, hL⟩
 rintro e σ ⟨_, hA, hO, hL⟩
 rw [← zW _ _ hA]
 refine zZ hO [] [(2, .bool c56)] zrx fun j => ?_
 refine z3 ?_
 cases hF
 exact hQ _ _ _ _ _ rfl hO hL ⟨rfl, rfl⟩
end Go.Proofs.Ytnhboaaikehpoaa
