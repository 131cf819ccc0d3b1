import Derived.Test.YtnhboaaikehpoaaG3
namespace Go.Proofs.Ytnhboaaikehpoaa
open Go.Ab Go.RowKit
set_option linter.unusedVariables false
set_option linter.unusedSimpArgs false
set_option maxRecDepth 10000
set_option maxHeartbeats 1000000
theorem zrd {τ : Hp} {q0 : zj} {bm0 : Nat} {vm0_0 : Value} {p1 : Int} (rm0_0 : RdT zl τ vm0_0 q0.L) {rr : zp × zj} (hF : zeD q0 p1 = some rr) :
  Ctr Try.prog 27 #[.pointer (some ⟨bm0, 0, none⟩), .int .i64 p1] τ [z9 bm0 vm0_0 q0.At q0.Failed] (fun v τ' vs' => ∃ (v0_2 v0_6 u0_0 : Value), v = .agg #[.string rr.1.Name, .int .i64 rr.1.Line, v0_2, .int .u8 rr.1.Result.Kind.toNat, .int .i64 rr.1.Result.N, .string rr.1.Result.Name, v0_6] ∧ vs' = [z9 bm0 u0_0 rr.2.At rr.2.Failed] ∧ RdT zco τ' v0_2 rr.1.Params ∧ RdT zu τ' v0_6 rr.1.Body ∧ RdT zl τ' u0_0 rr.2.L) := by
 obtain ⟨Am0_0, cm0_0, rfl, -⟩ := rm0_0.form
 refine zbd (args := [.pointer (some ⟨bm0, 0, none⟩), .int .i64 p1]) hm Try.func27 s27 rfl fun w0 σ hO Q hQ => ?_
 unfold zeD at hF
 have hL := Hp.le.refl τ
 show wpn _ _ a27.body _ _ _
 unfold a27
 dsimp only
 refine zbk hO fun b3 σ hO => ?_
 have hO := zrP2 hO
 refine zc (za hO 2 [] [(7, zrK p1), (8, zrL bm0)] [0, 4] zrx fun j => ?_)
 obtain ⟨c4, h5, hF⟩ := zrQ hF
 have hO := hO.sel [1, 0]
 refine zn (hs := [_]) (vs := [_]) hO (zdG (rm0_0.le hL) h5) rfl fun _ σ _ _ hO h6 h7 => ?_
 have hL := hL.trans h6
 obtain ⟨v8, rfl, rfl, r11⟩ := h7
 obtain ⟨A9, c10, rfl, -⟩ := r11.form
 have hO := zrP2 hO
 refine za hO 1 [] [(10, .agg #[(.string c4.1), (.int .i64 p1), (.slice none 0 0), (.int .u8 0), (.int .i64 0), (.string (⟨#[]⟩ : ByteArray)), (.slice none 0 0)])] [0, 4] zrw fun j => ?_
 refine zbk hO fun b12 σ hO => ?_
 have hO := zrP3 hO
 refine zk hO (i := 2) rfl (off := 0) rfl rfl rfl rfl (Nat.le_of_ble_eq_true rfl) rfl fun σ hO => ?_
 have hO := zrP3 hO
 refine zc (za hO 1 [] [(11, zrL bm0)] [0, 4, 5] zrx fun j => ?_)
 obtain ⟨c13, h14, hF⟩ := zrQ hF
 have hO := hO.sel [0, 2, 1]
 refine zn (hs := [_, _]) (vs := [_]) hO (zbS (p1 := (⟨#[40]⟩ : ByteArray)) r11 h14) rfl fun _ σ _ _ hO h15 h16 => ?_
 have hL := hL.trans h15
 obtain ⟨v17, rfl, rfl, r20⟩ := h16
 obtain ⟨A18, c19, rfl, -⟩ := r20.form
 have hO := zrP3 hO
 refine zc (zG ?_)
 have hO := hO.no
 have hO := zrP4 hO
 have hO := hO.sel [2, 0, 1, 3]
 refine zbx (fun (n : Nat) e' σ' => ∃ (A108 : Option Addr) (c109 : Nat) (x110 : List zo) (x112 : Int) (x113 : Bool) (A114 : Option Addr) (c115 : Nat) (o116 : Ob) (x117 : List zbb) (τ' : Hp), agr [(0, zrL bm0), (4, zrL b3), (5, zrL b12)] e' ∧ Obs τ' σ' [z9 bm0 (zrR A108 x110 c109) x112 x113, zdq b3 (⟨#[]⟩ : ByteArray) 0 (.slice none 0 0) 0 0 (⟨#[]⟩ : ByteArray) (.slice none 0 0), zdq b12 c4.1 p1 (zrR A114 x117 c115) 0 0 (⟨#[]⟩ : ByteArray) (.slice none 0 0), o116] ∧ Hp.le τ τ' ∧ RdT zl τ' (zrR A108 x110 c109) x110 ∧ ze zco 77 τ' (zrR A114 x117 c115) x117 o116 ∧ zc1 p1 c4 n x110 x112 x113 x117 = some rr) big ⟨A18, c19, c13.L, c13.At, c13.Failed, none, 0, none, [], _, zrJ zrv, hO, hL, r20, ze.nil _ _ _, hF⟩ ?_
 clear hF hO hL
 rintro n211 e σ ⟨A108, c109, x110, x112, x113, A114, c115, o116, x117, _, hA, hO, hL, r111, w118, hF⟩
 rw [← zV _ _ hA]
 cases n211 with
 | zero => exact nomatch (show none = some rr from hF)
 | succ n211 =>
 replace hF : ze8 (zc1 p1 c4 n211) p1 c4 x110 x112 x113 x117 = some rr := hF
 unfold ze8 at hF
 refine zg (za hO 6 [0] [(18, .bool (!x113))] [0, 4, 5] (And.intro (And.intro rfl rfl) zrx) fun j => ?_)
 obtain ⟨c212, h213, hF⟩ := zrQ hF
 refine zca 2 (fun e' σ' => ∃ (τ' : Hp), agr [(22, .bool c212), (0, zrL bm0), (4, zrL b3), (5, zrL b12)] e' ∧ Obs τ' σ' [z9 bm0 (zrR A108 x110 c109) x112 x113, zdq b3 (⟨#[]⟩ : ByteArray) 0 (.slice none 0 0) 0 0 (⟨#[]⟩ : ByteArray) (.slice none 0 0), zdq b12 c4.1 p1 (zrR A114 x117 c115) 0 0 (⟨#[]⟩ : ByteArray) (.slice none 0 0), o116] ∧ Hp.le τ τ' ∧ RdT zl τ' (zrR A108 x110 c109) x110 ∧ ze zco 77 τ' (zrR A114 x117 c115) x117 o116) ?_ ?_
 ·have hF := h213
  rcases zbp hF with ⟨hb214, hF⟩ | ⟨hb214, hF⟩
  ·refine zbg (zrO hb214) ?_
   refine za hO 1 [] [(19, zrL bm0)] [0, 4, 5, 18] zry fun j => ?_
   obtain ⟨c215, h216, hF⟩ := zrQ hF
   have hO := hO.sel [1, 2, 3, 0]
   refine zn (hs := [_, _, _]) (vs := [_]) hO (zbH (q0 := (⟨x110, x112, x113⟩ : zj)) (p2 := (⟨#[41]⟩ : ByteArray)) r111 h216) rfl fun _ σ _ _ hO h217 h218 => ?_
   have hL := hL.trans h217
   have w118 := w118.le h217
   have r111 := r111.le h217
   obtain ⟨rfl, rfl⟩ := h218
   have hO := zrP4 hO
   have hO := hO.sel [3, 0, 1, 2]
   have hO := zrP4 hO
   refine za hO 1 [] [(21, .bool (!c215))] [0, 4, 5, 18] zry fun j => ?_
   refine zE (zrM hb214) ?_
   refine zc ?_
   cases hF
   refine zi ?_
   exact ⟨rfl, _, zrJ zrw, hO, hL, r111, w118⟩
  refine zbh (zrO hb214) ?_
  refine zE (zrM hb214) ?_
  refine zc ?_
  cases hF
  refine zi ?_
  exact ⟨rfl, _, zrJ zrw, hO, hL, r111, w118⟩
 rintro e σ ⟨_, hA, hO, hL, r111, w118⟩
 rw [← zV _ _ hA]
 refine zc (zq hF rfl (fun hF => ?_) fun hF => ?_)
 ·refine zy (zbQ (zG (zg (zf hO [2] [(26, .bool (decide ((x117.length : Int) > 0)))] [0, 4, 5] (And.intro (And.intro rfl rfl) zrx) fun j => ?_))))
  refine zgs (fun e' σ' => ∃ (A229 : Option Addr) (c230 : Nat) (x231 : List zo) (x233 : Int) (x234 : Bool) (A235 : Option Addr) (c236 : Nat) (o237 : Ob) (x238 : List zbb) (τ' : Hp), agr [(0, zrL bm0), (4, zrL b3), (5, zrL b12)] e' ∧ Obs τ' σ' [z9 bm0 (zrR A229 x231 c230) x233 x234, zdq b3 (⟨#[]⟩ : ByteArray) 0 (.slice none 0 0) 0 0 (⟨#[]⟩ : ByteArray) (.slice none 0 0), zdq b12 c4.1 p1 (zrR A235 x238 c236) 0 0 (⟨#[]⟩ : ByteArray) (.slice none 0 0), o237] ∧ Hp.le τ τ' ∧ RdT zl τ' (zrR A229 x231 c230) x231 ∧ ze zco 77 τ' (zrR A235 x238 c236) x238 o237 ∧ zej (zc1 p1 c4 n211) x231 x233 x234 x238 = some rr) ?_ ?_
  ·refine zbC (zq hF rfl (fun hF => ?_) fun hF => ?_)
   ·refine za hO 1 [] [(27, zrL bm0)] [0, 4, 5] zrx fun j => ?_
    obtain ⟨c263, h264, hF⟩ := zrQ hF
    have hO := hO.sel [1, 2, 3, 0]
    refine zn (hs := [_, _, _]) (vs := [_]) hO (zbS (q0 := (⟨x110, x112, x113⟩ : zj)) (p1 := (⟨#[44]⟩ : ByteArray)) r111 h264) rfl fun _ σ _ _ hO h265 h266 => ?_
    have hL := hL.trans h265
    have w118 := w118.le h265
    obtain ⟨v267, rfl, rfl, r270⟩ := h266
    obtain ⟨A268, c269, rfl, -⟩ := r270.form
    have hO := zrP4 hO
    refine zc (zi (zm ?_))
    have hO := hO.sel [3, 0, 1, 2]
    exact ⟨A268, c269, c263.L, c263.At, c263.Failed, A114, c115, o116, x117, _, zrJ zrv, hO, hL, r270, w118, hF⟩
   refine zy (zi (zm ?_))
   exact ⟨A108, c109, x110, x112, x113, A114, c115, o116, x117, _, zrJ zrv, hO, hL, r111, w118, hF⟩
  rintro e σ ⟨A229, c230, x231, x233, x234, A235, c236, o237, x238, _, hA, hO, hL, r232, w239, hF⟩
  rw [← zV _ _ hA]
  unfold zej at hF
  refine za hO 1 [] [(29, zrL bm0)] [0, 4, 5] zrx fun j => ?_
  obtain ⟨c240, h241, hF⟩ := zrQ hF
  have hO := hO.sel [1, 2, 3, 0]
  refine zn (hs := [_, _, _]) (vs := [_]) hO (zdG (q0 := (⟨x231, x233, x234⟩ : zj)) r232 h241) rfl fun _ σ _ _ hO h242 h243 => ?_
  have hL := hL.trans h242
  have w239 := w239.le h242
  obtain ⟨v244, rfl, rfl, r247⟩ := h243
  obtain ⟨A245, c246, rfl, -⟩ := r247.form
  have hO := zrP4 hO
  refine za hO 1 [] [(31, .agg #[(.string c240.1), (.int .u8 0), (.int .i64 0), (.string (⟨#[]⟩ : ByteArray))])] [0, 4, 5] zrx fun j => ?_
  refine zbk hO fun b248 σ hO => ?_
  have hO := zrP5 hO
  refine zk hO (i := 4) rfl (off := 0) rfl rfl rfl rfl (Nat.le_of_ble_eq_true rfl) rfl fun σ hO => ?_
  have hO := zrP5 hO
  refine zc (za hO 1 [] [(32, zrL bm0)] [0, 4, 5, 6] zry fun j => ?_)
  obtain ⟨c249, h250, hF⟩ := zrQ hF
  have hO := hO.sel [0, 1, 2, 4, 3]
  refine zn (hs := [_, _, _, _]) (vs := [_]) hO (zku r247 h250) rfl fun _ σ _ _ hO h251 h252 => ?_
  have hL := hL.trans h251
  have w239 := w239.le h251
  obtain ⟨v253, rfl, rfl, r256⟩ := h252
  obtain ⟨A254, c255, rfl, -⟩ := r256.form
  have hO := zrP5 hO
  refine za hO 1 [] [(34, .pointer (some ⟨b248, 1, none⟩))] [0, 4, 5, 6, 33] zrz fun j => ?_
  refine zk hO (i := 3) rfl (off := 1) rfl rfl rfl rfl (Nat.le_of_ble_eq_true rfl) rfl fun σ hO => ?_
  have hO := zrP5 hO
  refine zc (zbt (za hO 3 [1, 3] [(36, zrR A235 x238 c236), (37, .agg #[(.string c240.1), (.int .u8 (c249.1.Kind.toNat : Int)), (.int .i64 c249.1.N), (.string c249.1.Name)])] [0, 4, 5] (And.intro (And.intro rfl rfl) (And.intro (And.intro rfl rfl) zry)) fun j => ?_))
  obtain ⟨_, hr261, hF⟩ := zrQ hF
  refine zgY (T := zco) (y := (⟨c240.1, (⟨c249.1.Kind, c249.1.N, c249.1.Name⟩ : zD)⟩ : zbb)) hO w239 (i := 2) rfl rfl (fun _ => rfl) rfl rfl rfl hr261 (by decide) fun u _ σ o259 w260 hO => ?_
  obtain ⟨A257, c258, rfl, -⟩ := w260.form
  have hO := zrP5 hO
  refine za hO 1 [] [(40, .pointer (some ⟨b12, 2, none⟩))] [0, 4, 5, 39] zry fun j => ?_
  refine zk hO (i := 1) rfl (off := 2) rfl rfl rfl rfl (Nat.le_of_ble_eq_true rfl) rfl fun σ hO => ?_
  have hO := zrP5 hO
  refine zc (zi (zL (zm (zi (zm ?_)))))
  have hO := hO.sel [4, 0, 1, 2]
  exact ⟨n211, Nat.lt_succ_self _, A254, c255, c249.2.L, c249.2.At, c249.2.Failed, A257, c258, o259, (x238 ++ [(⟨c240.1, (⟨c249.1.Kind, c249.1.N, c249.1.Name⟩ : zD)⟩ : zbb)]), _, zrJ zrv, hO, hL, r256, w260, hF⟩
 refine zbz (zbA (zby (zm (za hO 1 [] [(41, zrL bm0)] [0, 4, 5] zrx fun j => ?_))))
 obtain ⟨c271, h272, hF⟩ := zrQ hF
 have hO := hO.sel [1, 2, 3, 0]
 refine zn (hs := [_, _, _]) (vs := [_]) hO (zbS (q0 := (⟨x110, x112, x113⟩ : zj)) (p1 := (⟨#[41]⟩ : ByteArray)) r111 h272) rfl fun _ σ _ _ hO h273 h274 => ?_
 have hL := hL.trans h273
 have w118 := w118.le h273
 obtain ⟨v275, rfl, rfl, r278⟩ := h274
 obtain ⟨A276, c277, rfl, -⟩ := r278.form
 have hO := zrP4 hO
 refine zc (za hO 1 [] [(43, zrL bm0)] [0, 4, 5] zrx fun j => ?_)
 obtain ⟨c279, h280, hF⟩ := zrQ hF
 refine zn (hs := [_, _, _]) (vs := [_]) hO (zku r278 h280) rfl fun _ σ _ _ hO h281 h282 => ?_
 have hL := hL.trans h281
 have w118 := w118.le h281
 obtain ⟨v283, rfl, rfl, r286⟩ := h282
 obtain ⟨A284, c285, rfl, -⟩ := r286.form
 have hO := zrP4 hO
 refine za hO 1 [] [(45, .pointer (some ⟨b12, 3, none⟩))] [0, 4, 5, 44] zry fun j => ?_
 refine zk hO (i := 1) rfl (off := 3) rfl rfl rfl rfl (Nat.le_of_ble_eq_true rfl) rfl fun σ hO => ?_
 have hO := zrP4 hO
 refine zc (za hO 1 [] [(46, zrL bm0)] [0, 4, 5] zrx fun j => ?_)
 obtain ⟨c287, h288, hF⟩ := zrQ hF
 refine zn (hs := [_, _, _]) (vs := [_]) hO (znO r286 h288) rfl fun _ σ _ _ hO h289 h290 => ?_
 have hL := hL.trans h289
 have w118 := w118.le h289
 obtain ⟨v291, o294, v296, rfl, rfl, w295, r299⟩ := h290
 obtain ⟨A292, c293, rfl, -⟩ := w295.form
 obtain ⟨A297, c298, rfl, -⟩ := r299.form
 have hO := zrP5 hO
 refine za hO 1 [] [(48, .pointer (some ⟨b12, 6, none⟩))] [0, 4, 5, 47] zry fun j => ?_
 refine zk hO (i := 1) rfl (off := 6) rfl rfl rfl rfl (Nat.le_of_ble_eq_true rfl) rfl fun σ hO => ?_
 have hO := zrP5 hO
 refine zc (za hO 1 [1] [(49, .agg #[(.string c4.1), (.int .i64 p1), (zrR A114 x117 c115), (.int .u8 (c279.1.Kind.toNat : Int)), (.int .i64 c279.1.N), (.string c279.1.Name), (zrR A292 c287.1 c293)])] [0, 4] (And.intro (And.intro rfl rfl) zrw) fun j => ?_)
 refine zk hO (i := 0) rfl (off := 0) rfl rfl rfl rfl (Nat.le_of_ble_eq_true rfl) rfl fun σ hO => ?_
 have hO := zrP5 hO
 refine zc (z2 ?_)
 obtain ⟨_, h301, r300, hO⟩ := w118.share hO (i := 2) rfl
 have hL := hL.trans h301
 have w295 := w295.le h301
 have r299 := r299.le h301
 have hO := zrP5 hO
 obtain ⟨_, h303, r302, hO⟩ := w295.share hO (i := 3) rfl
 have hL := hL.trans h303
 have r300 := r300.le h303
 have r299 := r299.le h303
 have hO := zrP5 hO
 cases hF
 have hV0 := hO.val (i := 0) rfl (off := 0) (agg := true) (n := 7) rfl
 have hO := hO.sel [4]
 exact hQ _ _ _ _ _ (z7 rfl (hV0) rfl) hO hL ⟨_, _, _, rfl, rfl, r300, r302, r299⟩
theorem zn8 {τ : Hp} {v0 : Value} {p0 : (List zo)} (r0 : RdT zl τ v0 p0) {rr : zP × Int × Int} (hF : ziU p0 = some rr) :
  Ctr Try.prog 10 #[v0] τ [] (fun v τ' vs' => ∃ (v0_0 v0_1 : Value), v = .tuple #[.agg #[v0_0, v0_1], .int .i64 rr.2.1, .int .i64 rr.2.2] ∧ vs' = [] ∧ RdT zt τ' v0_0 rr.1.Structs ∧ RdT zs τ' v0_1 rr.1.Funcs) := by
 obtain ⟨A0, c0, rfl, -⟩ := r0.form
 refine zbd (args := [.slice A0 p0.length c0]) hm Try.func10 s10 rfl fun w0 σ hO Q hQ => ?_
 unfold ziU at hF
 have hL := Hp.le.refl τ
 show wpn _ _ a10.body _ _ _
 unfold a10
 dsimp only
 refine zbk hO fun b2 σ hO => ?_
 have hO := zrP1 hO
 refine zf hO [] [] [0, 2] zrv fun j => ?_
 refine za hO 2 [] [(10, .agg #[(zrR A0 p0 c0), (.int .i64 0), (.bool false)])] [0, 2] zrw fun j => ?_
 refine zc9 (n := 3) hO rfl rfl fun b3 σ hO => ?_
 have hO := zrP2 hO
 refine zf hO [] [(5, zrL b3)] [0, 2] zrw fun j => ?_
 refine zbk hO fun b4 σ hO => ?_
 have hO := zrP3 hO
 refine zc (zG ?_)
 have hO := hO.no
 have hO := zrP4 hO
 have hO := hO.no
 have hO := zrP5 hO
 refine zbx (fun (n : Nat) e' σ' => ∃ (A264 : Option Addr) (c265 : Nat) (x266 : List zo) (x268 : Int) (x269 : Bool) (A270 : Option Addr) (c271 : Nat) (o272 : Ob) (x273 : List zw) (A275 : Option Addr) (c276 : Nat) (o277 : Ob) (x278 : List zp) (τ' : Hp), agr [(0, zrR A0 p0 c0), (2, zrL b2), (5, zrL b3), (6, zrL b4)] e' ∧ Obs τ' σ' [some (b2, ⟨[.slice none 0 0, .slice none 0 0], 27, 2, true⟩), z9 b3 (zrR A264 x266 c265) x268 x269, some (b4, ⟨[zrR A270 x273 c271, zrR A275 x278 c276], 27, 2, true⟩), o272, o277] ∧ Hp.le τ τ' ∧ RdT zl τ' (zrR A264 x266 c265) x266 ∧ ze zt 71 τ' (zrR A270 x273 c271) x273 o272 ∧ ze zs 50 τ' (zrR A275 x278 c276) x278 o277 ∧ zcz p0 n x266 x268 x269 x273 x278 = some rr) big ⟨A0, c0, p0, 0, false, none, 0, none, [], none, 0, none, [], _, zrJ zrw, hO, hL, (r0.le hL), ze.nil _ _ _, ze.nil _ _ _, hF⟩ ?_
 clear hF hO hL
 rintro n560 e σ ⟨A264, c265, x266, x268, x269, A270, c271, o272, x273, A275, c276, o277, x278, _, hA, hO, hL, r267, w274, w279, hF⟩
 rw [← zV _ _ hA]
 cases n560 with
 | zero => exact nomatch (show none = some rr from hF)
 | succ n560 =>
 replace hF : zeR (zcz p0 n560) p0 x266 x268 x269 x273 x278 = some rr := hF
 unfold zeR at hF
 refine zg (zf hO [1, 1] [(25, .bool ((!x269) && (decide (x268 < (p0.length : Int)))))] [0, 2, 5, 6] (And.intro (And.intro rfl rfl) (And.intro (And.intro rfl rfl) (And.intro (And.intro rfl rfl) (fun _ => zrJ zrx)))) fun j => ?_)
 refine zq hF rfl (fun hF => ?_) fun hF => ?_
 ·refine zy (zbQ (zG (zg (za hO 1 [] [(26, zrL b3)] [0, 2, 5, 6] zry fun j => ?_))))
  obtain ⟨c562, h563, hF⟩ := zrQ hF
  have hO := hO.sel [0, 2, 3, 4, 1]
  refine zn (hs := [_, _, _, _]) (vs := [_]) hO (zbH (q0 := (⟨x266, x268, x269⟩ : zj)) (p2 := (⟨#[116, 121, 112, 101]⟩ : ByteArray)) r267 h563) rfl fun _ σ _ _ hO h564 h565 => ?_
  have hL := hL.trans h564
  have w274 := w274.le h564
  have w279 := w279.le h564
  have r267 := r267.le h564
  obtain ⟨rfl, rfl⟩ := h565
  have hO := zrP5 hO
  have hO := hO.sel [0, 4, 1, 2, 3]
  have hO := zrP5 hO
  refine zc (zq hF rfl (fun hF => ?_) fun hF => ?_)
  ·refine zg (za hO 7 [1] [(32, zrK (IntKind.i64.wrap (x268 + 1))), (34, .pointer (some ⟨b3, 1, none⟩))] [0, 2, 5, 6] (And.intro (And.intro rfl rfl) zrz) fun j => ?_)
   refine zk hO (i := 1) rfl (off := 1) rfl rfl rfl rfl (Nat.le_of_ble_eq_true rfl) rfl fun σ hO => ?_
   have hO := zrP5 hO
   refine zc (zg (za hO 1 [] [(35, zrL b3)] [0, 2, 5, 6] zry fun j => ?_))
   obtain ⟨c567, h568, hF⟩ := zrQ hF
   have hO := hO.sel [0, 2, 3, 4, 1]
   refine zn (hs := [_, _, _, _]) (vs := [_]) hO (zdG (q0 := (⟨x266, (IntKind.i64.wrap (x268 + 1)), x269⟩ : zj)) r267 h568) rfl fun _ σ _ _ hO h569 h570 => ?_
   have hL := hL.trans h569
   have w274 := w274.le h569
   have w279 := w279.le h569
   obtain ⟨v571, rfl, rfl, r574⟩ := h570
   obtain ⟨A572, c573, rfl, -⟩ := r574.form
   have hO := zrP5 hO
   refine za hO 1 [] [(37, .agg #[(.string c567.1), (.slice none 0 0)])] [0, 2, 5, 6] zry fun j => ?_
   refine zbk hO fun b575 σ hO => ?_
   have hO := zrP6 hO
   refine zk hO (i := 5) rfl (off := 0) rfl rfl rfl rfl (Nat.le_of_ble_eq_true rfl) rfl fun σ hO => ?_
   have hO := zrP6 hO
   refine zc (zg (za hO 1 [] [(38, zrL b3)] [0, 2, 5, 6, 7] zrz fun j => ?_))
   obtain ⟨c576, h577, hF⟩ := zrQ hF
   have hO := hO.sel [0, 1, 2, 3, 5, 4]
   refine zn (hs := [_, _, _, _, _]) (vs := [_]) hO (zhS (p1 := (⟨#[115, 116, 114, 117, 99, 116]⟩ : ByteArray)) r574 h577) rfl fun _ σ _ _ hO h578 h579 => ?_
   have hL := hL.trans h578
   have w274 := w274.le h578
   have w279 := w279.le h578
   obtain ⟨v580, rfl, rfl, r583⟩ := h579
   obtain ⟨A581, c582, rfl, -⟩ := r583.form
   have hO := zrP6 hO
   refine zc (zg (za hO 1 [] [(40, zrL b3)] [0, 2, 5, 6, 7] zrz fun j => ?_))
   obtain ⟨c584, h585, hF⟩ := zrQ hF
   refine zn (hs := [_, _, _, _, _]) (vs := [_]) hO (zbS (p1 := (⟨#[123]⟩ : ByteArray)) r583 h585) rfl fun _ σ _ _ hO h586 h587 => ?_
   have hL := hL.trans h586
   have w274 := w274.le h586
   have w279 := w279.le h586
   obtain ⟨v588, rfl, rfl, r591⟩ := h587
   obtain ⟨A589, c590, rfl, -⟩ := r591.form
   have hO := zrP6 hO
   refine zc (zg (zG ?_))
   have hO := hO.no
   have hO := zrP7 hO
   have hO := hO.sel [0, 5, 1, 2, 3, 4, 6]
   refine zbx (fun (n : Nat) e' σ' => ∃ (A658 : Option Addr) (c659 : Nat) (x660 : List zo) (x662 : Int) (x663 : Bool) (A664 : Option Addr) (c665 : Nat) (o666 : Ob) (x667 : List zw) (A669 : Option Addr) (c670 : Nat) (o671 : Ob) (x672 : List zp) (A674 : Option Addr) (c675 : Nat) (o676 : Ob) (x677 : List ByteArray) (τ' : Hp), agr [(0, zrR A0 p0 c0), (2, zrL b2), (5, zrL b3), (6, zrL b4), (7, zrL b575)] e' ∧ Obs τ' σ' [some (b2, ⟨[.slice none 0 0, .slice none 0 0], 27, 2, true⟩), z9 b3 (zrR A658 x660 c659) x662 x663, some (b4, ⟨[zrR A664 x667 c665, zrR A669 x672 c670], 27, 2, true⟩), o666, o671, some (b575, ⟨[.string c567.1, zrR A674 x677 c675], 71, 2, true⟩), o676] ∧ Hp.le τ τ' ∧ RdT zl τ' (zrR A658 x660 c659) x660 ∧ ze zt 71 τ' (zrR A664 x667 c665) x667 o666 ∧ ze zs 50 τ' (zrR A669 x672 c670) x672 o671 ∧ ze Ty.str 9 τ' (zrR A674 x677 c675) x677 o676 ∧ zd3 (zcz p0 n560) c567 n x660 x662 x663 x667 x672 x677 = some rr) big ⟨A589, c590, c584.L, c584.At, c584.Failed, A270, c271, o272, x273, A275, c276, o277, x278, none, 0, none, [], _, zrJ zrx, hO, hL, r591, w274, w279, ze.nil _ _ _, hF⟩ ?_
   clear hF hO hL
   rintro n735 e σ ⟨A658, c659, x660, x662, x663, A664, c665, o666, x667, A669, c670, o671, x672, A674, c675, o676, x677, _, hA, hO, hL, r661, w668, w673, w678, hF⟩
   rw [← zV _ _ hA]
   cases n735 with
   | zero => exact nomatch (show none = some rr from hF)
   | succ n735 =>
   replace hF : zgo (zd3 (zcz p0 n560) c567 n735) (zcz p0 n560) c567 x660 x662 x663 x667 x672 x677 = some rr := hF
   unfold zgo at hF
   refine zg (za hO 6 [1] [(47, .bool (!x663))] [0, 2, 5, 6, 7] (And.intro (And.intro rfl rfl) zrz) fun j => ?_)
   obtain ⟨c736, h737, hF⟩ := zrQ hF
   refine zca 2 (fun e' σ' => ∃ (τ' : Hp), agr [(51, .bool c736), (0, zrR A0 p0 c0), (2, zrL b2), (5, zrL b3), (6, zrL b4), (7, zrL b575)] e' ∧ Obs τ' σ' [some (b2, ⟨[.slice none 0 0, .slice none 0 0], 27, 2, true⟩), z9 b3 (zrR A658 x660 c659) x662 x663, some (b4, ⟨[zrR A664 x667 c665, zrR A669 x672 c670], 27, 2, true⟩), o666, o671, some (b575, ⟨[.string c567.1, zrR A674 x677 c675], 71, 2, true⟩), o676] ∧ Hp.le τ τ' ∧ RdT zl τ' (zrR A658 x660 c659) x660 ∧ ze zt 71 τ' (zrR A664 x667 c665) x667 o666 ∧ ze zs 50 τ' (zrR A669 x672 c670) x672 o671 ∧ ze Ty.str 9 τ' (zrR A674 x677 c675) x677 o676) ?_ ?_
   ·have hF := h737
    rcases zbp hF with ⟨hb738, hF⟩ | ⟨hb738, hF⟩
    ·refine zbg (zrO hb738) ?_
     refine za hO 1 [] [(48, zrL b3)] [0, 2, 5, 6, 7, 47] zrA fun j => ?_
     obtain ⟨c739, h740, hF⟩ := zrQ hF
     have hO := hO.sel [0, 2, 3, 4, 5, 6, 1]
     refine zn (hs := [_, _, _, _, _, _]) (vs := [_]) hO (zbH (q0 := (⟨x660, x662, x663⟩ : zj)) (p2 := (⟨#[125]⟩ : ByteArray)) r661 h740) rfl fun _ σ _ _ hO h741 h742 => ?_
     have hL := hL.trans h741
     have w668 := w668.le h741
     have w673 := w673.le h741
     have w678 := w678.le h741
     have r661 := r661.le h741
     obtain ⟨rfl, rfl⟩ := h742
     have hO := zrP7 hO
     have hO := hO.sel [0, 6, 1, 2, 3, 4, 5]
     have hO := zrP7 hO
     refine za hO 1 [] [(50, .bool (!c739))] [0, 2, 5, 6, 7, 47] zrA fun j => ?_
     refine zE (zrM hb738) ?_
     refine zc ?_
     cases hF
     refine zi ?_
     exact ⟨rfl, _, zrJ zry, hO, hL, r661, w668, w673, w678⟩
    refine zbh (zrO hb738) ?_
    refine zE (zrM hb738) ?_
    refine zc ?_
    cases hF
    refine zi ?_
    exact ⟨rfl, _, zrJ zry, hO, hL, r661, w668, w673, w678⟩
   rintro e σ ⟨_, hA, hO, hL, r661, w668, w673, w678⟩
   rw [← zV _ _ hA]
   refine zc (zq hF rfl (fun hF => ?_) fun hF => ?_)
   ·refine zy (zbQ (zG (zbN (za hO 3 [5] [(52, .pointer (some ⟨b575, 1, none⟩)), (53, zrR A674 x677 c675), (54, zrL b3)] [0, 2, 5, 6, 7] (And.intro (And.intro rfl rfl) zrB) fun j => ?_))))
    refine zb6 ?_
    obtain ⟨c744, h745, hF⟩ := zrQ hF
    have hO := hO.sel [0, 2, 3, 4, 5, 6, 1]
    refine zn (hs := [_, _, _, _, _, _]) (vs := [_]) hO (zdG (q0 := (⟨x660, x662, x663⟩ : zj)) r661 h745) rfl fun _ σ _ _ hO h746 h747 => ?_
    have hL := hL.trans h746
    have w678 := w678.le h746
    have w668 := w668.le h746
    have w673 := w673.le h746
    obtain ⟨v748, rfl, rfl, r751⟩ := h747
    obtain ⟨A749, c750, rfl, -⟩ := r751.form
    have hO := zrP7 hO
    refine zc (zb7 ⟨(zb4 rfl (hO.val (i := 4) (off := 1) (agg := false) (n := 1) rfl rfl) rfl), trivial⟩ ?_)
    refine zb6 (zA (T := Ty.str) (l := ([c744.1] : List ByteArray)) (cs := [.string c744.1]) hO rfl ⟨[.string c744.1], _, rfl, rfl, rfl⟩ rfl (by decide) fun _ σ o754 w755 hO => ?_)
    obtain ⟨A752, c753, rfl, -⟩ := w755.form
    have hO := zrP8 hO
    refine zc (zb7 ⟨(zb4 rfl (hO.val (i := 4) (off := 1) (agg := false) (n := 1) rfl rfl) rfl), trivial⟩ ?_)
    obtain ⟨_, hr760, hF⟩ := zrQ hF
    refine zh5 (T := Ty.str) (Ty.sc_flat _ _) hO w678 (i := 5) rfl rfl rfl (w755.rd hO (i := 7) rfl) hr760 (by decide) fun _ σ o758 w759 hO => ?_
    obtain ⟨A756, c757, rfl, -⟩ := w759.form
    have hO := zrP8 hO
    refine za hO 1 [] [(58, .pointer (some ⟨b575, 1, none⟩))] [0, 2, 5, 6, 7, 57] zrA fun j => ?_
    refine zk hO (i := 4) rfl (off := 1) rfl rfl rfl rfl (Nat.le_of_ble_eq_true rfl) rfl fun σ hO => ?_
    have hO := zrP8 hO
    refine zc (za hO 1 [] [(59, zrL b3)] [0, 2, 5, 6, 7] zrz fun j => ?_)
    obtain ⟨c761, h762, hF⟩ := zrQ hF
    have hO := hO.sel [0, 1, 2, 3, 4, 5, 7, 6]
    refine zn (hs := [_, _, _, _, _, _, _]) (vs := [_]) hO (zhS (p1 := (⟨#[105, 110, 116]⟩ : ByteArray)) r751 h762) rfl fun _ σ _ _ hO h763 h764 => ?_
    have hL := hL.trans h763
    have w668 := w668.le h763
    have w673 := w673.le h763
    have w759 := w759.le h763
    obtain ⟨v765, rfl, rfl, r768⟩ := h764
    obtain ⟨A766, c767, rfl, -⟩ := r768.form
    have hO := zrP8 hO
    refine zc (zbt (za hO 1 [] [(61, zrL b3)] [0, 2, 5, 6, 7] zrz fun j => ?_))
    obtain ⟨c769, h770, hF⟩ := zrQ hF
    refine zn (hs := [_, _, _, _, _, _, _]) (vs := [_]) hO (zbS (p1 := (⟨#[59]⟩ : ByteArray)) r768 h770) rfl fun _ σ _ _ hO h771 h772 => ?_
    have hL := hL.trans h771
    have w668 := w668.le h771
    have w673 := w673.le h771
    have w759 := w759.le h771
    obtain ⟨v773, rfl, rfl, r776⟩ := h772
    obtain ⟨A774, c775, rfl, -⟩ := r776.form
    have hO := zrP8 hO
    refine zc (zi (zL (zm (zi (zm ?_)))))
    have hO := hO.sel [0, 7, 1, 2, 3, 4, 5]
    exact ⟨n735, Nat.lt_succ_self _, A774, c775, c769.L, c769.At, c769.Failed, A664, c665, o666, x667, A669, c670, o671, x672, A756, c757, o758, (x677 ++ ([c744.1] : List ByteArray)), _, zrJ zrx, hO, hL, r776, w668, w673, w759, hF⟩
   refine zbz (zbA (zby (zm (zg (za hO 1 [] [(63, zrL b3)] [0, 2, 5, 6, 7] zrz fun j => ?_)))))
   obtain ⟨c777, h778, hF⟩ := zrQ hF
   have hO := hO.sel [0, 2, 3, 4, 5, 6, 1]
   refine zn (hs := [_, _, _, _, _, _]) (vs := [_]) hO (zbS (q0 := (⟨x660, x662, x663⟩ : zj)) (p1 := (⟨#[125]⟩ : ByteArray)) r661 h778) rfl fun _ σ _ _ hO h779 h780 => ?_
   have hL := hL.trans h779
   have w668 := w668.le h779
   have w673 := w673.le h779
   have w678 := w678.le h779
   obtain ⟨v781, rfl, rfl, r784⟩ := h780
   obtain ⟨A782, c783, rfl, -⟩ := r784.form
   have hO := zrP7 hO
   refine zc (zg (za hO 3 [1, 4] [(66, zrR A664 x667 c665), (67, .agg #[(.string c567.1), (zrR A674 x677 c675)])] [0, 2, 5, 6] (And.intro (And.intro rfl rfl) (And.intro (And.intro rfl rfl) zrz)) fun j => ?_))
   obtain ⟨_, h786, r785, hO⟩ := w678.share hO (i := 5) rfl
   have hL := hL.trans h786
   have w668 := w668.le h786
   have w673 := w673.le h786
   have r784 := r784.le h786
   have hO := zrP7 hO
   obtain ⟨_, hr791, hF⟩ := zrQ hF
   refine zgY (T := zt) (y := (⟨c567.1, x677⟩ : zw)) hO w668 (i := 2) rfl rfl (fun _ => rfl) rfl ⟨_, rfl, r785⟩ rfl hr791 (by decide) fun u _ σ o789 w790 hO => ?_
   obtain ⟨A787, c788, rfl, -⟩ := w790.form
   have hO := zrP7 hO
   refine za hO 1 [] [(70, zrL b4)] [0, 2, 5, 6, 69] zrz fun j => ?_
   refine zk hO (i := 1) rfl (off := 0) rfl rfl rfl rfl (Nat.le_of_ble_eq_true rfl) rfl fun σ hO => ?_
   have hO := zrP7 hO
   refine zc (zbz (zby (zm (zi (zm ?_)))))
   have hO := hO.sel [0, 6, 1, 2, 3]
   exact ⟨n560, Nat.lt_succ_self _, A782, c783, c777.L, c777.At, c777.Failed, A787, c788, o789, (x667 ++ [(⟨c567.1, x677⟩ : zw)]), A669, c670, o671, x672, _, zrJ zrw, hO, hL, r784, w790, w673, hF⟩
  refine zy (za hO 1 [] [(71, zrL b3)] [0, 2, 5, 6] zry fun j => ?_)
  obtain ⟨c792, h793, hF⟩ := zrQ hF
  have hO := hO.sel [0, 2, 3, 4, 1]
  refine zn (hs := [_, _, _, _]) (vs := [_]) hO (zlw (q0 := (⟨x266, x268, x269⟩ : zj)) r267 h793) rfl fun _ σ _ _ hO h794 h795 => ?_
  have hL := hL.trans h794
  have w274 := w274.le h794
  have w279 := w279.le h794
  have r267 := r267.le h794
  obtain ⟨rfl, rfl⟩ := h795
  have hO := zrP5 hO
  have hO := hO.sel [0, 4, 1, 2, 3]
  have hO := zrP5 hO
  refine zf hO [] [(8, zrK c792)] [0, 2, 5, 6] zry fun j => ?_
  refine za hO 1 [] [(73, zrL b3)] [0, 2, 5, 6, 8] zrz fun j => ?_
  obtain ⟨c796, h797, hF⟩ := zrQ hF
  have hO := hO.sel [0, 2, 3, 4, 1]
  refine zn (hs := [_, _, _, _]) (vs := [_]) hO (zhS (q0 := (⟨x266, x268, x269⟩ : zj)) (p1 := (⟨#[102, 117, 110, 99]⟩ : ByteArray)) r267 h797) rfl fun _ σ _ _ hO h798 h799 => ?_
  have hL := hL.trans h798
  have w274 := w274.le h798
  have w279 := w279.le h798
  obtain ⟨v800, rfl, rfl, r803⟩ := h799
  obtain ⟨A801, c802, rfl, -⟩ := r803.form
  have hO := zrP5 hO
  refine zc (zg0 (za hO 4 [1] [(75, .pointer (some ⟨b4, 1, none⟩)), (76, zrR A275 x278 c276), (77, zrL b3), (78, zrK c792)] [0, 2, 5, 6] (And.intro (And.intro rfl rfl) zrB) fun j => ?_))
  refine zb6 ?_
  obtain ⟨c804, h805, hF⟩ := zrQ hF
  refine zn (hs := [_, _, _, _]) (vs := [_]) hO (zrd r803 h805) rfl fun _ σ _ _ hO h806 h807 => ?_
  have hL := hL.trans h806
  have w279 := w279.le h806
  have w274 := w274.le h806
  obtain ⟨v808, v812, v816, rfl, rfl, r809, r813, r819⟩ := h807
  obtain ⟨A810, c811, rfl, -⟩ := r809.form
  obtain ⟨A814, c815, rfl, -⟩ := r813.form
  obtain ⟨A817, c818, rfl, -⟩ := r819.form
  have hO := zrP5 hO
  refine zc (zb7 ⟨(zb4 rfl (hO.val (i := 1) (off := 1) (agg := false) (n := 1) rfl rfl) rfl), trivial⟩ ?_)
  refine zb6 (zA (T := zs) (l := ([(⟨c804.1.Name, c804.1.Line, c804.1.Params, (⟨c804.1.Result.Kind, c804.1.Result.N, c804.1.Result.Name⟩ : zD), c804.1.Body⟩ : zp)] : List zp)) (cs := [.string c804.1.Name, .int .i64 c804.1.Line, zrR A810 c804.1.Params c811, .int .u8 (c804.1.Result.Kind.toNat : Int), .int .i64 c804.1.Result.N, .string c804.1.Result.Name, zrR A814 c804.1.Body c815]) hO rfl ⟨[.string c804.1.Name, .int .i64 c804.1.Line, zrR A810 c804.1.Params c811, .int .u8 (c804.1.Result.Kind.toNat : Int), .int .i64 c804.1.Result.N, .string c804.1.Result.Name, zrR A814 c804.1.Body c815], _, rfl, ⟨_, _, rfl, r809, r813⟩, rfl⟩ rfl (by decide) fun _ σ o822 w823 hO => ?_)
  obtain ⟨A820, c821, rfl, -⟩ := w823.form
  have hO := zrP6 hO
  refine zc (zb7 ⟨(zb4 rfl (hO.val (i := 1) (off := 1) (agg := false) (n := 1) rfl rfl) rfl), trivial⟩ ?_)
  obtain ⟨_, h825, r824, hO⟩ := w823.share hO (i := 5) rfl
  have hL := hL.trans h825
  have w279 := w279.le h825
  have r809 := r809.le h825
  have r813 := r813.le h825
  have w274 := w274.le h825
  have r819 := r819.le h825
  have hO := zrP6 hO
  obtain ⟨_, hr830, hF⟩ := zrQ hF
  refine zfG (T := zs) hO w279 (i := 3) rfl rfl rfl r824 hr830 (by decide) fun _ σ o828 w829 hO => ?_
  obtain ⟨A826, c827, rfl, -⟩ := w829.form
  have hO := zrP6 hO
  refine za hO 1 [] [(82, .pointer (some ⟨b4, 1, none⟩))] [0, 2, 5, 6, 81] zrz fun j => ?_
  refine zk hO (i := 1) rfl (off := 1) rfl rfl rfl rfl (Nat.le_of_ble_eq_true rfl) rfl fun σ hO => ?_
  have hO := zrP6 hO
  refine zc (zi (zL (zm (zi (zm ?_)))))
  have hO := hO.sel [0, 4, 1, 2, 3]
  exact ⟨n560, Nat.lt_succ_self _, A817, c818, c804.2.L, c804.2.At, c804.2.Failed, A270, c271, o272, x273, A826, c827, o828, (x278 ++ ([(⟨c804.1.Name, c804.1.Line, c804.1.Params, (⟨c804.1.Result.Kind, c804.1.Result.N, c804.1.Result.Name⟩ : zD), c804.1.Body⟩ : zp)] : List zp)), _, zrJ zrw, hO, hL, r819, w274, w829, hF⟩
 refine zbz (zbA (zby (zm (zg (zf hO [1] [(86, .bool x269)] [2, 5, 6] (And.intro (And.intro rfl rfl) zrx) fun j => ?_)))))
 refine zq hF rfl (fun hF => ?_) fun hF => ?_
 ·refine zg (zbN (za hO 5 [1] [(87, .agg #[(.slice none 0 0), (.slice none 0 0)]), (90, .pointer (some ⟨b3, 1, none⟩)), (91, zrK x268)] [2] (And.intro (And.intro rfl rfl) zrx) fun j => ?_))
  refine zb6 (zk hO (i := 0) rfl (off := 0) rfl rfl rfl rfl (Nat.le_of_ble_eq_true rfl) rfl fun σ hO => ?_)
  have hO := zrP5 hO
  refine zc (zb7 ⟨(zb4 rfl (hO.val (i := 1) (off := 1) (agg := false) (n := 1) rfl rfl) rfl), trivial⟩ ?_)
  refine zf hO [] [(3, zrK x268), (4, zrK 7)] [2] zrw fun j => ?_
  refine zZ ?_
  cases hF
  have hV0 := hO.val (i := 0) rfl (off := 0) (agg := true) (n := 2) rfl
  have hO := hO.sel []
  exact hQ _ _ _ _ _ (z7 rfl (hV0) (zcQ (zcQ rfl))) hO hL ⟨_, _, rfl, rfl, (RdT.nil _ _), (RdT.nil _ _)⟩
 refine zy (zg (za hO 1 [2] [(92, .agg #[(zrR A270 x273 c271), (zrR A275 x278 c276)])] [2, 6] (And.intro (And.intro rfl rfl) zrw) fun j => ?_))
 obtain ⟨_, h833, r832, hO⟩ := w274.share hO (i := 3) rfl
 have hL := hL.trans h833
 have w279 := w279.le h833
 have r267 := r267.le h833
 have hO := zrP5 hO
 obtain ⟨_, h835, r834, hO⟩ := w279.share hO (i := 4) rfl
 have hL := hL.trans h835
 have r832 := r832.le h835
 have r267 := r267.le h835
 have hO := zrP5 hO
 obtain ⟨c836, h837, hF⟩ := zrQ hF
 refine zbi hO (zqG (p0 := (⟨x273, x278⟩ : zP)) r832 r834 h837) rfl fun _ σ _ _ hO h838 h839 => ?_
 have hL := hL.trans h838
 have r832 := r832.le h838
 have r834 := r834.le h838
 have r267 := r267.le h838
 obtain ⟨rfl, rfl⟩ := h839
 have hO := zrP5 hO
 refine zc (zq hF rfl (fun hF => ?_) fun hF => ?_)
 ·refine zg (za hO 1 [] [(94, .agg #[(.slice none 0 0), (.slice none 0 0)])] [2] zrv fun j => ?_)
  refine zk hO (i := 0) rfl (off := 0) rfl rfl rfl rfl (Nat.le_of_ble_eq_true rfl) rfl fun σ hO => ?_
  have hO := zrP5 hO
  refine zf hO [] [(3, zrK 0), (4, zrK 11)] [2] zrw fun j => ?_
  refine zZ ?_
  cases hF
  have hV0 := hO.val (i := 0) rfl (off := 0) (agg := true) (n := 2) rfl
  have hO := hO.sel []
  exact hQ _ _ _ _ _ (z7 rfl (hV0) (zcQ (zcQ rfl))) hO hL ⟨_, _, rfl, rfl, (RdT.nil _ _), (RdT.nil _ _)⟩
 refine zy (za hO 1 [2] [(95, .agg #[(zrR A270 x273 c271), (zrR A275 x278 c276)])] [2] (And.intro (And.intro rfl rfl) zrv) fun j => ?_)
 refine zk hO (i := 0) rfl (off := 0) rfl rfl rfl rfl (Nat.le_of_ble_eq_true rfl) rfl fun σ hO => ?_
 have hO := zrP5 hO
 refine zf hO [] [(3, zrK 0), (4, zrK 0)] [2] zrw fun j => ?_
 refine z2 ?_
 cases hF
 have hV0 := hO.val (i := 0) rfl (off := 0) (agg := true) (n := 2) rfl
 have hO := hO.sel []
 exact hQ _ _ _ _ _ (z7 rfl (hV0) (zcQ (zcQ rfl))) hO hL ⟨_, _, rfl, rfl, r832, r834⟩
def zmr (gn : Nat) : Prop := ∀ {τ : Hp} {v0 : Value} {p0 : (List zb)} {v1 : Value} {p1 : (List zb)} (r0 : RdT zr τ v0 p0) (r1 : RdT zr τ v1 p1) {rr : Bool} (hF : (zel gn) p0 p1 = some rr), Ctr Try.prog 50 #[v0, v1] τ [] (fun v τ' vs' => v = .bool rr ∧ vs' = [])
theorem zql {gn : Nat} (ih_ref12_sameExps : zmr gn) {τ : Hp} {v0 : Value} {p0 : (List zb)} {v1 : Value} {p1 : (List zb)} (r0 : RdT zr τ v0 p0) (r1 : RdT zr τ v1 p1) {rr : Bool} (hF : zhd (zel gn) p0 p1 = some rr) :
  Ctr Try.prog 50 #[v0, v1] τ [] (fun v τ' vs' => v = .bool rr ∧ vs' = []) := by
 obtain ⟨A0, c0, rfl, -⟩ := r0.form
 obtain ⟨A1, c1, rfl, -⟩ := r1.form
 refine zbd (args := [.slice A0 p0.length c0, .slice A1 p1.length c1]) hm Try.func50 s50 rfl fun w0 σ hO Q hQ => ?_
 unfold zhd at hF
 have hL := Hp.le.refl τ
 show wpn _ _ a50.body _ _ _
 unfold a50
 dsimp only
 refine zf hO [] [] [0, 1] zrv fun j => ?_
 refine zg (zf hO [] [(10, .bool ((p0.length : Int) != (p1.length : Int)))] [0, 1] zrw fun j => ?_)
 refine zq hF rfl (fun hF => ?_) fun hF => ?_
 ·refine zg (zX hO [] [(4, .bool false)] zru fun j => ?_)
  refine zZ ?_
  cases hF
  exact hQ _ _ _ _ _ rfl hO hL ⟨rfl, rfl⟩
 refine zy (zg (zf hO [] [(5, zrK 0)] [0, 1] zrw fun j => ?_))
 refine zG (zbx (fun (n : Nat) e' σ' => ∃ (x133 : Int) (τ' : Hp), agr [(0, zrR A0 p0 c0), (1, zrR A1 p1 c1), (5, zrK x133)] e' ∧ Obs τ' σ' [] ∧ Hp.le τ τ' ∧ zf4 (zel gn) p0 p1 n x133 = some rr) big ⟨0, _, zrJ zrv, hO, hL, hF⟩ ?_)
 clear hF hO hL
 rintro n263 e σ ⟨x133, _, hA, hO, hL, hF⟩
 rw [← zV _ _ hA]
 cases n263 with
 | zero => exact nomatch (show none = some rr from hF)
 | succ n263 =>
 replace hF : zgP (zf4 (zel gn) p0 p1 n263) (zel gn) p0 p1 x133 = some rr := hF
 unfold zgP at hF
 refine zg (zf hO [] [(14, .bool (decide (x133 < (p0.length : Int))))] [0, 1, 5] zrx fun j => ?_)
 refine zq hF rfl (fun hF => ?_) fun hF => ?_
 ·refine zy (zG (zbN (za hO 2 [] [(17, zrR A0 p0 c0), (18, zrK x133)] [0, 1, 5] zry fun j => ?_)))
  obtain ⟨y265, g266, hF⟩ := zrQ hF
  refine zU (T := zr) (r0.le hL) hO.base rfl rfl g266 (by decide) fun a267 _ k268 m269 => ?_
  obtain ⟨v270, rfl, r271⟩ := zch k268
  obtain ⟨A272, c273, rfl, -⟩ := r271.form
  refine za hO 1 [] [(20, .pointer (some a267))] [0, 1, 5] zrx fun j => ?_
  refine zM rfl (m269.le hO.base).fst ?_
  refine za hO 2 [] [(22, zrR A1 p1 c1), (23, zrK x133)] [0, 1, 5, 21] zrz fun j => ?_
  obtain ⟨y274, g275, hF⟩ := zrQ hF
  refine zU (T := zr) (r1.le hL) hO.base rfl rfl g275 (by decide) fun a276 _ k277 m278 => ?_
  obtain ⟨v279, rfl, r280⟩ := zch k277
  obtain ⟨A281, c282, rfl, -⟩ := r280.form
  refine za hO 1 [] [(25, .pointer (some a276))] [0, 1, 5, 21] zry fun j => ?_
  refine zM rfl (m278.le hO.base).fst ?_
  refine za hO 2 [] [(28, .bool ((y265.Kind.toNat : Int) != (y274.Kind.toNat : Int)))] [0, 1, 5] zrx fun j => ?_
  obtain ⟨c283, h284, hF⟩ := zrQ hF
  refine zcu 2 [(40, .bool c283), (0, zrR A0 p0 c0), (1, zrR A1 p1 c1), (5, zrK x133)] (fun Q hQ => ?_) fun j => ?_
  ·have hF := h284
   rcases zbp hF with ⟨hb285, hF⟩ | ⟨hb285, hF⟩
   ·refine zbh (zrN hb285) ?_
    refine zE (zrM hb285) ?_
    refine zc ?_
    cases hF
    refine zi ?_
    exact hQ _ zrx
   refine zbg (zrN hb285) ?_
   refine za hO 2 [] [(29, zrR A0 p0 c0), (30, zrK x133)] [0, 1, 5, 28] zrz fun j => ?_
   obtain ⟨y286, g287, hF⟩ := zrQ hF
   refine zU (T := zr) (r0.le hL) hO.base rfl rfl g287 (by decide) fun a288 _ k289 m290 => ?_
   obtain ⟨v291, rfl, r292⟩ := zch k289
   obtain ⟨A293, c294, rfl, -⟩ := r292.form
   refine za hO 1 [] [(32, .pointer (some (a288.add 1)))] [0, 1, 5, 28] zry fun j => ?_
   refine zM rfl ((m290.le hO.base).one 1 rfl) ?_
   refine zbl hO 2 [] [(0, zrR A0 p0 c0), (1, zrR A1 p1 c1), (5, zrK x133), (28, .bool ((y265.Kind.toNat : Int) != (y274.Kind.toNat : Int))), (33, zrK y286.Num), (34, zrR A1 p1 c1), (35, zrK x133)] zrA fun j => ?_
   obtain ⟨y295, g296, hF⟩ := zrQ hF
   refine zU (T := zr) (r1.le hL) hO.base rfl rfl g296 (by decide) fun a297 _ k298 m299 => ?_
   obtain ⟨v300, rfl, r301⟩ := zch k298
   obtain ⟨A302, c303, rfl, -⟩ := r301.form
   refine za hO 1 [] [(37, .pointer (some (a297.add 1)))] [0, 1, 5, 28, 33] zrz fun j => ?_
   refine zM rfl ((m299.le hO.base).one 1 rfl) ?_
   refine za hO 1 [] [(39, .bool (y286.Num != y295.Num))] [0, 1, 5, 28] zry fun j => ?_
   refine zE (zrM hb285) ?_
   refine zc ?_
   cases hF
   refine zi ?_
   exact hQ _ zrx
  refine za hO 1 [] [(41, .bool c283)] [0, 1, 5] zrx fun j => ?_
  obtain ⟨c304, h305, hF⟩ := zrQ hF
  refine zcu 2 [(53, .bool c304), (0, zrR A0 p0 c0), (1, zrR A1 p1 c1), (5, zrK x133)] (fun Q hQ => ?_) fun j => ?_
  ·have hF := h305
   rcases zbp hF with ⟨hb306, hF⟩ | ⟨hb306, hF⟩
   ·refine zbh (zrN hb306) ?_
    refine zE (zrM hb306) ?_
    refine zc ?_
    cases hF
    refine zi ?_
    exact hQ _ zrx
   refine zbg (zrN hb306) ?_
   refine za hO 2 [] [(42, zrR A0 p0 c0), (43, zrK x133)] [0, 1, 5, 41] zrz fun j => ?_
   obtain ⟨y307, g308, hF⟩ := zrQ hF
   refine zU (T := zr) (r0.le hL) hO.base rfl rfl g308 (by decide) fun a309 _ k310 m311 => ?_
   obtain ⟨v312, rfl, r313⟩ := zch k310
   obtain ⟨A314, c315, rfl, -⟩ := r313.form
   refine zbl hO 1 [] [(0, zrR A0 p0 c0), (1, zrR A1 p1 c1), (5, zrK x133), (41, .bool c283), (45, .pointer (some (a309.add 2)))] zry fun j => ?_
   refine zM rfl ((m311.le hO.base).one 2 rfl) ?_
   refine za hO 2 [] [(47, zrR A1 p1 c1), (48, zrK x133)] [0, 1, 5, 41, 46] zrA fun j => ?_
   obtain ⟨y316, g317, hF⟩ := zrQ hF
   refine zU (T := zr) (r1.le hL) hO.base rfl rfl g317 (by decide) fun a318 _ k319 m320 => ?_
   obtain ⟨v321, rfl, r322⟩ := zch k319
   obtain ⟨A323, c324, rfl, -⟩ := r322.form
   refine za hO 1 [] [(50, .pointer (some (a318.add 2)))] [0, 1, 5, 41, 46] zrz fun j => ?_
   refine zM rfl ((m320.le hO.base).one 2 rfl) ?_
   refine za hO 1 [] [(52, .bool (!(zbe y307.Name y316.Name)))] [0, 1, 5, 41] zry fun j => ?_
   refine zE (zrM hb306) ?_
   refine zc ?_
   cases hF
   refine zi ?_
   exact hQ _ zrx
  refine za hO 1 [] [(54, .bool c304)] [0, 1, 5] zrx fun j => ?_
  obtain ⟨c325, h326, hF⟩ := zrQ hF
  refine zcu 2 [(66, .bool c325), (0, zrR A0 p0 c0), (1, zrR A1 p1 c1), (5, zrK x133)] (fun Q hQ => ?_) fun j => ?_
  ·have hF := h326
   rcases zbp hF with ⟨hb327, hF⟩ | ⟨hb327, hF⟩
   ·refine zbh (zrN hb327) ?_
    refine zE (zrM hb327) ?_
    refine zc ?_
    cases hF
    refine zi ?_
    exact hQ _ zrx
   refine zbg (zrN hb327) ?_
   refine zbl hO 2 [] [(0, zrR A0 p0 c0), (1, zrR A1 p1 c1), (5, zrK x133), (54, .bool c304), (55, zrR A0 p0 c0), (56, zrK x133)] zrz fun j => ?_
   obtain ⟨y328, g329, hF⟩ := zrQ hF
   refine zU (T := zr) (r0.le hL) hO.base rfl rfl g329 (by decide) fun a330 _ k331 m332 => ?_
   obtain ⟨v333, rfl, r334⟩ := zch k331
   obtain ⟨A335, c336, rfl, -⟩ := r334.form
   refine za hO 1 [] [(58, .pointer (some (a330.add 3)))] [0, 1, 5, 54] zry fun j => ?_
   refine zM rfl ((m332.le hO.base).one 3 rfl) ?_
   refine za hO 2 [] [(60, zrR A1 p1 c1), (61, zrK x133)] [0, 1, 5, 54, 59] zrA fun j => ?_
   obtain ⟨y337, g338, hF⟩ := zrQ hF
   refine zU (T := zr) (r1.le hL) hO.base rfl rfl g338 (by decide) fun a339 _ k340 m341 => ?_
   obtain ⟨v342, rfl, r343⟩ := zch k340
   obtain ⟨A344, c345, rfl, -⟩ := r343.form
   refine za hO 1 [] [(63, .pointer (some (a339.add 3)))] [0, 1, 5, 54, 59] zrz fun j => ?_
   refine zM rfl ((m341.le hO.base).one 3 rfl) ?_
   refine za hO 1 [] [(65, .bool (!(zbe y328.Field y337.Field)))] [0, 1, 5, 54] zry fun j => ?_
   refine zE (zrM hb327) ?_
   refine zc ?_
   cases hF
   refine zi ?_
   exact hQ _ zrx
  refine zbl hO 1 [] [(0, zrR A0 p0 c0), (1, zrR A1 p1 c1), (5, zrK x133), (67, .bool c325)] zrx fun j => ?_
  obtain ⟨c346, h347, hF⟩ := zrQ hF
  refine zcu 2 [(79, .bool c346), (0, zrR A0 p0 c0), (1, zrR A1 p1 c1), (5, zrK x133)] (fun Q hQ => ?_) fun j => ?_
  ·have hF := h347
   rcases zbp hF with ⟨hb348, hF⟩ | ⟨hb348, hF⟩
   ·refine zbh (zrN hb348) ?_
    refine zE (zrM hb348) ?_
    refine zc ?_
    cases hF
    refine zi ?_
    exact hQ _ zrx
   refine zbg (zrN hb348) ?_
   refine za hO 2 [] [(68, zrR A0 p0 c0), (69, zrK x133)] [0, 1, 5, 67] zrz fun j => ?_
   obtain ⟨y349, g350, hF⟩ := zrQ hF
   refine zU (T := zr) (r0.le hL) hO.base rfl rfl g350 (by decide) fun a351 _ k352 m353 => ?_
   obtain ⟨v354, rfl, r355⟩ := zch k352
   obtain ⟨A356, c357, rfl, -⟩ := r355.form
   refine za hO 1 [] [(71, .pointer (some (a351.add 4)))] [0, 1, 5, 67] zry fun j => ?_
   refine zM rfl ((m353.le hO.base).one 4 rfl) ?_
   refine za hO 2 [] [(73, zrR A1 p1 c1), (74, zrK x133)] [0, 1, 5, 67, 72] zrA fun j => ?_
   obtain ⟨y358, g359, hF⟩ := zrQ hF
   refine zU (T := zr) (r1.le hL) hO.base rfl rfl g359 (by decide) fun a360 _ k361 m362 => ?_
   obtain ⟨v363, rfl, r364⟩ := zch k361
   obtain ⟨A365, c366, rfl, -⟩ := r364.form
   refine za hO 1 [] [(76, .pointer (some (a360.add 4)))] [0, 1, 5, 67, 72] zrz fun j => ?_
   refine zM rfl ((m362.le hO.base).one 4 rfl) ?_
   refine za hO 1 [] [(78, .bool (!(zbe y349.Op y358.Op)))] [0, 1, 5, 67] zry fun j => ?_
   refine zE (zrM hb348) ?_
   refine zc ?_
   cases hF
   refine zi ?_
   exact hQ _ zrx
  refine za hO 1 [] [(80, .bool c346)] [0, 1, 5] zrx fun j => ?_
  obtain ⟨c367, h368, hF⟩ := zrQ hF
  refine zca 2 (fun e' σ' => ∃ (τ' : Hp), agr [(93, .bool c367), (0, zrR A0 p0 c0), (1, zrR A1 p1 c1), (5, zrK x133)] e' ∧ Obs τ' σ' [] ∧ Hp.le τ τ') ?_ ?_
  ·have hF := h368
   rcases zbp hF with ⟨hb369, hF⟩ | ⟨hb369, hF⟩
   ·refine zbh (zrN hb369) ?_
    refine zE (zrM hb369) ?_
    refine zc ?_
    cases hF
    refine zi ?_
    exact ⟨rfl, _, zrJ zrw, hO, hL⟩
   refine zbg (zrN hb369) ?_
   refine za hO 2 [] [(81, zrR A0 p0 c0), (82, zrK x133)] [0, 1, 5, 80] zrz fun j => ?_
   obtain ⟨y370, g371, hF⟩ := zrQ hF
   refine zU (T := zr) (r0.le hL) hO.base rfl rfl g371 (by decide) fun a372 _ k373 m374 => ?_
   obtain ⟨v375, rfl, r376⟩ := zch k373
   obtain ⟨A377, c378, rfl, -⟩ := r376.form
   refine za hO 1 [] [(84, .pointer (some (a372.add 5)))] [0, 1, 5, 80] zry fun j => ?_
   refine zM rfl ((m374.le hO.base).one 5 rfl) ?_
   refine za hO 2 [] [(86, zrR A1 p1 c1), (87, zrK x133)] [0, 1, 5, 80, 85] zrA fun j => ?_
   obtain ⟨y379, g380, hF⟩ := zrQ hF
   refine zU (T := zr) (r1.le hL) hO.base rfl rfl g380 (by decide) fun a381 _ k382 m383 => ?_
   obtain ⟨v384, rfl, r385⟩ := zch k382
   obtain ⟨A386, c387, rfl, -⟩ := r385.form
   refine za hO 1 [] [(89, .pointer (some (a381.add 5)))] [0, 1, 5, 80, 85] zrz fun j => ?_
   refine zM rfl ((m383.le hO.base).one 5 rfl) ?_
   obtain ⟨c388, h389, hF⟩ := zrQ hF
   refine zbi hO (ih_ref12_sameExps r376 r385 h389) rfl fun _ σ _ _ hO h390 h391 => ?_
   have hL := hL.trans h390
   have r376 := r376.le h390
   have m383 := m383.le h390
   have r385 := r385.le h390
   obtain ⟨rfl, rfl⟩ := h391
   have hO : Obs _ _ [] := hO
   refine za hO 1 [] [(92, .bool (!c388))] [0, 1, 5, 80] zry fun j => ?_
   refine zE (zrM hb369) ?_
   refine zc ?_
   cases hF
   refine zi ?_
   exact ⟨rfl, _, zrJ zrw, hO, hL⟩
  rintro e σ ⟨_, hA, hO, hL⟩
  rw [← zV _ _ hA]
  refine zc (zbC (zq hF rfl (fun hF => ?_) fun hF => ?_))
  ·refine zg (zX hO [] [(4, .bool false)] zru fun j => ?_)
   refine zZ (zW (zC (zC (zW (zC ?_)))))
   cases hF
   exact hQ _ _ _ _ _ rfl hO hL ⟨rfl, rfl⟩
  refine zy (zi (zL (zm (zbt (zf hO [] [(5, zrK (IntKind.i64.wrap (x133 + 1)))] [0, 1] zrw fun j => ?_)))))
  refine zi (zm ?_)
  exact ⟨n263, Nat.lt_succ_self _, (IntKind.i64.wrap (x133 + 1)), _, zrJ zrv, hO, hL, hF⟩
 refine zbz (zbA (zby (zm (zX hO [] [(4, .bool true)] zru fun j => ?_))))
 refine z2 ?_
 cases hF
 exact hQ _ _ _ _ _ rfl hO hL ⟨rfl, rfl⟩
theorem zoZ (n : Nat) : zmr n := by
 induction n with
 | zero =>
  intro τ v0 p0 v1 p1 r0 r1 rr hF; exact nomatch (show none = some rr from hF)
 | succ n ih =>
  intro τ v0 p0 v1 p1 r0 r1 rr hF; exact zql ih r0 r1 hF
theorem zra : ∀ {τ : Hp} {v0 : Value} {p0 : (List zb)} {v1 : Value} {p1 : (List zb)} (r0 : RdT zr τ v0 p0) (r1 : RdT zr τ v1 p1) {rr : Bool} (hF : zkz p0 p1 = some rr), Ctr Try.prog 50 #[v0, v1] τ [] (fun v τ' vs' => v = .bool rr ∧ vs' = []) := (zoZ big)
def znd (gn : Nat) : Prop := ∀ {τ : Hp} {v0 : Value} {p0 : (List zh)} {v1 : Value} {p1 : (List zh)} (r0 : RdT zu τ v0 p0) (r1 : RdT zu τ v1 p1) {rr : Bool} (hF : (zem gn) p0 p1 = some rr), Ctr Try.prog 28 #[v0, v1] τ [] (fun v τ' vs' => v = .bool rr ∧ vs' = [])
theorem zpQ {gn : Nat} (ih_ref12_sameStmts : znd gn) {τ : Hp} {v0 : Value} {p0 : (List zh)} {v1 : Value} {p1 : (List zh)} (r0 : RdT zu τ v0 p0) (r1 : RdT zu τ v1 p1) {rr : Bool} (hF : zhy (zem gn) p0 p1 = some rr) :
  Ctr Try.prog 28 #[v0, v1] τ [] (fun v τ' vs' => v = .bool rr ∧ vs' = []) := by
 obtain ⟨A0, c0, rfl, -⟩ := r0.form
 obtain ⟨A1, c1, rfl, -⟩ := r1.form
 refine zbd (args := [.slice A0 p0.length c0, .slice A1 p1.length c1]) hm Try.func28 s28 rfl fun w0 σ hO Q hQ => ?_
 unfold zhy at hF
 have hL := Hp.le.refl τ
 show wpn _ _ a28.body _ _ _
 unfold a28
 dsimp only
 refine zf hO [] [] [0, 1] zrv fun j => ?_
 refine zg (zf hO [] [(12, .bool ((p0.length : Int) != (p1.length : Int)))] [0, 1] zrw fun j => ?_)
 refine zq hF rfl (fun hF => ?_) fun hF => ?_
 ·refine zg (zX hO [] [(4, .bool false)] zru fun j => ?_)
  refine zZ ?_
  cases hF
  exact hQ _ _ _ _ _ rfl hO hL ⟨rfl, rfl⟩
 refine zy (zg (zf hO [] [(5, zrK 0)] [0, 1] zrw fun j => ?_))
 refine zG (zbx (fun (n : Nat) e' σ' => ∃ (x63 : Int) (τ' : Hp), agr [(0, zrR A0 p0 c0), (1, zrR A1 p1 c1), (5, zrK x63)] e' ∧ Obs τ' σ' [] ∧ Hp.le τ τ' ∧ zfJ (zem gn) p0 p1 n x63 = some rr) big ⟨0, _, zrJ zrv, hO, hL, hF⟩ ?_)
 clear hF hO hL
 rintro n123 e σ ⟨x63, _, hA, hO, hL, hF⟩
 rw [← zV _ _ hA]
 cases n123 with
 | zero => exact nomatch (show none = some rr from hF)
 | succ n123 =>
 replace hF : zgI (zfJ (zem gn) p0 p1 n123) (zem gn) p0 p1 x63 = some rr := hF
 unfold zgI at hF
 refine zg (zf hO [] [(16, .bool (decide (x63 < (p0.length : Int))))] [0, 1, 5] zrx fun j => ?_)
 refine zq hF rfl (fun hF => ?_) fun hF => ?_
 ·refine zy (zG (za hO 2 [] [(19, zrR A0 p0 c0), (20, zrK x63)] [0, 1, 5] zry fun j => ?_))
  obtain ⟨y125, g126, hF⟩ := zrQ hF
  refine zU (T := zu) (r0.le hL) hO.base rfl rfl g126 (by decide) fun a127 _ k128 m129 => ?_
  obtain ⟨v130, v134, v138, rfl, r131, r135, r139⟩ := zeh k128
  obtain ⟨A132, c133, rfl, -⟩ := r131.form
  obtain ⟨A136, c137, rfl, -⟩ := r135.form
  obtain ⟨A140, c141, rfl, -⟩ := r139.form
  refine zM rfl ((m129.le hO.base).all rfl) ?_
  refine zbk hO fun b142 σ hO => ?_
  have hO := zrP1 hO
  refine zk hO (i := 0) rfl (off := 0) rfl rfl rfl rfl (Nat.le_of_ble_eq_true rfl) rfl fun σ hO => ?_
  have hO := zrP1 hO
  refine zc (za hO 2 [] [(23, zrR A1 p1 c1), (24, zrK x63)] [0, 1, 5, 6] zrz fun j => ?_)
  obtain ⟨y143, g144, hF⟩ := zrQ hF
  refine zU (T := zu) (r1.le hL) hO.base rfl rfl g144 (by decide) fun a145 _ k146 m147 => ?_
  obtain ⟨v148, v152, v156, rfl, r149, r153, r157⟩ := zeh k146
  obtain ⟨A150, c151, rfl, -⟩ := r149.form
  obtain ⟨A154, c155, rfl, -⟩ := r153.form
  obtain ⟨A158, c159, rfl, -⟩ := r157.form
  refine zM rfl ((m147.le hO.base).all rfl) ?_
  refine zbk hO fun b160 σ hO => ?_
  have hO := zrP2 hO
  refine zk hO (i := 1) rfl (off := 0) rfl rfl rfl rfl (Nat.le_of_ble_eq_true rfl) rfl fun σ hO => ?_
  have hO := zrP2 hO
  refine zc (za hO 21 [0, 1, 0, 1, 0, 1, 0, 1, 0, 1, 0, 1] [(67, .bool (((((((y125.Kind.toNat : Int) != (y143.Kind.toNat : Int)) || (y125.Line != y143.Line)) || (!(zbe y125.Name y143.Name))) || (!(zbe y125.Field y143.Field))) || (!(zbe y125.Call y143.Call))) || (!(( (y125.Type_.Kind.toNat : Int) == (y143.Type_.Kind.toNat : Int)) && (( y125.Type_.N == y143.Type_.N) && ((zbe y125.Type_.Name y143.Type_.Name) && true))))))] [0, 1, 5, 6, 7] (And.intro (And.intro rfl rfl) (And.intro (And.intro rfl rfl) (And.intro (And.intro rfl rfl) (And.intro (And.intro rfl rfl) (And.intro (And.intro rfl rfl) (fun _ => And.intro (And.intro rfl rfl) (And.intro (And.intro rfl rfl) (And.intro (And.intro rfl rfl) (fun _ => And.intro (And.intro rfl rfl) (And.intro (And.intro rfl rfl) (And.intro (And.intro rfl rfl) (fun _ => And.intro (And.intro rfl rfl) (And.intro (And.intro rfl rfl) (And.intro (And.intro rfl rfl) (fun _ => And.intro (And.intro rfl rfl) (And.intro (And.intro rfl rfl) (And.intro (And.intro rfl rfl) (fun _ => zrJ zry)))))))))))))))))) fun j => ?_)
  obtain ⟨c161, h162, hF⟩ := zrQ hF
  refine zca 2 (fun e' σ' => ∃ (τ' : Hp), agr [(74, .bool c161), (0, zrR A0 p0 c0), (1, zrR A1 p1 c1), (5, zrK x63), (6, zrL b142), (7, zrL b160)] e' ∧ Obs τ' σ' [zbP b142 (y125.Kind.toNat : Int) y125.Line y125.Name y125.Field y125.Call (y125.Type_.Kind.toNat : Int) y125.Type_.N y125.Type_.Name (zrR A132 y125.Kids c133) (zrR A136 y125.Body c137) (zrR A140 y125.Else c141), zbP b160 (y143.Kind.toNat : Int) y143.Line y143.Name y143.Field y143.Call (y143.Type_.Kind.toNat : Int) y143.Type_.N y143.Type_.Name (zrR A150 y143.Kids c151) (zrR A154 y143.Body c155) (zrR A158 y143.Else c159)] ∧ Hp.le τ τ' ∧ RdT zr τ' (zrR A132 y125.Kids c133) y125.Kids ∧ RdT zu τ' (zrR A136 y125.Body c137) y125.Body ∧ RdT zu τ' (zrR A140 y125.Else c141) y125.Else ∧ RdT zr τ' (zrR A150 y143.Kids c151) y143.Kids ∧ RdT zu τ' (zrR A154 y143.Body c155) y143.Body ∧ RdT zu τ' (zrR A158 y143.Else c159) y143.Else) ?_ ?_
  ·have hF := h162
   rcases zbp hF with ⟨hb163, hF⟩ | ⟨hb163, hF⟩
   ·refine zbh (zrN hb163) ?_
    refine zE (zrM hb163) ?_
    refine zc ?_
    cases hF
    refine zi ?_
    exact ⟨rfl, _, zrJ zry, hO, hL, r131, r135, r139, r149, r153, r157⟩
   refine zbg (zrN hb163) ?_
   refine za hO 4 [0, 1] [(69, zrR A132 y125.Kids c133), (71, zrR A150 y143.Kids c151)] [0, 1, 5, 6, 7, 67] (And.intro (And.intro rfl rfl) (And.intro (And.intro rfl rfl) zrB)) fun j => ?_
   obtain ⟨c164, h165, hF⟩ := zrQ hF
   refine zbi hO (zra r131 r149 h165) rfl fun _ σ _ _ hO h166 h167 => ?_
   have hL := hL.trans h166
   have r131 := r131.le h166
   have r149 := r149.le h166
   have r135 := r135.le h166
   have r139 := r139.le h166
   have r153 := r153.le h166
   have r157 := r157.le h166
   obtain ⟨rfl, rfl⟩ := h167
   have hO := zrP2 hO
   refine za hO 1 [] [(73, .bool (!c164))] [0, 1, 5, 6, 7, 67] zrA fun j => ?_
   refine zE (zrM hb163) ?_
   refine zc ?_
   cases hF
   refine zi ?_
   exact ⟨rfl, _, zrJ zry, hO, hL, r131, r135, r139, r149, r153, r157⟩
  rintro e σ ⟨_, hA, hO, hL, r131, r135, r139, r149, r153, r157⟩
  rw [← zV _ _ hA]
  refine za hO 1 [] [(75, .bool c161)] [0, 1, 5, 6, 7] zrz fun j => ?_
  obtain ⟨c168, h169, hF⟩ := zrQ hF
  refine zca 2 (fun e' σ' => ∃ (τ' : Hp), agr [(82, .bool c168), (0, zrR A0 p0 c0), (1, zrR A1 p1 c1), (5, zrK x63), (6, zrL b142), (7, zrL b160)] e' ∧ Obs τ' σ' [zbP b142 (y125.Kind.toNat : Int) y125.Line y125.Name y125.Field y125.Call (y125.Type_.Kind.toNat : Int) y125.Type_.N y125.Type_.Name (zrR A132 y125.Kids c133) (zrR A136 y125.Body c137) (zrR A140 y125.Else c141), zbP b160 (y143.Kind.toNat : Int) y143.Line y143.Name y143.Field y143.Call (y143.Type_.Kind.toNat : Int) y143.Type_.N y143.Type_.Name (zrR A150 y143.Kids c151) (zrR A154 y143.Body c155) (zrR A158 y143.Else c159)] ∧ Hp.le τ τ' ∧ RdT zr τ' (zrR A132 y125.Kids c133) y125.Kids ∧ RdT zu τ' (zrR A136 y125.Body c137) y125.Body ∧ RdT zu τ' (zrR A140 y125.Else c141) y125.Else ∧ RdT zr τ' (zrR A150 y143.Kids c151) y143.Kids ∧ RdT zu τ' (zrR A154 y143.Body c155) y143.Body ∧ RdT zu τ' (zrR A158 y143.Else c159) y143.Else) ?_ ?_
  ·have hF := h169
   rcases zbp hF with ⟨hb170, hF⟩ | ⟨hb170, hF⟩
   ·refine zbh (zrN hb170) ?_
    refine zE (zrM hb170) ?_
    refine zc ?_
    cases hF
    refine zi ?_
    exact ⟨rfl, _, zrJ zry, hO, hL, r131, r135, r139, r149, r153, r157⟩
   refine zbg (zrN hb170) ?_
   refine za hO 4 [0, 1] [(77, zrR A136 y125.Body c137), (79, zrR A154 y143.Body c155)] [0, 1, 5, 6, 7, 75] (And.intro (And.intro rfl rfl) (And.intro (And.intro rfl rfl) zrB)) fun j => ?_
   obtain ⟨c171, h172, hF⟩ := zrQ hF
   refine zbi hO (ih_ref12_sameStmts r135 r153 h172) rfl fun _ σ _ _ hO h173 h174 => ?_
   have hL := hL.trans h173
   have r135 := r135.le h173
   have r153 := r153.le h173
   have r131 := r131.le h173
   have r139 := r139.le h173
   have r149 := r149.le h173
   have r157 := r157.le h173
   obtain ⟨rfl, rfl⟩ := h174
   have hO := zrP2 hO
   refine za hO 1 [] [(81, .bool (!c171))] [0, 1, 5, 6, 7, 75] zrA fun j => ?_
   refine zE (zrM hb170) ?_
   refine zc ?_
   cases hF
   refine zi ?_
   exact ⟨rfl, _, zrJ zry, hO, hL, r131, r135, r139, r149, r153, r157⟩
  rintro e σ ⟨_, hA, hO, hL, r131, r135, r139, r149, r153, r157⟩
  rw [← zV _ _ hA]
  refine za hO 1 [] [(83, .bool c168)] [0, 1, 5, 6, 7] zrz fun j => ?_
  obtain ⟨c175, h176, hF⟩ := zrQ hF
  refine zca 2 (fun e' σ' => ∃ (τ' : Hp), agr [(90, .bool c175), (0, zrR A0 p0 c0), (1, zrR A1 p1 c1), (5, zrK x63)] e' ∧ Obs τ' σ' [zbP b142 (y125.Kind.toNat : Int) y125.Line y125.Name y125.Field y125.Call (y125.Type_.Kind.toNat : Int) y125.Type_.N y125.Type_.Name (zrR A132 y125.Kids c133) (zrR A136 y125.Body c137) (zrR A140 y125.Else c141), zbP b160 (y143.Kind.toNat : Int) y143.Line y143.Name y143.Field y143.Call (y143.Type_.Kind.toNat : Int) y143.Type_.N y143.Type_.Name (zrR A150 y143.Kids c151) (zrR A154 y143.Body c155) (zrR A158 y143.Else c159)] ∧ Hp.le τ τ' ∧ RdT zr τ' (zrR A132 y125.Kids c133) y125.Kids ∧ RdT zu τ' (zrR A136 y125.Body c137) y125.Body ∧ RdT zu τ' (zrR A140 y125.Else c141) y125.Else ∧ RdT zr τ' (zrR A150 y143.Kids c151) y143.Kids ∧ RdT zu τ' (zrR A154 y143.Body c155) y143.Body ∧ RdT zu τ' (zrR A158 y143.Else c159) y143.Else) ?_ ?_
  ·have hF := h176
   rcases zbp hF with ⟨hb177, hF⟩ | ⟨hb177, hF⟩
   ·refine zbh (zrN hb177) ?_
    refine zE (zrM hb177) ?_
    refine zc ?_
    cases hF
    refine zi ?_
    exact ⟨rfl, _, zrJ zrw, hO, hL, r131, r135, r139, r149, r153, r157⟩
   refine zbg (zrN hb177) ?_
   refine za hO 4 [0, 1] [(85, zrR A140 y125.Else c141), (87, zrR A158 y143.Else c159)] [0, 1, 5, 83] (And.intro (And.intro rfl rfl) (And.intro (And.intro rfl rfl) zrz)) fun j => ?_
   obtain ⟨c178, h179, hF⟩ := zrQ hF
   refine zbi hO (ih_ref12_sameStmts r139 r157 h179) rfl fun _ σ _ _ hO h180 h181 => ?_
   have hL := hL.trans h180
   have r139 := r139.le h180
   have r157 := r157.le h180
   have r131 := r131.le h180
   have r135 := r135.le h180
   have r149 := r149.le h180
   have r153 := r153.le h180
   obtain ⟨rfl, rfl⟩ := h181
   have hO := zrP2 hO
   refine za hO 1 [] [(89, .bool (!c178))] [0, 1, 5, 83] zry fun j => ?_
   refine zE (zrM hb177) ?_
   refine zc ?_
   cases hF
   refine zi ?_
   exact ⟨rfl, _, zrJ zrw, hO, hL, r131, r135, r139, r149, r153, r157⟩
  rintro e σ ⟨_, hA, hO, hL, r131, r135, r139, r149, r153, r157⟩
  rw [← zV _ _ hA]
  refine zc (zbC (zq hF rfl (fun hF => ?_) fun hF => ?_))
  ·refine zg (zX hO [] [(4, .bool false)] zru fun j => ?_)
   refine zZ (zW (zC (zC (zW (zC ?_)))))
   cases hF
   have hO := hO.sel []
   exact hQ _ _ _ _ _ rfl hO hL ⟨rfl, rfl⟩
  refine zy (zi (zL (zm (zbt (zf hO [] [(5, zrK (IntKind.i64.wrap (x63 + 1)))] [0, 1] zrw fun j => ?_)))))
  refine zi (zm ?_)
  have hO := hO.sel []
  exact ⟨n123, Nat.lt_succ_self _, (IntKind.i64.wrap (x63 + 1)), _, zrJ zrv, hO, hL, hF⟩
 refine zbz (zbA (zby (zm (zX hO [] [(4, .bool true)] zru fun j => ?_))))
 refine z2 ?_
 cases hF
 exact hQ _ _ _ _ _ rfl hO hL ⟨rfl, rfl⟩
theorem zoG (n : Nat) : znd n := by
 induction n with
 | zero =>
  intro τ v0 p0 v1 p1 r0 r1 rr hF; exact nomatch (show none = some rr from hF)
 | succ n ih =>
  intro τ v0 p0 v1 p1 r0 r1 rr hF; exact zpQ ih r0 r1 hF
theorem zpl : ∀ {τ : Hp} {v0 : Value} {p0 : (List zh)} {v1 : Value} {p1 : (List zh)} (r0 : RdT zu τ v0 p0) (r1 : RdT zu τ v1 p1) {rr : Bool} (hF : zkk p0 p1 = some rr), Ctr Try.prog 28 #[v0, v1] τ [] (fun v τ' vs' => v = .bool rr ∧ vs' = []) := (zoG big)
theorem zp4 {τ : Hp} {p0 : zP} {v0_0 v0_1 : Value} {p1 : zP} {v1_0 v1_1 : Value} (r0_0 : RdT zt τ v0_0 p0.Structs) (r0_1 : RdT zs τ v0_1 p0.Funcs) (r1_0 : RdT zt τ v1_0 p1.Structs) (r1_1 : RdT zs τ v1_1 p1.Funcs) {rr : Bool} (hF : zfC p0 p1 = some rr) :
  Ctr Try.prog 11 #[.agg #[v0_0, v0_1], .agg #[v1_0, v1_1]] τ [] (fun v τ' vs' => v = .bool rr ∧ vs' = []) := by
 obtain ⟨A0_0, c0_0, rfl, -⟩ := r0_0.form
 obtain ⟨A0_1, c0_1, rfl, -⟩ := r0_1.form
 obtain ⟨A1_0, c1_0, rfl, -⟩ := r1_0.form
 obtain ⟨A1_1, c1_1, rfl, -⟩ := r1_1.form
 refine zbd (args := [.agg #[(zrR A0_0 p0.Structs c0_0), (zrR A0_1 p0.Funcs c0_1)], .agg #[(zrR A1_0 p1.Structs c1_0), (zrR A1_1 p1.Funcs c1_1)]]) hm Try.func11 s11 rfl fun w0 σ hO Q hQ => ?_
 unfold zfC at hF
 have hL := Hp.le.refl τ
 show wpn _ _ a11.body _ _ _
 unfold a11
 dsimp only
 refine zc9 (n := 2) hO rfl rfl fun b3 σ hO => ?_
 have hO := zrP1 hO
 refine zc9 (n := 2) hO rfl rfl fun b4 σ hO => ?_
 have hO := zrP2 hO
 refine zf hO [] [] [2, 3] zrv fun j => ?_
 refine zg (zf hO [0, 1, 0, 1] [(26, .bool (((p0.Structs.length : Int) != (p1.Structs.length : Int)) || ((p0.Funcs.length : Int) != (p1.Funcs.length : Int))))] [2, 3] (And.intro (And.intro rfl rfl) (And.intro (And.intro rfl rfl) (And.intro (And.intro rfl rfl) (And.intro (And.intro rfl rfl) (And.intro (And.intro rfl rfl) (fun _ => zrJ zrv)))))) fun j => ?_)
 refine zq hF rfl (fun hF => ?_) fun hF => ?_
 ·refine zg (zX hO [] [(4, .bool false)] zru fun j => ?_)
  refine zZ ?_
  cases hF
  have hO := hO.sel []
  exact hQ _ _ _ _ _ rfl hO hL ⟨rfl, rfl⟩
 refine zy (zg (zf hO [] [(5, zrK 0)] [2, 3] zrw fun j => ?_))
 refine zG (zbx (fun (n : Nat) e' σ' => ∃ (x417 : Int) (τ' : Hp), agr [(2, zrL b3), (3, zrL b4), (5, zrK x417)] e' ∧ Obs τ' σ' [some (b3, ⟨[zrR A0_0 p0.Structs c0_0, zrR A0_1 p0.Funcs c0_1], 27, 2, true⟩), some (b4, ⟨[zrR A1_0 p1.Structs c1_0, zrR A1_1 p1.Funcs c1_1], 27, 2, true⟩)] ∧ Hp.le τ τ' ∧ zdE p0 p1 n x417 = some rr) big ⟨0, _, zrJ zrv, hO, hL, hF⟩ ?_)
 clear hF hO hL
 rintro n829 e σ ⟨x417, _, hA, hO, hL, hF⟩
 rw [← zV _ _ hA]
 cases n829 with
 | zero => exact nomatch (show none = some rr from hF)
 | succ n829 =>
 replace hF : zhg (zdE p0 p1 n829) p0 p1 x417 = some rr := hF
 unfold zhg at hF
 refine zg (zf hO [0] [(31, .bool (decide (x417 < (p0.Structs.length : Int))))] [2, 3, 5] (And.intro (And.intro rfl rfl) zrx) fun j => ?_)
 refine zq hF rfl (fun hF => ?_) fun hF => ?_
 ·refine zy (zG (zg (zbN (za hO 3 [0] [(35, zrR A0_0 p0.Structs c0_0), (36, zrK x417)] [2, 3, 5] (And.intro (And.intro rfl rfl) zry) fun j => ?_))))
  obtain ⟨y831, g832, hF⟩ := zrQ hF
  refine zU (T := zt) (r0_0.le hL) hO.base rfl rfl g832 (by decide) fun a833 _ k834 m835 => ?_
  obtain ⟨v836, rfl, r837⟩ := k834
  obtain ⟨A838, c839, rfl, -⟩ := r837.form
  refine za hO 1 [] [(38, .pointer (some a833))] [2, 3, 5] zrx fun j => ?_
  refine zM rfl (m835.le hO.base).fst ?_
  refine za hO 3 [1] [(41, zrR A1_0 p1.Structs c1_0), (42, zrK x417)] [2, 3, 5, 39] (And.intro (And.intro rfl rfl) zrz) fun j => ?_
  obtain ⟨y840, g841, hF⟩ := zrQ hF
  refine zU (T := zt) (r1_0.le hL) hO.base rfl rfl g841 (by decide) fun a842 _ k843 m844 => ?_
  obtain ⟨v845, rfl, r846⟩ := k843
  obtain ⟨A847, c848, rfl, -⟩ := r846.form
  refine za hO 1 [] [(44, .pointer (some a842))] [2, 3, 5, 39] zry fun j => ?_
  refine zM rfl (m844.le hO.base).fst ?_
  refine za hO 2 [] [(47, .bool (!(zbe y831.Name y840.Name)))] [2, 3, 5] zrx fun j => ?_
  obtain ⟨c849, h850, hF⟩ := zrQ hF
  refine zcu 2 [(63, .bool c849), (2, zrL b3), (3, zrL b4), (5, zrK x417)] (fun Q hQ => ?_) fun j => ?_
  ·have hF := h850
   rcases zbp hF with ⟨hb851, hF⟩ | ⟨hb851, hF⟩
   ·refine zbh (zrN hb851) ?_
    refine zE (zrM hb851) ?_
    refine zc ?_
    cases hF
    refine zi ?_
    exact hQ _ zrx
   refine zbg (zrN hb851) ?_
   refine za hO 3 [0] [(49, zrR A0_0 p0.Structs c0_0), (50, zrK x417)] [2, 3, 5, 47] (And.intro (And.intro rfl rfl) zrz) fun j => ?_
   obtain ⟨y852, g853, hF⟩ := zrQ hF
   refine zU (T := zt) (r0_0.le hL) hO.base rfl rfl g853 (by decide) fun a854 _ k855 m856 => ?_
   obtain ⟨v857, rfl, r858⟩ := k855
   obtain ⟨A859, c860, rfl, -⟩ := r858.form
   refine za hO 1 [] [(52, .pointer (some (a854.add 1)))] [2, 3, 5, 47] zry fun j => ?_
   refine zM rfl ((m856.le hO.base).one 1 rfl) ?_
   refine zbl hO 4 [1] [(2, zrL b3), (3, zrL b4), (5, zrK x417), (47, .bool (!(zbe y831.Name y840.Name))), (54, zrK (y852.Fields.length : Int)), (56, zrR A1_0 p1.Structs c1_0), (57, zrK x417)] (And.intro (And.intro rfl rfl) zrA) fun j => ?_
   obtain ⟨y861, g862, hF⟩ := zrQ hF
   refine zU (T := zt) (r1_0.le hL) hO.base rfl rfl g862 (by decide) fun a863 _ k864 m865 => ?_
   obtain ⟨v866, rfl, r867⟩ := k864
   obtain ⟨A868, c869, rfl, -⟩ := r867.form
   refine za hO 1 [] [(59, .pointer (some (a863.add 1)))] [2, 3, 5, 47, 54] zrz fun j => ?_
   refine zM rfl ((m865.le hO.base).one 1 rfl) ?_
   refine za hO 2 [] [(62, .bool ((y852.Fields.length : Int) != (y861.Fields.length : Int)))] [2, 3, 5, 47] zry fun j => ?_
   refine zE (zrM hb851) ?_
   refine zc ?_
   cases hF
   refine zi ?_
   exact hQ _ zrx
  refine zc (zq hF rfl (fun hF => ?_) fun hF => ?_)
  ·refine zg (zX hO [] [(4, .bool false)] zru fun j => ?_)
   refine zZ (zW (zC (zC (zW (zC ?_)))))
   cases hF
   have hO := hO.sel []
   exact hQ _ _ _ _ _ rfl hO hL ⟨rfl, rfl⟩
  refine zy (zf hO [] [(6, zrK 0)] [2, 3, 5] zrx fun j => ?_)
  refine zbQ (zG (zbx (fun (n : Nat) e' σ' => ∃ (x910 : Int) (τ' : Hp), agr [(2, zrL b3), (3, zrL b4), (5, zrK x417), (6, zrK x910)] e' ∧ Obs τ' σ' [some (b3, ⟨[zrR A0_0 p0.Structs c0_0, zrR A0_1 p0.Funcs c0_1], 27, 2, true⟩), some (b4, ⟨[zrR A1_0 p1.Structs c1_0, zrR A1_1 p1.Funcs c1_1], 27, 2, true⟩)] ∧ Hp.le τ τ' ∧ zfj (zdE p0 p1 n829) p0 p1 x417 n x910 = some rr) big ⟨0, _, zrJ zrw, hO, hL, hF⟩ ?_))
  clear hF hO hL
  rintro n950 e σ ⟨x910, _, hA, hO, hL, hF⟩
  rw [← zV _ _ hA]
  cases n950 with
  | zero => exact nomatch (show none = some rr from hF)
  | succ n950 =>
  replace hF : zgB (zfj (zdE p0 p1 n829) p0 p1 x417 n950) (zdE p0 p1 n829) p0 p1 x417 x910 = some rr := hF
  unfold zgB at hF
  refine zg (za hO 4 [0] [(64, zrK x910), (66, zrR A0_0 p0.Structs c0_0), (67, zrK x417)] [2, 3, 5, 6] (And.intro (And.intro rfl rfl) zrA) fun j => ?_)
  obtain ⟨y951, g952, hF⟩ := zrQ hF
  refine zU (T := zt) (r0_0.le hL) hO.base rfl rfl g952 (by decide) fun a953 _ k954 m955 => ?_
  obtain ⟨v956, rfl, r957⟩ := k954
  obtain ⟨A958, c959, rfl, -⟩ := r957.form
  refine za hO 1 [] [(69, .pointer (some (a953.add 1)))] [2, 3, 5, 6, 64] zrz fun j => ?_
  refine zM rfl ((m955.le hO.base).one 1 rfl) ?_
  refine zf hO [] [(72, .bool (decide (x910 < (y951.Fields.length : Int))))] [2, 3, 5, 6] zry fun j => ?_
  refine zq hF rfl (fun hF => ?_) fun hF => ?_
  ·refine zy (zG (zbN (za hO 3 [0] [(76, zrR A0_0 p0.Structs c0_0), (77, zrK x417)] [2, 3, 5, 6] (And.intro (And.intro rfl rfl) zrz) fun j => ?_)))
   obtain ⟨y961, g962, hF⟩ := zrQ hF
   refine zU (T := zt) (r0_0.le hL) hO.base rfl rfl g962 (by decide) fun a963 _ k964 m965 => ?_
   obtain ⟨v966, rfl, r967⟩ := k964
   obtain ⟨A968, c969, rfl, -⟩ := r967.form
   refine za hO 1 [] [(79, .pointer (some (a963.add 1)))] [2, 3, 5, 6] zry fun j => ?_
   refine zM rfl ((m965.le hO.base).one 1 rfl) ?_
   refine za hO 1 [] [(81, zrK x910)] [2, 3, 5, 6, 80] zrz fun j => ?_
   obtain ⟨y970, g971, hF⟩ := zrQ hF
   refine zU (T := Ty.str) r967 hO.base rfl rfl g971 (by decide) fun a972 _ k973 m974 => ?_
   obtain rfl : _ = ([.string y970] : List Value) := k973
   refine zM rfl (m974.le hO.base).fst ?_
   refine za hO 3 [1] [(85, zrR A1_0 p1.Structs c1_0), (86, zrK x417)] [2, 3, 5, 6, 83] (And.intro (And.intro rfl rfl) zrA) fun j => ?_
   obtain ⟨y975, g976, hF⟩ := zrQ hF
   refine zU (T := zt) (r1_0.le hL) hO.base rfl rfl g976 (by decide) fun a977 _ k978 m979 => ?_
   obtain ⟨v980, rfl, r981⟩ := k978
   obtain ⟨A982, c983, rfl, -⟩ := r981.form
   refine za hO 1 [] [(88, .pointer (some (a977.add 1)))] [2, 3, 5, 6, 83] zrz fun j => ?_
   refine zM rfl ((m979.le hO.base).one 1 rfl) ?_
   refine zbl hO 1 [] [(2, zrL b3), (3, zrL b4), (5, zrK x417), (6, zrK x910), (83, .string y970), (89, zrR A982 y975.Fields c983), (90, zrK x910)] zrA fun j => ?_
   obtain ⟨y984, g985, hF⟩ := zrQ hF
   refine zU (T := Ty.str) r981 hO.base rfl rfl g985 (by decide) fun a986 _ k987 m988 => ?_
   obtain rfl : _ = ([.string y984] : List Value) := k987
   refine zM rfl (m988.le hO.base).fst ?_
   refine zf hO [] [(93, .bool (!(zbe y970 y984)))] [2, 3, 5, 6] zry fun j => ?_
   refine zbC (zq hF rfl (fun hF => ?_) fun hF => ?_)
   ·refine zg (zX hO [] [(4, .bool false)] zru fun j => ?_)
    refine zZ (zW (zC (zC (zW (zC (zW ?_))))))
    refine zC (zC (zW (zC ?_)))
    cases hF
    have hO := hO.sel []
    exact hQ _ _ _ _ _ rfl hO hL ⟨rfl, rfl⟩
   refine zy (zi (zL (zm (zbt (zf hO [] [(6, zrK (IntKind.i64.wrap (x910 + 1)))] [2, 3, 5] zrx fun j => ?_)))))
   refine zi (zm ?_)
   exact ⟨n950, Nat.lt_succ_self _, (IntKind.i64.wrap (x910 + 1)), _, zrJ zrw, hO, hL, hF⟩
  refine zbz (zbA (zby (zm (zi (zL (zm ?_))))))
  refine zbt (zf hO [] [(5, zrK (IntKind.i64.wrap (x417 + 1)))] [2, 3] zrw fun j => ?_)
  refine zi (zm ?_)
  exact ⟨n829, Nat.lt_succ_self _, (IntKind.i64.wrap (x417 + 1)), _, zrJ zrv, hO, hL, hF⟩
 refine zbz (zbA (zby (zm (zg (zf hO [] [(7, zrK 0)] [2, 3] zrw fun j => ?_)))))
 refine zG (zbx (fun (n : Nat) e' σ' => ∃ (x1073 : Int) (τ' : Hp), agr [(2, zrL b3), (3, zrL b4), (7, zrK x1073)] e' ∧ Obs τ' σ' [some (b3, ⟨[zrR A0_0 p0.Structs c0_0, zrR A0_1 p0.Funcs c0_1], 27, 2, true⟩), some (b4, ⟨[zrR A1_0 p1.Structs c1_0, zrR A1_1 p1.Funcs c1_1], 27, 2, true⟩)] ∧ Hp.le τ τ' ∧ zds p0 p1 n x1073 = some rr) big ⟨0, _, zrJ zrv, hO, hL, hF⟩ ?_)
 clear hF hO hL
 rintro n1157 e σ ⟨x1073, _, hA, hO, hL, hF⟩
 rw [← zV _ _ hA]
 cases n1157 with
 | zero => exact nomatch (show none = some rr from hF)
 | succ n1157 =>
 replace hF : zhc (zds p0 p1 n1157) p0 p1 x1073 = some rr := hF
 unfold zhc at hF
 refine zg (zf hO [0] [(98, .bool (decide (x1073 < (p0.Funcs.length : Int))))] [2, 3, 7] (And.intro (And.intro rfl rfl) zrx) fun j => ?_)
 refine zq hF rfl (fun hF => ?_) fun hF => ?_
 ·refine zy (zG (za hO 3 [0] [(102, zrR A0_1 p0.Funcs c0_1), (103, zrK x1073)] [2, 3, 7] (And.intro (And.intro rfl rfl) zry) fun j => ?_))
  obtain ⟨y1159, g1160, hF⟩ := zrQ hF
  refine zU (T := zs) (r0_1.le hL) hO.base rfl rfl g1160 (by decide) fun a1161 _ k1162 m1163 => ?_
  obtain ⟨v1164, v1168, rfl, r1165, r1169⟩ := k1162
  obtain ⟨A1166, c1167, rfl, -⟩ := r1165.form
  obtain ⟨A1170, c1171, rfl, -⟩ := r1169.form
  refine zM rfl ((m1163.le hO.base).all rfl) ?_
  refine zbk hO fun b1172 σ hO => ?_
  have hO := zrP3 hO
  refine zk hO (i := 2) rfl (off := 0) rfl rfl rfl rfl (Nat.le_of_ble_eq_true rfl) rfl fun σ hO => ?_
  have hO := zrP3 hO
  refine zc (za hO 3 [1] [(107, zrR A1_1 p1.Funcs c1_1), (108, zrK x1073)] [2, 3, 7, 8] (And.intro (And.intro rfl rfl) zrz) fun j => ?_)
  obtain ⟨y1173, g1174, hF⟩ := zrQ hF
  refine zU (T := zs) (r1_1.le hL) hO.base rfl rfl g1174 (by decide) fun a1175 _ k1176 m1177 => ?_
  obtain ⟨v1178, v1182, rfl, r1179, r1183⟩ := k1176
  obtain ⟨A1180, c1181, rfl, -⟩ := r1179.form
  obtain ⟨A1184, c1185, rfl, -⟩ := r1183.form
  refine zM rfl ((m1177.le hO.base).all rfl) ?_
  refine zbk hO fun b1186 σ hO => ?_
  have hO := zrP4 hO
  refine zk hO (i := 3) rfl (off := 0) rfl rfl rfl rfl (Nat.le_of_ble_eq_true rfl) rfl fun σ hO => ?_
  have hO := zrP4 hO
  refine zc (zg (za hO 15 [2, 3, 2, 3, 2, 3, 2, 3] [(139, .bool ((((!(zbe y1159.Name y1173.Name)) || (y1159.Line != y1173.Line)) || (!(( (y1159.Result.Kind.toNat : Int) == (y1173.Result.Kind.toNat : Int)) && (( y1159.Result.N == y1173.Result.N) && ((zbe y1159.Result.Name y1173.Result.Name) && true))))) || ((y1159.Params.length : Int) != (y1173.Params.length : Int))))] [2, 3, 7, 8, 9] (And.intro (And.intro rfl rfl) (And.intro (And.intro rfl rfl) (And.intro (And.intro rfl rfl) (And.intro (And.intro rfl rfl) (And.intro (And.intro rfl rfl) (fun _ => And.intro (And.intro rfl rfl) (And.intro (And.intro rfl rfl) (And.intro (And.intro rfl rfl) (fun _ => And.intro (And.intro rfl rfl) (And.intro (And.intro rfl rfl) (And.intro (And.intro rfl rfl) (fun _ => zrJ zry)))))))))))) fun j => ?_))
  obtain ⟨c1187, h1188, hF⟩ := zrQ hF
  refine zca 2 (fun e' σ' => ∃ (τ' : Hp), agr [(146, .bool c1187), (2, zrL b3), (3, zrL b4), (7, zrK x1073), (8, zrL b1172), (9, zrL b1186)] e' ∧ Obs τ' σ' [some (b3, ⟨[zrR A0_0 p0.Structs c0_0, zrR A0_1 p0.Funcs c0_1], 27, 2, true⟩), some (b4, ⟨[zrR A1_0 p1.Structs c1_0, zrR A1_1 p1.Funcs c1_1], 27, 2, true⟩), zdq b1172 y1159.Name y1159.Line (zrR A1166 y1159.Params c1167) (y1159.Result.Kind.toNat : Int) y1159.Result.N y1159.Result.Name (zrR A1170 y1159.Body c1171), zdq b1186 y1173.Name y1173.Line (zrR A1180 y1173.Params c1181) (y1173.Result.Kind.toNat : Int) y1173.Result.N y1173.Result.Name (zrR A1184 y1173.Body c1185)] ∧ Hp.le τ τ' ∧ RdT zco τ' (zrR A1166 y1159.Params c1167) y1159.Params ∧ RdT zu τ' (zrR A1170 y1159.Body c1171) y1159.Body ∧ RdT zco τ' (zrR A1180 y1173.Params c1181) y1173.Params ∧ RdT zu τ' (zrR A1184 y1173.Body c1185) y1173.Body) ?_ ?_
  ·have hF := h1188
   rcases zbp hF with ⟨hb1189, hF⟩ | ⟨hb1189, hF⟩
   ·refine zbh (zrN hb1189) ?_
    refine zE (zrM hb1189) ?_
    refine zc ?_
    cases hF
    refine zi ?_
    exact ⟨rfl, _, zrJ zry, hO, hL, r1165, r1169, r1179, r1183⟩
   refine zbg (zrN hb1189) ?_
   refine za hO 4 [2, 3] [(141, zrR A1170 y1159.Body c1171), (143, zrR A1184 y1173.Body c1185)] [2, 3, 7, 8, 9, 139] (And.intro (And.intro rfl rfl) (And.intro (And.intro rfl rfl) zrB)) fun j => ?_
   obtain ⟨c1190, h1191, hF⟩ := zrQ hF
   refine zbi hO (zpl r1169 r1183 h1191) rfl fun _ σ _ _ hO h1192 h1193 => ?_
   have hL := hL.trans h1192
   have r1169 := r1169.le h1192
   have r1183 := r1183.le h1192
   have r1165 := r1165.le h1192
   have r1179 := r1179.le h1192
   obtain ⟨rfl, rfl⟩ := h1193
   have hO := zrP4 hO
   refine za hO 1 [] [(145, .bool (!c1190))] [2, 3, 7, 8, 9, 139] zrA fun j => ?_
   refine zE (zrM hb1189) ?_
   refine zc ?_
   cases hF
   refine zi ?_
   exact ⟨rfl, _, zrJ zry, hO, hL, r1165, r1169, r1179, r1183⟩
  rintro e σ ⟨_, hA, hO, hL, r1165, r1169, r1179, r1183⟩
  rw [← zV _ _ hA]
  refine zc (zq hF rfl (fun hF => ?_) fun hF => ?_)
  ·refine zg (zX hO [] [(4, .bool false)] zru fun j => ?_)
   refine zZ (zW (zC (zC (zW (zC ?_)))))
   cases hF
   have hO := hO.sel []
   exact hQ _ _ _ _ _ rfl hO hL ⟨rfl, rfl⟩
  refine zy (zf hO [] [(10, zrK 0)] [2, 3, 7, 8, 9] zrz fun j => ?_)
  refine zbQ (zG (zbx (fun (n : Nat) e' σ' => ∃ (x1215 : Int) (τ' : Hp), agr [(2, zrL b3), (3, zrL b4), (7, zrK x1073), (8, zrL b1172), (9, zrL b1186), (10, zrK x1215)] e' ∧ Obs τ' σ' [some (b3, ⟨[zrR A0_0 p0.Structs c0_0, zrR A0_1 p0.Funcs c0_1], 27, 2, true⟩), some (b4, ⟨[zrR A1_0 p1.Structs c1_0, zrR A1_1 p1.Funcs c1_1], 27, 2, true⟩), zdq b1172 y1159.Name y1159.Line (zrR A1166 y1159.Params c1167) (y1159.Result.Kind.toNat : Int) y1159.Result.N y1159.Result.Name (zrR A1170 y1159.Body c1171), zdq b1186 y1173.Name y1173.Line (zrR A1180 y1173.Params c1181) (y1173.Result.Kind.toNat : Int) y1173.Result.N y1173.Result.Name (zrR A1184 y1173.Body c1185)] ∧ Hp.le τ τ' ∧ RdT zco τ' (zrR A1166 y1159.Params c1167) y1159.Params ∧ RdT zu τ' (zrR A1170 y1159.Body c1171) y1159.Body ∧ RdT zco τ' (zrR A1180 y1173.Params c1181) y1173.Params ∧ RdT zu τ' (zrR A1184 y1173.Body c1185) y1173.Body ∧ zfr (zds p0 p1 n1157) x1073 y1159 y1173 n x1215 = some rr) big ⟨0, _, zrJ zry, hO, hL, r1165, r1169, r1179, r1183, hF⟩ ?_))
  clear hF hO hL
  rintro n1228 e σ ⟨x1215, _, hA, hO, hL, r1211, r1212, r1213, r1214, hF⟩
  rw [← zV _ _ hA]
  cases n1228 with
  | zero => exact nomatch (show none = some rr from hF)
  | succ n1228 =>
  replace hF : zgS (zfr (zds p0 p1 n1157) x1073 y1159 y1173 n1228) (zds p0 p1 n1157) x1073 y1159 y1173 x1215 = some rr := hF
  unfold zgS at hF
  refine zg (zf hO [2] [(151, .bool (decide (x1215 < (y1159.Params.length : Int))))] [2, 3, 7, 8, 9, 10] (And.intro (And.intro rfl rfl) zrA) fun j => ?_)
  refine zq hF rfl (fun hF => ?_) fun hF => ?_
  ·refine zy (zG (zbN (za hO 3 [2] [(155, zrR A1166 y1159.Params c1167), (156, zrK x1215)] [2, 3, 7, 8, 9, 10] (And.intro (And.intro rfl rfl) zrB) fun j => ?_)))
   obtain ⟨y1230, g1231, hF⟩ := zrQ hF
   refine zU (T := zco) r1211 hO.base rfl rfl g1231 (by decide) fun a1232 _ k1233 m1234 => ?_
   obtain rfl : _ = ([.string y1230.Name, .int .u8 y1230.Type_.Kind.toNat, .int .i64 y1230.Type_.N, .string y1230.Type_.Name] : List Value) := k1233
   refine zM rfl ((m1234.le hO.base).all rfl) ?_
   refine za hO 3 [3] [(160, zrR A1180 y1173.Params c1181), (161, zrK x1215)] [2, 3, 7, 8, 9, 10, 158] (And.intro (And.intro rfl rfl) zrC) fun j => ?_
   obtain ⟨y1235, g1236, hF⟩ := zrQ hF
   refine zU (T := zco) r1213 hO.base rfl rfl g1236 (by decide) fun a1237 _ k1238 m1239 => ?_
   obtain rfl : _ = ([.string y1235.Name, .int .u8 y1235.Type_.Kind.toNat, .int .i64 y1235.Type_.N, .string y1235.Type_.Name] : List Value) := k1238
   refine zM rfl ((m1239.le hO.base).all rfl) ?_
   refine zf hO [] [(164, .bool (!((zbe y1230.Name y1235.Name) && (( (y1230.Type_.Kind.toNat : Int) == (y1235.Type_.Kind.toNat : Int)) && (( y1230.Type_.N == y1235.Type_.N) && ((zbe y1230.Type_.Name y1235.Type_.Name) && true))))))] [2, 3, 7, 8, 9, 10] zrA fun j => ?_
   refine zbC (zq hF rfl (fun hF => ?_) fun hF => ?_)
   ·refine zg (zX hO [] [(4, .bool false)] zru fun j => ?_)
    refine zZ (zW (zC (zC (zW (zC (zW ?_))))))
    refine zC (zC (zW (zC ?_)))
    cases hF
    have hO := hO.sel []
    exact hQ _ _ _ _ _ rfl hO hL ⟨rfl, rfl⟩
   refine zy (zi (zL (zm (zbt (zf hO [] [(10, zrK (IntKind.i64.wrap (x1215 + 1)))] [2, 3, 7, 8, 9] zrz fun j => ?_)))))
   refine zi (zm ?_)
   exact ⟨n1228, Nat.lt_succ_self _, (IntKind.i64.wrap (x1215 + 1)), _, zrJ zry, hO, hL, r1211, r1212, r1213, r1214, hF⟩
  refine zbz (zbA (zby (zm (zi (zL (zm ?_))))))
  refine zbt (zf hO [] [(7, zrK (IntKind.i64.wrap (x1073 + 1)))] [2, 3] zrw fun j => ?_)
  refine zi (zm ?_)
  have hO := hO.sel [0, 1]
  exact ⟨n1157, Nat.lt_succ_self _, (IntKind.i64.wrap (x1073 + 1)), _, zrJ zrv, hO, hL, hF⟩
 refine zbz (zbA (zby (zm (zX hO [] [(4, .bool true)] zru fun j => ?_))))
 refine z2 ?_
 cases hF
 have hO := hO.sel []
 exact hQ _ _ _ _ _ rfl hO hL ⟨rfl, rfl⟩
theorem zqo {τ : Hp} {v0 : Value} {p0 : (List zo)} {v1 : Value} {p1 : (List zo)} (r0 : RdT zl τ v0 p0) (r1 : RdT zl τ v1 p1) {rr : Bool} (hF : zhk p0 p1 = some rr) :
  Ctr Try.prog 12 #[v0, v1] τ [] (fun v τ' vs' => v = .bool rr ∧ vs' = []) := by
 obtain ⟨A0, c0, rfl, -⟩ := r0.form
 obtain ⟨A1, c1, rfl, -⟩ := r1.form
 refine zbd (args := [.slice A0 p0.length c0, .slice A1 p1.length c1]) hm Try.func12 s12 rfl fun w0 σ hO Q hQ => ?_
 unfold zhk at hF
 have hL := Hp.le.refl τ
 show wpn _ _ a12.body _ _ _
 unfold a12
 dsimp only
 refine zf hO [] [] [0, 1] zrv fun j => ?_
 refine zg (zf hO [] [(10, .bool ((p0.length : Int) != (p1.length : Int)))] [0, 1] zrw fun j => ?_)
 refine zq hF rfl (fun hF => ?_) fun hF => ?_
 ·refine zg (zX hO [] [(4, .bool false)] zru fun j => ?_)
  refine zZ ?_
  cases hF
  exact hQ _ _ _ _ _ rfl hO hL ⟨rfl, rfl⟩
 refine zy (zg (zf hO [] [(5, zrK 0)] [0, 1] zrw fun j => ?_))
 refine zG (zbx (fun (n : Nat) e' σ' => ∃ (x16 : Int) (τ' : Hp), agr [(0, zrR A0 p0 c0), (1, zrR A1 p1 c1), (5, zrK x16)] e' ∧ Obs τ' σ' [] ∧ Hp.le τ τ' ∧ zfO p0 p1 n x16 = some rr) big ⟨0, _, zrJ zrv, hO, hL, hF⟩ ?_)
 clear hF hO hL
 rintro n29 e σ ⟨x16, _, hA, hO, hL, hF⟩
 rw [← zV _ _ hA]
 cases n29 with
 | zero => exact nomatch (show none = some rr from hF)
 | succ n29 =>
 replace hF : zgk (zfO p0 p1 n29) p0 p1 x16 = some rr := hF
 unfold zgk at hF
 refine zg (zf hO [] [(14, .bool (decide (x16 < (p0.length : Int))))] [0, 1, 5] zrx fun j => ?_)
 refine zq hF rfl (fun hF => ?_) fun hF => ?_
 ·refine zy (zG (zbN (za hO 2 [] [(17, zrR A0 p0 c0), (18, zrK x16)] [0, 1, 5] zry fun j => ?_)))
  obtain ⟨y31, g32, hF⟩ := zrQ hF
  refine zU (T := zl) (r0.le hL) hO.base rfl rfl g32 (by decide) fun a33 _ k34 m35 => ?_
  obtain rfl : _ = ([.int .u8 y31.Kind.toNat, .string y31.Text, .int .i64 y31.Num, .int .i64 y31.Line] : List Value) := k34
  refine zM rfl ((m35.le hO.base).all rfl) ?_
  refine za hO 2 [] [(21, zrR A1 p1 c1), (22, zrK x16)] [0, 1, 5, 20] zrz fun j => ?_
  obtain ⟨y36, g37, hF⟩ := zrQ hF
  refine zU (T := zl) (r1.le hL) hO.base rfl rfl g37 (by decide) fun a38 _ k39 m40 => ?_
  obtain rfl : _ = ([.int .u8 y36.Kind.toNat, .string y36.Text, .int .i64 y36.Num, .int .i64 y36.Line] : List Value) := k39
  refine zM rfl ((m40.le hO.base).all rfl) ?_
  refine zf hO [] [(25, .bool (!(( (y31.Kind.toNat : Int) == (y36.Kind.toNat : Int)) && ((zbe y31.Text y36.Text) && (( y31.Num == y36.Num) && (( y31.Line == y36.Line) && true))))))] [0, 1, 5] zrx fun j => ?_
  refine zbC (zq hF rfl (fun hF => ?_) fun hF => ?_)
  ·refine zg (zX hO [] [(4, .bool false)] zru fun j => ?_)
   refine zZ (zW (zC (zC (zW (zC ?_)))))
   cases hF
   exact hQ _ _ _ _ _ rfl hO hL ⟨rfl, rfl⟩
  refine zy (zi (zL (zm (zbt (zf hO [] [(5, zrK (IntKind.i64.wrap (x16 + 1)))] [0, 1] zrw fun j => ?_)))))
  refine zi (zm ?_)
  exact ⟨n29, Nat.lt_succ_self _, (IntKind.i64.wrap (x16 + 1)), _, zrJ zrv, hO, hL, hF⟩
 refine zbz (zbA (zby (zm (zX hO [] [(4, .bool true)] zru fun j => ?_))))
 refine z2 ?_
 cases hF
 exact hQ _ _ _ _ _ rfl hO hL ⟨rfl, rfl⟩
theorem zrm {τ : Hp} {v0 : Value} {p0 : (List zo)} (r0 : RdT zl τ v0 p0) {rr : Bool} (hF : zh8 p0 = some rr) :
  Ctr Try.prog 3 #[v0] τ [] (fun v τ' vs' => v = .bool rr ∧ vs' = []) := by
 obtain ⟨A0, c0, rfl, -⟩ := r0.form
 refine zbd (args := [.slice A0 p0.length c0]) hm Try.func3 s3 rfl fun w0 σ hO Q hQ => ?_
 unfold zh8 at hF
 have hL := Hp.le.refl τ
 show wpn _ _ a3.body _ _ _
 unfold a3
 dsimp only
 refine zf hO [] [] [0] zru fun j => ?_
 refine zg (zf hO [] [(12, .bool (decide ((p0.length : Int) > 4000)))] [0] zrv fun j => ?_)
 refine zq hF rfl (fun hF => ?_) fun hF => ?_
 ·refine zg ?_
  obtain ⟨c3, h4, hF⟩ := zrQ hF
  refine zbi hO (zkV h4) rfl fun _ σ _ _ hO h5 h6 => ?_
  have hL := hL.trans h5
  obtain ⟨rfl, rfl⟩ := h6
  have hO : Obs _ _ [] := hO
  refine zX hO [] [(2, .bool c3)] zru fun j => ?_
  refine zZ ?_
  cases hF
  exact hQ _ _ _ _ _ rfl hO hL ⟨rfl, rfl⟩
 refine zy (zA (T := zl) (l := ([] : List zo)) (cs := []) hO rfl rfl rfl (by decide) fun _ σ o9 w10 hO => ?_)
 obtain ⟨A7, c8, rfl, -⟩ := w10.form
 have hO := zrP1 hO
 refine za hO 1 [] [(15, zrR A0 p0 c0)] [0, 14] zrw fun j => ?_
 obtain ⟨_, hr15, hF⟩ := zrQ hF
 refine zfG (T := zl) hO w10 (i := 0) rfl rfl rfl (r0.le hL) hr15 (by decide) fun _ σ o13 w14 hO => ?_
 obtain ⟨A11, c12, rfl, -⟩ := w14.form
 have hO := zrP1 hO
 refine zf hO [] [(3, zrR A11 (([] : List zo) ++ p0) c12)] [0] zrv fun j => ?_
 refine za hO 1 [] [(18, zrR A11 (([] : List zo) ++ p0) c12)] [0, 3] zrw fun j => ?_
 obtain ⟨_, h17, r16, hO⟩ := w14.share hO (i := 0) rfl
 have hL := hL.trans h17
 have hO := zrP1 hO
 obtain ⟨c18, h19, hF⟩ := zrQ hF
 refine zbi hO (zjA r16 h19) rfl fun _ σ _ _ hO h20 h21 => ?_
 have hL := hL.trans h20
 have r16 := r16.le h20
 obtain ⟨v22, v26, rfl, rfl, r23, r27⟩ := h21
 obtain ⟨A24, c25, rfl, -⟩ := r23.form
 obtain ⟨A28, c29, rfl, -⟩ := r27.form
 have hO := zrP1 hO
 refine za hO 4 [] [(20, .agg #[(zrR A24 c18.1.Structs c25), (zrR A28 c18.1.Funcs c29)]), (21, zrK c18.2.1), (22, zrK c18.2.2)] [0, 3] zry fun j => ?_
 refine zbk hO fun b30 σ hO => ?_
 have hO := zrP2 hO
 refine zk hO (i := 1) rfl (off := 0) rfl rfl rfl rfl (Nat.le_of_ble_eq_true rfl) rfl fun σ hO => ?_
 have hO := zrP2 hO
 refine zf hO [] [(5, zrK c18.2.1), (6, zrK c18.2.2)] [0, 3, 4] zry fun j => ?_
 refine za hO 1 [] [(24, zrR A0 p0 c0)] [0, 3, 4, 5, 6] zrz fun j => ?_
 obtain ⟨c31, h32, hF⟩ := zrQ hF
 refine zbi hO (zn8 (r0.le hL) h32) rfl fun _ σ _ _ hO h33 h34 => ?_
 have hL := hL.trans h33
 have r16 := r16.le h33
 have r23 := r23.le h33
 have r27 := r27.le h33
 obtain ⟨v35, v39, rfl, rfl, r36, r40⟩ := h34
 obtain ⟨A37, c38, rfl, -⟩ := r36.form
 obtain ⟨A41, c42, rfl, -⟩ := r40.form
 have hO := zrP2 hO
 refine zbl hO 4 [] [(0, zrR A0 p0 c0), (3, zrR A11 (([] : List zo) ++ p0) c12), (4, zrL b30), (5, zrK c18.2.1), (6, zrK c18.2.2), (26, .agg #[(zrR A37 c31.1.Structs c38), (zrR A41 c31.1.Funcs c42)]), (27, zrK c31.2.1), (28, zrK c31.2.2)] zrB fun j => ?_
 refine zbk hO fun b43 σ hO => ?_
 have hO := zrP3 hO
 refine zk hO (i := 2) rfl (off := 0) rfl rfl rfl rfl (Nat.le_of_ble_eq_true rfl) rfl fun σ hO => ?_
 have hO := zrP3 hO
 refine zf hO [] [(8, zrK c31.2.1), (9, zrK c31.2.2)] [0, 3, 4, 5, 6, 7] zrB fun j => ?_
 refine za hO 7 [] [(37, .bool ((c18.2.1 == c31.2.1) && (c18.2.2 == c31.2.2)))] [0, 3, 4, 7] (And.intro (And.intro rfl rfl) (fun _ => zrJ zrx)) fun j => ?_
 have hO := hO.sel [1, 2]
 have hO := zrP2 hO
 obtain ⟨c44, h45, hF⟩ := zrQ hF
 refine zca 2 (fun e' σ' => ∃ (τ' : Hp), agr [(41, .bool c44), (0, zrR A0 p0 c0), (3, zrR A11 (([] : List zo) ++ p0) c12)] e' ∧ Obs τ' σ' [some (b30, ⟨[zrR A24 c18.1.Structs c25, zrR A28 c18.1.Funcs c29], 27, 2, true⟩), some (b43, ⟨[zrR A37 c31.1.Structs c38, zrR A41 c31.1.Funcs c42], 27, 2, true⟩)] ∧ Hp.le τ τ' ∧ RdT zl τ' (zrR A11 (([] : List zo) ++ p0) c12) (([] : List zo) ++ p0) ∧ RdT zt τ' (zrR A24 c18.1.Structs c25) c18.1.Structs ∧ RdT zs τ' (zrR A28 c18.1.Funcs c29) c18.1.Funcs ∧ RdT zt τ' (zrR A37 c31.1.Structs c38) c31.1.Structs ∧ RdT zs τ' (zrR A41 c31.1.Funcs c42) c31.1.Funcs) ?_ ?_
 ·have hF := h45
  rcases zbp hF with ⟨hb46, hF⟩ | ⟨hb46, hF⟩
  ·refine zbg (zrO hb46) ?_
   refine za hO 2 [0, 1] [(38, .agg #[(zrR A24 c18.1.Structs c25), (zrR A28 c18.1.Funcs c29)]), (39, .agg #[(zrR A37 c31.1.Structs c38), (zrR A41 c31.1.Funcs c42)])] [0, 3, 37] (And.intro (And.intro rfl rfl) (And.intro (And.intro rfl rfl) zry)) fun j => ?_
   obtain ⟨c47, h48, hF⟩ := zrQ hF
   refine zbi hO (zp4 r23 r27 r36 r40 h48) rfl fun _ σ _ _ hO h49 h50 => ?_
   have hL := hL.trans h49
   have r16 := r16.le h49
   have r23 := r23.le h49
   have r27 := r27.le h49
   have r36 := r36.le h49
   have r40 := r40.le h49
   obtain ⟨rfl, rfl⟩ := h50
   have hO := zrP2 hO
   refine zE (zrM hb46) ?_
   refine zc ?_
   cases hF
   refine zi ?_
   exact ⟨rfl, _, zrJ zrv, hO, hL, r16, r23, r27, r36, r40⟩
  refine zbh (zrO hb46) ?_
  refine zE (zrM hb46) ?_
  refine zc ?_
  cases hF
  refine zi ?_
  exact ⟨rfl, _, zrJ zrv, hO, hL, r16, r23, r27, r36, r40⟩
 rintro e σ ⟨_, hA, hO, hL, r16, r23, r27, r36, r40⟩
 rw [← zV _ _ hA]
 refine za hO 1 [] [(42, .bool c44)] [0, 3] zrw fun j => ?_
 have hO := hO.sel []
 have hO : Obs _ _ [] := hO
 obtain ⟨c51, h52, hF⟩ := zrQ hF
 refine zca 2 (fun e' σ' => ∃ (τ' : Hp), agr [(46, .bool c51)] e' ∧ Obs τ' σ' [] ∧ Hp.le τ τ') ?_ ?_
 ·have hF := h52
  rcases zbp hF with ⟨hb53, hF⟩ | ⟨hb53, hF⟩
  ·refine zbg (zrO hb53) ?_
   refine za hO 2 [] [(43, zrR A11 (([] : List zo) ++ p0) c12), (44, zrR A0 p0 c0)] [42] zrw fun j => ?_
   obtain ⟨c54, h55, hF⟩ := zrQ hF
   refine zbi hO (zqo r16 (r0.le hL) h55) rfl fun _ σ _ _ hO h56 h57 => ?_
   have hL := hL.trans h56
   have r16 := r16.le h56
   obtain ⟨rfl, rfl⟩ := h57
   have hO : Obs _ _ [] := hO
   refine zE (zrM hb53) ?_
   refine zc ?_
   cases hF
   refine zi ?_
   exact ⟨rfl, _, zrJ (trivial), hO, hL⟩
  refine zbh (zrO hb53) ?_
  refine zE (zrM hb53) ?_
  refine zc ?_
  cases hF
  refine zi ?_
  exact ⟨rfl, _, zrJ (trivial), hO, hL⟩
 rintro e σ ⟨_, hA, hO, hL⟩
 rw [← zV _ _ hA]
 refine zbl hO 1 [] [(47, .bool c51)] zru fun j => ?_
 obtain ⟨c58, h59, hF⟩ := zrQ hF
 refine zca 2 (fun e' σ' => ∃ (τ' : Hp), agr [(49, .bool c58)] e' ∧ Obs τ' σ' [] ∧ Hp.le τ τ') ?_ ?_
 ·have hF := h59
  rcases zbp hF with ⟨hb60, hF⟩ | ⟨hb60, hF⟩
  ·refine zbg (zrO hb60) ?_
   obtain ⟨c61, h62, hF⟩ := zrQ hF
   refine zbi hO (zkV h62) rfl fun _ σ _ _ hO h63 h64 => ?_
   have hL := hL.trans h63
   obtain ⟨rfl, rfl⟩ := h64
   have hO : Obs _ _ [] := hO
   refine zE (zrM hb60) ?_
   refine zc ?_
   cases hF
   refine zi ?_
   exact ⟨rfl, _, zrJ (trivial), hO, hL⟩
  refine zbh (zrO hb60) ?_
  refine zE (zrM hb60) ?_
  refine zc ?_
  cases hF
  refine zi ?_
  exact ⟨rfl, _, zrJ (trivial), hO, hL⟩
 rintro e σ ⟨_, hA, hO, hL⟩
 rw [← zV _ _ hA]
 refine zX hO [] [(2, .bool c58)] zru fun j => ?_
 refine z2 ?_
 cases hF
 exact hQ _ _ _ _ _ rfl hO hL ⟨rfl, rfl⟩
end Go.Proofs.Ytnhboaaikehpoaa
