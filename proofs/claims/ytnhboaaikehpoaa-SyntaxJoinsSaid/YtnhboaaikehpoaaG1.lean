import Derived.Test.YtnhboaaikehpoaaG0
namespace Go.Proofs.Ytnhboaaikehpoaa
open Go.Ab Go.RowKit
set_option linter.unusedVariables false
set_option linter.unusedSimpArgs false
set_option maxRecDepth 10000
set_option maxHeartbeats 1000000
theorem zlK {τ : Hp} {q0 : zc} {bm0 : Nat} {vm0_0 vm0_2 : Value} {om0_2 : Ob} {vm0_3 : Value} {om0_3 : Ob} (rm0_0 : RdT zt τ vm0_0 q0.cursor.tokens) (wm0_2 : ze zn 71 τ vm0_2 q0.prog.Structs om0_2) (wm0_3 : ze zk 50 τ vm0_3 q0.prog.Funcs om0_3) {rr : Bool} (hF : zfe q0 = some rr) :
  Ctr Try.prog 96 #[.pointer (some ⟨bm0, 0, none⟩)] τ [zw bm0 vm0_0 q0.cursor.at_ vm0_2 vm0_3, om0_2, om0_3] (fun v τ' vs' => v = .bool rr ∧ vs' = [zw bm0 vm0_0 q0.cursor.at_ vm0_2 vm0_3, om0_2, om0_3]) := by
 obtain ⟨Am0_0, cm0_0, rfl, -⟩ := rm0_0.form
 obtain ⟨Am0_2, cm0_2, rfl, -⟩ := wm0_2.form
 obtain ⟨Am0_3, cm0_3, rfl, -⟩ := wm0_3.form
 refine zbI (args := [.pointer (some ⟨bm0, 0, none⟩)]) hm Try.func96 s96 rfl fun w0 σ hO Q hQ => ?_
 unfold zfe at hF
 have hL := Hp.le.refl τ
 show wpn _ _ a96.body _ _ _
 unfold a96
 dsimp only
 refine zh hO [] [] [0] zrU fun j => ?_
 refine zcD (zd hO 12 [0, 0] [(7, zsb bm0), (8, zsh Am0_0 q0.cursor.tokens cm0_0), (12, .pointer (some ⟨bm0, 1, none⟩)), (13, zsa q0.cursor.at_), (15, .agg #[(zsh Am0_0 q0.cursor.tokens cm0_0), (.int .i64 (IntKind.i64.wrap (q0.cursor.at_ + 1)))])] [0] (And.intro (And.intro rfl rfl) (And.intro (And.intro rfl rfl) zrZ)) fun j => ?_)
 refine zv (zbg hO fun b2 σ hO => ?_)
 have hO := zsf4 hO
 refine za (zu ⟨(zf rfl (hO.val (i := 0) (off := 1) (agg := false) (n := 1) rfl rfl) rfl), (zf rfl (hO.val (i := 0) (off := 0) (agg := false) (n := 1) rfl rfl) rfl), trivial⟩ ?_)
 refine zs hO (i := 3) rfl (off := 0) rfl rfl rfl rfl (Nat.le_of_ble_eq_true rfl) rfl fun σ hO => ?_
 have hO := zsf4 hO
 refine za (zd hO 3 [] [(18, zsb bm0)] [0, 3] zrW fun j => ?_)
 obtain ⟨c3, h4, hF⟩ := zsg hF
 have hO := hO.sel [3, 0, 1, 2]
 refine zbB (hs := [_]) (vs := [_, _, _]) hO (zd8 (rm0_0.le hL) (wm0_2.le hL) (wm0_3.le hL) (RdT.nil Ty.str _) h4) rfl fun _ σ _ _ hO h5 h6 => ?_
 have hL := hL.trans h5
 obtain ⟨rfl, rfl⟩ := h6
 have hO := zsf4 hO
 have hO := hO.sel [1, 2, 3, 0]
 have hO := zsf4 hO
 refine zd hO 1 [] [(20, .bool c3)] [0, 3] zrW fun j => ?_
 obtain ⟨c7, h8, hF⟩ := zsg hF
 refine zcr 2 (fun e' σ' => ∃ (τ' : Hp), agr [(23, .bool c7), (0, zsb bm0)] e' ∧ Obs τ' σ' [zw bm0 (zsh Am0_0 q0.cursor.tokens cm0_0) q0.cursor.at_ (zsh Am0_2 q0.prog.Structs cm0_2) (zsh Am0_3 q0.prog.Funcs cm0_3), om0_2, om0_3, some (b2, ⟨[zsh Am0_0 q0.cursor.tokens cm0_0, .int .i64 (IntKind.i64.wrap (q0.cursor.at_ + 1))], 58, 2, true⟩)] ∧ Hp.le τ τ') ?_ ?_
 ·have hF := h8
  rcases zbD hF with ⟨hb9, hF⟩ | ⟨hb9, hF⟩
  ·refine zbv (zse hb9) ?_
   refine zB (T := Ty.str) (l := ([(⟨#[40]⟩ : ByteArray)] : List ByteArray)) (cs := [.string (⟨#[40]⟩ : ByteArray)]) hO rfl ⟨[.string (⟨#[40]⟩ : ByteArray)], _, rfl, rfl, rfl⟩ rfl (by decide) fun _ σ o12 w13 hO => ?_
   obtain ⟨A10, c11, rfl, -⟩ := w13.form
   have hO := zsf5 hO
   obtain ⟨_, h15, r14, hO⟩ := w13.share hO (i := 4) rfl
   have hL := hL.trans h15
   have hO := zsf5 hO
   obtain ⟨c16, h17, hF⟩ := zsg hF
   have hO := hO.sel [0, 1, 2, 4, 3]
   refine zbB (hs := [_, _, _, _]) (vs := [_]) hO (zpA (q0 := (⟨q0.cursor.tokens, (IntKind.i64.wrap (q0.cursor.at_ + 1))⟩ : zbf)) (rm0_0.le hL) r14 h17) rfl fun _ σ _ _ hO h18 h19 => ?_
   have hL := hL.trans h18
   have r14 := r14.le h18
   obtain ⟨rfl, rfl⟩ := h19
   have hO := zsf5 hO
   have hO := hO.sel [0, 1, 2, 4, 3]
   have hO := zsf5 hO
   refine zM (zsc hb9) ?_
   refine za ?_
   cases hF
   refine zj ?_
   have hO := hO.sel [0, 1, 2, 3]
   exact ⟨rfl, _, zr9 zrU, hO, hL⟩
  refine zbw (zse hb9) ?_
  refine zM (zsc hb9) ?_
  refine za ?_
  cases hF
  refine zj ?_
  exact ⟨rfl, _, zr9 zrU, hO, hL⟩
 rintro e σ ⟨_, hA, hO, hL⟩
 rw [← zbc _ _ hA]
 refine zh hO [] [(2, .bool c7)] [0] zrV fun j => ?_
 refine zbt ?_
 cases hF
 have hO := hO.sel [0, 1, 2]
 exact hQ _ _ _ _ _ rfl hO hL ⟨rfl, rfl⟩
theorem zi3 {τ : Hp} {q0 : zc} {bm0 : Nat} {vm0_0 vm0_2 : Value} {om0_2 : Ob} {vm0_3 : Value} {om0_3 : Ob} (rm0_0 : RdT zt τ vm0_0 q0.cursor.tokens) (wm0_2 : ze zn 71 τ vm0_2 q0.prog.Structs om0_2) (wm0_3 : ze zk 50 τ vm0_3 q0.prog.Funcs om0_3) {rr : Except (Value × zc) ((List zb) × zc)} (hF : zf7 q0 = some rr) :
  zbM Try.prog 97 #[.pointer (some ⟨bm0, 0, none⟩)] τ [zw bm0 vm0_0 q0.cursor.at_ vm0_2 vm0_3, om0_2, om0_3] (fun v τ' vs' => match (generalizing := false) rr with | .ok rr => ∃ (v0 : Value) (o0 : Ob) (u0_0 u0_2 : Value) (y0_2 : Ob) (u0_3 : Value) (y0_3 : Ob), v = v0 ∧ vs' = [o0, zw bm0 u0_0 rr.2.cursor.at_ u0_2 u0_3, y0_2, y0_3] ∧ ze zC 55 τ' v0 rr.1 o0 ∧ RdT zt τ' u0_0 rr.2.cursor.tokens ∧ ze zn 71 τ' u0_2 rr.2.prog.Structs y0_2 ∧ ze zk 50 τ' u0_3 rr.2.prog.Funcs y0_3 | .error _ => False) (fun ch τ' vs' => match (generalizing := false) rr with | .ok _ => False | .error ee => ∃ (u0_0 u0_2 : Value) (y0_2 : Ob) (u0_3 : Value) (y0_3 : Ob), ch = [{ v := ee.1, recovered := false }] ∧ vs' = [zw bm0 u0_0 ee.2.cursor.at_ u0_2 u0_3, y0_2, y0_3] ∧ RdT zt τ' u0_0 ee.2.cursor.tokens ∧ ze zn 71 τ' u0_2 ee.2.prog.Structs y0_2 ∧ ze zk 50 τ' u0_3 ee.2.prog.Funcs y0_3) := by
 obtain ⟨Am0_0, cm0_0, rfl, -⟩ := rm0_0.form
 obtain ⟨Am0_2, cm0_2, rfl, -⟩ := wm0_2.form
 obtain ⟨Am0_3, cm0_3, rfl, -⟩ := wm0_3.form
 refine zcL (args := [.pointer (some ⟨bm0, 0, none⟩)]) hm Try.func97 s97 rfl fun w0 σ hP hO Q hQ => ?_
 unfold zf7 at hF
 have hL := Hp.le.refl τ
 show wpn _ _ a97.body _ _ _
 unfold a97
 dsimp only
 refine zh hO [] [] [0] zrU fun j => ?_
 refine zd hO 3 [] [(6, zsb bm0)] [0] zrV fun j => ?_
 refine zB (T := Ty.str) (l := ([(⟨#[40]⟩ : ByteArray)] : List ByteArray)) (cs := [.string (⟨#[40]⟩ : ByteArray)]) hO rfl ⟨[.string (⟨#[40]⟩ : ByteArray)], _, rfl, rfl, rfl⟩ rfl (by decide) fun _ σ o4 w5 hO => ?_
 obtain ⟨A2, c3, rfl, -⟩ := w5.form
 have hO := zsf4 hO
 obtain ⟨_, h7, r6, hO⟩ := w5.share hO (i := 3) rfl
 have hL := hL.trans h7
 have hO := zsf4 hO
 have hO := hO.sel [3, 0, 1, 2]
 rcases zO hF with ⟨x12, h13, hF⟩ | ⟨c8, h9, hF⟩
 ·refine zN (hs := [_]) (vs := [_, _, _]) hO (zbG (rm0_0.le hL) (wm0_2.le hL) (wm0_3.le hL) r6 h13) (fun _ _ _ h => False.elim h) rfl fun _ σ _ _ hO h14 h15 => ?_
  have hL := hL.trans h14
  have r6 := r6.le h14
  obtain ⟨v16, v20, o23, v25, o28, rfl, rfl, r19, w24, w29⟩ := h15
  obtain ⟨A17, c18, rfl, -⟩ := r19.form
  obtain ⟨A21, c22, rfl, -⟩ := w24.form
  obtain ⟨A26, c27, rfl, -⟩ := w29.form
  have hO := zsf4 hO
  cases hF
  have hO := hO.sel [1, 2, 3]
  exact hP _ _ _ _ hO hL ⟨_, _, _, _, _, rfl, rfl, r19, w24, w29⟩
 refine zP (hs := [_]) (vs := [_, _, _]) hO (zbG (rm0_0.le hL) (wm0_2.le hL) (wm0_3.le hL) r6 h9) (fun _ _ _ h => False.elim h) rfl fun _ σ _ _ hO h10 h11 => ?_
 have hL := hL.trans h10
 have r6 := r6.le h10
 obtain ⟨v30, v34, o37, v39, o42, rfl, rfl, r33, w38, w43⟩ := h11
 obtain ⟨A31, c32, rfl, -⟩ := r33.form
 obtain ⟨A35, c36, rfl, -⟩ := w38.form
 obtain ⟨A40, c41, rfl, -⟩ := w43.form
 have hO := zsf4 hO
 refine za (zo (zd hO 3 [] [(11, zsb bm0)] [0] zrV fun j => ?_))
 refine zB (T := Ty.str) (l := ([(⟨#[41]⟩ : ByteArray)] : List ByteArray)) (cs := [.string (⟨#[41]⟩ : ByteArray)]) hO rfl ⟨[.string (⟨#[41]⟩ : ByteArray)], _, rfl, rfl, rfl⟩ rfl (by decide) fun _ σ o46 w47 hO => ?_
 obtain ⟨A44, c45, rfl, -⟩ := w47.form
 have hO := zsf5 hO
 obtain ⟨_, h49, r48, hO⟩ := w47.share hO (i := 4) rfl
 have hL := hL.trans h49
 have r33 := r33.le h49
 have w38 := w38.le h49
 have w43 := w43.le h49
 have hO := zsf5 hO
 obtain ⟨c50, h51, hF⟩ := zsg hF
 have hO := hO.sel [0, 4, 1, 2, 3]
 refine zbB (hs := [_, _]) (vs := [_, _, _]) hO (zca r33 w38 w43 r48 h51) rfl fun _ σ _ _ hO h52 h53 => ?_
 have hL := hL.trans h52
 have r48 := r48.le h52
 obtain ⟨v54, v58, o61, v63, o66, rfl, rfl, r57, w62, w67⟩ := h53
 obtain ⟨A55, c56, rfl, -⟩ := r57.form
 obtain ⟨A59, c60, rfl, -⟩ := w62.form
 obtain ⟨A64, c65, rfl, -⟩ := w67.form
 have hO := zsf5 hO
 refine za (zE hF rfl (fun hF => ?_) fun hF => ?_)
 ·refine zo (zh hO [] [(2, .slice none 0 0)] [0] zrV fun j => ?_)
  refine zbq ?_
  have hO := hO.no
  have hO := zsf6 hO
  cases hF
  have hO := hO.sel [5, 2, 3, 4]
  refine (hQ _ _ _ _ _ rfl hO hL ?_).1
  exact ⟨_, _, _, _, _, _, _, rfl, rfl, (ze.nil _ _ _), r57, w62, w67⟩
 refine zS (zd hO 1 [] [(14, zsb bm0)] [0] zrV fun j => ?_)
 rcases zO hF with ⟨x73, h74, hF⟩ | ⟨c69, h70, hF⟩
 ·refine zN (hs := [_, _]) (vs := [_, _, _]) hO (zcg r57 w62 w67 h74) (fun _ _ _ h => False.elim h) rfl fun _ σ _ _ hO h75 h76 => ?_
  have hL := hL.trans h75
  obtain ⟨v77, v81, o84, v86, o89, rfl, rfl, r80, w85, w90⟩ := h76
  obtain ⟨A78, c79, rfl, -⟩ := r80.form
  obtain ⟨A82, c83, rfl, -⟩ := w85.form
  obtain ⟨A87, c88, rfl, -⟩ := w90.form
  have hO := zsf5 hO
  cases hF
  have hO := hO.sel [2, 3, 4]
  exact hP _ _ _ _ hO hL ⟨_, _, _, _, _, rfl, rfl, r80, w85, w90⟩
 refine zP (hs := [_, _]) (vs := [_, _, _]) hO (zcg r57 w62 w67 h70) (fun _ _ _ h => False.elim h) rfl fun _ σ _ _ hO h71 h72 => ?_
 have hL := hL.trans h71
 obtain ⟨v91, v95, v99, o102, v104, o107, rfl, rfl, r92, r98, w103, w108⟩ := h72
 obtain ⟨A93, c94, rfl, -⟩ := r92.form
 obtain ⟨A96, c97, rfl, -⟩ := r98.form
 obtain ⟨A100, c101, rfl, -⟩ := w103.form
 obtain ⟨A105, c106, rfl, -⟩ := w108.form
 have hO := zsf5 hO
 refine zB (T := zC) (l := ([(⟨c69.1.Kind, c69.1.Num, c69.1.Name, c69.1.Field, c69.1.Op, c69.1.Kids⟩ : zb)] : List zb)) (cs := [.int .u8 (c69.1.Kind.toNat : Int), .int .i64 c69.1.Num, .string c69.1.Name, .string c69.1.Field, .string c69.1.Op, zsh A93 c69.1.Kids c94]) hO rfl ⟨[.int .u8 (c69.1.Kind.toNat : Int), .int .i64 c69.1.Num, .string c69.1.Name, .string c69.1.Field, .string c69.1.Op, zsh A93 c69.1.Kids c94], _, rfl, (zcz ⟨_, rfl, r92⟩), rfl⟩ rfl (by decide) fun _ σ o111 w112 hO => ?_
 obtain ⟨A109, c110, rfl, -⟩ := w112.form
 have hO := zsf6 hO
 refine zh hO [] [(3, zsh A109 ([(⟨c69.1.Kind, c69.1.Num, c69.1.Name, c69.1.Field, c69.1.Op, c69.1.Kids⟩ : zb)] : List zb) c110)] [0] zrV fun j => ?_
 refine zY ?_
 have hO := hO.sel [2, 3, 4, 5]
 refine zbY (fun (n : Nat) e' σ' => ∃ (A241 : Option Addr) (c242 : Nat) (x243 : List zr) (x245 : Int) (A246 : Option Addr) (c247 : Nat) (o248 : Ob) (x249 : List zl) (A251 : Option Addr) (c252 : Nat) (o253 : Ob) (x254 : List zi) (A256 : Option Addr) (c257 : Nat) (o258 : Ob) (x259 : List zb) (τ' : Hp), agr [(0, zsb bm0), (3, zsh A256 x259 c257)] e' ∧ Obs τ' σ' [zw bm0 (zsh A241 x243 c242) x245 (zsh A246 x249 c247) (zsh A251 x254 c252), o248, o253, o258] ∧ Hp.le τ τ' ∧ RdT zt τ' (zsh A241 x243 c242) x243 ∧ ze zn 71 τ' (zsh A246 x249 c247) x249 o248 ∧ ze zk 50 τ' (zsh A251 x254 c252) x254 o253 ∧ ze zC 55 τ' (zsh A256 x259 c257) x259 o258 ∧ zfF  n x243 x245 x249 x254 x259 = some rr) big ⟨A96, c97, c69.2.cursor.tokens, c69.2.cursor.at_, A100, c101, o102, c69.2.prog.Structs, A105, c106, o107, c69.2.prog.Funcs, A109, c110, o111, ([(⟨c69.1.Kind, c69.1.Num, c69.1.Name, c69.1.Field, c69.1.Op, c69.1.Kids⟩ : zb)] : List zb), _, zr9 zrU, hO, hL, r98, w103, w108, w112, hF⟩ ?_
 clear hF hO hL
 rintro n373 e σ ⟨A241, c242, x243, x245, A246, c247, o248, x249, A251, c252, o253, x254, A256, c257, o258, x259, _, hA, hO, hL, r244, w250, w255, w260, hF⟩
 rw [← zbc _ _ hA]
 cases n373 with
 | zero => exact nomatch (show none = some rr from hF)
 | succ n373 =>
 replace hF : zhL (zfF  n373) x243 x245 x249 x254 x259 = some rr := hF
 unfold zhL at hF
 refine zo (zd hO 3 [] [(19, zsb bm0)] [0, 3] zrW fun j => ?_)
 refine zB (T := Ty.str) (l := ([(⟨#[44]⟩ : ByteArray)] : List ByteArray)) (cs := [.string (⟨#[44]⟩ : ByteArray)]) hO rfl ⟨[.string (⟨#[44]⟩ : ByteArray)], _, rfl, rfl, rfl⟩ rfl (by decide) fun _ σ o376 w377 hO => ?_
 obtain ⟨A374, c375, rfl, -⟩ := w377.form
 have hO := zsf5 hO
 obtain ⟨_, h379, r378, hO⟩ := w377.share hO (i := 4) rfl
 have hL := hL.trans h379
 have w260 := w260.le h379
 have r244 := r244.le h379
 have w250 := w250.le h379
 have w255 := w255.le h379
 have hO := zsf5 hO
 obtain ⟨c380, h381, hF⟩ := zsg hF
 have hO := hO.sel [3, 4, 0, 1, 2]
 refine zbB (hs := [_, _]) (vs := [_, _, _]) hO (zca (q0 := (⟨(⟨x243, x245⟩ : zbf), (⟨x249, x254⟩ : zL)⟩ : zc)) r244 w250 w255 r378 h381) rfl fun _ σ _ _ hO h382 h383 => ?_
 have hL := hL.trans h382
 have w260 := w260.le h382
 have r378 := r378.le h382
 obtain ⟨v384, v388, o391, v393, o396, rfl, rfl, r387, w392, w397⟩ := h383
 obtain ⟨A385, c386, rfl, -⟩ := r387.form
 obtain ⟨A389, c390, rfl, -⟩ := w392.form
 obtain ⟨A394, c395, rfl, -⟩ := w397.form
 have hO := zsf5 hO
 refine za (zE hF rfl (fun hF => ?_) fun hF => ?_)
 ·refine zS (zcF (zY (zbR (zd hO 2 [] [(22, zsh A256 x259 c257), (23, zsb bm0)] [0] zrW fun j => ?_))))
  rcases zO hF with ⟨x403, h404, hF⟩ | ⟨c399, h400, hF⟩
  ·refine zN (hs := [_, _]) (vs := [_, _, _]) hO (zcg r387 w392 w397 h404) (fun _ _ _ h => False.elim h) rfl fun _ σ _ _ hO h405 h406 => ?_
   have hL := hL.trans h405
   have w260 := w260.le h405
   obtain ⟨v407, v411, o414, v416, o419, rfl, rfl, r410, w415, w420⟩ := h406
   obtain ⟨A408, c409, rfl, -⟩ := r410.form
   obtain ⟨A412, c413, rfl, -⟩ := w415.form
   obtain ⟨A417, c418, rfl, -⟩ := w420.form
   have hO := zsf5 hO
   cases hF
   have hO := hO.sel [2, 3, 4]
   exact hP _ _ _ _ hO hL ⟨_, _, _, _, _, rfl, rfl, r410, w415, w420⟩
  refine zP (hs := [_, _]) (vs := [_, _, _]) hO (zcg r387 w392 w397 h400) (fun _ _ _ h => False.elim h) rfl fun _ σ _ _ hO h401 h402 => ?_
  have hL := hL.trans h401
  have w260 := w260.le h401
  obtain ⟨v421, v425, v429, o432, v434, o437, rfl, rfl, r422, r428, w433, w438⟩ := h402
  obtain ⟨A423, c424, rfl, -⟩ := r422.form
  obtain ⟨A426, c427, rfl, -⟩ := r428.form
  obtain ⟨A430, c431, rfl, -⟩ := w433.form
  obtain ⟨A435, c436, rfl, -⟩ := w438.form
  have hO := zsf5 hO
  obtain ⟨_, hr443, hF⟩ := zsg hF
  refine zmo (T := zC) (y := (⟨c399.1.Kind, c399.1.Num, c399.1.Name, c399.1.Field, c399.1.Op, c399.1.Kids⟩ : zb)) hO w260 (i := 0) rfl rfl (fun _ => rfl) rfl (zcz ⟨_, rfl, r422⟩) rfl hr443 (by decide) fun u _ σ o441 w442 hO => ?_
  obtain ⟨A439, c440, rfl, -⟩ := w442.form
  have hO := zsf5 hO
  refine zh hO [] [(3, zsh A439 (x259 ++ [(⟨c399.1.Kind, c399.1.Num, c399.1.Name, c399.1.Field, c399.1.Op, c399.1.Kids⟩ : zb)]) c440)] [0] zrV fun j => ?_
  refine zj (zbe (zp (zj (zp ?_))))
  have hO := hO.sel [2, 3, 4, 0]
  exact ⟨n373, Nat.lt_succ_self _, A426, c427, c399.2.cursor.tokens, c399.2.cursor.at_, A430, c431, o432, c399.2.prog.Structs, A435, c436, o437, c399.2.prog.Funcs, A439, c440, o441, (x259 ++ [(⟨c399.1.Kind, c399.1.Num, c399.1.Name, c399.1.Field, c399.1.Op, c399.1.Kids⟩ : zb)]), _, zr9 zrU, hO, hL, r428, w433, w438, w442, hF⟩
 refine zbX (zb1 (zb0 (zp (zd hO 3 [] [(29, zsb bm0)] [0, 3] zrW fun j => ?_))))
 refine zB (T := Ty.str) (l := ([(⟨#[41]⟩ : ByteArray)] : List ByteArray)) (cs := [.string (⟨#[41]⟩ : ByteArray)]) hO rfl ⟨[.string (⟨#[41]⟩ : ByteArray)], _, rfl, rfl, rfl⟩ rfl (by decide) fun _ σ o446 w447 hO => ?_
 obtain ⟨A444, c445, rfl, -⟩ := w447.form
 have hO := zsf6 hO
 obtain ⟨_, h449, r448, hO⟩ := w447.share hO (i := 5) rfl
 have hL := hL.trans h449
 have w260 := w260.le h449
 have r387 := r387.le h449
 have w392 := w392.le h449
 have w397 := w397.le h449
 have hO := zsf6 hO
 have hO := hO.sel [0, 1, 5, 2, 3, 4]
 rcases zO hF with ⟨x454, h455, hF⟩ | ⟨c450, h451, hF⟩
 ·refine zN (hs := [_, _, _]) (vs := [_, _, _]) hO (zbG r387 w392 w397 r448 h455) (fun _ _ _ h => False.elim h) rfl fun _ σ _ _ hO h456 h457 => ?_
  have hL := hL.trans h456
  have w260 := w260.le h456
  have r448 := r448.le h456
  obtain ⟨v458, v462, o465, v467, o470, rfl, rfl, r461, w466, w471⟩ := h457
  obtain ⟨A459, c460, rfl, -⟩ := r461.form
  obtain ⟨A463, c464, rfl, -⟩ := w466.form
  obtain ⟨A468, c469, rfl, -⟩ := w471.form
  have hO := zsf6 hO
  cases hF
  have hO := hO.sel [3, 4, 5]
  exact hP _ _ _ _ hO hL ⟨_, _, _, _, _, rfl, rfl, r461, w466, w471⟩
 refine zP (hs := [_, _, _]) (vs := [_, _, _]) hO (zbG r387 w392 w397 r448 h451) (fun _ _ _ h => False.elim h) rfl fun _ σ _ _ hO h452 h453 => ?_
 have hL := hL.trans h452
 have w260 := w260.le h452
 have r448 := r448.le h452
 obtain ⟨v472, v476, o479, v481, o484, rfl, rfl, r475, w480, w485⟩ := h453
 obtain ⟨A473, c474, rfl, -⟩ := r475.form
 obtain ⟨A477, c478, rfl, -⟩ := w480.form
 obtain ⟨A482, c483, rfl, -⟩ := w485.form
 have hO := zsf6 hO
 refine za (zh hO [] [(2, zsh A256 x259 c257)] [0] zrV fun j => ?_)
 refine zbt ?_
 cases hF
 have hO := hO.sel [0, 3, 4, 5]
 refine (hQ _ _ _ _ _ rfl hO hL ?_).1
 exact ⟨_, _, _, _, _, _, _, rfl, rfl, w260, r475, w480, w485⟩
theorem zlv {τ : Hp} {q0 : zc} {bm0 : Nat} {vm0_0 vm0_2 : Value} {om0_2 : Ob} {vm0_3 : Value} {om0_3 : Ob} {q1 : zg} {bm1 : Nat} {vm1_8 vm1_9 vm1_10 : Value} (rm0_0 : RdT zt τ vm0_0 q0.cursor.tokens) (wm0_2 : ze zn 71 τ vm0_2 q0.prog.Structs om0_2) (wm0_3 : ze zk 50 τ vm0_3 q0.prog.Funcs om0_3) (rm1_8 : RdT zC τ vm1_8 q1.Kids) (rm1_9 : RdT zJ τ vm1_9 q1.Body) (rm1_10 : RdT zJ τ vm1_10 q1.Else) {rr : Except (Value × zc × zg) (zc × zg)} (hF : zhE q0 q1 = some rr) :
  zbM Try.prog 99 #[.pointer (some ⟨bm0, 0, none⟩), .pointer (some ⟨bm1, 0, none⟩)] τ [zw bm0 vm0_0 q0.cursor.at_ vm0_2 vm0_3, om0_2, om0_3, zb5 bm1 q1.Kind.toNat q1.Line q1.Name q1.Field q1.Call q1.Type_.Kind.toNat q1.Type_.N q1.Type_.Name vm1_8 vm1_9 vm1_10] (fun v τ' vs' => match (generalizing := false) rr with | .ok rr => ∃ (u0_0 u0_2 : Value) (y0_2 : Ob) (u0_3 : Value) (y0_3 : Ob) (u1_8 u1_9 u1_10 : Value), v = .tuple #[] ∧ vs' = [zw bm0 u0_0 rr.1.cursor.at_ u0_2 u0_3, y0_2, y0_3, zb5 bm1 rr.2.Kind.toNat rr.2.Line rr.2.Name rr.2.Field rr.2.Call rr.2.Type_.Kind.toNat rr.2.Type_.N rr.2.Type_.Name u1_8 u1_9 u1_10] ∧ RdT zt τ' u0_0 rr.1.cursor.tokens ∧ ze zn 71 τ' u0_2 rr.1.prog.Structs y0_2 ∧ ze zk 50 τ' u0_3 rr.1.prog.Funcs y0_3 ∧ RdT zC τ' u1_8 rr.2.Kids ∧ RdT zJ τ' u1_9 rr.2.Body ∧ RdT zJ τ' u1_10 rr.2.Else | .error _ => False) (fun ch τ' vs' => match (generalizing := false) rr with | .ok _ => False | .error ee => ∃ (u0_0 u0_2 : Value) (y0_2 : Ob) (u0_3 : Value) (y0_3 : Ob) (u1_8 u1_9 u1_10 : Value), ch = [{ v := ee.1, recovered := false }] ∧ vs' = [zw bm0 u0_0 ee.2.1.cursor.at_ u0_2 u0_3, y0_2, y0_3, zb5 bm1 ee.2.2.Kind.toNat ee.2.2.Line ee.2.2.Name ee.2.2.Field ee.2.2.Call ee.2.2.Type_.Kind.toNat ee.2.2.Type_.N ee.2.2.Type_.Name u1_8 u1_9 u1_10] ∧ RdT zt τ' u0_0 ee.2.1.cursor.tokens ∧ ze zn 71 τ' u0_2 ee.2.1.prog.Structs y0_2 ∧ ze zk 50 τ' u0_3 ee.2.1.prog.Funcs y0_3 ∧ RdT zC τ' u1_8 ee.2.2.Kids ∧ RdT zJ τ' u1_9 ee.2.2.Body ∧ RdT zJ τ' u1_10 ee.2.2.Else) := by
 obtain ⟨Am0_0, cm0_0, rfl, -⟩ := rm0_0.form
 obtain ⟨Am0_2, cm0_2, rfl, -⟩ := wm0_2.form
 obtain ⟨Am0_3, cm0_3, rfl, -⟩ := wm0_3.form
 obtain ⟨Am1_8, cm1_8, rfl, -⟩ := rm1_8.form
 obtain ⟨Am1_9, cm1_9, rfl, -⟩ := rm1_9.form
 obtain ⟨Am1_10, cm1_10, rfl, -⟩ := rm1_10.form
 refine zcL (args := [.pointer (some ⟨bm0, 0, none⟩), .pointer (some ⟨bm1, 0, none⟩)]) hm Try.func99 s99 rfl fun w0 σ hP hO Q hQ => ?_
 unfold zhE at hF
 have hL := Hp.le.refl τ
 show wpn _ _ a99.body _ _ _
 unfold a99
 dsimp only
 refine zcF (zY (zd hO 3 [] [(16, zsb bm0)] [0, 1] zrW fun j => ?_))
 refine zB (T := Ty.str) (l := ([(⟨#[105, 110, 112, 117, 116]⟩ : ByteArray)] : List ByteArray)) (cs := [.string (⟨#[105, 110, 112, 117, 116]⟩ : ByteArray)]) hO rfl ⟨[.string (⟨#[105, 110, 112, 117, 116]⟩ : ByteArray)], _, rfl, rfl, rfl⟩ rfl (by decide) fun _ σ o5 w6 hO => ?_
 obtain ⟨A3, c4, rfl, -⟩ := w6.form
 have hO := zsf5 hO
 obtain ⟨_, h8, r7, hO⟩ := w6.share hO (i := 4) rfl
 have hL := hL.trans h8
 have hO := zsf5 hO
 obtain ⟨c9, h10, hF⟩ := zsg hF
 have hO := hO.sel [3, 4, 0, 1, 2]
 refine zbB (hs := [_, _]) (vs := [_, _, _]) hO (zca (rm0_0.le hL) (wm0_2.le hL) (wm0_3.le hL) r7 h10) rfl fun _ σ _ _ hO h11 h12 => ?_
 have hL := hL.trans h11
 have r7 := r7.le h11
 obtain ⟨v13, v17, o20, v22, o25, rfl, rfl, r16, w21, w26⟩ := h12
 obtain ⟨A14, c15, rfl, -⟩ := r16.form
 obtain ⟨A18, c19, rfl, -⟩ := w21.form
 obtain ⟨A23, c24, rfl, -⟩ := w26.form
 have hO := zsf5 hO
 refine zh hO [] [(13, .bool c9.1)] [0, 1] zrW fun j => ?_
 refine zb2 (zE hF rfl (fun hF => ?_) fun hF => ?_)
 ·refine zo (zd hO 3 [] [(21, zsb bm0)] [0, 1] zrW fun j => ?_)
  refine zB (T := Ty.str) (l := ([(⟨#[40]⟩ : ByteArray), (⟨#[41]⟩ : ByteArray)] : List ByteArray)) (cs := [.string (⟨#[40]⟩ : ByteArray), .string (⟨#[41]⟩ : ByteArray)]) hO rfl ⟨[.string (⟨#[40]⟩ : ByteArray)], _, rfl, rfl, ⟨[.string (⟨#[41]⟩ : ByteArray)], _, rfl, rfl, rfl⟩⟩ rfl (by decide) fun _ σ o30 w31 hO => ?_
  obtain ⟨A28, c29, rfl, -⟩ := w31.form
  have hO := zsf6 hO
  obtain ⟨_, h33, r32, hO⟩ := w31.share hO (i := 5) rfl
  have hL := hL.trans h33
  have r16 := r16.le h33
  have w21 := w21.le h33
  have w26 := w26.le h33
  have hO := zsf6 hO
  have hO := hO.sel [0, 1, 5, 2, 3, 4]
  rcases zO hF with ⟨x38, h39, hF⟩ | ⟨c34, h35, hF⟩
  ·refine zN (hs := [_, _, _]) (vs := [_, _, _]) hO (zbG r16 w21 w26 r32 h39) (fun _ _ _ h => False.elim h) rfl fun _ σ _ _ hO h40 h41 => ?_
   have hL := hL.trans h40
   have r32 := r32.le h40
   obtain ⟨v42, v46, o49, v51, o54, rfl, rfl, r45, w50, w55⟩ := h41
   obtain ⟨A43, c44, rfl, -⟩ := r45.form
   obtain ⟨A47, c48, rfl, -⟩ := w50.form
   obtain ⟨A52, c53, rfl, -⟩ := w55.form
   have hO := zsf6 hO
   cases hF
   have hO := hO.sel [3, 4, 5, 0]
   exact hP _ _ _ _ hO hL ⟨_, _, _, _, _, _, _, _, rfl, rfl, r45, w50, w55, (rm1_8.le hL), (rm1_9.le hL), (rm1_10.le hL)⟩
  refine zP (hs := [_, _, _]) (vs := [_, _, _]) hO (zbG r16 w21 w26 r32 h35) (fun _ _ _ h => False.elim h) rfl fun _ σ _ _ hO h36 h37 => ?_
  have hL := hL.trans h36
  have r32 := r32.le h36
  obtain ⟨v56, v60, o63, v65, o68, rfl, rfl, r59, w64, w69⟩ := h37
  obtain ⟨A57, c58, rfl, -⟩ := r59.form
  obtain ⟨A61, c62, rfl, -⟩ := w64.form
  obtain ⟨A66, c67, rfl, -⟩ := w69.form
  have hO := zsf6 hO
  refine za (zd hO 3 [] [(26, zsb bm1)] [0, 1] zrW fun j => ?_)
  refine zs hO (i := 0) rfl (off := 0) rfl rfl rfl rfl (Nat.le_of_ble_eq_true rfl) rfl fun σ hO => ?_
  have hO := zsf6 hO
  refine za (zj (zbe (zp (zj ?_))))
  cases hF
  have hO := hO.sel [3, 4, 5, 0]
  refine (hQ _ _ _ _ _ rfl hO hL ?_).2
  exact ⟨_, _, _, _, _, _, _, _, rfl, rfl, r59, w64, w69, (rm1_8.le hL), (rm1_9.le hL), (rm1_10.le hL)⟩
 refine zo (zd hO 1 [] [(28, zsb bm0)] [0, 1] zrW fun j => ?_)
 obtain ⟨c70, h71, hF⟩ := zsg hF
 refine zbB (hs := [_, _]) (vs := [_, _, _]) hO (zlK r16 w21 w26 h71) rfl fun _ σ _ _ hO h72 h73 => ?_
 have hL := hL.trans h72
 have r16 := r16.le h72
 have w21 := w21.le h72
 have w26 := w26.le h72
 obtain ⟨rfl, rfl⟩ := h73
 have hO := zsf5 hO
 refine zh hO [] [(27, .bool c70)] [0, 1] zrW fun j => ?_
 refine zE hF rfl (fun hF => ?_) fun hF => ?_
 ·refine zo (zd hO 5 [] [(30, zsb bm1), (31, zsb bm1), (34, zsb bm0)] [0, 1] zrY fun j => ?_)
  rcases zO hF with ⟨x79, h80, hF⟩ | ⟨c75, h76, hF⟩
  ·refine zN (hs := [_, _]) (vs := [_, _, _]) hO (zb7 r16 w21 w26 h80) (fun _ _ _ h => False.elim h) rfl fun _ σ _ _ hO h81 h82 => ?_
   have hL := hL.trans h81
   obtain ⟨v83, v87, o90, v92, o95, rfl, rfl, r86, w91, w96⟩ := h82
   obtain ⟨A84, c85, rfl, -⟩ := r86.form
   obtain ⟨A88, c89, rfl, -⟩ := w91.form
   obtain ⟨A93, c94, rfl, -⟩ := w96.form
   have hO := zsf5 hO
   cases hF
   have hO := hO.sel [2, 3, 4, 0]
   exact hP _ _ _ _ hO hL ⟨_, _, _, _, _, _, _, _, rfl, rfl, r86, w91, w96, (rm1_8.le hL), (rm1_9.le hL), (rm1_10.le hL)⟩
  refine zP (hs := [_, _]) (vs := [_, _, _]) hO (zb7 r16 w21 w26 h76) (fun _ _ _ h => False.elim h) rfl fun _ σ _ _ hO h77 h78 => ?_
  have hL := hL.trans h77
  obtain ⟨v97, v101, o104, v106, o109, rfl, rfl, r100, w105, w110⟩ := h78
  obtain ⟨A98, c99, rfl, -⟩ := r100.form
  obtain ⟨A102, c103, rfl, -⟩ := w105.form
  obtain ⟨A107, c108, rfl, -⟩ := w110.form
  have hO := zsf5 hO
  refine zd hO 2 [] [(37, zsb bm1)] [0, 1, 31, 35] zrY fun j => ?_
  refine zs hO (i := 0) rfl (off := 0) rfl rfl rfl rfl (Nat.le_of_ble_eq_true rfl) rfl fun σ hO => ?_
  have hO := zsf5 hO
  refine zd hO 2 [] [(39, .pointer (some ⟨bm1, 4, none⟩))] [0, 1, 35] zrX fun j => ?_
  refine zs hO (i := 0) rfl (off := 4) rfl rfl rfl rfl (Nat.le_of_ble_eq_true rfl) rfl fun σ hO => ?_
  have hO := zsf5 hO
  refine za (zd hO 2 [] [(40, zsb bm1), (41, zsb bm0)] [0, 1] zrX fun j => ?_)
  rcases zO hF with ⟨x115, h116, hF⟩ | ⟨c111, h112, hF⟩
  ·refine zN (hs := [_, _]) (vs := [_, _, _]) hO (zi3 r100 w105 w110 h116) (fun _ _ _ h => False.elim h) rfl fun _ σ _ _ hO h117 h118 => ?_
   have hL := hL.trans h117
   obtain ⟨v119, v123, o126, v128, o131, rfl, rfl, r122, w127, w132⟩ := h118
   obtain ⟨A120, c121, rfl, -⟩ := r122.form
   obtain ⟨A124, c125, rfl, -⟩ := w127.form
   obtain ⟨A129, c130, rfl, -⟩ := w132.form
   have hO := zsf5 hO
   cases hF
   have hO := hO.sel [2, 3, 4, 0]
   exact hP _ _ _ _ hO hL ⟨_, _, _, _, _, _, _, _, rfl, rfl, r122, w127, w132, (rm1_8.le hL), (rm1_9.le hL), (rm1_10.le hL)⟩
  refine zP (hs := [_, _]) (vs := [_, _, _]) hO (zi3 r100 w105 w110 h112) (fun _ _ _ h => False.elim h) rfl fun _ σ _ _ hO h113 h114 => ?_
  have hL := hL.trans h113
  obtain ⟨v133, o136, v138, v142, o145, v147, o150, rfl, rfl, w137, r141, w146, w151⟩ := h114
  obtain ⟨A134, c135, rfl, -⟩ := w137.form
  obtain ⟨A139, c140, rfl, -⟩ := r141.form
  obtain ⟨A143, c144, rfl, -⟩ := w146.form
  obtain ⟨A148, c149, rfl, -⟩ := w151.form
  have hO := zsf6 hO
  refine zbE hO 2 [] [(0, zsb bm0), (1, zsb bm1), (42, zsh A134 c111.1 c135), (44, .pointer (some ⟨bm1, 8, none⟩))] zrX fun j => ?_
  refine zs hO (i := 0) rfl (off := 8) rfl rfl rfl rfl (Nat.le_of_ble_eq_true rfl) rfl fun σ hO => ?_
  have hO := zsf6 hO
  refine za (zj (zbe (zp (zj ?_))))
  obtain ⟨_, h153, r152, hO⟩ := w137.share hO (i := 2) rfl
  have hL := hL.trans h153
  have r141 := r141.le h153
  have w146 := w146.le h153
  have w151 := w151.le h153
  have hO := zsf6 hO
  cases hF
  have hO := hO.sel [3, 4, 5, 0]
  refine (hQ _ _ _ _ _ rfl hO hL ?_).2
  exact ⟨_, _, _, _, _, _, _, _, rfl, rfl, r141, w146, w151, r152, (rm1_9.le hL), (rm1_10.le hL)⟩
 refine zd hO 3 [] [(4, zsb bm1), (5, zsb bm1), (6, zsb bm0)] [0, 1] zrY fun j => ?_
 rcases zO hF with ⟨x158, h159, hF⟩ | ⟨c154, h155, hF⟩
 ·refine zN (hs := [_, _]) (vs := [_, _, _]) hO (zcg r16 w21 w26 h159) (fun _ _ _ h => False.elim h) rfl fun _ σ _ _ hO h160 h161 => ?_
  have hL := hL.trans h160
  obtain ⟨v162, v166, o169, v171, o174, rfl, rfl, r165, w170, w175⟩ := h161
  obtain ⟨A163, c164, rfl, -⟩ := r165.form
  obtain ⟨A167, c168, rfl, -⟩ := w170.form
  obtain ⟨A172, c173, rfl, -⟩ := w175.form
  have hO := zsf5 hO
  cases hF
  have hO := hO.sel [2, 3, 4, 0]
  exact hP _ _ _ _ hO hL ⟨_, _, _, _, _, _, _, _, rfl, rfl, r165, w170, w175, (rm1_8.le hL), (rm1_9.le hL), (rm1_10.le hL)⟩
 refine zP (hs := [_, _]) (vs := [_, _, _]) hO (zcg r16 w21 w26 h155) (fun _ _ _ h => False.elim h) rfl fun _ σ _ _ hO h156 h157 => ?_
 have hL := hL.trans h156
 obtain ⟨v176, v180, v184, o187, v189, o192, rfl, rfl, r177, r183, w188, w193⟩ := h157
 obtain ⟨A178, c179, rfl, -⟩ := r177.form
 obtain ⟨A181, c182, rfl, -⟩ := r183.form
 obtain ⟨A185, c186, rfl, -⟩ := w188.form
 obtain ⟨A190, c191, rfl, -⟩ := w193.form
 have hO := zsf5 hO
 refine zB (T := zC) (l := ([(⟨c154.1.Kind, c154.1.Num, c154.1.Name, c154.1.Field, c154.1.Op, c154.1.Kids⟩ : zb)] : List zb)) (cs := [.int .u8 (c154.1.Kind.toNat : Int), .int .i64 c154.1.Num, .string c154.1.Name, .string c154.1.Field, .string c154.1.Op, zsh A178 c154.1.Kids c179]) hO rfl ⟨[.int .u8 (c154.1.Kind.toNat : Int), .int .i64 c154.1.Num, .string c154.1.Name, .string c154.1.Field, .string c154.1.Op, zsh A178 c154.1.Kids c179], _, rfl, (zcz ⟨_, rfl, r177⟩), rfl⟩ rfl (by decide) fun _ σ o196 w197 hO => ?_
 obtain ⟨A194, c195, rfl, -⟩ := w197.form
 have hO := zsf6 hO
 refine zd hO 2 [] [(10, zsb bm1)] [0, 1, 5, 8] zrY fun j => ?_
 refine zs hO (i := 0) rfl (off := 0) rfl rfl rfl rfl (Nat.le_of_ble_eq_true rfl) rfl fun σ hO => ?_
 have hO := zsf6 hO
 refine zd hO 2 [] [(12, .pointer (some ⟨bm1, 8, none⟩))] [0, 1, 8] zrX fun j => ?_
 refine zs hO (i := 0) rfl (off := 8) rfl rfl rfl rfl (Nat.le_of_ble_eq_true rfl) rfl fun σ hO => ?_
 have hO := zsf6 hO
 refine za (zj (zbe (zp (zj ?_))))
 obtain ⟨_, h199, r198, hO⟩ := w197.share hO (i := 5) rfl
 have hL := hL.trans h199
 have r183 := r183.le h199
 have w188 := w188.le h199
 have w193 := w193.le h199
 have hO := zsf6 hO
 cases hF
 have hO := hO.sel [2, 3, 4, 0]
 refine (hQ _ _ _ _ _ rfl hO hL ?_).2
 exact ⟨_, _, _, _, _, _, _, _, rfl, rfl, r183, w188, w193, r198, (rm1_9.le hL), (rm1_10.le hL)⟩
theorem znD {τ : Hp} {q0 : zc} {bm0 : Nat} {vm0_0 vm0_2 : Value} {om0_2 : Ob} {vm0_3 : Value} {om0_3 : Ob} {q1 : zg} {bm1 : Nat} {vm1_8 vm1_9 vm1_10 : Value} (rm0_0 : RdT zt τ vm0_0 q0.cursor.tokens) (wm0_2 : ze zn 71 τ vm0_2 q0.prog.Structs om0_2) (wm0_3 : ze zk 50 τ vm0_3 q0.prog.Funcs om0_3) (rm1_8 : RdT zC τ vm1_8 q1.Kids) (rm1_9 : RdT zJ τ vm1_9 q1.Body) (rm1_10 : RdT zJ τ vm1_10 q1.Else) {rr : Except (Value × zc × zg) (zc × zg)} (hF : zg5 q0 q1 = some rr) :
  zbM Try.prog 94 #[.pointer (some ⟨bm0, 0, none⟩), .pointer (some ⟨bm1, 0, none⟩)] τ [zw bm0 vm0_0 q0.cursor.at_ vm0_2 vm0_3, om0_2, om0_3, zb5 bm1 q1.Kind.toNat q1.Line q1.Name q1.Field q1.Call q1.Type_.Kind.toNat q1.Type_.N q1.Type_.Name vm1_8 vm1_9 vm1_10] (fun v τ' vs' => match (generalizing := false) rr with | .ok rr => ∃ (u0_0 u0_2 : Value) (y0_2 : Ob) (u0_3 : Value) (y0_3 : Ob) (u1_8 u1_9 u1_10 : Value), v = .tuple #[] ∧ vs' = [zw bm0 u0_0 rr.1.cursor.at_ u0_2 u0_3, y0_2, y0_3, zb5 bm1 rr.2.Kind.toNat rr.2.Line rr.2.Name rr.2.Field rr.2.Call rr.2.Type_.Kind.toNat rr.2.Type_.N rr.2.Type_.Name u1_8 u1_9 u1_10] ∧ RdT zt τ' u0_0 rr.1.cursor.tokens ∧ ze zn 71 τ' u0_2 rr.1.prog.Structs y0_2 ∧ ze zk 50 τ' u0_3 rr.1.prog.Funcs y0_3 ∧ RdT zC τ' u1_8 rr.2.Kids ∧ RdT zJ τ' u1_9 rr.2.Body ∧ RdT zJ τ' u1_10 rr.2.Else | .error _ => False) (fun ch τ' vs' => match (generalizing := false) rr with | .ok _ => False | .error ee => ∃ (u0_0 u0_2 : Value) (y0_2 : Ob) (u0_3 : Value) (y0_3 : Ob) (u1_8 u1_9 u1_10 : Value), ch = [{ v := ee.1, recovered := false }] ∧ vs' = [zw bm0 u0_0 ee.2.1.cursor.at_ u0_2 u0_3, y0_2, y0_3, zb5 bm1 ee.2.2.Kind.toNat ee.2.2.Line ee.2.2.Name ee.2.2.Field ee.2.2.Call ee.2.2.Type_.Kind.toNat ee.2.2.Type_.N ee.2.2.Type_.Name u1_8 u1_9 u1_10] ∧ RdT zt τ' u0_0 ee.2.1.cursor.tokens ∧ ze zn 71 τ' u0_2 ee.2.1.prog.Structs y0_2 ∧ ze zk 50 τ' u0_3 ee.2.1.prog.Funcs y0_3 ∧ RdT zC τ' u1_8 ee.2.2.Kids ∧ RdT zJ τ' u1_9 ee.2.2.Body ∧ RdT zJ τ' u1_10 ee.2.2.Else) := by
 obtain ⟨Am0_0, cm0_0, rfl, -⟩ := rm0_0.form
 obtain ⟨Am0_2, cm0_2, rfl, -⟩ := wm0_2.form
 obtain ⟨Am0_3, cm0_3, rfl, -⟩ := wm0_3.form
 obtain ⟨Am1_8, cm1_8, rfl, -⟩ := rm1_8.form
 obtain ⟨Am1_9, cm1_9, rfl, -⟩ := rm1_9.form
 obtain ⟨Am1_10, cm1_10, rfl, -⟩ := rm1_10.form
 refine zcL (args := [.pointer (some ⟨bm0, 0, none⟩), .pointer (some ⟨bm1, 0, none⟩)]) hm Try.func94 s94 rfl fun w0 σ hP hO Q hQ => ?_
 unfold zg5 at hF
 have hL := Hp.le.refl τ
 show wpn _ _ a94.body _ _ _
 unfold a94
 dsimp only
 refine zo (zd hO 1 [] [(4, zsb bm0)] [0, 1] zrW fun j => ?_)
 obtain ⟨c3, h4, hF⟩ := zsg hF
 have hO := hO.sel [3, 0, 1, 2]
 refine zbB (hs := [_]) (vs := [_, _, _]) hO (zlK (rm0_0.le hL) (wm0_2.le hL) (wm0_3.le hL) h4) rfl fun _ σ _ _ hO h5 h6 => ?_
 have hL := hL.trans h5
 obtain ⟨rfl, rfl⟩ := h6
 have hO := zsf4 hO
 have hO := hO.sel [1, 2, 3, 0]
 have hO := zsf4 hO
 refine za (zE hF rfl (fun hF => ?_) fun hF => ?_)
 ·refine zo (zd hO 5 [] [(6, zsb bm1), (7, zsb bm1), (10, zsb bm0)] [0, 1] zrY fun j => ?_)
  have hO := hO.sel [3, 0, 1, 2]
  rcases zO hF with ⟨x12, h13, hF⟩ | ⟨c8, h9, hF⟩
  ·refine zN (hs := [_]) (vs := [_, _, _]) hO (zb7 (rm0_0.le hL) (wm0_2.le hL) (wm0_3.le hL) h13) (fun _ _ _ h => False.elim h) rfl fun _ σ _ _ hO h14 h15 => ?_
   have hL := hL.trans h14
   obtain ⟨v16, v20, o23, v25, o28, rfl, rfl, r19, w24, w29⟩ := h15
   obtain ⟨A17, c18, rfl, -⟩ := r19.form
   obtain ⟨A21, c22, rfl, -⟩ := w24.form
   obtain ⟨A26, c27, rfl, -⟩ := w29.form
   have hO := zsf4 hO
   cases hF
   have hO := hO.sel [1, 2, 3, 0]
   exact hP _ _ _ _ hO hL ⟨_, _, _, _, _, _, _, _, rfl, rfl, r19, w24, w29, (rm1_8.le hL), (rm1_9.le hL), (rm1_10.le hL)⟩
  refine zP (hs := [_]) (vs := [_, _, _]) hO (zb7 (rm0_0.le hL) (wm0_2.le hL) (wm0_3.le hL) h9) (fun _ _ _ h => False.elim h) rfl fun _ σ _ _ hO h10 h11 => ?_
  have hL := hL.trans h10
  obtain ⟨v30, v34, o37, v39, o42, rfl, rfl, r33, w38, w43⟩ := h11
  obtain ⟨A31, c32, rfl, -⟩ := r33.form
  obtain ⟨A35, c36, rfl, -⟩ := w38.form
  obtain ⟨A40, c41, rfl, -⟩ := w43.form
  have hO := zsf4 hO
  refine zd hO 2 [] [(13, zsb bm1)] [0, 1, 7, 11] zrY fun j => ?_
  refine zs hO (i := 0) rfl (off := 0) rfl rfl rfl rfl (Nat.le_of_ble_eq_true rfl) rfl fun σ hO => ?_
  have hO := zsf4 hO
  refine zd hO 2 [] [(15, .pointer (some ⟨bm1, 4, none⟩))] [0, 1, 11] zrX fun j => ?_
  refine zs hO (i := 0) rfl (off := 4) rfl rfl rfl rfl (Nat.le_of_ble_eq_true rfl) rfl fun σ hO => ?_
  have hO := zsf4 hO
  refine za (zo (zd hO 2 [] [(16, zsb bm1), (17, zsb bm0)] [0, 1] zrX fun j => ?_))
  rcases zO hF with ⟨x48, h49, hF⟩ | ⟨c44, h45, hF⟩
  ·refine zN (hs := [_]) (vs := [_, _, _]) hO (zi3 r33 w38 w43 h49) (fun _ _ _ h => False.elim h) rfl fun _ σ _ _ hO h50 h51 => ?_
   have hL := hL.trans h50
   obtain ⟨v52, v56, o59, v61, o64, rfl, rfl, r55, w60, w65⟩ := h51
   obtain ⟨A53, c54, rfl, -⟩ := r55.form
   obtain ⟨A57, c58, rfl, -⟩ := w60.form
   obtain ⟨A62, c63, rfl, -⟩ := w65.form
   have hO := zsf4 hO
   cases hF
   have hO := hO.sel [1, 2, 3, 0]
   exact hP _ _ _ _ hO hL ⟨_, _, _, _, _, _, _, _, rfl, rfl, r55, w60, w65, (rm1_8.le hL), (rm1_9.le hL), (rm1_10.le hL)⟩
  refine zP (hs := [_]) (vs := [_, _, _]) hO (zi3 r33 w38 w43 h45) (fun _ _ _ h => False.elim h) rfl fun _ σ _ _ hO h46 h47 => ?_
  have hL := hL.trans h46
  obtain ⟨v66, o69, v71, v75, o78, v80, o83, rfl, rfl, w70, r74, w79, w84⟩ := h47
  obtain ⟨A67, c68, rfl, -⟩ := w70.form
  obtain ⟨A72, c73, rfl, -⟩ := r74.form
  obtain ⟨A76, c77, rfl, -⟩ := w79.form
  obtain ⟨A81, c82, rfl, -⟩ := w84.form
  have hO := zsf5 hO
  refine zd hO 2 [] [(20, .pointer (some ⟨bm1, 8, none⟩))] [0, 1, 18] zrX fun j => ?_
  refine zs hO (i := 0) rfl (off := 8) rfl rfl rfl rfl (Nat.le_of_ble_eq_true rfl) rfl fun σ hO => ?_
  have hO := zsf5 hO
  refine za (zbq ?_)
  obtain ⟨_, h86, r85, hO⟩ := w70.share hO (i := 1) rfl
  have hL := hL.trans h86
  have r74 := r74.le h86
  have w79 := w79.le h86
  have w84 := w84.le h86
  have hO := zsf5 hO
  cases hF
  have hO := hO.sel [2, 3, 4, 0]
  refine (hQ _ _ _ _ _ rfl hO hL ?_).1
  exact ⟨_, _, _, _, _, _, _, _, rfl, rfl, r74, w79, w84, r85, (rm1_9.le hL), (rm1_10.le hL)⟩
 refine zS (zd hO 4 [] [(21, zsb bm1), (24, zsb bm0)] [0, 1] zrX fun j => ?_)
 have hO := hO.sel [3, 0, 1, 2]
 rcases zO hF with ⟨x91, h92, hF⟩ | ⟨c87, h88, hF⟩
 ·refine zN (hs := [_]) (vs := [_, _, _]) hO (zb7 (rm0_0.le hL) (wm0_2.le hL) (wm0_3.le hL) h92) (fun _ _ _ h => False.elim h) rfl fun _ σ _ _ hO h93 h94 => ?_
  have hL := hL.trans h93
  obtain ⟨v95, v99, o102, v104, o107, rfl, rfl, r98, w103, w108⟩ := h94
  obtain ⟨A96, c97, rfl, -⟩ := r98.form
  obtain ⟨A100, c101, rfl, -⟩ := w103.form
  obtain ⟨A105, c106, rfl, -⟩ := w108.form
  have hO := zsf4 hO
  cases hF
  have hO := hO.sel [1, 2, 3, 0]
  exact hP _ _ _ _ hO hL ⟨_, _, _, _, _, _, _, _, rfl, rfl, r98, w103, w108, (rm1_8.le hL), (rm1_9.le hL), (rm1_10.le hL)⟩
 refine zP (hs := [_]) (vs := [_, _, _]) hO (zb7 (rm0_0.le hL) (wm0_2.le hL) (wm0_3.le hL) h88) (fun _ _ _ h => False.elim h) rfl fun _ σ _ _ hO h89 h90 => ?_
 have hL := hL.trans h89
 obtain ⟨v109, v113, o116, v118, o121, rfl, rfl, r112, w117, w122⟩ := h90
 obtain ⟨A110, c111, rfl, -⟩ := r112.form
 obtain ⟨A114, c115, rfl, -⟩ := w117.form
 obtain ⟨A119, c120, rfl, -⟩ := w122.form
 have hO := zsf4 hO
 refine zd hO 2 [] [(27, .pointer (some ⟨bm1, 2, none⟩))] [0, 1, 25] zrX fun j => ?_
 refine zs hO (i := 0) rfl (off := 2) rfl rfl rfl rfl (Nat.le_of_ble_eq_true rfl) rfl fun σ hO => ?_
 have hO := zsf4 hO
 refine za (zcF (zY (zd hO 3 [] [(39, zsb bm0)] [0, 1] zrW fun j => ?_)))
 refine zB (T := Ty.str) (l := ([(⟨#[91]⟩ : ByteArray)] : List ByteArray)) (cs := [.string (⟨#[91]⟩ : ByteArray)]) hO rfl ⟨[.string (⟨#[91]⟩ : ByteArray)], _, rfl, rfl, rfl⟩ rfl (by decide) fun _ σ o125 w126 hO => ?_
 obtain ⟨A123, c124, rfl, -⟩ := w126.form
 have hO := zsf5 hO
 obtain ⟨_, h128, r127, hO⟩ := w126.share hO (i := 4) rfl
 have hL := hL.trans h128
 have r112 := r112.le h128
 have w117 := w117.le h128
 have w122 := w122.le h128
 have hO := zsf5 hO
 obtain ⟨c129, h130, hF⟩ := zsg hF
 have hO := hO.sel [0, 4, 1, 2, 3]
 refine zbB (hs := [_, _]) (vs := [_, _, _]) hO (zd8 r112 w117 w122 r127 h130) rfl fun _ σ _ _ hO h131 h132 => ?_
 have hL := hL.trans h131
 have r127 := r127.le h131
 have r112 := r112.le h131
 have w117 := w117.le h131
 have w122 := w122.le h131
 obtain ⟨rfl, rfl⟩ := h132
 have hO := zsf5 hO
 have hO := hO.sel [0, 2, 3, 4, 1]
 have hO := zsf5 hO
 refine zh hO [] [(36, .bool c129)] [0, 1] zrW fun j => ?_
 refine zb2 (zE hF rfl (fun hF => ?_) fun hF => ?_)
 ·refine zo (zd hO 3 [] [(42, zsb bm1), (43, zsb bm1), (44, zsb bm0)] [0, 1] zrY fun j => ?_)
  have hO := hO.sel [0, 4, 1, 2, 3]
  rcases zO hF with ⟨x138, h139, hF⟩ | ⟨c134, h135, hF⟩
  ·refine zN (hs := [_, _]) (vs := [_, _, _]) hO (zni r112 w117 w122 h139) (fun _ _ _ h => False.elim h) rfl fun _ σ _ _ hO h140 h141 => ?_
   have hL := hL.trans h140
   obtain ⟨v142, v146, o149, v151, o154, rfl, rfl, r145, w150, w155⟩ := h141
   obtain ⟨A143, c144, rfl, -⟩ := r145.form
   obtain ⟨A147, c148, rfl, -⟩ := w150.form
   obtain ⟨A152, c153, rfl, -⟩ := w155.form
   have hO := zsf5 hO
   cases hF
   have hO := hO.sel [2, 3, 4, 0]
   exact hP _ _ _ _ hO hL ⟨_, _, _, _, _, _, _, _, rfl, rfl, r145, w150, w155, (rm1_8.le hL), (rm1_9.le hL), (rm1_10.le hL)⟩
  refine zP (hs := [_, _]) (vs := [_, _, _]) hO (zni r112 w117 w122 h135) (fun _ _ _ h => False.elim h) rfl fun _ σ _ _ hO h136 h137 => ?_
  have hL := hL.trans h136
  obtain ⟨v156, v160, v164, o167, v169, o172, rfl, rfl, r157, r163, w168, w173⟩ := h137
  obtain ⟨A158, c159, rfl, -⟩ := r157.form
  obtain ⟨A161, c162, rfl, -⟩ := r163.form
  obtain ⟨A165, c166, rfl, -⟩ := w168.form
  obtain ⟨A170, c171, rfl, -⟩ := w173.form
  have hO := zsf5 hO
  refine zB (T := zC) (l := ([(⟨c134.1.Kind, c134.1.Num, c134.1.Name, c134.1.Field, c134.1.Op, c134.1.Kids⟩ : zb)] : List zb)) (cs := [.int .u8 (c134.1.Kind.toNat : Int), .int .i64 c134.1.Num, .string c134.1.Name, .string c134.1.Field, .string c134.1.Op, zsh A158 c134.1.Kids c159]) hO rfl ⟨[.int .u8 (c134.1.Kind.toNat : Int), .int .i64 c134.1.Num, .string c134.1.Name, .string c134.1.Field, .string c134.1.Op, zsh A158 c134.1.Kids c159], _, rfl, (zcz ⟨_, rfl, r157⟩), rfl⟩ rfl (by decide) fun _ σ o176 w177 hO => ?_
  obtain ⟨A174, c175, rfl, -⟩ := w177.form
  have hO := zsf6 hO
  refine zd hO 2 [] [(48, zsb bm1)] [0, 1, 43, 46] zrY fun j => ?_
  refine zs hO (i := 0) rfl (off := 0) rfl rfl rfl rfl (Nat.le_of_ble_eq_true rfl) rfl fun σ hO => ?_
  have hO := zsf6 hO
  refine zd hO 2 [] [(50, .pointer (some ⟨bm1, 8, none⟩))] [0, 1, 46] zrX fun j => ?_
  refine zs hO (i := 0) rfl (off := 8) rfl rfl rfl rfl (Nat.le_of_ble_eq_true rfl) rfl fun σ hO => ?_
  have hO := zsf6 hO
  refine za (zo (zbE hO 3 [] [(0, zsb bm0), (1, zsb bm1), (53, zsb bm0)] zrW fun j => ?_))
  refine zB (T := Ty.str) (l := ([(⟨#[61]⟩ : ByteArray)] : List ByteArray)) (cs := [.string (⟨#[61]⟩ : ByteArray)]) hO rfl ⟨[.string (⟨#[61]⟩ : ByteArray)], _, rfl, rfl, rfl⟩ rfl (by decide) fun _ σ o180 w181 hO => ?_
  obtain ⟨A178, c179, rfl, -⟩ := w181.form
  have hO := zsf7 hO
  obtain ⟨_, h183, r182, hO⟩ := w181.share hO (i := 6) rfl
  have hL := hL.trans h183
  have w177 := w177.le h183
  have r163 := r163.le h183
  have w168 := w168.le h183
  have w173 := w173.le h183
  have hO := zsf7 hO
  have hO := hO.sel [0, 1, 5, 6, 2, 3, 4]
  rcases zO hF with ⟨x188, h189, hF⟩ | ⟨c184, h185, hF⟩
  ·refine zN (hs := [_, _, _, _]) (vs := [_, _, _]) hO (zbG r163 w168 w173 r182 h189) (fun _ _ _ h => False.elim h) rfl fun _ σ _ _ hO h190 h191 => ?_
   have hL := hL.trans h190
   have r182 := r182.le h190
   have w177 := w177.le h190
   obtain ⟨v192, v196, o199, v201, o204, rfl, rfl, r195, w200, w205⟩ := h191
   obtain ⟨A193, c194, rfl, -⟩ := r195.form
   obtain ⟨A197, c198, rfl, -⟩ := w200.form
   obtain ⟨A202, c203, rfl, -⟩ := w205.form
   have hO := zsf7 hO
   obtain ⟨_, h207, r206, hO⟩ := w177.share hO (i := 2) rfl
   have hL := hL.trans h207
   have r182 := r182.le h207
   have r195 := r195.le h207
   have w200 := w200.le h207
   have w205 := w205.le h207
   have hO := zsf7 hO
   cases hF
   have hO := hO.sel [4, 5, 6, 0]
   exact hP _ _ _ _ hO hL ⟨_, _, _, _, _, _, _, _, rfl, rfl, r195, w200, w205, r206, (rm1_9.le hL), (rm1_10.le hL)⟩
  refine zP (hs := [_, _, _, _]) (vs := [_, _, _]) hO (zbG r163 w168 w173 r182 h185) (fun _ _ _ h => False.elim h) rfl fun _ σ _ _ hO h186 h187 => ?_
  have hL := hL.trans h186
  have r182 := r182.le h186
  have w177 := w177.le h186
  obtain ⟨v208, v212, o215, v217, o220, rfl, rfl, r211, w216, w221⟩ := h187
  obtain ⟨A209, c210, rfl, -⟩ := r211.form
  obtain ⟨A213, c214, rfl, -⟩ := w216.form
  obtain ⟨A218, c219, rfl, -⟩ := w221.form
  have hO := zsf7 hO
  refine za (zbp (zh hO [] [(56, zsb bm1)] [0, 1] zrW fun j => ?_))
  refine zbp (zh hO [] [(57, zsb bm1)] [0, 1, 56] zrX fun j => ?_)
  refine zbp (zh hO [] [(58, .pointer (some ⟨bm1, 8, none⟩))] [0, 1, 56] zrX fun j => ?_)
  refine zbp (zh hO [0] [(59, zsh A174 ([(⟨c134.1.Kind, c134.1.Num, c134.1.Name, c134.1.Field, c134.1.Op, c134.1.Kids⟩ : zb)] : List zb) c175)] [0, 1, 56, 58] (And.intro (And.intro rfl rfl) zrY) fun j => ?_)
  refine zbp (zh hO [] [(60, zsb bm0)] [0, 1, 56, 58, 59] zrZ fun j => ?_)
  refine zbp (zh hO [] [(62, zsa (([(⟨c134.1.Kind, c134.1.Num, c134.1.Name, c134.1.Field, c134.1.Op, c134.1.Kids⟩ : zb)] : List zb).length : Int))] [0, 1, 56, 58, 59, 60] zr0 fun j => ?_)
  refine zbN ?_ ?_
  ·refine zm (zv ?_)
   rcases zO hF with ⟨x226, h227, hF⟩ | ⟨c222, h223, hF⟩
   ·refine zN (hs := [_, _, _, _]) (vs := [_, _, _]) hO (zcg r211 w216 w221 h227) (fun _ _ _ h => False.elim h) rfl fun _ σ _ _ hO h228 h229 => ?_
    have hL := hL.trans h228
    have w177 := w177.le h228
    obtain ⟨v230, v234, o237, v239, o242, rfl, rfl, r233, w238, w243⟩ := h229
    obtain ⟨A231, c232, rfl, -⟩ := r233.form
    obtain ⟨A235, c236, rfl, -⟩ := w238.form
    obtain ⟨A240, c241, rfl, -⟩ := w243.form
    have hO := zsf7 hO
    obtain ⟨_, h245, r244, hO⟩ := w177.share hO (i := 2) rfl
    have hL := hL.trans h245
    have r233 := r233.le h245
    have w238 := w238.le h245
    have w243 := w243.le h245
    have hO := zsf7 hO
    cases hF
    have hO := hO.sel [4, 5, 6, 0]
    exact hP _ _ _ _ hO hL ⟨_, _, _, _, _, _, _, _, rfl, rfl, r233, w238, w243, r244, (rm1_9.le hL), (rm1_10.le hL)⟩
   refine zP (hs := [_, _, _, _]) (vs := [_, _, _]) hO (zcg r211 w216 w221 h223) (fun _ _ _ h => False.elim h) rfl fun _ σ _ _ hO h224 h225 => ?_
   have hL := hL.trans h224
   have w177 := w177.le h224
   obtain ⟨v246, v250, v254, o257, v259, o262, rfl, rfl, r247, r253, w258, w263⟩ := h225
   obtain ⟨A248, c249, rfl, -⟩ := r247.form
   obtain ⟨A251, c252, rfl, -⟩ := r253.form
   obtain ⟨A255, c256, rfl, -⟩ := w258.form
   obtain ⟨A260, c261, rfl, -⟩ := w263.form
   have hO := zsf7 hO
   refine za (zu ⟨(zf rfl (hO.val (i := 0) (off := 8) (agg := false) (n := 1) rfl rfl) rfl), trivial⟩ ?_)
   refine za (zm (zv (zB (T := zC) (l := ([(⟨(0 : UInt8), 0, (⟨#[]⟩ : ByteArray), (⟨#[]⟩ : ByteArray), (⟨#[]⟩ : ByteArray), []⟩ : zb)] : List zb)) (cs := [.int .u8 0, .int .i64 0, .string (⟨#[]⟩ : ByteArray), .string (⟨#[]⟩ : ByteArray), .string (⟨#[]⟩ : ByteArray), .slice none 0 0]) hO rfl ⟨[.int .u8 0, .int .i64 0, .string (⟨#[]⟩ : ByteArray), .string (⟨#[]⟩ : ByteArray), .string (⟨#[]⟩ : ByteArray), .slice none 0 0], _, rfl, (zcz ⟨_, rfl, RdT.nil _ _⟩), rfl⟩ rfl (by decide) fun _ σ o266 w267 hO => ?_)))
   obtain ⟨A264, c265, rfl, -⟩ := w267.form
   have hO := zsf8 hO
   refine za (zu ⟨(zf rfl (hO.val (i := 0) (off := 8) (agg := false) (n := 1) rfl rfl) rfl), trivial⟩ ?_)
   refine za (zm ?_)
   obtain ⟨_, h269, r268, hO⟩ := w267.share hO (i := 7) rfl
   have hL := hL.trans h269
   have w177 := w177.le h269
   have r247 := r247.le h269
   have r253 := r253.le h269
   have w258 := w258.le h269
   have w263 := w263.le h269
   have hO := zsf8 hO
   obtain ⟨_, hr274, hF⟩ := zsg hF
   refine zH (T := zC) hO w177 (i := 2) rfl rfl rfl r268 hr274 (by decide) fun _ σ o272 w273 hO => ?_
   obtain ⟨A270, c271, rfl, -⟩ := w273.form
   have hO := zsf8 hO
   refine za (zbp ?_)
   obtain ⟨y275, g276, hF⟩ := zsg hF
   refine zf2 (T := zC) hO w273 (i := 2) rfl rfl rfl g276 (by decide) fun a277 _ k278 m279 i280 => ?_
   have k281 := k278
   obtain ⟨v282, rfl, r283⟩ := zcB k281
   obtain ⟨A284, c285, rfl, -⟩ := r283.form
   refine za (zbp (zh hO [] [(66, zsb bm1)] [0, 1, 61, 64, 65] zrZ fun j => ?_))
   refine zbp (zh hO [] [(67, .pointer (some ⟨bm1, 8, none⟩))] [0, 1, 61, 64, 65] zrZ fun j => ?_)
   refine zbN ?_ ?_
   ·refine zm (zhZ (T := zC) (z' := (⟨c222.1.Kind, c222.1.Num, c222.1.Name, c222.1.Field, c222.1.Op, c222.1.Kids⟩ : zb)) (vs := [.int .u8 (c222.1.Kind.toNat : Int), .int .i64 c222.1.Num, .string c222.1.Name, .string c222.1.Field, .string c222.1.Op, .slice A248 c222.1.Kids.length c249]) hO w273 (i := 2) rfl rfl i280 g276 rfl rfl (zcz ⟨_, rfl, r247⟩) fun σ o286 w287 hO => ?_)
    have hO := zsf8 hO
    refine za (zm (zs hO (i := 0) rfl (off := 8) rfl rfl rfl rfl (Nat.le_of_ble_eq_true rfl) rfl fun σ hO => ?_))
    have hO := zsf8 hO
    refine za (zbL (zj (zbe (zp (zj ?_)))))
    have l290 : (([(⟨c134.1.Kind, c134.1.Num, c134.1.Name, c134.1.Field, c134.1.Op, c134.1.Kids⟩ : zb)] : List zb) ++ ([(⟨(0 : UInt8), 0, (⟨#[]⟩ : ByteArray), (⟨#[]⟩ : ByteArray), (⟨#[]⟩ : ByteArray), []⟩ : zb)] : List zb)).length = ((([(⟨c134.1.Kind, c134.1.Num, c134.1.Name, c134.1.Field, c134.1.Op, c134.1.Kids⟩ : zb)] : List zb) ++ ([(⟨(0 : UInt8), 0, (⟨#[]⟩ : ByteArray), (⟨#[]⟩ : ByteArray), (⟨#[]⟩ : ByteArray), []⟩ : zb)] : List zb)).set (Int.toNat (([(⟨c134.1.Kind, c134.1.Num, c134.1.Name, c134.1.Field, c134.1.Op, c134.1.Kids⟩ : zb)] : List zb).length : Int)) (⟨c222.1.Kind, c222.1.Num, c222.1.Name, c222.1.Field, c222.1.Op, c222.1.Kids⟩ : zb)).length := w287.len
    obtain ⟨_, h289, r288, hO⟩ := w287.share hO (i := 2) rfl
    have hL := hL.trans h289
    have r247 := r247.le h289
    have r253 := r253.le h289
    have w258 := w258.le h289
    have w263 := w263.le h289
    have hO := zsf8 hO
    cases hF
    have hO := hO.sel [4, 5, 6, 0]
    refine (hQ _ _ _ _ _ rfl hO hL ?_).2
    exact ⟨_, _, _, _, _, _, _, _, rfl, rfl, r253, w258, w263, r288, (rm1_9.le hL), (rm1_10.le hL)⟩
   refine zm (zs hO (i := 0) rfl (off := 8) rfl rfl rfl rfl (Nat.le_of_ble_eq_true rfl) rfl fun σ hO => ?_)
   have hO := zsf8 hO
   refine za (zm (zhZ (T := zC) (z' := (⟨c222.1.Kind, c222.1.Num, c222.1.Name, c222.1.Field, c222.1.Op, c222.1.Kids⟩ : zb)) (vs := [.int .u8 (c222.1.Kind.toNat : Int), .int .i64 c222.1.Num, .string c222.1.Name, .string c222.1.Field, .string c222.1.Op, .slice A248 c222.1.Kids.length c249]) hO w273 (i := 2) rfl rfl i280 g276 rfl rfl (zcz ⟨_, rfl, r247⟩) fun σ o286 w287 hO => ?_))
   have hO := zsf8 hO
   refine za (zbL (zj (zbe (zp (zj ?_)))))
   have l290 : (([(⟨c134.1.Kind, c134.1.Num, c134.1.Name, c134.1.Field, c134.1.Op, c134.1.Kids⟩ : zb)] : List zb) ++ ([(⟨(0 : UInt8), 0, (⟨#[]⟩ : ByteArray), (⟨#[]⟩ : ByteArray), (⟨#[]⟩ : ByteArray), []⟩ : zb)] : List zb)).length = ((([(⟨c134.1.Kind, c134.1.Num, c134.1.Name, c134.1.Field, c134.1.Op, c134.1.Kids⟩ : zb)] : List zb) ++ ([(⟨(0 : UInt8), 0, (⟨#[]⟩ : ByteArray), (⟨#[]⟩ : ByteArray), (⟨#[]⟩ : ByteArray), []⟩ : zb)] : List zb)).set (Int.toNat (([(⟨c134.1.Kind, c134.1.Num, c134.1.Name, c134.1.Field, c134.1.Op, c134.1.Kids⟩ : zb)] : List zb).length : Int)) (⟨c222.1.Kind, c222.1.Num, c222.1.Name, c222.1.Field, c222.1.Op, c222.1.Kids⟩ : zb)).length := w287.len
   obtain ⟨_, h289, r288, hO⟩ := w287.share hO (i := 2) rfl
   have hL := hL.trans h289
   have r247 := r247.le h289
   have r253 := r253.le h289
   have w258 := w258.le h289
   have w263 := w263.le h289
   have hO := zsf8 hO
   cases hF
   have hO := hO.sel [4, 5, 6, 0]
   refine (hQ _ _ _ _ _ rfl hO hL ?_).2
   exact ⟨_, _, _, _, _, _, _, _, rfl, rfl, r253, w258, w263, r288, (rm1_9.le hL), (rm1_10.le hL)⟩
  refine zm (zv (zB (T := zC) (l := ([(⟨(0 : UInt8), 0, (⟨#[]⟩ : ByteArray), (⟨#[]⟩ : ByteArray), (⟨#[]⟩ : ByteArray), []⟩ : zb)] : List zb)) (cs := [.int .u8 0, .int .i64 0, .string (⟨#[]⟩ : ByteArray), .string (⟨#[]⟩ : ByteArray), .string (⟨#[]⟩ : ByteArray), .slice none 0 0]) hO rfl ⟨[.int .u8 0, .int .i64 0, .string (⟨#[]⟩ : ByteArray), .string (⟨#[]⟩ : ByteArray), .string (⟨#[]⟩ : ByteArray), .slice none 0 0], _, rfl, (zcz ⟨_, rfl, RdT.nil _ _⟩), rfl⟩ rfl (by decide) fun _ σ o266 w267 hO => ?_))
  obtain ⟨A264, c265, rfl, -⟩ := w267.form
  have hO := zsf8 hO
  refine za (zu ⟨(zf rfl (hO.val (i := 0) (off := 8) (agg := false) (n := 1) rfl rfl) rfl), trivial⟩ ?_)
  refine za (zm (zv ?_))
  have hO := hO.sel [0, 1, 2, 3, 7, 4, 5, 6]
  rcases zO hF with ⟨x226, h227, hF⟩ | ⟨c222, h223, hF⟩
  ·refine zN (hs := [_, _, _, _, _]) (vs := [_, _, _]) hO (zcg r211 w216 w221 h227) (fun _ _ _ h => False.elim h) rfl fun _ σ _ _ hO h228 h229 => ?_
   have hL := hL.trans h228
   have w177 := w177.le h228
   have w267 := w267.le h228
   obtain ⟨v230, v234, o237, v239, o242, rfl, rfl, r233, w238, w243⟩ := h229
   obtain ⟨A231, c232, rfl, -⟩ := r233.form
   obtain ⟨A235, c236, rfl, -⟩ := w238.form
   obtain ⟨A240, c241, rfl, -⟩ := w243.form
   have hO := zsf8 hO
   obtain ⟨_, h245, r244, hO⟩ := w177.share hO (i := 2) rfl
   have hL := hL.trans h245
   have w267 := w267.le h245
   have r233 := r233.le h245
   have w238 := w238.le h245
   have w243 := w243.le h245
   have hO := zsf8 hO
   cases hF
   have hO := hO.sel [5, 6, 7, 0]
   exact hP _ _ _ _ hO hL ⟨_, _, _, _, _, _, _, _, rfl, rfl, r233, w238, w243, r244, (rm1_9.le hL), (rm1_10.le hL)⟩
  refine zP (hs := [_, _, _, _, _]) (vs := [_, _, _]) hO (zcg r211 w216 w221 h223) (fun _ _ _ h => False.elim h) rfl fun _ σ _ _ hO h224 h225 => ?_
  have hL := hL.trans h224
  have w177 := w177.le h224
  have w267 := w267.le h224
  obtain ⟨v246, v250, v254, o257, v259, o262, rfl, rfl, r247, r253, w258, w263⟩ := h225
  obtain ⟨A248, c249, rfl, -⟩ := r247.form
  obtain ⟨A251, c252, rfl, -⟩ := r253.form
  obtain ⟨A255, c256, rfl, -⟩ := w258.form
  obtain ⟨A260, c261, rfl, -⟩ := w263.form
  have hO := zsf8 hO
  refine za (zu ⟨(zf rfl (hO.val (i := 0) (off := 8) (agg := false) (n := 1) rfl rfl) rfl), trivial⟩ ?_)
  refine za (zm ?_)
  obtain ⟨_, h269, r268, hO⟩ := w267.share hO (i := 4) rfl
  have hL := hL.trans h269
  have w177 := w177.le h269
  have r247 := r247.le h269
  have r253 := r253.le h269
  have w258 := w258.le h269
  have w263 := w263.le h269
  have hO := zsf8 hO
  obtain ⟨_, hr274, hF⟩ := zsg hF
  refine zH (T := zC) hO w177 (i := 2) rfl rfl rfl r268 hr274 (by decide) fun _ σ o272 w273 hO => ?_
  obtain ⟨A270, c271, rfl, -⟩ := w273.form
  have hO := zsf8 hO
  refine za (zbp ?_)
  obtain ⟨y275, g276, hF⟩ := zsg hF
  refine zf2 (T := zC) hO w273 (i := 2) rfl rfl rfl g276 (by decide) fun a277 _ k278 m279 i280 => ?_
  have k281 := k278
  obtain ⟨v282, rfl, r283⟩ := zcB k281
  obtain ⟨A284, c285, rfl, -⟩ := r283.form
  refine za (zbp (zh hO [] [(66, zsb bm1)] [0, 1, 61, 64, 65] zrZ fun j => ?_))
  refine zbp (zh hO [] [(67, .pointer (some ⟨bm1, 8, none⟩))] [0, 1, 61, 64, 65] zrZ fun j => ?_)
  refine zbN ?_ ?_
  ·refine zm (zhZ (T := zC) (z' := (⟨c222.1.Kind, c222.1.Num, c222.1.Name, c222.1.Field, c222.1.Op, c222.1.Kids⟩ : zb)) (vs := [.int .u8 (c222.1.Kind.toNat : Int), .int .i64 c222.1.Num, .string c222.1.Name, .string c222.1.Field, .string c222.1.Op, .slice A248 c222.1.Kids.length c249]) hO w273 (i := 2) rfl rfl i280 g276 rfl rfl (zcz ⟨_, rfl, r247⟩) fun σ o286 w287 hO => ?_)
   have hO := zsf8 hO
   refine za (zm (zs hO (i := 0) rfl (off := 8) rfl rfl rfl rfl (Nat.le_of_ble_eq_true rfl) rfl fun σ hO => ?_))
   have hO := zsf8 hO
   refine za (zbL (zj (zbe (zp (zj ?_)))))
   have l290 : (([(⟨c134.1.Kind, c134.1.Num, c134.1.Name, c134.1.Field, c134.1.Op, c134.1.Kids⟩ : zb)] : List zb) ++ ([(⟨(0 : UInt8), 0, (⟨#[]⟩ : ByteArray), (⟨#[]⟩ : ByteArray), (⟨#[]⟩ : ByteArray), []⟩ : zb)] : List zb)).length = ((([(⟨c134.1.Kind, c134.1.Num, c134.1.Name, c134.1.Field, c134.1.Op, c134.1.Kids⟩ : zb)] : List zb) ++ ([(⟨(0 : UInt8), 0, (⟨#[]⟩ : ByteArray), (⟨#[]⟩ : ByteArray), (⟨#[]⟩ : ByteArray), []⟩ : zb)] : List zb)).set (Int.toNat (([(⟨c134.1.Kind, c134.1.Num, c134.1.Name, c134.1.Field, c134.1.Op, c134.1.Kids⟩ : zb)] : List zb).length : Int)) (⟨c222.1.Kind, c222.1.Num, c222.1.Name, c222.1.Field, c222.1.Op, c222.1.Kids⟩ : zb)).length := w287.len
   obtain ⟨_, h289, r288, hO⟩ := w287.share hO (i := 2) rfl
   have hL := hL.trans h289
   have r247 := r247.le h289
   have r253 := r253.le h289
   have w258 := w258.le h289
   have w263 := w263.le h289
   have hO := zsf8 hO
   cases hF
   have hO := hO.sel [5, 6, 7, 0]
   refine (hQ _ _ _ _ _ rfl hO hL ?_).2
   exact ⟨_, _, _, _, _, _, _, _, rfl, rfl, r253, w258, w263, r288, (rm1_9.le hL), (rm1_10.le hL)⟩
  refine zm (zs hO (i := 0) rfl (off := 8) rfl rfl rfl rfl (Nat.le_of_ble_eq_true rfl) rfl fun σ hO => ?_)
  have hO := zsf8 hO
  refine za (zm (zhZ (T := zC) (z' := (⟨c222.1.Kind, c222.1.Num, c222.1.Name, c222.1.Field, c222.1.Op, c222.1.Kids⟩ : zb)) (vs := [.int .u8 (c222.1.Kind.toNat : Int), .int .i64 c222.1.Num, .string c222.1.Name, .string c222.1.Field, .string c222.1.Op, .slice A248 c222.1.Kids.length c249]) hO w273 (i := 2) rfl rfl i280 g276 rfl rfl (zcz ⟨_, rfl, r247⟩) fun σ o286 w287 hO => ?_))
  have hO := zsf8 hO
  refine za (zbL (zj (zbe (zp (zj ?_)))))
  have l290 : (([(⟨c134.1.Kind, c134.1.Num, c134.1.Name, c134.1.Field, c134.1.Op, c134.1.Kids⟩ : zb)] : List zb) ++ ([(⟨(0 : UInt8), 0, (⟨#[]⟩ : ByteArray), (⟨#[]⟩ : ByteArray), (⟨#[]⟩ : ByteArray), []⟩ : zb)] : List zb)).length = ((([(⟨c134.1.Kind, c134.1.Num, c134.1.Name, c134.1.Field, c134.1.Op, c134.1.Kids⟩ : zb)] : List zb) ++ ([(⟨(0 : UInt8), 0, (⟨#[]⟩ : ByteArray), (⟨#[]⟩ : ByteArray), (⟨#[]⟩ : ByteArray), []⟩ : zb)] : List zb)).set (Int.toNat (([(⟨c134.1.Kind, c134.1.Num, c134.1.Name, c134.1.Field, c134.1.Op, c134.1.Kids⟩ : zb)] : List zb).length : Int)) (⟨c222.1.Kind, c222.1.Num, c222.1.Name, c222.1.Field, c222.1.Op, c222.1.Kids⟩ : zb)).length := w287.len
  obtain ⟨_, h289, r288, hO⟩ := w287.share hO (i := 2) rfl
  have hL := hL.trans h289
  have r247 := r247.le h289
  have r253 := r253.le h289
  have w258 := w258.le h289
  have w263 := w263.le h289
  have hO := zsf8 hO
  cases hF
  have hO := hO.sel [5, 6, 7, 0]
  refine (hQ _ _ _ _ _ rfl hO hL ?_).2
  exact ⟨_, _, _, _, _, _, _, _, rfl, rfl, r253, w258, w263, r288, (rm1_9.le hL), (rm1_10.le hL)⟩
 refine zo (zd hO 3 [] [(71, zsb bm0)] [0, 1] zrW fun j => ?_)
 refine zB (T := Ty.str) (l := ([(⟨#[46]⟩ : ByteArray)] : List ByteArray)) (cs := [.string (⟨#[46]⟩ : ByteArray)]) hO rfl ⟨[.string (⟨#[46]⟩ : ByteArray)], _, rfl, rfl, rfl⟩ rfl (by decide) fun _ σ o293 w294 hO => ?_
 obtain ⟨A291, c292, rfl, -⟩ := w294.form
 have hO := zsf6 hO
 obtain ⟨_, h296, r295, hO⟩ := w294.share hO (i := 5) rfl
 have hL := hL.trans h296
 have r112 := r112.le h296
 have w117 := w117.le h296
 have w122 := w122.le h296
 have hO := zsf6 hO
 obtain ⟨c297, h298, hF⟩ := zsg hF
 have hO := hO.sel [0, 4, 5, 1, 2, 3]
 refine zbB (hs := [_, _, _]) (vs := [_, _, _]) hO (zca r112 w117 w122 r295 h298) rfl fun _ σ _ _ hO h299 h300 => ?_
 have hL := hL.trans h299
 have r295 := r295.le h299
 obtain ⟨v301, v305, o308, v310, o313, rfl, rfl, r304, w309, w314⟩ := h300
 obtain ⟨A302, c303, rfl, -⟩ := r304.form
 obtain ⟨A306, c307, rfl, -⟩ := w309.form
 obtain ⟨A311, c312, rfl, -⟩ := w314.form
 have hO := zsf6 hO
 refine zh hO [] [(68, .bool c297.1)] [0, 1] zrW fun j => ?_
 refine zE hF rfl (fun hF => ?_) fun hF => ?_
 ·refine zo (zd hO 5 [] [(74, zsb bm1), (75, zsb bm1), (78, zsb bm0)] [0, 1] zrY fun j => ?_)
  rcases zO hF with ⟨x320, h321, hF⟩ | ⟨c316, h317, hF⟩
  ·refine zN (hs := [_, _, _]) (vs := [_, _, _]) hO (zb7 r304 w309 w314 h321) (fun _ _ _ h => False.elim h) rfl fun _ σ _ _ hO h322 h323 => ?_
   have hL := hL.trans h322
   obtain ⟨v324, v328, o331, v333, o336, rfl, rfl, r327, w332, w337⟩ := h323
   obtain ⟨A325, c326, rfl, -⟩ := r327.form
   obtain ⟨A329, c330, rfl, -⟩ := w332.form
   obtain ⟨A334, c335, rfl, -⟩ := w337.form
   have hO := zsf6 hO
   cases hF
   have hO := hO.sel [3, 4, 5, 0]
   exact hP _ _ _ _ hO hL ⟨_, _, _, _, _, _, _, _, rfl, rfl, r327, w332, w337, (rm1_8.le hL), (rm1_9.le hL), (rm1_10.le hL)⟩
  refine zP (hs := [_, _, _]) (vs := [_, _, _]) hO (zb7 r304 w309 w314 h317) (fun _ _ _ h => False.elim h) rfl fun _ σ _ _ hO h318 h319 => ?_
  have hL := hL.trans h318
  obtain ⟨v338, v342, o345, v347, o350, rfl, rfl, r341, w346, w351⟩ := h319
  obtain ⟨A339, c340, rfl, -⟩ := r341.form
  obtain ⟨A343, c344, rfl, -⟩ := w346.form
  obtain ⟨A348, c349, rfl, -⟩ := w351.form
  have hO := zsf6 hO
  refine zbE hO 2 [] [(0, zsb bm0), (1, zsb bm1), (75, zsb bm1), (79, .string c316.1), (81, zsb bm1)] zrY fun j => ?_
  refine zs hO (i := 0) rfl (off := 0) rfl rfl rfl rfl (Nat.le_of_ble_eq_true rfl) rfl fun σ hO => ?_
  have hO := zsf6 hO
  refine zd hO 2 [] [(83, .pointer (some ⟨bm1, 3, none⟩))] [0, 1, 79] zrX fun j => ?_
  refine zs hO (i := 0) rfl (off := 3) rfl rfl rfl rfl (Nat.le_of_ble_eq_true rfl) rfl fun σ hO => ?_
  have hO := zsf6 hO
  refine za (zo (zd hO 3 [] [(86, zsb bm0)] [0, 1] zrW fun j => ?_))
  refine zB (T := Ty.str) (l := ([(⟨#[61]⟩ : ByteArray)] : List ByteArray)) (cs := [.string (⟨#[61]⟩ : ByteArray)]) hO rfl ⟨[.string (⟨#[61]⟩ : ByteArray)], _, rfl, rfl, rfl⟩ rfl (by decide) fun _ σ o354 w355 hO => ?_
  obtain ⟨A352, c353, rfl, -⟩ := w355.form
  have hO := zsf7 hO
  obtain ⟨_, h357, r356, hO⟩ := w355.share hO (i := 6) rfl
  have hL := hL.trans h357
  have r341 := r341.le h357
  have w346 := w346.le h357
  have w351 := w351.le h357
  have hO := zsf7 hO
  have hO := hO.sel [0, 1, 2, 6, 3, 4, 5]
  rcases zO hF with ⟨x362, h363, hF⟩ | ⟨c358, h359, hF⟩
  ·refine zN (hs := [_, _, _, _]) (vs := [_, _, _]) hO (zbG r341 w346 w351 r356 h363) (fun _ _ _ h => False.elim h) rfl fun _ σ _ _ hO h364 h365 => ?_
   have hL := hL.trans h364
   have r356 := r356.le h364
   obtain ⟨v366, v370, o373, v375, o378, rfl, rfl, r369, w374, w379⟩ := h365
   obtain ⟨A367, c368, rfl, -⟩ := r369.form
   obtain ⟨A371, c372, rfl, -⟩ := w374.form
   obtain ⟨A376, c377, rfl, -⟩ := w379.form
   have hO := zsf7 hO
   cases hF
   have hO := hO.sel [4, 5, 6, 0]
   exact hP _ _ _ _ hO hL ⟨_, _, _, _, _, _, _, _, rfl, rfl, r369, w374, w379, (rm1_8.le hL), (rm1_9.le hL), (rm1_10.le hL)⟩
  refine zP (hs := [_, _, _, _]) (vs := [_, _, _]) hO (zbG r341 w346 w351 r356 h359) (fun _ _ _ h => False.elim h) rfl fun _ σ _ _ hO h360 h361 => ?_
  have hL := hL.trans h360
  have r356 := r356.le h360
  obtain ⟨v380, v384, o387, v389, o392, rfl, rfl, r383, w388, w393⟩ := h361
  obtain ⟨A381, c382, rfl, -⟩ := r383.form
  obtain ⟨A385, c386, rfl, -⟩ := w388.form
  obtain ⟨A390, c391, rfl, -⟩ := w393.form
  have hO := zsf7 hO
  refine za (zd hO 2 [] [(89, zsb bm1), (90, zsb bm0)] [0, 1] zrX fun j => ?_)
  rcases zO hF with ⟨x398, h399, hF⟩ | ⟨c394, h395, hF⟩
  ·refine zN (hs := [_, _, _, _]) (vs := [_, _, _]) hO (zcg r383 w388 w393 h399) (fun _ _ _ h => False.elim h) rfl fun _ σ _ _ hO h400 h401 => ?_
   have hL := hL.trans h400
   obtain ⟨v402, v406, o409, v411, o414, rfl, rfl, r405, w410, w415⟩ := h401
   obtain ⟨A403, c404, rfl, -⟩ := r405.form
   obtain ⟨A407, c408, rfl, -⟩ := w410.form
   obtain ⟨A412, c413, rfl, -⟩ := w415.form
   have hO := zsf7 hO
   cases hF
   have hO := hO.sel [4, 5, 6, 0]
   exact hP _ _ _ _ hO hL ⟨_, _, _, _, _, _, _, _, rfl, rfl, r405, w410, w415, (rm1_8.le hL), (rm1_9.le hL), (rm1_10.le hL)⟩
  refine zP (hs := [_, _, _, _]) (vs := [_, _, _]) hO (zcg r383 w388 w393 h395) (fun _ _ _ h => False.elim h) rfl fun _ σ _ _ hO h396 h397 => ?_
  have hL := hL.trans h396
  obtain ⟨v416, v420, v424, o427, v429, o432, rfl, rfl, r417, r423, w428, w433⟩ := h397
  obtain ⟨A418, c419, rfl, -⟩ := r417.form
  obtain ⟨A421, c422, rfl, -⟩ := r423.form
  obtain ⟨A425, c426, rfl, -⟩ := w428.form
  obtain ⟨A430, c431, rfl, -⟩ := w433.form
  have hO := zsf7 hO
  refine zB (T := zC) (l := ([(⟨c394.1.Kind, c394.1.Num, c394.1.Name, c394.1.Field, c394.1.Op, c394.1.Kids⟩ : zb)] : List zb)) (cs := [.int .u8 (c394.1.Kind.toNat : Int), .int .i64 c394.1.Num, .string c394.1.Name, .string c394.1.Field, .string c394.1.Op, zsh A418 c394.1.Kids c419]) hO rfl ⟨[.int .u8 (c394.1.Kind.toNat : Int), .int .i64 c394.1.Num, .string c394.1.Name, .string c394.1.Field, .string c394.1.Op, zsh A418 c394.1.Kids c419], _, rfl, (zcz ⟨_, rfl, r417⟩), rfl⟩ rfl (by decide) fun _ σ o436 w437 hO => ?_
  obtain ⟨A434, c435, rfl, -⟩ := w437.form
  have hO := zsf8 hO
  refine zd hO 2 [] [(94, .pointer (some ⟨bm1, 8, none⟩))] [0, 1, 92] zrX fun j => ?_
  refine zs hO (i := 0) rfl (off := 8) rfl rfl rfl rfl (Nat.le_of_ble_eq_true rfl) rfl fun σ hO => ?_
  have hO := zsf8 hO
  refine za (zj (zbe (zp (zj ?_))))
  obtain ⟨_, h439, r438, hO⟩ := w437.share hO (i := 7) rfl
  have hL := hL.trans h439
  have r423 := r423.le h439
  have w428 := w428.le h439
  have w433 := w433.le h439
  have hO := zsf8 hO
  cases hF
  have hO := hO.sel [4, 5, 6, 0]
  refine (hQ _ _ _ _ _ rfl hO hL ?_).2
  exact ⟨_, _, _, _, _, _, _, _, rfl, rfl, r423, w428, w433, r438, (rm1_9.le hL), (rm1_10.le hL)⟩
 refine zo (zd hO 3 [] [(30, zsb bm0)] [0, 1] zrW fun j => ?_)
 refine zB (T := Ty.str) (l := ([(⟨#[61]⟩ : ByteArray)] : List ByteArray)) (cs := [.string (⟨#[61]⟩ : ByteArray)]) hO rfl ⟨[.string (⟨#[61]⟩ : ByteArray)], _, rfl, rfl, rfl⟩ rfl (by decide) fun _ σ o442 w443 hO => ?_
 obtain ⟨A440, c441, rfl, -⟩ := w443.form
 have hO := zsf7 hO
 obtain ⟨_, h445, r444, hO⟩ := w443.share hO (i := 6) rfl
 have hL := hL.trans h445
 have r304 := r304.le h445
 have w309 := w309.le h445
 have w314 := w314.le h445
 have hO := zsf7 hO
 have hO := hO.sel [0, 1, 2, 6, 3, 4, 5]
 rcases zO hF with ⟨x450, h451, hF⟩ | ⟨c446, h447, hF⟩
 ·refine zN (hs := [_, _, _, _]) (vs := [_, _, _]) hO (zbG r304 w309 w314 r444 h451) (fun _ _ _ h => False.elim h) rfl fun _ σ _ _ hO h452 h453 => ?_
  have hL := hL.trans h452
  have r444 := r444.le h452
  obtain ⟨v454, v458, o461, v463, o466, rfl, rfl, r457, w462, w467⟩ := h453
  obtain ⟨A455, c456, rfl, -⟩ := r457.form
  obtain ⟨A459, c460, rfl, -⟩ := w462.form
  obtain ⟨A464, c465, rfl, -⟩ := w467.form
  have hO := zsf7 hO
  cases hF
  have hO := hO.sel [4, 5, 6, 0]
  exact hP _ _ _ _ hO hL ⟨_, _, _, _, _, _, _, _, rfl, rfl, r457, w462, w467, (rm1_8.le hL), (rm1_9.le hL), (rm1_10.le hL)⟩
 refine zP (hs := [_, _, _, _]) (vs := [_, _, _]) hO (zbG r304 w309 w314 r444 h447) (fun _ _ _ h => False.elim h) rfl fun _ σ _ _ hO h448 h449 => ?_
 have hL := hL.trans h448
 have r444 := r444.le h448
 obtain ⟨v468, v472, o475, v477, o480, rfl, rfl, r471, w476, w481⟩ := h449
 obtain ⟨A469, c470, rfl, -⟩ := r471.form
 obtain ⟨A473, c474, rfl, -⟩ := w476.form
 obtain ⟨A478, c479, rfl, -⟩ := w481.form
 have hO := zsf7 hO
 refine za (zbE hO 2 [] [(0, zsb bm0), (1, zsb bm1), (33, zsb bm0), (34, zsb bm1)] zrX fun j => ?_)
 have hO := hO.sel [1, 2, 3, 4, 5, 6, 0]
 rcases zO hF with ⟨x486, h487, hF⟩ | ⟨c482, h483, hF⟩
 ·refine zN (hs := [_, _, _]) (vs := [_, _, _, _]) hO (zlv (q1 := (⟨q1.Kind, q1.Line, c87.1, q1.Field, q1.Call, (⟨q1.Type_.Kind, q1.Type_.N, q1.Type_.Name⟩ : zI), q1.Kids, q1.Body, q1.Else⟩ : zg)) r471 w476 w481 (rm1_8.le hL) (rm1_9.le hL) (rm1_10.le hL) h487) (fun _ _ _ h => False.elim h) rfl fun _ σ _ _ hO h488 h489 => ?_
  have hL := hL.trans h488
  obtain ⟨v490, v494, o497, v499, o502, v504, v508, v512, rfl, rfl, r493, w498, w503, r507, r511, r515⟩ := h489
  obtain ⟨A491, c492, rfl, -⟩ := r493.form
  obtain ⟨A495, c496, rfl, -⟩ := w498.form
  obtain ⟨A500, c501, rfl, -⟩ := w503.form
  obtain ⟨A505, c506, rfl, -⟩ := r507.form
  obtain ⟨A509, c510, rfl, -⟩ := r511.form
  obtain ⟨A513, c514, rfl, -⟩ := r515.form
  have hO := zsf7 hO
  cases hF
  have hO := hO.sel [3, 4, 5, 6]
  exact hP _ _ _ _ hO hL ⟨_, _, _, _, _, _, _, _, rfl, rfl, r493, w498, w503, r507, r511, r515⟩
 refine zP (hs := [_, _, _]) (vs := [_, _, _, _]) hO (zlv (q1 := (⟨q1.Kind, q1.Line, c87.1, q1.Field, q1.Call, (⟨q1.Type_.Kind, q1.Type_.N, q1.Type_.Name⟩ : zI), q1.Kids, q1.Body, q1.Else⟩ : zg)) r471 w476 w481 (rm1_8.le hL) (rm1_9.le hL) (rm1_10.le hL) h483) (fun _ _ _ h => False.elim h) rfl fun _ σ _ _ hO h484 h485 => ?_
 have hL := hL.trans h484
 obtain ⟨v516, v520, o523, v525, o528, v530, v534, v538, rfl, rfl, r519, w524, w529, r533, r537, r541⟩ := h485
 obtain ⟨A517, c518, rfl, -⟩ := r519.form
 obtain ⟨A521, c522, rfl, -⟩ := w524.form
 obtain ⟨A526, c527, rfl, -⟩ := w529.form
 obtain ⟨A531, c532, rfl, -⟩ := r533.form
 obtain ⟨A535, c536, rfl, -⟩ := r537.form
 obtain ⟨A539, c540, rfl, -⟩ := r541.form
 have hO := zsf7 hO
 refine za (zj (zbe (zp (zj ?_))))
 cases hF
 have hO := hO.sel [3, 4, 5, 6]
 refine (hQ _ _ _ _ _ rfl hO hL ?_).2
 exact ⟨_, _, _, _, _, _, _, _, rfl, rfl, r519, w524, w529, r533, r537, r541⟩
theorem zmk {τ : Hp} {q0 : zc} {bm0 : Nat} {vm0_0 vm0_2 : Value} {om0_2 : Ob} {vm0_3 : Value} {om0_3 : Ob} {q1 : zg} {bm1 : Nat} {vm1_8 vm1_9 vm1_10 : Value} (rm0_0 : RdT zt τ vm0_0 q0.cursor.tokens) (wm0_2 : ze zn 71 τ vm0_2 q0.prog.Structs om0_2) (wm0_3 : ze zk 50 τ vm0_3 q0.prog.Funcs om0_3) (rm1_8 : RdT zC τ vm1_8 q1.Kids) (rm1_9 : RdT zJ τ vm1_9 q1.Body) (rm1_10 : RdT zJ τ vm1_10 q1.Else) {rr : Except (Value × zc × zg) (zc × zg)} (hF : zg6 q0 q1 = some rr) :
  zbM Try.prog 84 #[.pointer (some ⟨bm0, 0, none⟩), .pointer (some ⟨bm1, 0, none⟩)] τ [zw bm0 vm0_0 q0.cursor.at_ vm0_2 vm0_3, om0_2, om0_3, zb5 bm1 q1.Kind.toNat q1.Line q1.Name q1.Field q1.Call q1.Type_.Kind.toNat q1.Type_.N q1.Type_.Name vm1_8 vm1_9 vm1_10] (fun v τ' vs' => match (generalizing := false) rr with | .ok rr => ∃ (u0_0 u0_2 : Value) (y0_2 : Ob) (u0_3 : Value) (y0_3 : Ob) (u1_8 u1_9 u1_10 : Value), v = .tuple #[] ∧ vs' = [zw bm0 u0_0 rr.1.cursor.at_ u0_2 u0_3, y0_2, y0_3, zb5 bm1 rr.2.Kind.toNat rr.2.Line rr.2.Name rr.2.Field rr.2.Call rr.2.Type_.Kind.toNat rr.2.Type_.N rr.2.Type_.Name u1_8 u1_9 u1_10] ∧ RdT zt τ' u0_0 rr.1.cursor.tokens ∧ ze zn 71 τ' u0_2 rr.1.prog.Structs y0_2 ∧ ze zk 50 τ' u0_3 rr.1.prog.Funcs y0_3 ∧ RdT zC τ' u1_8 rr.2.Kids ∧ RdT zJ τ' u1_9 rr.2.Body ∧ RdT zJ τ' u1_10 rr.2.Else | .error _ => False) (fun ch τ' vs' => match (generalizing := false) rr with | .ok _ => False | .error ee => ∃ (u0_0 u0_2 : Value) (y0_2 : Ob) (u0_3 : Value) (y0_3 : Ob) (u1_8 u1_9 u1_10 : Value), ch = [{ v := ee.1, recovered := false }] ∧ vs' = [zw bm0 u0_0 ee.2.1.cursor.at_ u0_2 u0_3, y0_2, y0_3, zb5 bm1 ee.2.2.Kind.toNat ee.2.2.Line ee.2.2.Name ee.2.2.Field ee.2.2.Call ee.2.2.Type_.Kind.toNat ee.2.2.Type_.N ee.2.2.Type_.Name u1_8 u1_9 u1_10] ∧ RdT zt τ' u0_0 ee.2.1.cursor.tokens ∧ ze zn 71 τ' u0_2 ee.2.1.prog.Structs y0_2 ∧ ze zk 50 τ' u0_3 ee.2.1.prog.Funcs y0_3 ∧ RdT zC τ' u1_8 ee.2.2.Kids ∧ RdT zJ τ' u1_9 ee.2.2.Body ∧ RdT zJ τ' u1_10 ee.2.2.Else) := by
 obtain ⟨Am0_0, cm0_0, rfl, -⟩ := rm0_0.form
 obtain ⟨Am0_2, cm0_2, rfl, -⟩ := wm0_2.form
 obtain ⟨Am0_3, cm0_3, rfl, -⟩ := wm0_3.form
 obtain ⟨Am1_8, cm1_8, rfl, -⟩ := rm1_8.form
 obtain ⟨Am1_9, cm1_9, rfl, -⟩ := rm1_9.form
 obtain ⟨Am1_10, cm1_10, rfl, -⟩ := rm1_10.form
 refine zcL (args := [.pointer (some ⟨bm0, 0, none⟩), .pointer (some ⟨bm1, 0, none⟩)]) hm Try.func84 s84 rfl fun w0 σ hP hO Q hQ => ?_
 unfold zg6 at hF
 have hL := Hp.le.refl τ
 show wpn _ _ a84.body _ _ _
 unfold a84
 dsimp only
 refine zmL (fun e' σ' => ∃ (A410 : Option Addr) (c411 : Nat) (x412 : List zr) (x414 : Int) (A415 : Option Addr) (c416 : Nat) (o417 : Ob) (x418 : List zl) (A420 : Option Addr) (c421 : Nat) (o422 : Ob) (x423 : List zi) (x425 : UInt8) (x426 : Int) (x427 x428 x429 : ByteArray) (x430 : UInt8) (x431 : Int) (x432 : ByteArray) (A433 : Option Addr) (c434 : Nat) (x435 : List zb) (A437 : Option Addr) (c438 : Nat) (x439 : List zg) (A441 : Option Addr) (c442 : Nat) (x443 : List zg) (τ' : Hp), agr [(0, zsb bm0), (1, zsb bm1)] e' ∧ Obs τ' σ' [zw bm0 (zsh A410 x412 c411) x414 (zsh A415 x418 c416) (zsh A420 x423 c421), o417, o422, zb5 bm1 (x425.toNat : Int) x426 x427 x428 x429 (x430.toNat : Int) x431 x432 (zsh A433 x435 c434) (zsh A437 x439 c438) (zsh A441 x443 c442)] ∧ Hp.le τ τ' ∧ RdT zt τ' (zsh A410 x412 c411) x412 ∧ ze zn 71 τ' (zsh A415 x418 c416) x418 o417 ∧ ze zk 50 τ' (zsh A420 x423 c421) x423 o422 ∧ RdT zC τ' (zsh A433 x435 c434) x435 ∧ RdT zJ τ' (zsh A437 x439 c438) x439 ∧ RdT zJ τ' (zsh A441 x443 c442) x443 ∧ zei x412 x414 x418 x423 x425 x426 x427 x428 x429 x430 x431 x432 x435 x439 x443 = some rr) ?_ ?_
 ·refine zd hO 3 [] [(10, zsb bm0)] [0, 1] zrW fun j => ?_
  refine zB (T := Ty.str) (l := ([(⟨#[118, 97, 114]⟩ : ByteArray)] : List ByteArray)) (cs := [.string (⟨#[118, 97, 114]⟩ : ByteArray)]) hO rfl ⟨[.string (⟨#[118, 97, 114]⟩ : ByteArray)], _, rfl, rfl, rfl⟩ rfl (by decide) fun _ σ o489 w490 hO => ?_
  obtain ⟨A487, c488, rfl, -⟩ := w490.form
  have hO := zsf5 hO
  obtain ⟨_, h492, r491, hO⟩ := w490.share hO (i := 4) rfl
  have hL := hL.trans h492
  have hO := zsf5 hO
  obtain ⟨c493, h494, hF⟩ := zsg hF
  have hO := hO.sel [3, 4, 0, 1, 2]
  refine zbB (hs := [_, _]) (vs := [_, _, _]) hO (zca (rm0_0.le hL) (wm0_2.le hL) (wm0_3.le hL) r491 h494) rfl fun _ σ _ _ hO h495 h496 => ?_
  have hL := hL.trans h495
  have r491 := r491.le h495
  obtain ⟨v497, v501, o504, v506, o509, rfl, rfl, r500, w505, w510⟩ := h496
  obtain ⟨A498, c499, rfl, -⟩ := r500.form
  obtain ⟨A502, c503, rfl, -⟩ := w505.form
  obtain ⟨A507, c508, rfl, -⟩ := w510.form
  have hO := zsf5 hO
  refine zh hO [] [(7, .bool c493.1)] [0, 1] zrW fun j => ?_
  refine zb2 (zE hF rfl (fun hF => ?_) fun hF => ?_)
  ·refine zd hO 2 [] [(13, zsb bm0), (14, zsb bm1)] [0, 1] zrX fun j => ?_
   have hO := hO.sel [1, 2, 3, 4, 0]
   rcases zO hF with ⟨x516, h517, hF⟩ | ⟨c512, h513, hF⟩
   ·refine zN (hs := [_]) (vs := [_, _, _, _]) hO (zl7 r500 w505 w510 (rm1_8.le hL) (rm1_9.le hL) (rm1_10.le hL) h517) (fun _ _ _ h => False.elim h) rfl fun _ σ _ _ hO h518 h519 => ?_
    have hL := hL.trans h518
    obtain ⟨v520, v524, o527, v529, o532, v534, v538, v542, rfl, rfl, r523, w528, w533, r537, r541, r545⟩ := h519
    obtain ⟨A521, c522, rfl, -⟩ := r523.form
    obtain ⟨A525, c526, rfl, -⟩ := w528.form
    obtain ⟨A530, c531, rfl, -⟩ := w533.form
    obtain ⟨A535, c536, rfl, -⟩ := r537.form
    obtain ⟨A539, c540, rfl, -⟩ := r541.form
    obtain ⟨A543, c544, rfl, -⟩ := r545.form
    have hO := zsf5 hO
    cases hF
    have hO := hO.sel [1, 2, 3, 4]
    exact hP _ _ _ _ hO hL ⟨_, _, _, _, _, _, _, _, rfl, rfl, r523, w528, w533, r537, r541, r545⟩
   refine zP (hs := [_]) (vs := [_, _, _, _]) hO (zl7 r500 w505 w510 (rm1_8.le hL) (rm1_9.le hL) (rm1_10.le hL) h513) (fun _ _ _ h => False.elim h) rfl fun _ σ _ _ hO h514 h515 => ?_
   have hL := hL.trans h514
   obtain ⟨v546, v550, o553, v555, o558, v560, v564, v568, rfl, rfl, r549, w554, w559, r563, r567, r571⟩ := h515
   obtain ⟨A547, c548, rfl, -⟩ := r549.form
   obtain ⟨A551, c552, rfl, -⟩ := w554.form
   obtain ⟨A556, c557, rfl, -⟩ := w559.form
   obtain ⟨A561, c562, rfl, -⟩ := r563.form
   obtain ⟨A565, c566, rfl, -⟩ := r567.form
   obtain ⟨A569, c570, rfl, -⟩ := r571.form
   have hO := zsf5 hO
   refine za (zj (zbe (zp ?_)))
   have hO := hO.sel [1, 2, 3, 4]
   exact ⟨A547, c548, c512.1.cursor.tokens, c512.1.cursor.at_, A551, c552, o553, c512.1.prog.Structs, A556, c557, o558, c512.1.prog.Funcs, c512.2.Kind, c512.2.Line, c512.2.Name, c512.2.Field, c512.2.Call, c512.2.Type_.Kind, c512.2.Type_.N, c512.2.Type_.Name, A561, c562, c512.2.Kids, A565, c566, c512.2.Body, A569, c570, c512.2.Else, _, zr9 zrU, hO, hL, r549, w554, w559, r563, r567, r571, hF⟩
  refine zo (zd hO 3 [] [(19, zsb bm0)] [0, 1] zrW fun j => ?_)
  refine zB (T := Ty.str) (l := ([(⟨#[112, 114, 105, 110, 116]⟩ : ByteArray)] : List ByteArray)) (cs := [.string (⟨#[112, 114, 105, 110, 116]⟩ : ByteArray)]) hO rfl ⟨[.string (⟨#[112, 114, 105, 110, 116]⟩ : ByteArray)], _, rfl, rfl, rfl⟩ rfl (by decide) fun _ σ o574 w575 hO => ?_
  obtain ⟨A572, c573, rfl, -⟩ := w575.form
  have hO := zsf6 hO
  obtain ⟨_, h577, r576, hO⟩ := w575.share hO (i := 5) rfl
  have hL := hL.trans h577
  have r500 := r500.le h577
  have w505 := w505.le h577
  have w510 := w510.le h577
  have hO := zsf6 hO
  obtain ⟨c578, h579, hF⟩ := zsg hF
  have hO := hO.sel [0, 1, 5, 2, 3, 4]
  refine zbB (hs := [_, _, _]) (vs := [_, _, _]) hO (zca r500 w505 w510 r576 h579) rfl fun _ σ _ _ hO h580 h581 => ?_
  have hL := hL.trans h580
  have r576 := r576.le h580
  obtain ⟨v582, v586, o589, v591, o594, rfl, rfl, r585, w590, w595⟩ := h581
  obtain ⟨A583, c584, rfl, -⟩ := r585.form
  obtain ⟨A587, c588, rfl, -⟩ := w590.form
  obtain ⟨A592, c593, rfl, -⟩ := w595.form
  have hO := zsf6 hO
  refine zh hO [] [(16, .bool c578.1)] [0, 1] zrW fun j => ?_
  refine zE hF rfl (fun hF => ?_) fun hF => ?_
  ·refine zo (zd hO 3 [] [(24, zsb bm0)] [0, 1] zrW fun j => ?_)
   refine zB (T := Ty.str) (l := ([(⟨#[40]⟩ : ByteArray)] : List ByteArray)) (cs := [.string (⟨#[40]⟩ : ByteArray)]) hO rfl ⟨[.string (⟨#[40]⟩ : ByteArray)], _, rfl, rfl, rfl⟩ rfl (by decide) fun _ σ o599 w600 hO => ?_
   obtain ⟨A597, c598, rfl, -⟩ := w600.form
   have hO := zsf7 hO
   obtain ⟨_, h602, r601, hO⟩ := w600.share hO (i := 6) rfl
   have hL := hL.trans h602
   have r585 := r585.le h602
   have w590 := w590.le h602
   have w595 := w595.le h602
   have hO := zsf7 hO
   have hO := hO.sel [0, 1, 2, 6, 3, 4, 5]
   rcases zO hF with ⟨x607, h608, hF⟩ | ⟨c603, h604, hF⟩
   ·refine zN (hs := [_, _, _, _]) (vs := [_, _, _]) hO (zbG r585 w590 w595 r601 h608) (fun _ _ _ h => False.elim h) rfl fun _ σ _ _ hO h609 h610 => ?_
    have hL := hL.trans h609
    have r601 := r601.le h609
    obtain ⟨v611, v615, o618, v620, o623, rfl, rfl, r614, w619, w624⟩ := h610
    obtain ⟨A612, c613, rfl, -⟩ := r614.form
    obtain ⟨A616, c617, rfl, -⟩ := w619.form
    obtain ⟨A621, c622, rfl, -⟩ := w624.form
    have hO := zsf7 hO
    cases hF
    have hO := hO.sel [4, 5, 6, 0]
    exact hP _ _ _ _ hO hL ⟨_, _, _, _, _, _, _, _, rfl, rfl, r614, w619, w624, (rm1_8.le hL), (rm1_9.le hL), (rm1_10.le hL)⟩
   refine zP (hs := [_, _, _, _]) (vs := [_, _, _]) hO (zbG r585 w590 w595 r601 h604) (fun _ _ _ h => False.elim h) rfl fun _ σ _ _ hO h605 h606 => ?_
   have hL := hL.trans h605
   have r601 := r601.le h605
   obtain ⟨v625, v629, o632, v634, o637, rfl, rfl, r628, w633, w638⟩ := h606
   obtain ⟨A626, c627, rfl, -⟩ := r628.form
   obtain ⟨A630, c631, rfl, -⟩ := w633.form
   obtain ⟨A635, c636, rfl, -⟩ := w638.form
   have hO := zsf7 hO
   refine za (zo (zd hO 3 [] [(27, zsb bm1), (28, zsb bm1), (29, zsb bm0)] [0, 1] zrY fun j => ?_))
   rcases zO hF with ⟨x643, h644, hF⟩ | ⟨c639, h640, hF⟩
   ·refine zN (hs := [_, _, _, _]) (vs := [_, _, _]) hO (zcg r628 w633 w638 h644) (fun _ _ _ h => False.elim h) rfl fun _ σ _ _ hO h645 h646 => ?_
    have hL := hL.trans h645
    obtain ⟨v647, v651, o654, v656, o659, rfl, rfl, r650, w655, w660⟩ := h646
    obtain ⟨A648, c649, rfl, -⟩ := r650.form
    obtain ⟨A652, c653, rfl, -⟩ := w655.form
    obtain ⟨A657, c658, rfl, -⟩ := w660.form
    have hO := zsf7 hO
    cases hF
    have hO := hO.sel [4, 5, 6, 0]
    exact hP _ _ _ _ hO hL ⟨_, _, _, _, _, _, _, _, rfl, rfl, r650, w655, w660, (rm1_8.le hL), (rm1_9.le hL), (rm1_10.le hL)⟩
   refine zP (hs := [_, _, _, _]) (vs := [_, _, _]) hO (zcg r628 w633 w638 h640) (fun _ _ _ h => False.elim h) rfl fun _ σ _ _ hO h641 h642 => ?_
   have hL := hL.trans h641
   obtain ⟨v661, v665, v669, o672, v674, o677, rfl, rfl, r662, r668, w673, w678⟩ := h642
   obtain ⟨A663, c664, rfl, -⟩ := r662.form
   obtain ⟨A666, c667, rfl, -⟩ := r668.form
   obtain ⟨A670, c671, rfl, -⟩ := w673.form
   obtain ⟨A675, c676, rfl, -⟩ := w678.form
   have hO := zsf7 hO
   refine zB (T := zC) (l := ([(⟨c639.1.Kind, c639.1.Num, c639.1.Name, c639.1.Field, c639.1.Op, c639.1.Kids⟩ : zb)] : List zb)) (cs := [.int .u8 (c639.1.Kind.toNat : Int), .int .i64 c639.1.Num, .string c639.1.Name, .string c639.1.Field, .string c639.1.Op, zsh A663 c639.1.Kids c664]) hO rfl ⟨[.int .u8 (c639.1.Kind.toNat : Int), .int .i64 c639.1.Num, .string c639.1.Name, .string c639.1.Field, .string c639.1.Op, zsh A663 c639.1.Kids c664], _, rfl, (zcz ⟨_, rfl, r662⟩), rfl⟩ rfl (by decide) fun _ σ o681 w682 hO => ?_
   obtain ⟨A679, c680, rfl, -⟩ := w682.form
   have hO := zsf8 hO
   refine zd hO 2 [] [(33, zsb bm1)] [0, 1, 28, 31] zrY fun j => ?_
   refine zs hO (i := 0) rfl (off := 0) rfl rfl rfl rfl (Nat.le_of_ble_eq_true rfl) rfl fun σ hO => ?_
   have hO := zsf8 hO
   refine zd hO 2 [] [(35, .pointer (some ⟨bm1, 8, none⟩))] [0, 1, 31] zrX fun j => ?_
   refine zs hO (i := 0) rfl (off := 8) rfl rfl rfl rfl (Nat.le_of_ble_eq_true rfl) rfl fun σ hO => ?_
   have hO := zsf8 hO
   refine za (zbE hO 3 [] [(0, zsb bm0), (1, zsb bm1), (38, zsb bm0)] zrW fun j => ?_)
   refine zB (T := Ty.str) (l := ([(⟨#[41]⟩ : ByteArray)] : List ByteArray)) (cs := [.string (⟨#[41]⟩ : ByteArray)]) hO rfl ⟨[.string (⟨#[41]⟩ : ByteArray)], _, rfl, rfl, rfl⟩ rfl (by decide) fun _ σ o685 w686 hO => ?_
   obtain ⟨A683, c684, rfl, -⟩ := w686.form
   have hO := zsf9 hO
   obtain ⟨_, h688, r687, hO⟩ := w686.share hO (i := 8) rfl
   have hL := hL.trans h688
   have w682 := w682.le h688
   have r668 := r668.le h688
   have w673 := w673.le h688
   have w678 := w678.le h688
   have hO := zsf9 hO
   have hO := hO.sel [0, 1, 2, 3, 7, 8, 4, 5, 6]
   rcases zO hF with ⟨x693, h694, hF⟩ | ⟨c689, h690, hF⟩
   ·refine zN (hs := [_, _, _, _, _, _]) (vs := [_, _, _]) hO (zbG r668 w673 w678 r687 h694) (fun _ _ _ h => False.elim h) rfl fun _ σ _ _ hO h695 h696 => ?_
    have hL := hL.trans h695
    have r687 := r687.le h695
    have w682 := w682.le h695
    obtain ⟨v697, v701, o704, v706, o709, rfl, rfl, r700, w705, w710⟩ := h696
    obtain ⟨A698, c699, rfl, -⟩ := r700.form
    obtain ⟨A702, c703, rfl, -⟩ := w705.form
    obtain ⟨A707, c708, rfl, -⟩ := w710.form
    have hO := zsf9 hO
    obtain ⟨_, h712, r711, hO⟩ := w682.share hO (i := 4) rfl
    have hL := hL.trans h712
    have r687 := r687.le h712
    have r700 := r700.le h712
    have w705 := w705.le h712
    have w710 := w710.le h712
    have hO := zsf9 hO
    cases hF
    have hO := hO.sel [6, 7, 8, 0]
    exact hP _ _ _ _ hO hL ⟨_, _, _, _, _, _, _, _, rfl, rfl, r700, w705, w710, r711, (rm1_9.le hL), (rm1_10.le hL)⟩
   refine zP (hs := [_, _, _, _, _, _]) (vs := [_, _, _]) hO (zbG r668 w673 w678 r687 h690) (fun _ _ _ h => False.elim h) rfl fun _ σ _ _ hO h691 h692 => ?_
   have hL := hL.trans h691
   have r687 := r687.le h691
   have w682 := w682.le h691
   obtain ⟨v713, v717, o720, v722, o725, rfl, rfl, r716, w721, w726⟩ := h692
   obtain ⟨A714, c715, rfl, -⟩ := r716.form
   obtain ⟨A718, c719, rfl, -⟩ := w721.form
   obtain ⟨A723, c724, rfl, -⟩ := w726.form
   have hO := zsf9 hO
   refine za (zj (zbe (zp ?_)))
   obtain ⟨_, h728, r727, hO⟩ := w682.share hO (i := 4) rfl
   have hL := hL.trans h728
   have r716 := r716.le h728
   have w721 := w721.le h728
   have w726 := w726.le h728
   have hO := zsf9 hO
   have hO := hO.sel [6, 7, 8, 0]
   exact ⟨A714, c715, c689.cursor.tokens, c689.cursor.at_, A718, c719, o720, c689.prog.Structs, A723, c724, o725, c689.prog.Funcs, (8 : UInt8), q1.Line, q1.Name, q1.Field, q1.Call, q1.Type_.Kind, q1.Type_.N, q1.Type_.Name, A679, c680, ([(⟨c639.1.Kind, c639.1.Num, c639.1.Name, c639.1.Field, c639.1.Op, c639.1.Kids⟩ : zb)] : List zb), Am1_9, cm1_9, q1.Body, Am1_10, cm1_10, q1.Else, _, zr9 zrU, hO, hL, r716, w721, w726, r727, (rm1_9.le hL), (rm1_10.le hL), hF⟩
  refine zo (zd hO 3 [] [(44, zsb bm0)] [0, 1] zrW fun j => ?_)
  refine zB (T := Ty.str) (l := ([(⟨#[114, 101, 116, 117, 114, 110]⟩ : ByteArray)] : List ByteArray)) (cs := [.string (⟨#[114, 101, 116, 117, 114, 110]⟩ : ByteArray)]) hO rfl ⟨[.string (⟨#[114, 101, 116, 117, 114, 110]⟩ : ByteArray)], _, rfl, rfl, rfl⟩ rfl (by decide) fun _ σ o731 w732 hO => ?_
  obtain ⟨A729, c730, rfl, -⟩ := w732.form
  have hO := zsf7 hO
  obtain ⟨_, h734, r733, hO⟩ := w732.share hO (i := 6) rfl
  have hL := hL.trans h734
  have r585 := r585.le h734
  have w590 := w590.le h734
  have w595 := w595.le h734
  have hO := zsf7 hO
  obtain ⟨c735, h736, hF⟩ := zsg hF
  have hO := hO.sel [0, 1, 2, 6, 3, 4, 5]
  refine zbB (hs := [_, _, _, _]) (vs := [_, _, _]) hO (zca r585 w590 w595 r733 h736) rfl fun _ σ _ _ hO h737 h738 => ?_
  have hL := hL.trans h737
  have r733 := r733.le h737
  obtain ⟨v739, v743, o746, v748, o751, rfl, rfl, r742, w747, w752⟩ := h738
  obtain ⟨A740, c741, rfl, -⟩ := r742.form
  obtain ⟨A744, c745, rfl, -⟩ := w747.form
  obtain ⟨A749, c750, rfl, -⟩ := w752.form
  have hO := zsf7 hO
  refine zh hO [] [(41, .bool c735.1)] [0, 1] zrW fun j => ?_
  refine zE hF rfl (fun hF => ?_) fun hF => ?_
  ·refine zo (zd hO 3 [] [(49, zsb bm1)] [0, 1] zrW fun j => ?_)
   refine zs hO (i := 0) rfl (off := 0) rfl rfl rfl rfl (Nat.le_of_ble_eq_true rfl) rfl fun σ hO => ?_
   have hO := zsf7 hO
   refine za (zo (zd hO 3 [] [(52, zsb bm0)] [0, 1] zrW fun j => ?_))
   refine zB (T := Ty.str) (l := ([(⟨#[59]⟩ : ByteArray)] : List ByteArray)) (cs := [.string (⟨#[59]⟩ : ByteArray)]) hO rfl ⟨[.string (⟨#[59]⟩ : ByteArray)], _, rfl, rfl, rfl⟩ rfl (by decide) fun _ σ o756 w757 hO => ?_
   obtain ⟨A754, c755, rfl, -⟩ := w757.form
   have hO := zsf8 hO
   obtain ⟨_, h759, r758, hO⟩ := w757.share hO (i := 7) rfl
   have hL := hL.trans h759
   have r742 := r742.le h759
   have w747 := w747.le h759
   have w752 := w752.le h759
   have hO := zsf8 hO
   obtain ⟨c760, h761, hF⟩ := zsg hF
   have hO := hO.sel [0, 1, 2, 3, 7, 4, 5, 6]
   refine zbB (hs := [_, _, _, _, _]) (vs := [_, _, _]) hO (zd8 r742 w747 w752 r758 h761) rfl fun _ σ _ _ hO h762 h763 => ?_
   have hL := hL.trans h762
   have r758 := r758.le h762
   have r742 := r742.le h762
   have w747 := w747.le h762
   have w752 := w752.le h762
   obtain ⟨rfl, rfl⟩ := h763
   have hO := zsf8 hO
   have hO := hO.sel [0, 1, 2, 3, 5, 6, 7, 4]
   have hO := zsf8 hO
   refine zX hO [] [(0, zsb bm0), (1, zsb bm1), (55, .bool (!c760))] zrW fun j => ?_
   refine zE hF rfl (fun hF => ?_) fun hF => ?_
   ·refine zd hO 2 [] [(56, zsb bm1), (57, zsb bm0)] [0, 1] zrX fun j => ?_
    have hO := hO.sel [0, 1, 2, 3, 7, 4, 5, 6]
    rcases zO hF with ⟨x769, h770, hF⟩ | ⟨c765, h766, hF⟩
    ·refine zN (hs := [_, _, _, _, _]) (vs := [_, _, _]) hO (zcg r742 w747 w752 h770) (fun _ _ _ h => False.elim h) rfl fun _ σ _ _ hO h771 h772 => ?_
     have hL := hL.trans h771
     obtain ⟨v773, v777, o780, v782, o785, rfl, rfl, r776, w781, w786⟩ := h772
     obtain ⟨A774, c775, rfl, -⟩ := r776.form
     obtain ⟨A778, c779, rfl, -⟩ := w781.form
     obtain ⟨A783, c784, rfl, -⟩ := w786.form
     have hO := zsf8 hO
     cases hF
     have hO := hO.sel [5, 6, 7, 0]
     exact hP _ _ _ _ hO hL ⟨_, _, _, _, _, _, _, _, rfl, rfl, r776, w781, w786, (rm1_8.le hL), (rm1_9.le hL), (rm1_10.le hL)⟩
    refine zP (hs := [_, _, _, _, _]) (vs := [_, _, _]) hO (zcg r742 w747 w752 h766) (fun _ _ _ h => False.elim h) rfl fun _ σ _ _ hO h767 h768 => ?_
    have hL := hL.trans h767
    obtain ⟨v787, v791, v795, o798, v800, o803, rfl, rfl, r788, r794, w799, w804⟩ := h768
    obtain ⟨A789, c790, rfl, -⟩ := r788.form
    obtain ⟨A792, c793, rfl, -⟩ := r794.form
    obtain ⟨A796, c797, rfl, -⟩ := w799.form
    obtain ⟨A801, c802, rfl, -⟩ := w804.form
    have hO := zsf8 hO
    refine zB (T := zC) (l := ([(⟨c765.1.Kind, c765.1.Num, c765.1.Name, c765.1.Field, c765.1.Op, c765.1.Kids⟩ : zb)] : List zb)) (cs := [.int .u8 (c765.1.Kind.toNat : Int), .int .i64 c765.1.Num, .string c765.1.Name, .string c765.1.Field, .string c765.1.Op, zsh A789 c765.1.Kids c790]) hO rfl ⟨[.int .u8 (c765.1.Kind.toNat : Int), .int .i64 c765.1.Num, .string c765.1.Name, .string c765.1.Field, .string c765.1.Op, zsh A789 c765.1.Kids c790], _, rfl, (zcz ⟨_, rfl, r788⟩), rfl⟩ rfl (by decide) fun _ σ o807 w808 hO => ?_
    obtain ⟨A805, c806, rfl, -⟩ := w808.form
    have hO := zsf9 hO
    refine zd hO 2 [] [(61, .pointer (some ⟨bm1, 8, none⟩))] [0, 1, 59] zrX fun j => ?_
    refine zs hO (i := 0) rfl (off := 8) rfl rfl rfl rfl (Nat.le_of_ble_eq_true rfl) rfl fun σ hO => ?_
    have hO := zsf9 hO
    refine za (zj (zbe (zp ?_)))
    obtain ⟨_, h810, r809, hO⟩ := w808.share hO (i := 8) rfl
    have hL := hL.trans h810
    have r794 := r794.le h810
    have w799 := w799.le h810
    have w804 := w804.le h810
    have hO := zsf9 hO
    have hO := hO.sel [5, 6, 7, 0]
    exact ⟨A792, c793, c765.2.cursor.tokens, c765.2.cursor.at_, A796, c797, o798, c765.2.prog.Structs, A801, c802, o803, c765.2.prog.Funcs, (10 : UInt8), q1.Line, q1.Name, q1.Field, q1.Call, q1.Type_.Kind, q1.Type_.N, q1.Type_.Name, A805, c806, ([(⟨c765.1.Kind, c765.1.Num, c765.1.Name, c765.1.Field, c765.1.Op, c765.1.Kids⟩ : zb)] : List zb), Am1_9, cm1_9, q1.Body, Am1_10, cm1_10, q1.Else, _, zr9 zrU, hO, hL, r794, w799, w804, r809, (rm1_9.le hL), (rm1_10.le hL), hF⟩
   refine zS (zj (zbe (zp ?_)))
   have hO := hO.sel [4, 5, 6, 0]
   exact ⟨A740, c741, c735.2.cursor.tokens, c735.2.cursor.at_, A744, c745, o746, c735.2.prog.Structs, A749, c750, o751, c735.2.prog.Funcs, (10 : UInt8), q1.Line, q1.Name, q1.Field, q1.Call, q1.Type_.Kind, q1.Type_.N, q1.Type_.Name, Am1_8, cm1_8, q1.Kids, Am1_9, cm1_9, q1.Body, Am1_10, cm1_10, q1.Else, _, zr9 zrU, hO, hL, r742, w747, w752, (rm1_8.le hL), (rm1_9.le hL), (rm1_10.le hL), hF⟩
  refine zd hO 2 [] [(4, zsb bm0), (5, zsb bm1)] [0, 1] zrX fun j => ?_
  have hO := hO.sel [1, 2, 3, 4, 5, 6, 0]
  rcases zO hF with ⟨x815, h816, hF⟩ | ⟨c811, h812, hF⟩
  ·refine zN (hs := [_, _, _]) (vs := [_, _, _, _]) hO (znD r742 w747 w752 (rm1_8.le hL) (rm1_9.le hL) (rm1_10.le hL) h816) (fun _ _ _ h => False.elim h) rfl fun _ σ _ _ hO h817 h818 => ?_
   have hL := hL.trans h817
   obtain ⟨v819, v823, o826, v828, o831, v833, v837, v841, rfl, rfl, r822, w827, w832, r836, r840, r844⟩ := h818
   obtain ⟨A820, c821, rfl, -⟩ := r822.form
   obtain ⟨A824, c825, rfl, -⟩ := w827.form
   obtain ⟨A829, c830, rfl, -⟩ := w832.form
   obtain ⟨A834, c835, rfl, -⟩ := r836.form
   obtain ⟨A838, c839, rfl, -⟩ := r840.form
   obtain ⟨A842, c843, rfl, -⟩ := r844.form
   have hO := zsf7 hO
   cases hF
   have hO := hO.sel [3, 4, 5, 6]
   exact hP _ _ _ _ hO hL ⟨_, _, _, _, _, _, _, _, rfl, rfl, r822, w827, w832, r836, r840, r844⟩
  refine zP (hs := [_, _, _]) (vs := [_, _, _, _]) hO (znD r742 w747 w752 (rm1_8.le hL) (rm1_9.le hL) (rm1_10.le hL) h812) (fun _ _ _ h => False.elim h) rfl fun _ σ _ _ hO h813 h814 => ?_
  have hL := hL.trans h813
  obtain ⟨v845, v849, o852, v854, o857, v859, v863, v867, rfl, rfl, r848, w853, w858, r862, r866, r870⟩ := h814
  obtain ⟨A846, c847, rfl, -⟩ := r848.form
  obtain ⟨A850, c851, rfl, -⟩ := w853.form
  obtain ⟨A855, c856, rfl, -⟩ := w858.form
  obtain ⟨A860, c861, rfl, -⟩ := r862.form
  obtain ⟨A864, c865, rfl, -⟩ := r866.form
  obtain ⟨A868, c869, rfl, -⟩ := r870.form
  have hO := zsf7 hO
  refine za (zj (zbe (zp ?_)))
  have hO := hO.sel [3, 4, 5, 6]
  exact ⟨A846, c847, c811.1.cursor.tokens, c811.1.cursor.at_, A850, c851, o852, c811.1.prog.Structs, A855, c856, o857, c811.1.prog.Funcs, c811.2.Kind, c811.2.Line, c811.2.Name, c811.2.Field, c811.2.Call, c811.2.Type_.Kind, c811.2.Type_.N, c811.2.Type_.Name, A860, c861, c811.2.Kids, A864, c865, c811.2.Body, A868, c869, c811.2.Else, _, zr9 zrU, hO, hL, r848, w853, w858, r862, r866, r870, hF⟩
 rintro e σ ⟨A410, c411, x412, x414, A415, c416, o417, x418, A420, c421, o422, x423, x425, x426, x427, x428, x429, x430, x431, x432, A433, c434, x435, A437, c438, x439, A441, c442, x443, _, hA, hO, hL, r413, w419, w424, r436, r440, r444, hF⟩
 rw [← zbc _ _ hA]
 unfold zei at hF
 refine zbR (zd hO 3 [] [(64, zsb bm0)] [0, 1] zrW fun j => ?_)
 refine zB (T := Ty.str) (l := ([(⟨#[59]⟩ : ByteArray)] : List ByteArray)) (cs := [.string (⟨#[59]⟩ : ByteArray)]) hO rfl ⟨[.string (⟨#[59]⟩ : ByteArray)], _, rfl, rfl, rfl⟩ rfl (by decide) fun _ σ o447 w448 hO => ?_
 obtain ⟨A445, c446, rfl, -⟩ := w448.form
 have hO := zsf5 hO
 obtain ⟨_, h450, r449, hO⟩ := w448.share hO (i := 4) rfl
 have hL := hL.trans h450
 have r413 := r413.le h450
 have w419 := w419.le h450
 have w424 := w424.le h450
 have r436 := r436.le h450
 have r440 := r440.le h450
 have r444 := r444.le h450
 have hO := zsf5 hO
 have hO := hO.sel [3, 4, 0, 1, 2]
 rcases zO hF with ⟨x455, h456, hF⟩ | ⟨c451, h452, hF⟩
 ·refine zN (hs := [_, _]) (vs := [_, _, _]) hO (zbG (q0 := (⟨(⟨x412, x414⟩ : zbf), (⟨x418, x423⟩ : zL)⟩ : zc)) r413 w419 w424 r449 h456) (fun _ _ _ h => False.elim h) rfl fun _ σ _ _ hO h457 h458 => ?_
  have hL := hL.trans h457
  have r449 := r449.le h457
  have r436 := r436.le h457
  have r440 := r440.le h457
  have r444 := r444.le h457
  obtain ⟨v459, v463, o466, v468, o471, rfl, rfl, r462, w467, w472⟩ := h458
  obtain ⟨A460, c461, rfl, -⟩ := r462.form
  obtain ⟨A464, c465, rfl, -⟩ := w467.form
  obtain ⟨A469, c470, rfl, -⟩ := w472.form
  have hO := zsf5 hO
  cases hF
  have hO := hO.sel [2, 3, 4, 0]
  exact hP _ _ _ _ hO hL ⟨_, _, _, _, _, _, _, _, rfl, rfl, r462, w467, w472, r436, r440, r444⟩
 refine zP (hs := [_, _]) (vs := [_, _, _]) hO (zbG (q0 := (⟨(⟨x412, x414⟩ : zbf), (⟨x418, x423⟩ : zL)⟩ : zc)) r413 w419 w424 r449 h452) (fun _ _ _ h => False.elim h) rfl fun _ σ _ _ hO h453 h454 => ?_
 have hL := hL.trans h453
 have r449 := r449.le h453
 have r436 := r436.le h453
 have r440 := r440.le h453
 have r444 := r444.le h453
 obtain ⟨v473, v477, o480, v482, o485, rfl, rfl, r476, w481, w486⟩ := h454
 obtain ⟨A474, c475, rfl, -⟩ := r476.form
 obtain ⟨A478, c479, rfl, -⟩ := w481.form
 obtain ⟨A483, c484, rfl, -⟩ := w486.form
 have hO := zsf5 hO
 refine za (zj ?_)
 cases hF
 have hO := hO.sel [2, 3, 4, 0]
 refine (hQ _ _ _ _ _ rfl hO hL ?_).2
 exact ⟨_, _, _, _, _, _, _, _, rfl, rfl, r476, w481, w486, r436, r440, r444⟩
def zkm (gn : Nat) : Prop := ∀ {τ : Hp} {q0 : zc} {bm0 : Nat} {vm0_0 vm0_2 : Value} {om0_2 : Ob} {vm0_3 : Value} {om0_3 : Ob} (rm0_0 : RdT zt τ vm0_0 q0.cursor.tokens) (wm0_2 : ze zn 71 τ vm0_2 q0.prog.Structs om0_2) (wm0_3 : ze zk 50 τ vm0_3 q0.prog.Funcs om0_3) {rr : Except (Value × zc) ((List zg) × zc)} (hF : ((zcw gn).1) q0 = some rr), zbM Try.prog 69 #[.pointer (some ⟨bm0, 0, none⟩)] τ [zw bm0 vm0_0 q0.cursor.at_ vm0_2 vm0_3, om0_2, om0_3] (fun v τ' vs' => match (generalizing := false) rr with | .ok rr => ∃ (v0 : Value) (o0 : Ob) (u0_0 u0_2 : Value) (y0_2 : Ob) (u0_3 : Value) (y0_3 : Ob), v = v0 ∧ vs' = [o0, zw bm0 u0_0 rr.2.cursor.at_ u0_2 u0_3, y0_2, y0_3] ∧ ze zJ 53 τ' v0 rr.1 o0 ∧ RdT zt τ' u0_0 rr.2.cursor.tokens ∧ ze zn 71 τ' u0_2 rr.2.prog.Structs y0_2 ∧ ze zk 50 τ' u0_3 rr.2.prog.Funcs y0_3 | .error _ => False) (fun ch τ' vs' => match (generalizing := false) rr with | .ok _ => False | .error ee => ∃ (u0_0 u0_2 : Value) (y0_2 : Ob) (u0_3 : Value) (y0_3 : Ob), ch = [{ v := ee.1, recovered := false }] ∧ vs' = [zw bm0 u0_0 ee.2.cursor.at_ u0_2 u0_3, y0_2, y0_3] ∧ RdT zt τ' u0_0 ee.2.cursor.tokens ∧ ze zn 71 τ' u0_2 ee.2.prog.Structs y0_2 ∧ ze zk 50 τ' u0_3 ee.2.prog.Funcs y0_3)
def zjC (gn : Nat) : Prop := ∀ {τ : Hp} {q0 : zc} {bm0 : Nat} {vm0_0 vm0_2 : Value} {om0_2 : Ob} {vm0_3 : Value} {om0_3 : Ob} (rm0_0 : RdT zt τ vm0_0 q0.cursor.tokens) (wm0_2 : ze zn 71 τ vm0_2 q0.prog.Structs om0_2) (wm0_3 : ze zk 50 τ vm0_3 q0.prog.Funcs om0_3) {rr : Except (Value × zc) (zg × zc)} (hF : ((zcw gn).2) q0 = some rr), zbM Try.prog 78 #[.pointer (some ⟨bm0, 0, none⟩)] τ [zw bm0 vm0_0 q0.cursor.at_ vm0_2 vm0_3, om0_2, om0_3] (fun v τ' vs' => match (generalizing := false) rr with | .ok rr => ∃ (v0_8 v0_9 v0_10 u0_0 u0_2 : Value) (y0_2 : Ob) (u0_3 : Value) (y0_3 : Ob), v = .agg #[.int .u8 rr.1.Kind.toNat, .int .i64 rr.1.Line, .string rr.1.Name, .string rr.1.Field, .string rr.1.Call, .int .u8 rr.1.Type_.Kind.toNat, .int .i64 rr.1.Type_.N, .string rr.1.Type_.Name, v0_8, v0_9, v0_10] ∧ vs' = [zw bm0 u0_0 rr.2.cursor.at_ u0_2 u0_3, y0_2, y0_3] ∧ RdT zC τ' v0_8 rr.1.Kids ∧ RdT zJ τ' v0_9 rr.1.Body ∧ RdT zJ τ' v0_10 rr.1.Else ∧ RdT zt τ' u0_0 rr.2.cursor.tokens ∧ ze zn 71 τ' u0_2 rr.2.prog.Structs y0_2 ∧ ze zk 50 τ' u0_3 rr.2.prog.Funcs y0_3 | .error _ => False) (fun ch τ' vs' => match (generalizing := false) rr with | .ok _ => False | .error ee => ∃ (u0_0 u0_2 : Value) (y0_2 : Ob) (u0_3 : Value) (y0_3 : Ob), ch = [{ v := ee.1, recovered := false }] ∧ vs' = [zw bm0 u0_0 ee.2.cursor.at_ u0_2 u0_3, y0_2, y0_3] ∧ RdT zt τ' u0_0 ee.2.cursor.tokens ∧ ze zn 71 τ' u0_2 ee.2.prog.Structs y0_2 ∧ ze zk 50 τ' u0_3 ee.2.prog.Funcs y0_3)
theorem zpS {gn : Nat} (ih_syntax_parser_block : zkm gn) (ih_syntax_parser_stmt : zjC gn) {τ : Hp} {q0 : zc} {bm0 : Nat} {vm0_0 vm0_2 : Value} {om0_2 : Ob} {vm0_3 : Value} {om0_3 : Ob} (rm0_0 : RdT zt τ vm0_0 q0.cursor.tokens) (wm0_2 : ze zn 71 τ vm0_2 q0.prog.Structs om0_2) (wm0_3 : ze zk 50 τ vm0_3 q0.prog.Funcs om0_3) {rr : Except (Value × zc) ((List zg) × zc)} (hF : zhu ((zcw gn).1) ((zcw gn).2) q0 = some rr) :
  zbM Try.prog 69 #[.pointer (some ⟨bm0, 0, none⟩)] τ [zw bm0 vm0_0 q0.cursor.at_ vm0_2 vm0_3, om0_2, om0_3] (fun v τ' vs' => match (generalizing := false) rr with | .ok rr => ∃ (v0 : Value) (o0 : Ob) (u0_0 u0_2 : Value) (y0_2 : Ob) (u0_3 : Value) (y0_3 : Ob), v = v0 ∧ vs' = [o0, zw bm0 u0_0 rr.2.cursor.at_ u0_2 u0_3, y0_2, y0_3] ∧ ze zJ 53 τ' v0 rr.1 o0 ∧ RdT zt τ' u0_0 rr.2.cursor.tokens ∧ ze zn 71 τ' u0_2 rr.2.prog.Structs y0_2 ∧ ze zk 50 τ' u0_3 rr.2.prog.Funcs y0_3 | .error _ => False) (fun ch τ' vs' => match (generalizing := false) rr with | .ok _ => False | .error ee => ∃ (u0_0 u0_2 : Value) (y0_2 : Ob) (u0_3 : Value) (y0_3 : Ob), ch = [{ v := ee.1, recovered := false }] ∧ vs' = [zw bm0 u0_0 ee.2.cursor.at_ u0_2 u0_3, y0_2, y0_3] ∧ RdT zt τ' u0_0 ee.2.cursor.tokens ∧ ze zn 71 τ' u0_2 ee.2.prog.Structs y0_2 ∧ ze zk 50 τ' u0_3 ee.2.prog.Funcs y0_3) := by
 obtain ⟨Am0_0, cm0_0, rfl, -⟩ := rm0_0.form
 obtain ⟨Am0_2, cm0_2, rfl, -⟩ := wm0_2.form
 obtain ⟨Am0_3, cm0_3, rfl, -⟩ := wm0_3.form
 refine zcL (args := [.pointer (some ⟨bm0, 0, none⟩)]) hm Try.func69 s69 rfl fun w0 σ hP hO Q hQ => ?_
 unfold zhu at hF
 have hL := Hp.le.refl τ
 show wpn _ _ a69.body _ _ _
 unfold a69
 dsimp only
 refine zh hO [] [] [0] zrU fun j => ?_
 refine zd hO 3 [] [(6, zsb bm0)] [0] zrV fun j => ?_
 refine zB (T := Ty.str) (l := ([(⟨#[123]⟩ : ByteArray)] : List ByteArray)) (cs := [.string (⟨#[123]⟩ : ByteArray)]) hO rfl ⟨[.string (⟨#[123]⟩ : ByteArray)], _, rfl, rfl, rfl⟩ rfl (by decide) fun _ σ o4 w5 hO => ?_
 obtain ⟨A2, c3, rfl, -⟩ := w5.form
 have hO := zsf4 hO
 obtain ⟨_, h7, r6, hO⟩ := w5.share hO (i := 3) rfl
 have hL := hL.trans h7
 have hO := zsf4 hO
 have hO := hO.sel [3, 0, 1, 2]
 rcases zO hF with ⟨x12, h13, hF⟩ | ⟨c8, h9, hF⟩
 ·refine zN (hs := [_]) (vs := [_, _, _]) hO (zbG (rm0_0.le hL) (wm0_2.le hL) (wm0_3.le hL) r6 h13) (fun _ _ _ h => False.elim h) rfl fun _ σ _ _ hO h14 h15 => ?_
  have hL := hL.trans h14
  have r6 := r6.le h14
  obtain ⟨v16, v20, o23, v25, o28, rfl, rfl, r19, w24, w29⟩ := h15
  obtain ⟨A17, c18, rfl, -⟩ := r19.form
  obtain ⟨A21, c22, rfl, -⟩ := w24.form
  obtain ⟨A26, c27, rfl, -⟩ := w29.form
  have hO := zsf4 hO
  cases hF
  have hO := hO.sel [1, 2, 3]
  exact hP _ _ _ _ hO hL ⟨_, _, _, _, _, rfl, rfl, r19, w24, w29⟩
 refine zP (hs := [_]) (vs := [_, _, _]) hO (zbG (rm0_0.le hL) (wm0_2.le hL) (wm0_3.le hL) r6 h9) (fun _ _ _ h => False.elim h) rfl fun _ σ _ _ hO h10 h11 => ?_
 have hL := hL.trans h10
 have r6 := r6.le h10
 obtain ⟨v30, v34, o37, v39, o42, rfl, rfl, r33, w38, w43⟩ := h11
 obtain ⟨A31, c32, rfl, -⟩ := r33.form
 obtain ⟨A35, c36, rfl, -⟩ := w38.form
 obtain ⟨A40, c41, rfl, -⟩ := w43.form
 have hO := zsf4 hO
 refine za (zh hO [] [(3, .slice none 0 0)] [0] zrV fun j => ?_)
 refine zY ?_
 have hO := hO.no
 have hO := zsf5 hO
 have hO := hO.sel [1, 2, 3, 4]
 refine zbY (fun (n : Nat) e' σ' => ∃ (A134 : Option Addr) (c135 : Nat) (x136 : List zr) (x138 : Int) (A139 : Option Addr) (c140 : Nat) (o141 : Ob) (x142 : List zl) (A144 : Option Addr) (c145 : Nat) (o146 : Ob) (x147 : List zi) (A149 : Option Addr) (c150 : Nat) (o151 : Ob) (x152 : List zg) (τ' : Hp), agr [(0, zsb bm0), (3, zsh A149 x152 c150)] e' ∧ Obs τ' σ' [zw bm0 (zsh A134 x136 c135) x138 (zsh A139 x142 c140) (zsh A144 x147 c145), o141, o146, o151] ∧ Hp.le τ τ' ∧ RdT zt τ' (zsh A134 x136 c135) x136 ∧ ze zn 71 τ' (zsh A139 x142 c140) x142 o141 ∧ ze zk 50 τ' (zsh A144 x147 c145) x147 o146 ∧ ze zJ 53 τ' (zsh A149 x152 c150) x152 o151 ∧ zfX (zcw gn).2 n x136 x138 x142 x147 x152 = some rr) big ⟨A31, c32, c8.cursor.tokens, c8.cursor.at_, A35, c36, o37, c8.prog.Structs, A40, c41, o42, c8.prog.Funcs, none, 0, none, [], _, zr9 zrU, hO, hL, r33, w38, w43, ze.nil _ _ _, hF⟩ ?_
 clear hF hO hL
 rintro n232 e σ ⟨A134, c135, x136, x138, A139, c140, o141, x142, A144, c145, o146, x147, A149, c150, o151, x152, _, hA, hO, hL, r137, w143, w148, w153, hF⟩
 rw [← zbc _ _ hA]
 cases n232 with
 | zero => exact nomatch (show none = some rr from hF)
 | succ n232 =>
 replace hF : zhj (zfX (zcw gn).2 n232) (zcw gn).2 x136 x138 x142 x147 x152 = some rr := hF
 unfold zhj at hF
 refine zo (zd hO 3 [] [(11, zsb bm0)] [0, 3] zrW fun j => ?_)
 refine zB (T := Ty.str) (l := ([(⟨#[125]⟩ : ByteArray)] : List ByteArray)) (cs := [.string (⟨#[125]⟩ : ByteArray)]) hO rfl ⟨[.string (⟨#[125]⟩ : ByteArray)], _, rfl, rfl, rfl⟩ rfl (by decide) fun _ σ o235 w236 hO => ?_
 obtain ⟨A233, c234, rfl, -⟩ := w236.form
 have hO := zsf5 hO
 obtain ⟨_, h238, r237, hO⟩ := w236.share hO (i := 4) rfl
 have hL := hL.trans h238
 have w153 := w153.le h238
 have r137 := r137.le h238
 have w143 := w143.le h238
 have w148 := w148.le h238
 have hO := zsf5 hO
 obtain ⟨c239, h240, hF⟩ := zsg hF
 have hO := hO.sel [3, 4, 0, 1, 2]
 refine zbB (hs := [_, _]) (vs := [_, _, _]) hO (zca (q0 := (⟨(⟨x136, x138⟩ : zbf), (⟨x142, x147⟩ : zL)⟩ : zc)) r137 w143 w148 r237 h240) rfl fun _ σ _ _ hO h241 h242 => ?_
 have hL := hL.trans h241
 have w153 := w153.le h241
 have r237 := r237.le h241
 obtain ⟨v243, v247, o250, v252, o255, rfl, rfl, r246, w251, w256⟩ := h242
 obtain ⟨A244, c245, rfl, -⟩ := r246.form
 obtain ⟨A248, c249, rfl, -⟩ := w251.form
 obtain ⟨A253, c254, rfl, -⟩ := w256.form
 have hO := zsf5 hO
 refine zh hO [] [(14, .bool (!c239.1))] [0, 3] zrW fun j => ?_
 refine zE hF rfl (fun hF => ?_) fun hF => ?_
 ·refine zS (zcF (zY (zbR (zd hO 2 [] [(15, zsh A149 x152 c150), (16, zsb bm0)] [0] zrW fun j => ?_))))
  rcases zO hF with ⟨x262, h263, hF⟩ | ⟨c258, h259, hF⟩
  ·refine zN (hs := [_, _]) (vs := [_, _, _]) hO (ih_syntax_parser_stmt r246 w251 w256 h263) (fun _ _ _ h => False.elim h) rfl fun _ σ _ _ hO h264 h265 => ?_
   have hL := hL.trans h264
   have w153 := w153.le h264
   obtain ⟨v266, v270, o273, v275, o278, rfl, rfl, r269, w274, w279⟩ := h265
   obtain ⟨A267, c268, rfl, -⟩ := r269.form
   obtain ⟨A271, c272, rfl, -⟩ := w274.form
   obtain ⟨A276, c277, rfl, -⟩ := w279.form
   have hO := zsf5 hO
   cases hF
   have hO := hO.sel [2, 3, 4]
   exact hP _ _ _ _ hO hL ⟨_, _, _, _, _, rfl, rfl, r269, w274, w279⟩
  refine zP (hs := [_, _]) (vs := [_, _, _]) hO (ih_syntax_parser_stmt r246 w251 w256 h259) (fun _ _ _ h => False.elim h) rfl fun _ σ _ _ hO h260 h261 => ?_
  have hL := hL.trans h260
  have w153 := w153.le h260
  obtain ⟨v280, v284, v288, v292, v296, o299, v301, o304, rfl, rfl, r281, r285, r289, r295, w300, w305⟩ := h261
  obtain ⟨A282, c283, rfl, -⟩ := r281.form
  obtain ⟨A286, c287, rfl, -⟩ := r285.form
  obtain ⟨A290, c291, rfl, -⟩ := r289.form
  obtain ⟨A293, c294, rfl, -⟩ := r295.form
  obtain ⟨A297, c298, rfl, -⟩ := w300.form
  obtain ⟨A302, c303, rfl, -⟩ := w305.form
  have hO := zsf5 hO
  obtain ⟨_, hr310, hF⟩ := zsg hF
  refine zot (T := zJ) (y := (⟨c258.1.Kind, c258.1.Line, c258.1.Name, c258.1.Field, c258.1.Call, (⟨c258.1.Type_.Kind, c258.1.Type_.N, c258.1.Type_.Name⟩ : zI), c258.1.Kids, c258.1.Body, c258.1.Else⟩ : zg)) hO w153 (i := 0) rfl rfl (fun _ => rfl) rfl (zqW ⟨_, _, _, rfl, r281, r285, r289⟩) rfl hr310 (by decide) fun u _ σ o308 w309 hO => ?_
  obtain ⟨A306, c307, rfl, -⟩ := w309.form
  have hO := zsf5 hO
  refine zh hO [] [(3, zsh A306 (x152 ++ [(⟨c258.1.Kind, c258.1.Line, c258.1.Name, c258.1.Field, c258.1.Call, (⟨c258.1.Type_.Kind, c258.1.Type_.N, c258.1.Type_.Name⟩ : zI), c258.1.Kids, c258.1.Body, c258.1.Else⟩ : zg)]) c307)] [0] zrV fun j => ?_
  refine zj (zbe (zp (zj (zp ?_))))
  have hO := hO.sel [2, 3, 4, 0]
  exact ⟨n232, Nat.lt_succ_self _, A293, c294, c258.2.cursor.tokens, c258.2.cursor.at_, A297, c298, o299, c258.2.prog.Structs, A302, c303, o304, c258.2.prog.Funcs, A306, c307, o308, (x152 ++ [(⟨c258.1.Kind, c258.1.Line, c258.1.Name, c258.1.Field, c258.1.Call, (⟨c258.1.Type_.Kind, c258.1.Type_.N, c258.1.Type_.Name⟩ : zI), c258.1.Kids, c258.1.Body, c258.1.Else⟩ : zg)]), _, zr9 zrU, hO, hL, r295, w300, w305, w309, hF⟩
 refine zbX (zb1 (zb0 (zp (zh hO [] [(2, zsh A149 x152 c150)] [0] zrV fun j => ?_))))
 refine zbt ?_
 cases hF
 have hO := hO.sel [0, 2, 3, 4]
 refine (hQ _ _ _ _ _ rfl hO hL ?_).1
 exact ⟨_, _, _, _, _, _, _, rfl, rfl, w153, r246, w251, w256⟩
theorem zmu {τ : Hp} {q0 : zc} {bm0 : Nat} {vm0_0 vm0_2 : Value} {om0_2 : Ob} {vm0_3 : Value} {om0_3 : Ob} (rm0_0 : RdT zt τ vm0_0 q0.cursor.tokens) (wm0_2 : ze zn 71 τ vm0_2 q0.prog.Structs om0_2) (wm0_3 : ze zk 50 τ vm0_3 q0.prog.Funcs om0_3) {rr : Int} (hF : zeN q0 = some rr) :
  Ctr Try.prog 66 #[.pointer (some ⟨bm0, 0, none⟩)] τ [zw bm0 vm0_0 q0.cursor.at_ vm0_2 vm0_3, om0_2, om0_3] (fun v τ' vs' => v = .int .i64 rr ∧ vs' = [zw bm0 vm0_0 q0.cursor.at_ vm0_2 vm0_3, om0_2, om0_3]) := by
 obtain ⟨Am0_0, cm0_0, rfl, -⟩ := rm0_0.form
 obtain ⟨Am0_2, cm0_2, rfl, -⟩ := wm0_2.form
 obtain ⟨Am0_3, cm0_3, rfl, -⟩ := wm0_3.form
 refine zbI (args := [.pointer (some ⟨bm0, 0, none⟩)]) hm Try.func66 s66 rfl fun w0 σ hO Q hQ => ?_
 unfold zeN at hF
 have hL := Hp.le.refl τ
 show wpn _ _ a66.body _ _ _
 unfold a66
 dsimp only
 refine zh hO [] [] [0] zrU fun j => ?_
 refine zo (zcD (zh hO [0, 0] [(12, .bool (decide (q0.cursor.at_ < (q0.cursor.tokens.length : Int))))] [0] (And.intro (And.intro rfl rfl) (And.intro (And.intro rfl rfl) zrV)) fun j => ?_))
 refine zE hF rfl (fun hF => ?_) fun hF => ?_
 ·refine zo (zcD (zd hO 8 [0, 0] [(16, zsh Am0_0 q0.cursor.tokens cm0_0), (20, zsa q0.cursor.at_)] [0] (And.intro (And.intro rfl rfl) (And.intro (And.intro rfl rfl) zrW)) fun j => ?_))
  obtain ⟨y3, g4, hF⟩ := zsg hF
  refine z7 (T := zt) (rm0_0.le hL) hO.base rfl rfl g4 (by decide) fun a5 _ k6 m7 => ?_
  obtain rfl : _ = ([.int .u8 y3.Kind.toNat, .string y3.Text, .int .i64 y3.Num, .int .i64 y3.Line] : List Value) := k6
  refine zd hO 1 [] [(22, .pointer (some (a5.add 3)))] [0] zrV fun j => ?_
  refine zV rfl ((m7.le hO.base).one 3 rfl) ?_
  refine zh hO [] [(2, zsa y3.Line)] [0] zrV fun j => ?_
  refine zbq ?_
  cases hF
  exact hQ _ _ _ _ _ rfl hO hL ⟨rfl, rfl⟩
 refine zS (zh hO [] [(2, zsa 0)] [0] zrV fun j => ?_)
 refine zbt ?_
 cases hF
 exact hQ _ _ _ _ _ rfl hO hL ⟨rfl, rfl⟩
theorem zoI {gn : Nat} (ih_syntax_parser_block : zkm gn) (ih_syntax_parser_stmt : zjC gn) {τ : Hp} {q0 : zc} {bm0 : Nat} {vm0_0 vm0_2 : Value} {om0_2 : Ob} {vm0_3 : Value} {om0_3 : Ob} (rm0_0 : RdT zt τ vm0_0 q0.cursor.tokens) (wm0_2 : ze zn 71 τ vm0_2 q0.prog.Structs om0_2) (wm0_3 : ze zk 50 τ vm0_3 q0.prog.Funcs om0_3) {rr : Except (Value × zc) (zg × zc)} (hF : zhc ((zcw gn).1) ((zcw gn).2) q0 = some rr) :
  zbM Try.prog 78 #[.pointer (some ⟨bm0, 0, none⟩)] τ [zw bm0 vm0_0 q0.cursor.at_ vm0_2 vm0_3, om0_2, om0_3] (fun v τ' vs' => match (generalizing := false) rr with | .ok rr => ∃ (v0_8 v0_9 v0_10 u0_0 u0_2 : Value) (y0_2 : Ob) (u0_3 : Value) (y0_3 : Ob), v = .agg #[.int .u8 rr.1.Kind.toNat, .int .i64 rr.1.Line, .string rr.1.Name, .string rr.1.Field, .string rr.1.Call, .int .u8 rr.1.Type_.Kind.toNat, .int .i64 rr.1.Type_.N, .string rr.1.Type_.Name, v0_8, v0_9, v0_10] ∧ vs' = [zw bm0 u0_0 rr.2.cursor.at_ u0_2 u0_3, y0_2, y0_3] ∧ RdT zC τ' v0_8 rr.1.Kids ∧ RdT zJ τ' v0_9 rr.1.Body ∧ RdT zJ τ' v0_10 rr.1.Else ∧ RdT zt τ' u0_0 rr.2.cursor.tokens ∧ ze zn 71 τ' u0_2 rr.2.prog.Structs y0_2 ∧ ze zk 50 τ' u0_3 rr.2.prog.Funcs y0_3 | .error _ => False) (fun ch τ' vs' => match (generalizing := false) rr with | .ok _ => False | .error ee => ∃ (u0_0 u0_2 : Value) (y0_2 : Ob) (u0_3 : Value) (y0_3 : Ob), ch = [{ v := ee.1, recovered := false }] ∧ vs' = [zw bm0 u0_0 ee.2.cursor.at_ u0_2 u0_3, y0_2, y0_3] ∧ RdT zt τ' u0_0 ee.2.cursor.tokens ∧ ze zn 71 τ' u0_2 ee.2.prog.Structs y0_2 ∧ ze zk 50 τ' u0_3 ee.2.prog.Funcs y0_3) := by
 obtain ⟨Am0_0, cm0_0, rfl, -⟩ := rm0_0.form
 obtain ⟨Am0_2, cm0_2, rfl, -⟩ := wm0_2.form
 obtain ⟨Am0_3, cm0_3, rfl, -⟩ := wm0_3.form
 refine zcL (args := [.pointer (some ⟨bm0, 0, none⟩)]) hm Try.func78 s78 rfl fun w0 σ hP hO Q hQ => ?_
 unfold zhc at hF
 have hL := Hp.le.refl τ
 show wpn _ _ a78.body _ _ _
 unfold a78
 dsimp only
 refine zbg hO fun b2 σ hO => ?_
 have hO := zsf4 hO
 refine za (zd hO 3 [] [(6, zsb bm0)] [0, 2] zrW fun j => ?_)
 obtain ⟨c3, h4, hF⟩ := zsg hF
 have hO := hO.sel [3, 0, 1, 2]
 refine zbB (hs := [_]) (vs := [_, _, _]) hO (zmu (rm0_0.le hL) (wm0_2.le hL) (wm0_3.le hL) h4) rfl fun _ σ _ _ hO h5 h6 => ?_
 have hL := hL.trans h5
 obtain ⟨rfl, rfl⟩ := h6
 have hO := zsf4 hO
 have hO := hO.sel [1, 2, 3, 0]
 have hO := zsf4 hO
 refine zd hO 1 [] [(8, .agg #[(.int .u8 0), (.int .i64 c3), (.string (⟨#[]⟩ : ByteArray)), (.string (⟨#[]⟩ : ByteArray)), (.string (⟨#[]⟩ : ByteArray)), (.int .u8 0), (.int .i64 0), (.string (⟨#[]⟩ : ByteArray)), (.slice none 0 0), (.slice none 0 0), (.slice none 0 0)])] [0, 2] zrW fun j => ?_
 refine zbg hO fun b7 σ hO => ?_
 have hO := zsf5 hO
 refine zs hO (i := 4) rfl (off := 0) rfl rfl rfl rfl (Nat.le_of_ble_eq_true rfl) rfl fun σ hO => ?_
 have hO := zsf5 hO
 refine za (zmL (fun e' σ' => ∃ (A449 : Option Addr) (c450 : Nat) (x451 : List zr) (x453 : Int) (A454 : Option Addr) (c455 : Nat) (o456 : Ob) (x457 : List zl) (A459 : Option Addr) (c460 : Nat) (o461 : Ob) (x462 : List zi) (x464 : UInt8) (x465 : Int) (x466 x467 x468 : ByteArray) (x469 : UInt8) (x470 : Int) (x471 : ByteArray) (A472 : Option Addr) (c473 : Nat) (x474 : List zb) (A476 : Option Addr) (c477 : Nat) (x478 : List zg) (A480 : Option Addr) (c481 : Nat) (x482 : List zg) (τ' : Hp), agr [(0, zsb bm0), (2, zsb b2), (3, zsb b7)] e' ∧ Obs τ' σ' [zw bm0 (zsh A449 x451 c450) x453 (zsh A454 x457 c455) (zsh A459 x462 c460), o456, o461, zb5 b2 0 0 (⟨#[]⟩ : ByteArray) (⟨#[]⟩ : ByteArray) (⟨#[]⟩ : ByteArray) 0 0 (⟨#[]⟩ : ByteArray) (.slice none 0 0) (.slice none 0 0) (.slice none 0 0), zb5 b7 (x464.toNat : Int) x465 x466 x467 x468 (x469.toNat : Int) x470 x471 (zsh A472 x474 c473) (zsh A476 x478 c477) (zsh A480 x482 c481)] ∧ Hp.le τ τ' ∧ RdT zt τ' (zsh A449 x451 c450) x451 ∧ ze zn 71 τ' (zsh A454 x457 c455) x457 o456 ∧ ze zk 50 τ' (zsh A459 x462 c460) x462 o461 ∧ RdT zC τ' (zsh A472 x474 c473) x474 ∧ RdT zJ τ' (zsh A476 x478 c477) x478 ∧ RdT zJ τ' (zsh A480 x482 c481) x482 ∧ ze5 x451 x453 x457 x462 x464 x465 x466 x467 x468 x469 x470 x471 x474 x478 x482 = some rr) ?_ ?_)
 ·refine zd hO 3 [] [(14, zsb bm0)] [0, 2, 3] zrX fun j => ?_
  refine zB (T := Ty.str) (l := ([(⟨#[105, 102]⟩ : ByteArray)] : List ByteArray)) (cs := [.string (⟨#[105, 102]⟩ : ByteArray)]) hO rfl ⟨[.string (⟨#[105, 102]⟩ : ByteArray)], _, rfl, rfl, rfl⟩ rfl (by decide) fun _ σ o486 w487 hO => ?_
  obtain ⟨A484, c485, rfl, -⟩ := w487.form
  have hO := zsf6 hO
  obtain ⟨_, h489, r488, hO⟩ := w487.share hO (i := 5) rfl
  have hL := hL.trans h489
  have hO := zsf6 hO
  obtain ⟨c490, h491, hF⟩ := zsg hF
  have hO := hO.sel [3, 4, 5, 0, 1, 2]
  refine zbB (hs := [_, _, _]) (vs := [_, _, _]) hO (zca (rm0_0.le hL) (wm0_2.le hL) (wm0_3.le hL) r488 h491) rfl fun _ σ _ _ hO h492 h493 => ?_
  have hL := hL.trans h492
  have r488 := r488.le h492
  obtain ⟨v494, v498, o501, v503, o506, rfl, rfl, r497, w502, w507⟩ := h493
  obtain ⟨A495, c496, rfl, -⟩ := r497.form
  obtain ⟨A499, c500, rfl, -⟩ := w502.form
  obtain ⟨A504, c505, rfl, -⟩ := w507.form
  have hO := zsf6 hO
  refine zh hO [] [(11, .bool c490.1)] [0, 2, 3] zrX fun j => ?_
  refine zb2 (zE hF rfl (fun hF => ?_) fun hF => ?_)
  ·refine zo (zd hO 1 [] [(17, zsb bm0)] [0, 2, 3] zrX fun j => ?_)
   rcases zO hF with ⟨x513, h514, hF⟩ | ⟨c509, h510, hF⟩
   ·refine zN (hs := [_, _, _]) (vs := [_, _, _]) hO (zcg r497 w502 w507 h514) (fun _ _ _ h => False.elim h) rfl fun _ σ _ _ hO h515 h516 => ?_
    have hL := hL.trans h515
    obtain ⟨v517, v521, o524, v526, o529, rfl, rfl, r520, w525, w530⟩ := h516
    obtain ⟨A518, c519, rfl, -⟩ := r520.form
    obtain ⟨A522, c523, rfl, -⟩ := w525.form
    obtain ⟨A527, c528, rfl, -⟩ := w530.form
    have hO := zsf6 hO
    cases hF
    have hO := hO.sel [3, 4, 5]
    exact hP _ _ _ _ hO hL ⟨_, _, _, _, _, rfl, rfl, r520, w525, w530⟩
   refine zP (hs := [_, _, _]) (vs := [_, _, _]) hO (zcg r497 w502 w507 h510) (fun _ _ _ h => False.elim h) rfl fun _ σ _ _ hO h511 h512 => ?_
   have hL := hL.trans h511
   obtain ⟨v531, v535, v539, o542, v544, o547, rfl, rfl, r532, r538, w543, w548⟩ := h512
   obtain ⟨A533, c534, rfl, -⟩ := r532.form
   obtain ⟨A536, c537, rfl, -⟩ := r538.form
   obtain ⟨A540, c541, rfl, -⟩ := w543.form
   obtain ⟨A545, c546, rfl, -⟩ := w548.form
   have hO := zsf6 hO
   refine zB (T := zC) (l := ([(⟨c509.1.Kind, c509.1.Num, c509.1.Name, c509.1.Field, c509.1.Op, c509.1.Kids⟩ : zb)] : List zb)) (cs := [.int .u8 (c509.1.Kind.toNat : Int), .int .i64 c509.1.Num, .string c509.1.Name, .string c509.1.Field, .string c509.1.Op, zsh A533 c509.1.Kids c534]) hO rfl ⟨[.int .u8 (c509.1.Kind.toNat : Int), .int .i64 c509.1.Num, .string c509.1.Name, .string c509.1.Field, .string c509.1.Op, zsh A533 c509.1.Kids c534], _, rfl, (zcz ⟨_, rfl, r532⟩), rfl⟩ rfl (by decide) fun _ σ o551 w552 hO => ?_
   obtain ⟨A549, c550, rfl, -⟩ := w552.form
   have hO := zsf7 hO
   refine zd hO 1 [] [(20, zsb b7)] [0, 2, 3, 19] zrY fun j => ?_
   refine zs hO (i := 1) rfl (off := 0) rfl rfl rfl rfl (Nat.le_of_ble_eq_true rfl) rfl fun σ hO => ?_
   have hO := zsf7 hO
   refine zd hO 1 [] [(21, .pointer (some ⟨b7, 8, none⟩))] [0, 2, 3, 19] zrY fun j => ?_
   refine zs hO (i := 1) rfl (off := 8) rfl rfl rfl rfl (Nat.le_of_ble_eq_true rfl) rfl fun σ hO => ?_
   have hO := zsf7 hO
   refine za (zo (zd hO 1 [] [(22, zsb bm0)] [0, 2, 3] zrX fun j => ?_))
   have hO := hO.sel [0, 1, 2, 6, 3, 4, 5]
   rcases zO hF with ⟨x557, h558, hF⟩ | ⟨c553, h554, hF⟩
   ·refine zN (hs := [_, _, _, _]) (vs := [_, _, _]) hO (ih_syntax_parser_block r538 w543 w548 h558) (fun _ _ _ h => False.elim h) rfl fun _ σ _ _ hO h559 h560 => ?_
    have hL := hL.trans h559
    have w552 := w552.le h559
    obtain ⟨v561, v565, o568, v570, o573, rfl, rfl, r564, w569, w574⟩ := h560
    obtain ⟨A562, c563, rfl, -⟩ := r564.form
    obtain ⟨A566, c567, rfl, -⟩ := w569.form
    obtain ⟨A571, c572, rfl, -⟩ := w574.form
    have hO := zsf7 hO
    cases hF
    have hO := hO.sel [4, 5, 6]
    exact hP _ _ _ _ hO hL ⟨_, _, _, _, _, rfl, rfl, r564, w569, w574⟩
   refine zP (hs := [_, _, _, _]) (vs := [_, _, _]) hO (ih_syntax_parser_block r538 w543 w548 h554) (fun _ _ _ h => False.elim h) rfl fun _ σ _ _ hO h555 h556 => ?_
   have hL := hL.trans h555
   have w552 := w552.le h555
   obtain ⟨v575, o578, v580, v584, o587, v589, o592, rfl, rfl, w579, r583, w588, w593⟩ := h556
   obtain ⟨A576, c577, rfl, -⟩ := w579.form
   obtain ⟨A581, c582, rfl, -⟩ := r583.form
   obtain ⟨A585, c586, rfl, -⟩ := w588.form
   obtain ⟨A590, c591, rfl, -⟩ := w593.form
   have hO := zsf8 hO
   refine zbE hO 1 [] [(0, zsb bm0), (2, zsb b2), (3, zsb b7), (23, zsh A576 c553.1 c577), (24, .pointer (some ⟨b7, 9, none⟩))] zrY fun j => ?_
   refine zs hO (i := 1) rfl (off := 9) rfl rfl rfl rfl (Nat.le_of_ble_eq_true rfl) rfl fun σ hO => ?_
   have hO := zsf8 hO
   refine za (zo (zd hO 3 [] [(27, zsb bm0)] [0, 2, 3] zrX fun j => ?_))
   refine zB (T := Ty.str) (l := ([(⟨#[101, 108, 115, 101]⟩ : ByteArray)] : List ByteArray)) (cs := [.string (⟨#[101, 108, 115, 101]⟩ : ByteArray)]) hO rfl ⟨[.string (⟨#[101, 108, 115, 101]⟩ : ByteArray)], _, rfl, rfl, rfl⟩ rfl (by decide) fun _ σ o596 w597 hO => ?_
   obtain ⟨A594, c595, rfl, -⟩ := w597.form
   have hO := zsf9 hO
   obtain ⟨_, h599, r598, hO⟩ := w597.share hO (i := 8) rfl
   have hL := hL.trans h599
   have w552 := w552.le h599
   have w579 := w579.le h599
   have r583 := r583.le h599
   have w588 := w588.le h599
   have w593 := w593.le h599
   have hO := zsf9 hO
   obtain ⟨c600, h601, hF⟩ := zsg hF
   have hO := hO.sel [0, 1, 2, 3, 4, 8, 5, 6, 7]
   refine zbB (hs := [_, _, _, _, _, _]) (vs := [_, _, _]) hO (zca r583 w588 w593 r598 h601) rfl fun _ σ _ _ hO h602 h603 => ?_
   have hL := hL.trans h602
   have r598 := r598.le h602
   have w552 := w552.le h602
   have w579 := w579.le h602
   obtain ⟨v604, v608, o611, v613, o616, rfl, rfl, r607, w612, w617⟩ := h603
   obtain ⟨A605, c606, rfl, -⟩ := r607.form
   obtain ⟨A609, c610, rfl, -⟩ := w612.form
   obtain ⟨A614, c615, rfl, -⟩ := w617.form
   have hO := zsf9 hO
   refine za (zE hF rfl (fun hF => ?_) fun hF => ?_)
   ·refine zd hO 1 [] [(30, zsb bm0)] [0, 2, 3] zrX fun j => ?_
    rcases zO hF with ⟨x623, h624, hF⟩ | ⟨c619, h620, hF⟩
    ·refine zN (hs := [_, _, _, _, _, _]) (vs := [_, _, _]) hO (ih_syntax_parser_block r607 w612 w617 h624) (fun _ _ _ h => False.elim h) rfl fun _ σ _ _ hO h625 h626 => ?_
     have hL := hL.trans h625
     have w552 := w552.le h625
     have w579 := w579.le h625
     obtain ⟨v627, v631, o634, v636, o639, rfl, rfl, r630, w635, w640⟩ := h626
     obtain ⟨A628, c629, rfl, -⟩ := r630.form
     obtain ⟨A632, c633, rfl, -⟩ := w635.form
     obtain ⟨A637, c638, rfl, -⟩ := w640.form
     have hO := zsf9 hO
     cases hF
     have hO := hO.sel [6, 7, 8]
     exact hP _ _ _ _ hO hL ⟨_, _, _, _, _, rfl, rfl, r630, w635, w640⟩
    refine zP (hs := [_, _, _, _, _, _]) (vs := [_, _, _]) hO (ih_syntax_parser_block r607 w612 w617 h620) (fun _ _ _ h => False.elim h) rfl fun _ σ _ _ hO h621 h622 => ?_
    have hL := hL.trans h621
    have w552 := w552.le h621
    have w579 := w579.le h621
    obtain ⟨v641, o644, v646, v650, o653, v655, o658, rfl, rfl, w645, r649, w654, w659⟩ := h622
    obtain ⟨A642, c643, rfl, -⟩ := w645.form
    obtain ⟨A647, c648, rfl, -⟩ := r649.form
    obtain ⟨A651, c652, rfl, -⟩ := w654.form
    obtain ⟨A656, c657, rfl, -⟩ := w659.form
    have hO := zsf10 hO
    refine zd hO 1 [] [(32, .pointer (some ⟨b7, 10, none⟩))] [0, 2, 3, 31] zrY fun j => ?_
    refine zs hO (i := 1) rfl (off := 10) rfl rfl rfl rfl (Nat.le_of_ble_eq_true rfl) rfl fun σ hO => ?_
    have hO := zsf10 hO
    refine za (zj (zbe (zp ?_)))
    obtain ⟨_, h661, r660, hO⟩ := w552.share hO (i := 3) rfl
    have hL := hL.trans h661
    have w579 := w579.le h661
    have w645 := w645.le h661
    have r649 := r649.le h661
    have w654 := w654.le h661
    have w659 := w659.le h661
    have hO := zsf10 hO
    obtain ⟨_, h663, r662, hO⟩ := w579.share hO (i := 4) rfl
    have hL := hL.trans h663
    have r660 := r660.le h663
    have w645 := w645.le h663
    have r649 := r649.le h663
    have w654 := w654.le h663
    have w659 := w659.le h663
    have hO := zsf10 hO
    obtain ⟨_, h665, r664, hO⟩ := w645.share hO (i := 6) rfl
    have hL := hL.trans h665
    have r660 := r660.le h665
    have r662 := r662.le h665
    have r649 := r649.le h665
    have w654 := w654.le h665
    have w659 := w659.le h665
    have hO := zsf10 hO
    have hO := hO.sel [7, 8, 9, 0, 1]
    exact ⟨A647, c648, c619.2.cursor.tokens, c619.2.cursor.at_, A651, c652, o653, c619.2.prog.Structs, A656, c657, o658, c619.2.prog.Funcs, (6 : UInt8), c3, (⟨#[]⟩ : ByteArray), (⟨#[]⟩ : ByteArray), (⟨#[]⟩ : ByteArray), (0 : UInt8), 0, (⟨#[]⟩ : ByteArray), A549, c550, ([(⟨c509.1.Kind, c509.1.Num, c509.1.Name, c509.1.Field, c509.1.Op, c509.1.Kids⟩ : zb)] : List zb), A576, c577, c553.1, A642, c643, c619.1, _, zr9 zrV, hO, hL, r649, w654, w659, r660, r662, r664, hF⟩
   refine zS (zj (zbe (zp ?_)))
   obtain ⟨_, h667, r666, hO⟩ := w552.share hO (i := 3) rfl
   have hL := hL.trans h667
   have w579 := w579.le h667
   have r607 := r607.le h667
   have w612 := w612.le h667
   have w617 := w617.le h667
   have hO := zsf9 hO
   obtain ⟨_, h669, r668, hO⟩ := w579.share hO (i := 4) rfl
   have hL := hL.trans h669
   have r666 := r666.le h669
   have r607 := r607.le h669
   have w612 := w612.le h669
   have w617 := w617.le h669
   have hO := zsf9 hO
   have hO := hO.sel [6, 7, 8, 0, 1]
   exact ⟨A605, c606, c600.2.cursor.tokens, c600.2.cursor.at_, A609, c610, o611, c600.2.prog.Structs, A614, c615, o616, c600.2.prog.Funcs, (6 : UInt8), c3, (⟨#[]⟩ : ByteArray), (⟨#[]⟩ : ByteArray), (⟨#[]⟩ : ByteArray), (0 : UInt8), 0, (⟨#[]⟩ : ByteArray), A549, c550, ([(⟨c509.1.Kind, c509.1.Num, c509.1.Name, c509.1.Field, c509.1.Op, c509.1.Kids⟩ : zb)] : List zb), A576, c577, c553.1, none, 0, [], _, zr9 zrV, hO, hL, r607, w612, w617, r666, r668, RdT.nil _ _, hF⟩
  refine zo (zd hO 3 [] [(36, zsb bm0)] [0, 2, 3] zrX fun j => ?_)
  refine zB (T := Ty.str) (l := ([(⟨#[102, 111, 114]⟩ : ByteArray)] : List ByteArray)) (cs := [.string (⟨#[102, 111, 114]⟩ : ByteArray)]) hO rfl ⟨[.string (⟨#[102, 111, 114]⟩ : ByteArray)], _, rfl, rfl, rfl⟩ rfl (by decide) fun _ σ o672 w673 hO => ?_
  obtain ⟨A670, c671, rfl, -⟩ := w673.form
  have hO := zsf7 hO
  obtain ⟨_, h675, r674, hO⟩ := w673.share hO (i := 6) rfl
  have hL := hL.trans h675
  have r497 := r497.le h675
  have w502 := w502.le h675
  have w507 := w507.le h675
  have hO := zsf7 hO
  obtain ⟨c676, h677, hF⟩ := zsg hF
  have hO := hO.sel [0, 1, 2, 6, 3, 4, 5]
  refine zbB (hs := [_, _, _, _]) (vs := [_, _, _]) hO (zca r497 w502 w507 r674 h677) rfl fun _ σ _ _ hO h678 h679 => ?_
  have hL := hL.trans h678
  have r674 := r674.le h678
  obtain ⟨v680, v684, o687, v689, o692, rfl, rfl, r683, w688, w693⟩ := h679
  obtain ⟨A681, c682, rfl, -⟩ := r683.form
  obtain ⟨A685, c686, rfl, -⟩ := w688.form
  obtain ⟨A690, c691, rfl, -⟩ := w693.form
  have hO := zsf7 hO
  refine zh hO [] [(33, .bool c676.1)] [0, 2, 3] zrX fun j => ?_
  refine zE hF rfl (fun hF => ?_) fun hF => ?_
  ·refine zo (zd hO 1 [] [(39, zsb bm0)] [0, 2, 3] zrX fun j => ?_)
   rcases zO hF with ⟨x699, h700, hF⟩ | ⟨c695, h696, hF⟩
   ·refine zN (hs := [_, _, _, _]) (vs := [_, _, _]) hO (zcg r683 w688 w693 h700) (fun _ _ _ h => False.elim h) rfl fun _ σ _ _ hO h701 h702 => ?_
    have hL := hL.trans h701
    obtain ⟨v703, v707, o710, v712, o715, rfl, rfl, r706, w711, w716⟩ := h702
    obtain ⟨A704, c705, rfl, -⟩ := r706.form
    obtain ⟨A708, c709, rfl, -⟩ := w711.form
    obtain ⟨A713, c714, rfl, -⟩ := w716.form
    have hO := zsf7 hO
    cases hF
    have hO := hO.sel [4, 5, 6]
    exact hP _ _ _ _ hO hL ⟨_, _, _, _, _, rfl, rfl, r706, w711, w716⟩
   refine zP (hs := [_, _, _, _]) (vs := [_, _, _]) hO (zcg r683 w688 w693 h696) (fun _ _ _ h => False.elim h) rfl fun _ σ _ _ hO h697 h698 => ?_
   have hL := hL.trans h697
   obtain ⟨v717, v721, v725, o728, v730, o733, rfl, rfl, r718, r724, w729, w734⟩ := h698
   obtain ⟨A719, c720, rfl, -⟩ := r718.form
   obtain ⟨A722, c723, rfl, -⟩ := r724.form
   obtain ⟨A726, c727, rfl, -⟩ := w729.form
   obtain ⟨A731, c732, rfl, -⟩ := w734.form
   have hO := zsf7 hO
   refine zB (T := zC) (l := ([(⟨c695.1.Kind, c695.1.Num, c695.1.Name, c695.1.Field, c695.1.Op, c695.1.Kids⟩ : zb)] : List zb)) (cs := [.int .u8 (c695.1.Kind.toNat : Int), .int .i64 c695.1.Num, .string c695.1.Name, .string c695.1.Field, .string c695.1.Op, zsh A719 c695.1.Kids c720]) hO rfl ⟨[.int .u8 (c695.1.Kind.toNat : Int), .int .i64 c695.1.Num, .string c695.1.Name, .string c695.1.Field, .string c695.1.Op, zsh A719 c695.1.Kids c720], _, rfl, (zcz ⟨_, rfl, r718⟩), rfl⟩ rfl (by decide) fun _ σ o737 w738 hO => ?_
   obtain ⟨A735, c736, rfl, -⟩ := w738.form
   have hO := zsf8 hO
   refine zd hO 1 [] [(42, zsb b7)] [0, 2, 3, 41] zrY fun j => ?_
   refine zs hO (i := 1) rfl (off := 0) rfl rfl rfl rfl (Nat.le_of_ble_eq_true rfl) rfl fun σ hO => ?_
   have hO := zsf8 hO
   refine zbE hO 1 [] [(0, zsb bm0), (2, zsb b2), (3, zsb b7), (41, zsh A735 ([(⟨c695.1.Kind, c695.1.Num, c695.1.Name, c695.1.Field, c695.1.Op, c695.1.Kids⟩ : zb)] : List zb) c736), (43, .pointer (some ⟨b7, 8, none⟩))] zrY fun j => ?_
   refine zs hO (i := 1) rfl (off := 8) rfl rfl rfl rfl (Nat.le_of_ble_eq_true rfl) rfl fun σ hO => ?_
   have hO := zsf8 hO
   refine za (zd hO 1 [] [(44, zsb bm0)] [0, 2, 3] zrX fun j => ?_)
   have hO := hO.sel [0, 1, 2, 3, 7, 4, 5, 6]
   rcases zO hF with ⟨x743, h744, hF⟩ | ⟨c739, h740, hF⟩
   ·refine zN (hs := [_, _, _, _, _]) (vs := [_, _, _]) hO (ih_syntax_parser_block r724 w729 w734 h744) (fun _ _ _ h => False.elim h) rfl fun _ σ _ _ hO h745 h746 => ?_
    have hL := hL.trans h745
    have w738 := w738.le h745
    obtain ⟨v747, v751, o754, v756, o759, rfl, rfl, r750, w755, w760⟩ := h746
    obtain ⟨A748, c749, rfl, -⟩ := r750.form
    obtain ⟨A752, c753, rfl, -⟩ := w755.form
    obtain ⟨A757, c758, rfl, -⟩ := w760.form
    have hO := zsf8 hO
    cases hF
    have hO := hO.sel [5, 6, 7]
    exact hP _ _ _ _ hO hL ⟨_, _, _, _, _, rfl, rfl, r750, w755, w760⟩
   refine zP (hs := [_, _, _, _, _]) (vs := [_, _, _]) hO (ih_syntax_parser_block r724 w729 w734 h740) (fun _ _ _ h => False.elim h) rfl fun _ σ _ _ hO h741 h742 => ?_
   have hL := hL.trans h741
   have w738 := w738.le h741
   obtain ⟨v761, o764, v766, v770, o773, v775, o778, rfl, rfl, w765, r769, w774, w779⟩ := h742
   obtain ⟨A762, c763, rfl, -⟩ := w765.form
   obtain ⟨A767, c768, rfl, -⟩ := r769.form
   obtain ⟨A771, c772, rfl, -⟩ := w774.form
   obtain ⟨A776, c777, rfl, -⟩ := w779.form
   have hO := zsf9 hO
   refine zd hO 1 [] [(46, .pointer (some ⟨b7, 9, none⟩))] [0, 2, 3, 45] zrY fun j => ?_
   refine zs hO (i := 1) rfl (off := 9) rfl rfl rfl rfl (Nat.le_of_ble_eq_true rfl) rfl fun σ hO => ?_
   have hO := zsf9 hO
   refine za (zj (zbe (zp ?_)))
   obtain ⟨_, h781, r780, hO⟩ := w738.share hO (i := 4) rfl
   have hL := hL.trans h781
   have w765 := w765.le h781
   have r769 := r769.le h781
   have w774 := w774.le h781
   have w779 := w779.le h781
   have hO := zsf9 hO
   obtain ⟨_, h783, r782, hO⟩ := w765.share hO (i := 5) rfl
   have hL := hL.trans h783
   have r780 := r780.le h783
   have r769 := r769.le h783
   have w774 := w774.le h783
   have w779 := w779.le h783
   have hO := zsf9 hO
   have hO := hO.sel [6, 7, 8, 0, 1]
   exact ⟨A767, c768, c739.2.cursor.tokens, c739.2.cursor.at_, A771, c772, o773, c739.2.prog.Structs, A776, c777, o778, c739.2.prog.Funcs, (7 : UInt8), c3, (⟨#[]⟩ : ByteArray), (⟨#[]⟩ : ByteArray), (⟨#[]⟩ : ByteArray), (0 : UInt8), 0, (⟨#[]⟩ : ByteArray), A735, c736, ([(⟨c695.1.Kind, c695.1.Num, c695.1.Name, c695.1.Field, c695.1.Op, c695.1.Kids⟩ : zb)] : List zb), A762, c763, c739.1, none, 0, [], _, zr9 zrV, hO, hL, r769, w774, w779, r780, r782, RdT.nil _ _, hF⟩
  refine zd hO 1 [] [(9, zsb bm0)] [0, 2, 3] zrX fun j => ?_
  have hO := hO.sel [0, 2, 3, 4, 5, 6, 1]
  rcases zO hF with ⟨x788, h789, hF⟩ | ⟨c784, h785, hF⟩
  ·refine zN (hs := [_, _, _]) (vs := [_, _, _, _]) hO (zmk (q1 := (⟨(0 : UInt8), c3, (⟨#[]⟩ : ByteArray), (⟨#[]⟩ : ByteArray), (⟨#[]⟩ : ByteArray), (⟨(0 : UInt8), 0, (⟨#[]⟩ : ByteArray)⟩ : zI), [], [], []⟩ : zg)) r683 w688 w693 (RdT.nil zC _) (RdT.nil zJ _) (RdT.nil zJ _) h789) (fun _ _ _ h => False.elim h) rfl fun _ σ _ _ hO h790 h791 => ?_
   have hL := hL.trans h790
   obtain ⟨v792, v796, o799, v801, o804, v806, v810, v814, rfl, rfl, r795, w800, w805, r809, r813, r817⟩ := h791
   obtain ⟨A793, c794, rfl, -⟩ := r795.form
   obtain ⟨A797, c798, rfl, -⟩ := w800.form
   obtain ⟨A802, c803, rfl, -⟩ := w805.form
   obtain ⟨A807, c808, rfl, -⟩ := r809.form
   obtain ⟨A811, c812, rfl, -⟩ := r813.form
   obtain ⟨A815, c816, rfl, -⟩ := r817.form
   have hO := zsf7 hO
   cases hF
   have hO := hO.sel [3, 4, 5]
   exact hP _ _ _ _ hO hL ⟨_, _, _, _, _, rfl, rfl, r795, w800, w805⟩
  refine zP (hs := [_, _, _]) (vs := [_, _, _, _]) hO (zmk (q1 := (⟨(0 : UInt8), c3, (⟨#[]⟩ : ByteArray), (⟨#[]⟩ : ByteArray), (⟨#[]⟩ : ByteArray), (⟨(0 : UInt8), 0, (⟨#[]⟩ : ByteArray)⟩ : zI), [], [], []⟩ : zg)) r683 w688 w693 (RdT.nil zC _) (RdT.nil zJ _) (RdT.nil zJ _) h785) (fun _ _ _ h => False.elim h) rfl fun _ σ _ _ hO h786 h787 => ?_
  have hL := hL.trans h786
  obtain ⟨v818, v822, o825, v827, o830, v832, v836, v840, rfl, rfl, r821, w826, w831, r835, r839, r843⟩ := h787
  obtain ⟨A819, c820, rfl, -⟩ := r821.form
  obtain ⟨A823, c824, rfl, -⟩ := w826.form
  obtain ⟨A828, c829, rfl, -⟩ := w831.form
  obtain ⟨A833, c834, rfl, -⟩ := r835.form
  obtain ⟨A837, c838, rfl, -⟩ := r839.form
  obtain ⟨A841, c842, rfl, -⟩ := r843.form
  have hO := zsf7 hO
  refine za (zj (zbe (zp ?_)))
  have hO := hO.sel [3, 4, 5, 0, 6]
  exact ⟨A819, c820, c784.1.cursor.tokens, c784.1.cursor.at_, A823, c824, o825, c784.1.prog.Structs, A828, c829, o830, c784.1.prog.Funcs, c784.2.Kind, c784.2.Line, c784.2.Name, c784.2.Field, c784.2.Call, c784.2.Type_.Kind, c784.2.Type_.N, c784.2.Type_.Name, A833, c834, c784.2.Kids, A837, c838, c784.2.Body, A841, c842, c784.2.Else, _, zr9 zrV, hO, hL, r821, w826, w831, r835, r839, r843, hF⟩
 rintro e σ ⟨A449, c450, x451, x453, A454, c455, o456, x457, A459, c460, o461, x462, x464, x465, x466, x467, x468, x469, x470, x471, A472, c473, x474, A476, c477, x478, A480, c481, x482, _, hA, hO, hL, r452, w458, w463, r475, r479, r483, hF⟩
 rw [← zbc _ _ hA]
 unfold ze5 at hF
 refine zd hO 1 [4] [(47, .agg #[(.int .u8 (x464.toNat : Int)), (.int .i64 x465), (.string x466), (.string x467), (.string x468), (.int .u8 (x469.toNat : Int)), (.int .i64 x470), (.string x471), (zsh A472 x474 c473), (zsh A476 x478 c477), (zsh A480 x482 c481)])] [0, 2] (And.intro (And.intro rfl rfl) zrW) fun j => ?_
 refine zs hO (i := 3) rfl (off := 0) rfl rfl rfl rfl (Nat.le_of_ble_eq_true rfl) rfl fun σ hO => ?_
 have hO := zsf5 hO
 refine za (zbt ?_)
 cases hF
 have hV0 := hO.val (i := 3) rfl (off := 0) (agg := true) (n := 11) rfl
 have hO := hO.sel [0, 1, 2]
 refine (hQ _ _ _ _ _ (zbP rfl (hV0) rfl) hO hL ?_).1
 exact ⟨_, _, _, _, _, _, _, _, rfl, rfl, r475, r479, r483, r452, w458, w463⟩
theorem zqf (n : Nat) : zkm n ∧ zjC n := by
 induction n with
 | zero =>
  refine ⟨?_, ?_⟩
  ·intro τ q0 bm0 vm0_0 vm0_2 om0_2 vm0_3 om0_3 rm0_0 wm0_2 wm0_3 rr hF; exact nomatch (show none = some rr from hF)
  ·intro τ q0 bm0 vm0_0 vm0_2 om0_2 vm0_3 om0_3 rm0_0 wm0_2 wm0_3 rr hF; exact nomatch (show none = some rr from hF)
 | succ n ih =>
  obtain ⟨i0, i1⟩ := ih
  refine ⟨?_, ?_⟩
  ·intro τ q0 bm0 vm0_0 vm0_2 om0_2 vm0_3 om0_3 rm0_0 wm0_2 wm0_3 rr hF; exact zpS i0 i1 rm0_0 wm0_2 wm0_3 hF
  ·intro τ q0 bm0 vm0_0 vm0_2 om0_2 vm0_3 om0_3 rm0_0 wm0_2 wm0_3 rr hF; exact zoI i0 i1 rm0_0 wm0_2 wm0_3 hF
theorem zly : ∀ {τ : Hp} {q0 : zc} {bm0 : Nat} {vm0_0 vm0_2 : Value} {om0_2 : Ob} {vm0_3 : Value} {om0_3 : Ob} (rm0_0 : RdT zt τ vm0_0 q0.cursor.tokens) (wm0_2 : ze zn 71 τ vm0_2 q0.prog.Structs om0_2) (wm0_3 : ze zk 50 τ vm0_3 q0.prog.Funcs om0_3) {rr : Except (Value × zc) ((List zg) × zc)} (hF : zkr q0 = some rr), zbM Try.prog 69 #[.pointer (some ⟨bm0, 0, none⟩)] τ [zw bm0 vm0_0 q0.cursor.at_ vm0_2 vm0_3, om0_2, om0_3] (fun v τ' vs' => match (generalizing := false) rr with | .ok rr => ∃ (v0 : Value) (o0 : Ob) (u0_0 u0_2 : Value) (y0_2 : Ob) (u0_3 : Value) (y0_3 : Ob), v = v0 ∧ vs' = [o0, zw bm0 u0_0 rr.2.cursor.at_ u0_2 u0_3, y0_2, y0_3] ∧ ze zJ 53 τ' v0 rr.1 o0 ∧ RdT zt τ' u0_0 rr.2.cursor.tokens ∧ ze zn 71 τ' u0_2 rr.2.prog.Structs y0_2 ∧ ze zk 50 τ' u0_3 rr.2.prog.Funcs y0_3 | .error _ => False) (fun ch τ' vs' => match (generalizing := false) rr with | .ok _ => False | .error ee => ∃ (u0_0 u0_2 : Value) (y0_2 : Ob) (u0_3 : Value) (y0_3 : Ob), ch = [{ v := ee.1, recovered := false }] ∧ vs' = [zw bm0 u0_0 ee.2.cursor.at_ u0_2 u0_3, y0_2, y0_3] ∧ RdT zt τ' u0_0 ee.2.cursor.tokens ∧ ze zn 71 τ' u0_2 ee.2.prog.Structs y0_2 ∧ ze zk 50 τ' u0_3 ee.2.prog.Funcs y0_3) := (zqf big).1
end Go.Proofs.Ytnhboaaikehpoaa
