import Derived.Test.YtnhboaaikehpoaaG1
namespace Go.Proofs.Ytnhboaaikehpoaa
open Go.Ab Go.RowKit
set_option linter.unusedVariables false
set_option linter.unusedSimpArgs false
set_option maxRecDepth 10000
set_option maxHeartbeats 1000000
theorem zmv {τ : Hp} {q0 : zc} {bm0 : Nat} {vm0_0 vm0_2 : Value} {om0_2 : Ob} {vm0_3 : Value} {om0_3 : Ob} (rm0_0 : RdT zt τ vm0_0 q0.cursor.tokens) (wm0_2 : ze zn 71 τ vm0_2 q0.prog.Structs om0_2) (wm0_3 : ze zk 50 τ vm0_3 q0.prog.Funcs om0_3) {rr : Except (Value × zc) (zc)} (hF : zgo q0 = some rr) :
  zbM Try.prog 40 #[.pointer (some ⟨bm0, 0, none⟩)] τ [zw bm0 vm0_0 q0.cursor.at_ vm0_2 vm0_3, om0_2, om0_3] (fun v τ' vs' => match (generalizing := false) rr with | .ok rr => ∃ (u0_0 u0_2 : Value) (y0_2 : Ob) (u0_3 : Value) (y0_3 : Ob), v = .tuple #[] ∧ vs' = [zw bm0 u0_0 rr.cursor.at_ u0_2 u0_3, y0_2, y0_3] ∧ RdT zt τ' u0_0 rr.cursor.tokens ∧ ze zn 71 τ' u0_2 rr.prog.Structs y0_2 ∧ ze zk 50 τ' u0_3 rr.prog.Funcs y0_3 | .error _ => False) (fun ch τ' vs' => match (generalizing := false) rr with | .ok _ => False | .error ee => ∃ (u0_0 u0_2 : Value) (y0_2 : Ob) (u0_3 : Value) (y0_3 : Ob), ch = [{ v := ee.1, recovered := false }] ∧ vs' = [zw bm0 u0_0 ee.2.cursor.at_ u0_2 u0_3, y0_2, y0_3] ∧ RdT zt τ' u0_0 ee.2.cursor.tokens ∧ ze zn 71 τ' u0_2 ee.2.prog.Structs y0_2 ∧ ze zk 50 τ' u0_3 ee.2.prog.Funcs y0_3) := by
 obtain ⟨Am0_0, cm0_0, rfl, -⟩ := rm0_0.form
 obtain ⟨Am0_2, cm0_2, rfl, -⟩ := wm0_2.form
 obtain ⟨Am0_3, cm0_3, rfl, -⟩ := wm0_3.form
 refine zcL (args := [.pointer (some ⟨bm0, 0, none⟩)]) hm Try.func40 s40 rfl fun w0 σ hP hO Q hQ => ?_
 unfold zgo at hF
 have hL := Hp.le.refl τ
 show wpn _ _ a40.body _ _ _
 unfold a40
 dsimp only
 refine zd hO 3 [] [(5, zsb bm0)] [0] zrV fun j => ?_
 obtain ⟨c2, h3, hF⟩ := zsg hF
 refine zbB (hs := []) (vs := [_, _, _]) hO (zmu (rm0_0.le hL) (wm0_2.le hL) (wm0_3.le hL) h3) rfl fun _ σ _ _ hO h4 h5 => ?_
 have hL := hL.trans h4
 obtain ⟨rfl, rfl⟩ := h5
 have hO := zsf3 hO
 refine zd hO 1 [] [(7, .agg #[(.string (⟨#[]⟩ : ByteArray)), (.int .i64 c2), (.slice none 0 0), (.int .u8 0), (.int .i64 0), (.string (⟨#[]⟩ : ByteArray)), (.slice none 0 0)])] [0] zrV fun j => ?_
 refine zbg hO fun b6 σ hO => ?_
 have hO := zsf4 hO
 refine zs hO (i := 3) rfl (off := 0) rfl rfl rfl rfl (Nat.le_of_ble_eq_true rfl) rfl fun σ hO => ?_
 have hO := zsf4 hO
 refine za (zd hO 3 [] [(10, zsb bm0)] [0, 2] zrW fun j => ?_)
 refine zB (T := Ty.str) (l := ([(⟨#[102, 117, 110, 99]⟩ : ByteArray)] : List ByteArray)) (cs := [.string (⟨#[102, 117, 110, 99]⟩ : ByteArray)]) hO rfl ⟨[.string (⟨#[102, 117, 110, 99]⟩ : ByteArray)], _, rfl, rfl, rfl⟩ rfl (by decide) fun _ σ o9 w10 hO => ?_
 obtain ⟨A7, c8, rfl, -⟩ := w10.form
 have hO := zsf5 hO
 obtain ⟨_, h12, r11, hO⟩ := w10.share hO (i := 4) rfl
 have hL := hL.trans h12
 have hO := zsf5 hO
 have hO := hO.sel [3, 4, 0, 1, 2]
 rcases zO hF with ⟨x17, h18, hF⟩ | ⟨c13, h14, hF⟩
 ·refine zN (hs := [_, _]) (vs := [_, _, _]) hO (zcA (rm0_0.le hL) (wm0_2.le hL) (wm0_3.le hL) r11 h18) (fun _ _ _ h => False.elim h) rfl fun _ σ _ _ hO h19 h20 => ?_
  have hL := hL.trans h19
  have r11 := r11.le h19
  obtain ⟨v21, v25, o28, v30, o33, rfl, rfl, r24, w29, w34⟩ := h20
  obtain ⟨A22, c23, rfl, -⟩ := r24.form
  obtain ⟨A26, c27, rfl, -⟩ := w29.form
  obtain ⟨A31, c32, rfl, -⟩ := w34.form
  have hO := zsf5 hO
  cases hF
  have hO := hO.sel [2, 3, 4]
  exact hP _ _ _ _ hO hL ⟨_, _, _, _, _, rfl, rfl, r24, w29, w34⟩
 refine zP (hs := [_, _]) (vs := [_, _, _]) hO (zcA (rm0_0.le hL) (wm0_2.le hL) (wm0_3.le hL) r11 h14) (fun _ _ _ h => False.elim h) rfl fun _ σ _ _ hO h15 h16 => ?_
 have hL := hL.trans h15
 have r11 := r11.le h15
 obtain ⟨v35, v39, o42, v44, o47, rfl, rfl, r38, w43, w48⟩ := h16
 obtain ⟨A36, c37, rfl, -⟩ := r38.form
 obtain ⟨A40, c41, rfl, -⟩ := w43.form
 obtain ⟨A45, c46, rfl, -⟩ := w48.form
 have hO := zsf5 hO
 refine za (zd hO 3 [] [(15, zsb bm0)] [0, 2] zrW fun j => ?_)
 rcases zO hF with ⟨x53, h54, hF⟩ | ⟨c49, h50, hF⟩
 ·refine zN (hs := [_, _]) (vs := [_, _, _]) hO (zb7 r38 w43 w48 h54) (fun _ _ _ h => False.elim h) rfl fun _ σ _ _ hO h55 h56 => ?_
  have hL := hL.trans h55
  obtain ⟨v57, v61, o64, v66, o69, rfl, rfl, r60, w65, w70⟩ := h56
  obtain ⟨A58, c59, rfl, -⟩ := r60.form
  obtain ⟨A62, c63, rfl, -⟩ := w65.form
  obtain ⟨A67, c68, rfl, -⟩ := w70.form
  have hO := zsf5 hO
  cases hF
  have hO := hO.sel [2, 3, 4]
  exact hP _ _ _ _ hO hL ⟨_, _, _, _, _, rfl, rfl, r60, w65, w70⟩
 refine zP (hs := [_, _]) (vs := [_, _, _]) hO (zb7 r38 w43 w48 h50) (fun _ _ _ h => False.elim h) rfl fun _ σ _ _ hO h51 h52 => ?_
 have hL := hL.trans h51
 obtain ⟨v71, v75, o78, v80, o83, rfl, rfl, r74, w79, w84⟩ := h52
 obtain ⟨A72, c73, rfl, -⟩ := r74.form
 obtain ⟨A76, c77, rfl, -⟩ := w79.form
 obtain ⟨A81, c82, rfl, -⟩ := w84.form
 have hO := zsf5 hO
 refine zd hO 1 [] [(17, zsb b6)] [0, 2, 16] zrX fun j => ?_
 refine zs hO (i := 0) rfl (off := 0) rfl rfl rfl rfl (Nat.le_of_ble_eq_true rfl) rfl fun σ hO => ?_
 have hO := zsf5 hO
 refine za (zd hO 3 [] [(20, zsb bm0)] [0, 2] zrW fun j => ?_)
 refine zB (T := Ty.str) (l := ([(⟨#[40]⟩ : ByteArray)] : List ByteArray)) (cs := [.string (⟨#[40]⟩ : ByteArray)]) hO rfl ⟨[.string (⟨#[40]⟩ : ByteArray)], _, rfl, rfl, rfl⟩ rfl (by decide) fun _ σ o87 w88 hO => ?_
 obtain ⟨A85, c86, rfl, -⟩ := w88.form
 have hO := zsf6 hO
 obtain ⟨_, h90, r89, hO⟩ := w88.share hO (i := 5) rfl
 have hL := hL.trans h90
 have r74 := r74.le h90
 have w79 := w79.le h90
 have w84 := w84.le h90
 have hO := zsf6 hO
 have hO := hO.sel [0, 1, 5, 2, 3, 4]
 rcases zO hF with ⟨x95, h96, hF⟩ | ⟨c91, h92, hF⟩
 ·refine zN (hs := [_, _, _]) (vs := [_, _, _]) hO (zbG r74 w79 w84 r89 h96) (fun _ _ _ h => False.elim h) rfl fun _ σ _ _ hO h97 h98 => ?_
  have hL := hL.trans h97
  have r89 := r89.le h97
  obtain ⟨v99, v103, o106, v108, o111, rfl, rfl, r102, w107, w112⟩ := h98
  obtain ⟨A100, c101, rfl, -⟩ := r102.form
  obtain ⟨A104, c105, rfl, -⟩ := w107.form
  obtain ⟨A109, c110, rfl, -⟩ := w112.form
  have hO := zsf6 hO
  cases hF
  have hO := hO.sel [3, 4, 5]
  exact hP _ _ _ _ hO hL ⟨_, _, _, _, _, rfl, rfl, r102, w107, w112⟩
 refine zP (hs := [_, _, _]) (vs := [_, _, _]) hO (zbG r74 w79 w84 r89 h92) (fun _ _ _ h => False.elim h) rfl fun _ σ _ _ hO h93 h94 => ?_
 have hL := hL.trans h93
 have r89 := r89.le h93
 obtain ⟨v113, v117, o120, v122, o125, rfl, rfl, r116, w121, w126⟩ := h94
 obtain ⟨A114, c115, rfl, -⟩ := r116.form
 obtain ⟨A118, c119, rfl, -⟩ := w121.form
 obtain ⟨A123, c124, rfl, -⟩ := w126.form
 have hO := zsf6 hO
 refine za (zo (zd hO 3 [] [(25, zsb bm0)] [0, 2] zrW fun j => ?_))
 refine zB (T := Ty.str) (l := ([(⟨#[41]⟩ : ByteArray)] : List ByteArray)) (cs := [.string (⟨#[41]⟩ : ByteArray)]) hO rfl ⟨[.string (⟨#[41]⟩ : ByteArray)], _, rfl, rfl, rfl⟩ rfl (by decide) fun _ σ o129 w130 hO => ?_
 obtain ⟨A127, c128, rfl, -⟩ := w130.form
 have hO := zsf7 hO
 obtain ⟨_, h132, r131, hO⟩ := w130.share hO (i := 6) rfl
 have hL := hL.trans h132
 have r116 := r116.le h132
 have w121 := w121.le h132
 have w126 := w126.le h132
 have hO := zsf7 hO
 obtain ⟨c133, h134, hF⟩ := zsg hF
 have hO := hO.sel [0, 1, 2, 6, 3, 4, 5]
 refine zbB (hs := [_, _, _, _]) (vs := [_, _, _]) hO (zca r116 w121 w126 r131 h134) rfl fun _ σ _ _ hO h135 h136 => ?_
 have hL := hL.trans h135
 have r131 := r131.le h135
 obtain ⟨v137, v141, o144, v146, o149, rfl, rfl, r140, w145, w150⟩ := h136
 obtain ⟨A138, c139, rfl, -⟩ := r140.form
 obtain ⟨A142, c143, rfl, -⟩ := w145.form
 obtain ⟨A147, c148, rfl, -⟩ := w150.form
 have hO := zsf7 hO
 refine zh hO [] [(28, .bool (!c133.1))] [0, 2] zrW fun j => ?_
 refine zh7 (fun e' σ' => ∃ (A571 : Option Addr) (c572 : Nat) (x573 : List zr) (x575 : Int) (A576 : Option Addr) (c577 : Nat) (o578 : Ob) (x579 : List zl) (A581 : Option Addr) (c582 : Nat) (o583 : Ob) (x584 : List zi) (A586 : Option Addr) (c587 : Nat) (o588 : Ob) (x589 : List zbh) (τ' : Hp), agr [(0, zsb bm0), (2, zsb b6)] e' ∧ Obs τ' σ' [zw bm0 (zsh A571 x573 c572) x575 (zsh A576 x579 c577) (zsh A581 x584 c582), o578, o583, zfP b6 c49.1 c2 (zsh A586 x589 c587) 0 0 (⟨#[]⟩ : ByteArray) (.slice none 0 0), o588] ∧ Hp.le τ τ' ∧ RdT zt τ' (zsh A571 x573 c572) x573 ∧ ze zn 71 τ' (zsh A576 x579 c577) x579 o578 ∧ ze zk 50 τ' (zsh A581 x584 c582) x584 o583 ∧ ze zcW 77 τ' (zsh A586 x589 c587) x589 o588 ∧ zf0 c2 c49 x573 x575 x579 x584 x589 = some rr) ?_ ?_
 ·refine zb2 (zE hF rfl (fun hF => ?_) fun hF => ?_)
  ·refine zo (zcD (zbE hO 3 [0] [(0, zsb bm0), (2, zsb b6), (29, .pointer (some ⟨b6, 2, none⟩)), (30, .slice none 0 0), (31, zsb bm0)] (And.intro (And.intro rfl rfl) zrY) fun j => ?_))
   refine zv ?_
   rcases zO hF with ⟨x688, h689, hF⟩ | ⟨c684, h685, hF⟩
   ·refine zN (hs := [_, _, _, _]) (vs := [_, _, _]) hO (ziu r140 w145 w150 h689) (fun _ _ _ h => False.elim h) rfl fun _ σ _ _ hO h690 h691 => ?_
    have hL := hL.trans h690
    obtain ⟨v692, v696, o699, v701, o704, rfl, rfl, r695, w700, w705⟩ := h691
    obtain ⟨A693, c694, rfl, -⟩ := r695.form
    obtain ⟨A697, c698, rfl, -⟩ := w700.form
    obtain ⟨A702, c703, rfl, -⟩ := w705.form
    have hO := zsf7 hO
    cases hF
    have hO := hO.sel [4, 5, 6]
    exact hP _ _ _ _ hO hL ⟨_, _, _, _, _, rfl, rfl, r695, w700, w705⟩
   refine zP (hs := [_, _, _, _]) (vs := [_, _, _]) hO (ziu r140 w145 w150 h685) (fun _ _ _ h => False.elim h) rfl fun _ σ _ _ hO h686 h687 => ?_
   have hL := hL.trans h686
   obtain ⟨v706, v710, o713, v715, o718, rfl, rfl, r709, w714, w719⟩ := h687
   obtain ⟨A707, c708, rfl, -⟩ := r709.form
   obtain ⟨A711, c712, rfl, -⟩ := w714.form
   obtain ⟨A716, c717, rfl, -⟩ := w719.form
   have hO := zsf7 hO
   refine za (zu ⟨(zf rfl (hO.val (i := 0) (off := 2) (agg := false) (n := 1) rfl rfl) rfl), trivial⟩ ?_)
   refine zv (zB (T := zcW) (l := ([(⟨c684.1.Name, (⟨c684.1.Type_.Kind, c684.1.Type_.N, c684.1.Type_.Name⟩ : zI)⟩ : zbh)] : List zbh)) (cs := [.string c684.1.Name, .int .u8 (c684.1.Type_.Kind.toNat : Int), .int .i64 c684.1.Type_.N, .string c684.1.Type_.Name]) hO rfl ⟨[.string c684.1.Name, .int .u8 (c684.1.Type_.Kind.toNat : Int), .int .i64 c684.1.Type_.N, .string c684.1.Type_.Name], _, rfl, rfl, rfl⟩ rfl (by decide) fun _ σ o722 w723 hO => ?_)
   obtain ⟨A720, c721, rfl, -⟩ := w723.form
   have hO := zsf8 hO
   refine za (zu ⟨(zf rfl (hO.val (i := 0) (off := 2) (agg := false) (n := 1) rfl rfl) rfl), trivial⟩ ?_)
   have hO := hO.no
   have hO := zsf9 hO
   have w724 := ze.nil0 (T := zcW) (ty := 77) hO
   obtain ⟨_, hr729, hF⟩ := zsg hF
   refine zj5 (T := zcW) zlV hO w724 (i := 8) rfl rfl rfl (w723.rd hO (i := 7) rfl) hr729 (by decide) fun _ σ o727 w728 hO => ?_
   obtain ⟨A725, c726, rfl, -⟩ := w728.form
   have hO := zsf9 hO
   refine zd hO 1 [] [(35, .pointer (some ⟨b6, 2, none⟩))] [0, 2, 34] zrX fun j => ?_
   refine zs hO (i := 0) rfl (off := 2) rfl rfl rfl rfl (Nat.le_of_ble_eq_true rfl) rfl fun σ hO => ?_
   have hO := zsf9 hO
   refine za (zo (zY ?_))
   have hO := hO.sel [4, 5, 6, 0, 8]
   refine zbY (fun (n : Nat) e' σ' => ∃ (A858 : Option Addr) (c859 : Nat) (x860 : List zr) (x862 : Int) (A863 : Option Addr) (c864 : Nat) (o865 : Ob) (x866 : List zl) (A868 : Option Addr) (c869 : Nat) (o870 : Ob) (x871 : List zi) (A873 : Option Addr) (c874 : Nat) (o875 : Ob) (x876 : List zbh) (τ' : Hp), agr [(0, zsb bm0), (2, zsb b6)] e' ∧ Obs τ' σ' [zw bm0 (zsh A858 x860 c859) x862 (zsh A863 x866 c864) (zsh A868 x871 c869), o865, o870, zfP b6 c49.1 c2 (zsh A873 x876 c874) 0 0 (⟨#[]⟩ : ByteArray) (.slice none 0 0), o875] ∧ Hp.le τ τ' ∧ RdT zt τ' (zsh A858 x860 c859) x860 ∧ ze zn 71 τ' (zsh A863 x866 c864) x866 o865 ∧ ze zk 50 τ' (zsh A868 x871 c869) x871 o870 ∧ ze zcW 77 τ' (zsh A873 x876 c874) x876 o875 ∧ zf4 c2 c49 n x860 x862 x866 x871 x876 = some rr) big ⟨A707, c708, c684.2.cursor.tokens, c684.2.cursor.at_, A711, c712, o713, c684.2.prog.Structs, A716, c717, o718, c684.2.prog.Funcs, A725, c726, o727, (([] : List zbh) ++ ([(⟨c684.1.Name, (⟨c684.1.Type_.Kind, c684.1.Type_.N, c684.1.Type_.Name⟩ : zI)⟩ : zbh)] : List zbh)), _, zr9 zrU, hO, hL, r709, w714, w719, w728, hF⟩ ?_
   clear hF hO hL
   rintro n990 e σ ⟨A858, c859, x860, x862, A863, c864, o865, x866, A868, c869, o870, x871, A873, c874, o875, x876, _, hA, hO, hL, r861, w867, w872, w877, hF⟩
   rw [← zbc _ _ hA]
   cases n990 with
   | zero => exact nomatch (show none = some rr from hF)
   | succ n990 =>
   replace hF : zgi (zf4 c2 c49 n990) c2 c49 x860 x862 x866 x871 x876 = some rr := hF
   unfold zgi at hF
   refine zo (zd hO 3 [] [(38, zsb bm0)] [0, 2] zrW fun j => ?_)
   refine zB (T := Ty.str) (l := ([(⟨#[44]⟩ : ByteArray)] : List ByteArray)) (cs := [.string (⟨#[44]⟩ : ByteArray)]) hO rfl ⟨[.string (⟨#[44]⟩ : ByteArray)], _, rfl, rfl, rfl⟩ rfl (by decide) fun _ σ o993 w994 hO => ?_
   obtain ⟨A991, c992, rfl, -⟩ := w994.form
   have hO := zsf6 hO
   obtain ⟨_, h996, r995, hO⟩ := w994.share hO (i := 5) rfl
   have hL := hL.trans h996
   have r861 := r861.le h996
   have w867 := w867.le h996
   have w872 := w872.le h996
   have w877 := w877.le h996
   have hO := zsf6 hO
   obtain ⟨c997, h998, hF⟩ := zsg hF
   have hO := hO.sel [3, 4, 5, 0, 1, 2]
   refine zbB (hs := [_, _, _]) (vs := [_, _, _]) hO (zca (q0 := (⟨(⟨x860, x862⟩ : zbf), (⟨x866, x871⟩ : zL)⟩ : zc)) r861 w867 w872 r995 h998) rfl fun _ σ _ _ hO h999 h1000 => ?_
   have hL := hL.trans h999
   have r995 := r995.le h999
   have w877 := w877.le h999
   obtain ⟨v1001, v1005, o1008, v1010, o1013, rfl, rfl, r1004, w1009, w1014⟩ := h1000
   obtain ⟨A1002, c1003, rfl, -⟩ := r1004.form
   obtain ⟨A1006, c1007, rfl, -⟩ := w1009.form
   obtain ⟨A1011, c1012, rfl, -⟩ := w1014.form
   have hO := zsf6 hO
   refine za (zE hF rfl (fun hF => ?_) fun hF => ?_)
   ·refine zS (zcF (zY (ziR (zd hO 3 [0] [(41, .pointer (some ⟨b6, 2, none⟩)), (42, zsh A873 x876 c874), (43, zsb bm0)] [0, 2] (And.intro (And.intro rfl rfl) zrY) fun j => ?_))))
    refine zv ?_
    rcases zO hF with ⟨x1020, h1021, hF⟩ | ⟨c1016, h1017, hF⟩
    ·refine zN (hs := [_, _, _]) (vs := [_, _, _]) hO (ziu r1004 w1009 w1014 h1021) (fun _ _ _ h => False.elim h) rfl fun _ σ _ _ hO h1022 h1023 => ?_
     have hL := hL.trans h1022
     have w877 := w877.le h1022
     obtain ⟨v1024, v1028, o1031, v1033, o1036, rfl, rfl, r1027, w1032, w1037⟩ := h1023
     obtain ⟨A1025, c1026, rfl, -⟩ := r1027.form
     obtain ⟨A1029, c1030, rfl, -⟩ := w1032.form
     obtain ⟨A1034, c1035, rfl, -⟩ := w1037.form
     have hO := zsf6 hO
     cases hF
     have hO := hO.sel [3, 4, 5]
     exact hP _ _ _ _ hO hL ⟨_, _, _, _, _, rfl, rfl, r1027, w1032, w1037⟩
    refine zP (hs := [_, _, _]) (vs := [_, _, _]) hO (ziu r1004 w1009 w1014 h1017) (fun _ _ _ h => False.elim h) rfl fun _ σ _ _ hO h1018 h1019 => ?_
    have hL := hL.trans h1018
    have w877 := w877.le h1018
    obtain ⟨v1038, v1042, o1045, v1047, o1050, rfl, rfl, r1041, w1046, w1051⟩ := h1019
    obtain ⟨A1039, c1040, rfl, -⟩ := r1041.form
    obtain ⟨A1043, c1044, rfl, -⟩ := w1046.form
    obtain ⟨A1048, c1049, rfl, -⟩ := w1051.form
    have hO := zsf6 hO
    refine za (zu ⟨(zf rfl (hO.val (i := 0) (off := 2) (agg := false) (n := 1) rfl rfl) rfl), trivial⟩ ?_)
    refine zv (zB (T := zcW) (l := ([(⟨c1016.1.Name, (⟨c1016.1.Type_.Kind, c1016.1.Type_.N, c1016.1.Type_.Name⟩ : zI)⟩ : zbh)] : List zbh)) (cs := [.string c1016.1.Name, .int .u8 (c1016.1.Type_.Kind.toNat : Int), .int .i64 c1016.1.Type_.N, .string c1016.1.Type_.Name]) hO rfl ⟨[.string c1016.1.Name, .int .u8 (c1016.1.Type_.Kind.toNat : Int), .int .i64 c1016.1.Type_.N, .string c1016.1.Type_.Name], _, rfl, rfl, rfl⟩ rfl (by decide) fun _ σ o1054 w1055 hO => ?_)
    obtain ⟨A1052, c1053, rfl, -⟩ := w1055.form
    have hO := zsf7 hO
    refine za (zu ⟨(zf rfl (hO.val (i := 0) (off := 2) (agg := false) (n := 1) rfl rfl) rfl), trivial⟩ ?_)
    obtain ⟨_, hr1060, hF⟩ := zsg hF
    refine zj5 (T := zcW) zlV hO w877 (i := 1) rfl rfl rfl (w1055.rd hO (i := 6) rfl) hr1060 (by decide) fun _ σ o1058 w1059 hO => ?_
    obtain ⟨A1056, c1057, rfl, -⟩ := w1059.form
    have hO := zsf7 hO
    refine zd hO 1 [] [(47, .pointer (some ⟨b6, 2, none⟩))] [0, 2, 46] zrX fun j => ?_
    refine zs hO (i := 0) rfl (off := 2) rfl rfl rfl rfl (Nat.le_of_ble_eq_true rfl) rfl fun σ hO => ?_
    have hO := zsf7 hO
    refine za (zj (zbe (zp (zj (zp ?_)))))
    have hO := hO.sel [3, 4, 5, 0, 1]
    exact ⟨n990, Nat.lt_succ_self _, A1039, c1040, c1016.2.cursor.tokens, c1016.2.cursor.at_, A1043, c1044, o1045, c1016.2.prog.Structs, A1048, c1049, o1050, c1016.2.prog.Funcs, A1056, c1057, o1058, (x876 ++ ([(⟨c1016.1.Name, (⟨c1016.1.Type_.Kind, c1016.1.Type_.N, c1016.1.Type_.Name⟩ : zI)⟩ : zbh)] : List zbh)), _, zr9 zrU, hO, hL, r1041, w1046, w1051, w1059, hF⟩
   refine zbX (zb1 (zb0 (zp (zd hO 3 [] [(50, zsb bm0)] [0, 2] zrW fun j => ?_))))
   refine zB (T := Ty.str) (l := ([(⟨#[41]⟩ : ByteArray)] : List ByteArray)) (cs := [.string (⟨#[41]⟩ : ByteArray)]) hO rfl ⟨[.string (⟨#[41]⟩ : ByteArray)], _, rfl, rfl, rfl⟩ rfl (by decide) fun _ σ o1063 w1064 hO => ?_
   obtain ⟨A1061, c1062, rfl, -⟩ := w1064.form
   have hO := zsf7 hO
   obtain ⟨_, h1066, r1065, hO⟩ := w1064.share hO (i := 6) rfl
   have hL := hL.trans h1066
   have w877 := w877.le h1066
   have r1004 := r1004.le h1066
   have w1009 := w1009.le h1066
   have w1014 := w1014.le h1066
   have hO := zsf7 hO
   have hO := hO.sel [0, 1, 2, 6, 3, 4, 5]
   rcases zO hF with ⟨x1071, h1072, hF⟩ | ⟨c1067, h1068, hF⟩
   ·refine zN (hs := [_, _, _, _]) (vs := [_, _, _]) hO (zbG r1004 w1009 w1014 r1065 h1072) (fun _ _ _ h => False.elim h) rfl fun _ σ _ _ hO h1073 h1074 => ?_
    have hL := hL.trans h1073
    have r1065 := r1065.le h1073
    have w877 := w877.le h1073
    obtain ⟨v1075, v1079, o1082, v1084, o1087, rfl, rfl, r1078, w1083, w1088⟩ := h1074
    obtain ⟨A1076, c1077, rfl, -⟩ := r1078.form
    obtain ⟨A1080, c1081, rfl, -⟩ := w1083.form
    obtain ⟨A1085, c1086, rfl, -⟩ := w1088.form
    have hO := zsf7 hO
    cases hF
    have hO := hO.sel [4, 5, 6]
    exact hP _ _ _ _ hO hL ⟨_, _, _, _, _, rfl, rfl, r1078, w1083, w1088⟩
   refine zP (hs := [_, _, _, _]) (vs := [_, _, _]) hO (zbG r1004 w1009 w1014 r1065 h1068) (fun _ _ _ h => False.elim h) rfl fun _ σ _ _ hO h1069 h1070 => ?_
   have hL := hL.trans h1069
   have r1065 := r1065.le h1069
   have w877 := w877.le h1069
   obtain ⟨v1089, v1093, o1096, v1098, o1101, rfl, rfl, r1092, w1097, w1102⟩ := h1070
   obtain ⟨A1090, c1091, rfl, -⟩ := r1092.form
   obtain ⟨A1094, c1095, rfl, -⟩ := w1097.form
   obtain ⟨A1099, c1100, rfl, -⟩ := w1102.form
   have hO := zsf7 hO
   refine za (zj (zp ?_))
   have hO := hO.sel [4, 5, 6, 0, 1]
   exact ⟨A1090, c1091, c1067.cursor.tokens, c1067.cursor.at_, A1094, c1095, o1096, c1067.prog.Structs, A1099, c1100, o1101, c1067.prog.Funcs, A873, c874, o875, x876, _, zr9 zrU, hO, hL, r1092, w1097, w1102, w877, hF⟩
  refine zS (zj (zp ?_))
  have hO := hO.no
  have hO := zsf8 hO
  have hO := hO.sel [4, 5, 6, 0, 7]
  exact ⟨A138, c139, c133.2.cursor.tokens, c133.2.cursor.at_, A142, c143, o144, c133.2.prog.Structs, A147, c148, o149, c133.2.prog.Funcs, none, 0, none, [], _, zr9 zrU, hO, hL, r140, w145, w150, ze.nil _ _ _, hF⟩
 rintro e σ ⟨A571, c572, x573, x575, A576, c577, o578, x579, A581, c582, o583, x584, A586, c587, o588, x589, _, hA, hO, hL, r574, w580, w585, w590, hF⟩
 rw [← zbc _ _ hA]
 unfold zf0 at hF
 refine zd hO 1 [] [(53, zsb bm0)] [0, 2] zrW fun j => ?_
 have hO := hO.sel [3, 4, 0, 1, 2]
 rcases zO hF with ⟨x595, h596, hF⟩ | ⟨c591, h592, hF⟩
 ·refine zN (hs := [_, _]) (vs := [_, _, _]) hO (zfL (q0 := (⟨(⟨x573, x575⟩ : zbf), (⟨x579, x584⟩ : zL)⟩ : zc)) r574 w580 w585 h596) (fun _ _ _ h => False.elim h) rfl fun _ σ _ _ hO h597 h598 => ?_
  have hL := hL.trans h597
  have w590 := w590.le h597
  obtain ⟨v599, v603, o606, v608, o611, rfl, rfl, r602, w607, w612⟩ := h598
  obtain ⟨A600, c601, rfl, -⟩ := r602.form
  obtain ⟨A604, c605, rfl, -⟩ := w607.form
  obtain ⟨A609, c610, rfl, -⟩ := w612.form
  have hO := zsf5 hO
  cases hF
  have hO := hO.sel [2, 3, 4]
  exact hP _ _ _ _ hO hL ⟨_, _, _, _, _, rfl, rfl, r602, w607, w612⟩
 refine zP (hs := [_, _]) (vs := [_, _, _]) hO (zfL (q0 := (⟨(⟨x573, x575⟩ : zbf), (⟨x579, x584⟩ : zL)⟩ : zc)) r574 w580 w585 h592) (fun _ _ _ h => False.elim h) rfl fun _ σ _ _ hO h593 h594 => ?_
 have hL := hL.trans h593
 have w590 := w590.le h593
 obtain ⟨v613, v617, o620, v622, o625, rfl, rfl, r616, w621, w626⟩ := h594
 obtain ⟨A614, c615, rfl, -⟩ := r616.form
 obtain ⟨A618, c619, rfl, -⟩ := w621.form
 obtain ⟨A623, c624, rfl, -⟩ := w626.form
 have hO := zsf5 hO
 refine zd hO 1 [] [(55, .pointer (some ⟨b6, 3, none⟩))] [0, 2, 54] zrX fun j => ?_
 refine zs hO (i := 0) rfl (off := 3) rfl rfl rfl rfl (Nat.le_of_ble_eq_true rfl) rfl fun σ hO => ?_
 have hO := zsf5 hO
 refine za (zd hO 1 [] [(56, zsb bm0)] [0, 2] zrW fun j => ?_)
 rcases zO hF with ⟨x631, h632, hF⟩ | ⟨c627, h628, hF⟩
 ·refine zN (hs := [_, _]) (vs := [_, _, _]) hO (zly r616 w621 w626 h632) (fun _ _ _ h => False.elim h) rfl fun _ σ _ _ hO h633 h634 => ?_
  have hL := hL.trans h633
  have w590 := w590.le h633
  obtain ⟨v635, v639, o642, v644, o647, rfl, rfl, r638, w643, w648⟩ := h634
  obtain ⟨A636, c637, rfl, -⟩ := r638.form
  obtain ⟨A640, c641, rfl, -⟩ := w643.form
  obtain ⟨A645, c646, rfl, -⟩ := w648.form
  have hO := zsf5 hO
  cases hF
  have hO := hO.sel [2, 3, 4]
  exact hP _ _ _ _ hO hL ⟨_, _, _, _, _, rfl, rfl, r638, w643, w648⟩
 refine zP (hs := [_, _]) (vs := [_, _, _]) hO (zly r616 w621 w626 h628) (fun _ _ _ h => False.elim h) rfl fun _ σ _ _ hO h629 h630 => ?_
 have hL := hL.trans h629
 have w590 := w590.le h629
 obtain ⟨v649, o652, v654, v658, o661, v663, o666, rfl, rfl, w653, r657, w662, w667⟩ := h630
 obtain ⟨A650, c651, rfl, -⟩ := w653.form
 obtain ⟨A655, c656, rfl, -⟩ := r657.form
 obtain ⟨A659, c660, rfl, -⟩ := w662.form
 obtain ⟨A664, c665, rfl, -⟩ := w667.form
 have hO := zsf6 hO
 refine zd hO 1 [] [(58, .pointer (some ⟨b6, 6, none⟩))] [0, 2, 57] zrX fun j => ?_
 refine zs hO (i := 0) rfl (off := 6) rfl rfl rfl rfl (Nat.le_of_ble_eq_true rfl) rfl fun σ hO => ?_
 have hO := zsf6 hO
 refine za (ziR (zd hO 7 [3, 0] [(59, zsb bm0), (63, .pointer (some ⟨bm0, 3, none⟩)), (64, zsh A664 c627.2.prog.Funcs c665), (65, .agg #[(.string c49.1), (.int .i64 c2), (zsh A586 x589 c587), (.int .u8 (c591.1.Kind.toNat : Int)), (.int .i64 c591.1.N), (.string c591.1.Name), (zsh A650 c627.1 c651)])] [0] (And.intro (And.intro rfl rfl) (And.intro (And.intro rfl rfl) zrY)) fun j => ?_))
 refine zv ?_
 obtain ⟨_, h669, r668, hO⟩ := w590.share hO (i := 1) rfl
 have hL := hL.trans h669
 have w667 := w667.le h669
 have w653 := w653.le h669
 have r657 := r657.le h669
 have w662 := w662.le h669
 have hO := zsf6 hO
 obtain ⟨_, h671, r670, hO⟩ := w653.share hO (i := 2) rfl
 have hL := hL.trans h671
 have w667 := w667.le h671
 have r668 := r668.le h671
 have r657 := r657.le h671
 have w662 := w662.le h671
 have hO := zsf6 hO
 refine zB (T := zk) (l := ([(⟨c49.1, c2, x589, (⟨c591.1.Kind, c591.1.N, c591.1.Name⟩ : zI), c627.1⟩ : zi)] : List zi)) (cs := [.string c49.1, .int .i64 c2, zsh A586 x589 c587, .int .u8 (c591.1.Kind.toNat : Int), .int .i64 c591.1.N, .string c591.1.Name, zsh A650 c627.1 c651]) hO rfl ⟨[.string c49.1, .int .i64 c2, zsh A586 x589 c587, .int .u8 (c591.1.Kind.toNat : Int), .int .i64 c591.1.N, .string c591.1.Name, zsh A650 c627.1 c651], _, rfl, ⟨_, _, rfl, r668, r670⟩, rfl⟩ rfl (by decide) fun _ σ o674 w675 hO => ?_
 obtain ⟨A672, c673, rfl, -⟩ := w675.form
 have hO := zsf7 hO
 refine za (zu ⟨(zf rfl (hO.val (i := 3) (off := 3) (agg := false) (n := 1) rfl rfl) rfl), trivial⟩ ?_)
 obtain ⟨_, h677, r676, hO⟩ := w675.share hO (i := 6) rfl
 have hL := hL.trans h677
 have w667 := w667.le h677
 have r668 := r668.le h677
 have r670 := r670.le h677
 have r657 := r657.le h677
 have w662 := w662.le h677
 have hO := zsf7 hO
 obtain ⟨_, hr682, hF⟩ := zsg hF
 refine zH (T := zk) hO w667 (i := 5) rfl rfl rfl r676 hr682 (by decide) fun _ σ o680 w681 hO => ?_
 obtain ⟨A678, c679, rfl, -⟩ := w681.form
 have hO := zsf7 hO
 refine zd hO 3 [] [(70, .pointer (some ⟨bm0, 3, none⟩))] [0, 67] zrW fun j => ?_
 refine zs hO (i := 3) rfl (off := 3) rfl rfl rfl rfl (Nat.le_of_ble_eq_true rfl) rfl fun σ hO => ?_
 have hO := zsf7 hO
 refine za (zj ?_)
 cases hF
 have hO := hO.sel [3, 4, 5]
 refine (hQ _ _ _ _ _ rfl hO hL ?_).2
 exact ⟨_, _, _, _, _, rfl, rfl, r657, w662, w681⟩
abbrev znq (bm0 bmf0 : Nat) (rr : Except (Value × zc × Bool) (zc × Bool)) : List PanicEntry → Hp → List Ob → Prop := fun ch τ' vs' => match (generalizing := false) rr with | .ok _ => False | .error ee => ∃ (u0_0 u0_2 : Value) (y0_2 : Ob) (u0_3 : Value) (y0_3 : Ob), ch = [{ v := ee.1, recovered := false }] ∧ vs' = [zw bm0 u0_0 ee.2.1.cursor.at_ u0_2 u0_3, y0_2, y0_3, some (bmf0, ⟨[.bool ee.2.2], 4, 1, true⟩)] ∧ RdT zt τ' u0_0 ee.2.1.cursor.tokens ∧ ze zn 71 τ' u0_2 ee.2.1.prog.Structs y0_2 ∧ ze zk 50 τ' u0_3 ee.2.1.prog.Funcs y0_3
def zk2 : zbF := (.seq (.block 0 (.loop (.seq (.seq (.par [.s ⟨(some 4), .mv (.t 0), []⟩,
 .s ⟨(some 5), .nilchk (.t 4), []⟩,
 .s ⟨(some 6), .faddr 0 (.t 5), []⟩,
 .s ⟨(some 7), .faddr 1 (.t 6), []⟩,
 .s ⟨(some 8), .load false 1 (.t 7), []⟩,
 .s ⟨(some 9), .mv (.t 0), []⟩,
 .s ⟨(some 10), .nilchk (.t 9), []⟩,
 .s ⟨(some 11), .faddr 0 (.t 10), []⟩,
 .s ⟨(some 12), .faddr 0 (.t 11), []⟩,
 .s ⟨(some 13), .load false 1 (.t 12), []⟩,
 .s ⟨(some 14), .lenL (.t 13), []⟩,
 .s ⟨(some 15), .bin .lss (.t 8) (.t 14), []⟩])
(.cond (.t 15) .skip
(.exit 0)))
(.block 1 (.seq (.reg [.s ⟨(some 16), .mv (.t 0), []⟩,
 .s ⟨(some 17), .nilchk (.t 16), []⟩,
 .s ⟨(some 18), .faddr 0 (.t 17), []⟩,
 .s ⟨(some 19), .bslice 9 1 [(.string ⟨#[]⟩)] [(0, 1, (.c (.string ⟨#[116, 121, 112, 101]⟩)))], []⟩,
 .s ⟨(some 20), .call 38 [(.t 18), (.c (.int .u8 3)), (.t 19)], []⟩])
(.cond (.t 20) (.reg [.s ⟨(some 21), .mv (.t 0), []⟩,
 .s ⟨(some 22), .call 39 [(.t 21)], []⟩])
(.reg [.s ⟨(some 23), .mv (.t 0), []⟩,
 .s ⟨(some 24), .call 40 [(.t 23)], []⟩])))))))
(.seq (.reg [.s ⟨none, .store 1 (.t 2) (.c (.bool true)), []⟩])
.ret))
theorem zlR {τ : Hp} {q0 : zc} {bm0 : Nat} {vm0_0 vm0_2 : Value} {om0_2 : Ob} {vm0_3 : Value} {om0_3 : Ob} {qf0 : Bool} {bmf0 : Nat} (rm0_0 : RdT zt τ vm0_0 q0.cursor.tokens) (wm0_2 : ze zn 71 τ vm0_2 q0.prog.Structs om0_2) (wm0_3 : ze zk 50 τ vm0_3 q0.prog.Funcs om0_3) {w0 : Base} {σ : Hp} {Q : Exit → Env → Hp → Prop} {e0 : Env} {rr : Except (Value × zc × Bool) (zc × Bool)} (hF : zgT q0 qf0 = some rr) (hP : ∀ ch σ' τ' vs', Obs τ' σ' vs' → Hp.le τ τ' → (znq bm0 bmf0 rr) ch τ' vs' → w0.pan ch σ') (hO : Obs τ σ [zw bm0 vm0_0 q0.cursor.at_ vm0_2 vm0_3, om0_2, om0_3, some (bmf0, ⟨[.bool qf0], 4, 1, true⟩)]) (hQ : ∀ e σ' rs τ' vs', resvs e σ' [] = some rs → Obs τ' σ' vs' → Hp.le τ τ' → (fun v τ' vs' => match (generalizing := false) rr with | .ok rr => ∃ (u0_0 u0_2 : Value) (y0_2 : Ob) (u0_3 : Value) (y0_3 : Ob), v = .tuple #[] ∧ vs' = [zw bm0 u0_0 rr.1.cursor.at_ u0_2 u0_3, y0_2, y0_3, some (bmf0, ⟨[.bool rr.2], 4, 1, true⟩)] ∧ RdT zt τ' u0_0 rr.1.cursor.tokens ∧ ze zn 71 τ' u0_2 rr.1.prog.Structs y0_2 ∧ ze zk 50 τ' u0_3 rr.1.prog.Funcs y0_3 | .error _ => False) (zda rs) τ' vs' → Q .ret e σ' ∧ Q .normal e σ') : wpn Try.prog w0 zk2 Q (sets [(0, .pointer (some ⟨bm0, 0, none⟩)), (2, .pointer (some ⟨bmf0, 0, none⟩))] e0) σ := by
 obtain ⟨Am0_0, cm0_0, rfl, -⟩ := rm0_0.form
 obtain ⟨Am0_2, cm0_2, rfl, -⟩ := wm0_2.form
 obtain ⟨Am0_3, cm0_3, rfl, -⟩ := wm0_3.form
 unfold zk2
 unfold zgT at hF
 have hL := Hp.le.refl τ
 refine zY (zbY (fun (n : Nat) e' σ' => ∃ (A110 : Option Addr) (c111 : Nat) (x112 : List zr) (x114 : Int) (A115 : Option Addr) (c116 : Nat) (o117 : Ob) (x118 : List zl) (A120 : Option Addr) (c121 : Nat) (o122 : Ob) (x123 : List zi) (τ' : Hp), agr [(0, zsb bm0), (2, zsb bmf0)] e' ∧ Obs τ' σ' [zw bm0 (zsh A110 x112 c111) x114 (zsh A115 x118 c116) (zsh A120 x123 c121), o117, o122, some (bmf0, ⟨[.bool qf0], 4, 1, true⟩)] ∧ Hp.le τ τ' ∧ RdT zt τ' (zsh A110 x112 c111) x112 ∧ ze zn 71 τ' (zsh A115 x118 c116) x118 o117 ∧ ze zk 50 τ' (zsh A120 x123 c121) x123 o122 ∧ zeo qf0 n x112 x114 x118 x123 = some rr) big ⟨Am0_0, cm0_0, q0.cursor.tokens, q0.cursor.at_, Am0_2, cm0_2, om0_2, q0.prog.Structs, Am0_3, cm0_3, om0_3, q0.prog.Funcs, _, zr9 zrU, hO, hL, (rm0_0.le hL), (wm0_2.le hL), (wm0_3.le hL), hF⟩ ?_)
 clear hF hO hL
 rintro n223 e σ ⟨A110, c111, x112, x114, A115, c116, o117, x118, A120, c121, o122, x123, _, hA, hO, hL, r113, w119, w124, hF⟩
 rw [← zbc _ _ hA]
 cases n223 with
 | zero => exact nomatch (show none = some rr from hF)
 | succ n223 =>
 replace hF : zfg (zeo qf0 n223) qf0 x112 x114 x118 x123 = some rr := hF
 unfold zfg at hF
 refine zo (zcD (zh hO [0, 0] [(15, .bool (decide (x114 < (x112.length : Int))))] [0, 2] (And.intro (And.intro rfl rfl) (And.intro (And.intro rfl rfl) zrW)) fun j => ?_))
 refine zE hF rfl (fun hF => ?_) fun hF => ?_
 ·refine zS (zcF (zY (zd hO 3 [] [(18, zsb bm0)] [0, 2] zrW fun j => ?_)))
  refine zB (T := Ty.str) (l := ([(⟨#[116, 121, 112, 101]⟩ : ByteArray)] : List ByteArray)) (cs := [.string (⟨#[116, 121, 112, 101]⟩ : ByteArray)]) hO rfl ⟨[.string (⟨#[116, 121, 112, 101]⟩ : ByteArray)], _, rfl, rfl, rfl⟩ rfl (by decide) fun _ σ o227 w228 hO => ?_
  obtain ⟨A225, c226, rfl, -⟩ := w228.form
  have hO := zsf5 hO
  obtain ⟨_, h230, r229, hO⟩ := w228.share hO (i := 4) rfl
  have hL := hL.trans h230
  have r113 := r113.le h230
  have w119 := w119.le h230
  have w124 := w124.le h230
  have hO := zsf5 hO
  obtain ⟨c231, h232, hF⟩ := zsg hF
  have hO := hO.sel [3, 4, 0, 1, 2]
  refine zbB (hs := [_, _]) (vs := [_, _, _]) hO (zca (q0 := (⟨(⟨x112, x114⟩ : zbf), (⟨x118, x123⟩ : zL)⟩ : zc)) r113 w119 w124 r229 h232) rfl fun _ σ _ _ hO h233 h234 => ?_
  have hL := hL.trans h233
  have r229 := r229.le h233
  obtain ⟨v235, v239, o242, v244, o247, rfl, rfl, r238, w243, w248⟩ := h234
  obtain ⟨A236, c237, rfl, -⟩ := r238.form
  obtain ⟨A240, c241, rfl, -⟩ := w243.form
  obtain ⟨A245, c246, rfl, -⟩ := w248.form
  have hO := zsf5 hO
  refine za (zb2 (zE hF rfl (fun hF => ?_) fun hF => ?_))
  ·refine zd hO 1 [] [(21, zsb bm0)] [0, 2] zrW fun j => ?_
   rcases zO hF with ⟨x254, h255, hF⟩ | ⟨c250, h251, hF⟩
   ·refine zN (hs := [_, _]) (vs := [_, _, _]) hO (zlJ r238 w243 w248 h255) (fun _ _ _ h => False.elim h) rfl fun _ σ _ _ hO h256 h257 => ?_
    have hL := hL.trans h256
    obtain ⟨v258, v262, o265, v267, o270, rfl, rfl, r261, w266, w271⟩ := h257
    obtain ⟨A259, c260, rfl, -⟩ := r261.form
    obtain ⟨A263, c264, rfl, -⟩ := w266.form
    obtain ⟨A268, c269, rfl, -⟩ := w271.form
    have hO := zsf5 hO
    cases hF
    have hO := hO.sel [2, 3, 4, 0]
    exact hP _ _ _ _ hO hL ⟨_, _, _, _, _, rfl, rfl, r261, w266, w271⟩
   refine zP (hs := [_, _]) (vs := [_, _, _]) hO (zlJ r238 w243 w248 h251) (fun _ _ _ h => False.elim h) rfl fun _ σ _ _ hO h252 h253 => ?_
   have hL := hL.trans h252
   obtain ⟨v272, v276, o279, v281, o284, rfl, rfl, r275, w280, w285⟩ := h253
   obtain ⟨A273, c274, rfl, -⟩ := r275.form
   obtain ⟨A277, c278, rfl, -⟩ := w280.form
   obtain ⟨A282, c283, rfl, -⟩ := w285.form
   have hO := zsf5 hO
   refine za (zj (zbe (zp (zj (zp ?_)))))
   have hO := hO.sel [2, 3, 4, 0]
   exact ⟨n223, Nat.lt_succ_self _, A273, c274, c250.cursor.tokens, c250.cursor.at_, A277, c278, o279, c250.prog.Structs, A282, c283, o284, c250.prog.Funcs, _, zr9 zrU, hO, hL, r275, w280, w285, hF⟩
  refine zd hO 1 [] [(23, zsb bm0)] [0, 2] zrW fun j => ?_
  rcases zO hF with ⟨x290, h291, hF⟩ | ⟨c286, h287, hF⟩
  ·refine zN (hs := [_, _]) (vs := [_, _, _]) hO (zmv r238 w243 w248 h291) (fun _ _ _ h => False.elim h) rfl fun _ σ _ _ hO h292 h293 => ?_
   have hL := hL.trans h292
   obtain ⟨v294, v298, o301, v303, o306, rfl, rfl, r297, w302, w307⟩ := h293
   obtain ⟨A295, c296, rfl, -⟩ := r297.form
   obtain ⟨A299, c300, rfl, -⟩ := w302.form
   obtain ⟨A304, c305, rfl, -⟩ := w307.form
   have hO := zsf5 hO
   cases hF
   have hO := hO.sel [2, 3, 4, 0]
   exact hP _ _ _ _ hO hL ⟨_, _, _, _, _, rfl, rfl, r297, w302, w307⟩
  refine zP (hs := [_, _]) (vs := [_, _, _]) hO (zmv r238 w243 w248 h287) (fun _ _ _ h => False.elim h) rfl fun _ σ _ _ hO h288 h289 => ?_
  have hL := hL.trans h288
  obtain ⟨v308, v312, o315, v317, o320, rfl, rfl, r311, w316, w321⟩ := h289
  obtain ⟨A309, c310, rfl, -⟩ := r311.form
  obtain ⟨A313, c314, rfl, -⟩ := w316.form
  obtain ⟨A318, c319, rfl, -⟩ := w321.form
  have hO := zsf5 hO
  refine za (zj (zbe (zp (zj (zp ?_)))))
  have hO := hO.sel [2, 3, 4, 0]
  exact ⟨n223, Nat.lt_succ_self _, A309, c310, c286.cursor.tokens, c286.cursor.at_, A313, c314, o315, c286.prog.Structs, A318, c319, o320, c286.prog.Funcs, _, zr9 zrU, hO, hL, r311, w316, w321, hF⟩
 refine zbX (zb1 (zb0 (zp (zs hO (i := 3) rfl (off := 0) rfl rfl rfl rfl (Nat.le_of_ble_eq_true rfl) rfl fun σ hO => ?_))))
 have hO := zsf4 hO
 refine za (zbt ?_)
 cases hF
 refine (hQ _ _ _ _ _ rfl hO hL ?_).1
 exact ⟨_, _, _, _, _, rfl, rfl, r113, w119, w124⟩
def zgh : zbF := (.block 0 (.seq (.reg [.s ⟨(some 6), .inil false (.t 4), []⟩])
(.cond (.t 6) (.reg [.s ⟨(some 1), .mv (.t 4), []⟩])
(.seq (.reg [.s ⟨(some 7), .tas 92 ((.agg #[])) (.t 4), []⟩,
 .s ⟨(some 8), .ext 1 (.t 7), []⟩,
 .s ⟨(some 9), .ext 0 (.t 7), []⟩])
(.cond (.t 8) (.seq (.reg [.s ⟨(some 2), .alloc 92 [], []⟩,
 .s ⟨none, .store 0 (.t 2) (.t 9), []⟩])
(.reg [.s ⟨none, .store 1 (.t 0) (.c (.bool false)), []⟩]))
(.seq (.reg [.s ⟨(some 3), .mv (.t 4), []⟩])
(.reg [.s ⟨(some 5), .mv (.t 3), []⟩,
 .s ⟨none, .pan (.t 5), []⟩])))))))
def a37 : zir := ⟨10, 4, 4, zgh⟩
theorem s37 : zjj Try.prog Try.f37 = some a37.fn := by kernel_rfl
def a18 : zhk := ⟨25, [.c 2 false 1], (.pre (.reg [.s ⟨(some 2), .alloc 4 [(.bool false)], []⟩])
(.dfr 3 37 [(.t 2)] zk2))⟩
theorem s18 : ziQ Try.prog [0, 1, 2] Try.f18 = some a18.fn := by kernel_rfl
theorem zqo {v : Value} (h : zgW v = true) : v = .iface 92 (.agg #[]) := by
 unfold zgW at h
 split at h
 ·rename_i t cs
  simp only [Bool.and_eq_true, decide_eq_true_eq] at h
  obtain ⟨rfl, h⟩ := h
  rw [Array.eq_empty_of_size_eq_zero h]
 ·cases h
theorem zn9 {τ : Hp} {q0 : zc} {bm0 : Nat} {vm0_0 vm0_2 : Value} {om0_2 : Ob} {vm0_3 : Value} {om0_3 : Ob} (rm0_0 : RdT zt τ vm0_0 q0.cursor.tokens) (wm0_2 : ze zn 71 τ vm0_2 q0.prog.Structs om0_2) (wm0_3 : ze zk 50 τ vm0_3 q0.prog.Funcs om0_3) {rr : Bool × zc} (hF : zit q0 = some rr) :
  Ctr Try.prog 18 #[.pointer (some ⟨bm0, 0, none⟩)] τ [zw bm0 vm0_0 q0.cursor.at_ vm0_2 vm0_3, om0_2, om0_3] (fun v τ' vs' => ∃ (u0_0 u0_2 : Value) (y0_2 : Ob) (u0_3 : Value) (y0_3 : Ob), v = .bool rr.1 ∧ vs' = [zw bm0 u0_0 rr.2.cursor.at_ u0_2 u0_3, y0_2, y0_3] ∧ RdT zt τ' u0_0 rr.2.cursor.tokens ∧ ze zn 71 τ' u0_2 rr.2.prog.Structs y0_2 ∧ ze zk 50 τ' u0_3 rr.2.prog.Funcs y0_3) := by
 obtain ⟨Am0_0, cm0_0, rfl, -⟩ := rm0_0.form
 obtain ⟨Am0_2, cm0_2, rfl, -⟩ := wm0_2.form
 obtain ⟨Am0_3, cm0_3, rfl, -⟩ := wm0_3.form
 refine zrn (J := [0, 1, 2]) (af := a18) (args := [.pointer (some ⟨bm0, 0, none⟩)]) hm Try.func18 s18 rfl fun w0 σ hO Q hQ => ?_
 unfold zit at hF
 have hL := Hp.le.refl τ
 show zeI _ _ _ a18.body _ _ _
 unfold a18
 dsimp only [zeI]
 refine zbR (zbg hO fun b3 σ hO => ?_)
 have hO := zsf4 hO
 refine za (zj ?_)
 dsimp only [thn]
 cases hB : zgT q0 false with
 | none => rw [hB] at hF; cases hF
 | some r =>
  rw [hB] at hF
  cases r with
  | ok c =>
   replace hF : some (c.2, c.1) = some rr := hF
   cases hF
   refine ⟨fun _ _ => False, fun _ _ _ h => h.elim, ?_⟩
   refine (congrArg (fun z => wpn _ _ _ _ z _) (zbc [(0, zsb bm0), (2, zsb b3)] _ ⟨rfl, rfl, trivial⟩)).mp ?_
   refine zlR rm0_0 wm0_2 wm0_3 hB (fun _ _ _ _ _ _ h => h.elim) hO fun e σ' rs τ' vs' _ hO' hle hK => ?_
   obtain ⟨u0, u2, y2, u3, y3, _, rfl, f0, f2, f3⟩ := hK
   have hV0 := hO'.val (i := 3) rfl (off := 0) (agg := false) (n := 1) rfl
   have hO2 := hO'.sel [0, 1, 2]
   have key : e 2 = .pointer (some ⟨b3, 0, none⟩) → zeT Try.prog w0 37 #[.pointer (some ⟨b3, 0, none⟩)] .returning σ' fun u' σ'' => settle u' = .returning ∧ Q .ret e σ'' := fun hD => by
    refine znr (args := [.pointer (some ⟨b3, 0, none⟩)]) hm Try.func37 s37 rfl ?_
    show wpn _ _ zgh _ _ _
    unfold zgh
    refine zcF (zY (zX hO' [] [(4, .nilIface), (6, .bool true)] zrV fun j => ?_))
    refine zb2 (zks rfl ?_)
    refine zX hO' [] [(4, .nilIface)] zrU fun j => ?_
    refine zj (zbe (zp (zj ?_)))
    exact ⟨.inr rfl, rfl, hQ _ _ _ _ _ (zbP hD hV0 rfl) hO2 (hL.trans hle) ⟨_, _, _, _, _, rfl, rfl, f0, f2, f3⟩⟩
   exact ⟨.inl ⟨.inl rfl, fun hD => key (hD 2 (by decide))⟩, .inl ⟨.inr rfl, fun hD => key (hD 2 (by decide))⟩⟩
  | error c =>
   replace hF : (if zgW c.1 = true then some (false, c.2.1) else none) = some rr := hF
   rcases zbD hF with ⟨hk, hF⟩ | ⟨_, hF⟩
   ·cases hF
    have hk := zqo hk
    refine ⟨fun ch σ' => ∃ τ' vs', Obs τ' σ' vs' ∧ Hp.le τ τ' ∧ znq bm0 b3 (.error c) ch τ' vs', fun ch e σ' hpn hD => ?_, ?_⟩
    rotate_left
    ·refine (congrArg (fun z => wpn _ _ _ _ z _) (zbc [(0, zsb bm0), (2, zsb b3)] _ ⟨rfl, rfl, trivial⟩)).mp ?_
     exact zlR rm0_0 wm0_2 wm0_3 hB (fun ch σ' τ' vs' h1 h2 h3 => ⟨τ', vs', h1, h2, h3⟩) hO fun e σ' rs τ' vs' _ hO' hle hK => hK.elim
    ·obtain ⟨τ', vs', hO', hle, u0, u2, y2, u3, y3, rfl, rfl, f0, f2, f3⟩ := hpn
     refine znr (args := [.pointer (some ⟨b3, 0, none⟩)]) hm Try.func37 s37 rfl ?_
     show wpn _ _ zgh _ _ _
     rw [hk]
     unfold zgh
     refine zcF (zY (zX hO' [] [(0, zsb b3), (4, .iface 92 (.agg #[])), (6, .bool false)] zrW fun j => ?_))
     refine zb2 (zlj rfl ?_)
     refine zo (zX hO' [] [(0, zsb b3), (8, .bool true), (9, .agg #[])] zrW fun j => ?_)
     refine zks rfl ?_
     refine zo (zbg hO' fun b4 σ hO => ?_)
     have hO := zsf5 hO
     refine zs hO (i := 4) rfl (off := 0) rfl rfl rfl rfl (Nat.le_of_ble_eq_true rfl) rfl fun σ hO => ?_
     have hO := zsf5 hO
     refine za (zs hO (i := 3) rfl (off := 0) rfl rfl rfl rfl (Nat.le_of_ble_eq_true rfl) rfl fun σ hO => ?_)
     have hO := zsf5 hO
     refine za (zj (zbe (zp (zj ?_))))
     have hV0 := hO.val (i := 3) rfl (off := 0) (agg := false) (n := 1) rfl
     have hO3 := hO.sel [0, 1, 2]
     exact ⟨.inr rfl, rfl, hQ _ _ _ _ _ (zbP (hD 2 (by decide)) hV0 rfl) hO3 (hL.trans hle) ⟨_, _, _, _, _, rfl, rfl, f0, f2, f3⟩⟩
   ·cases hF
def zng (gn : Nat) : Prop := ∀ {τ : Hp} {p0 : zb} {v0_5 : Value} (r0_5 : RdT zC τ v0_5 p0.Kids) {rr : Int} (hF : (zdY gn) p0 = some rr), Ctr Try.prog 45 #[.agg #[.int .u8 p0.Kind.toNat, .int .i64 p0.Num, .string p0.Name, .string p0.Field, .string p0.Op, v0_5]] τ [] (fun v τ' vs' => v = .int .i64 rr ∧ vs' = [])
theorem zrw {gn : Nat} (ih_syntax_depth : zng gn) {τ : Hp} {p0 : zb} {v0_5 : Value} (r0_5 : RdT zC τ v0_5 p0.Kids) {rr : Int} (hF : zkf (zdY gn) p0 = some rr) :
  Ctr Try.prog 45 #[.agg #[.int .u8 p0.Kind.toNat, .int .i64 p0.Num, .string p0.Name, .string p0.Field, .string p0.Op, v0_5]] τ [] (fun v τ' vs' => v = .int .i64 rr ∧ vs' = []) := by
 obtain ⟨A0_5, c0_5, rfl, -⟩ := r0_5.form
 refine zbI (args := [.agg #[.int .u8 p0.Kind.toNat, .int .i64 p0.Num, .string p0.Name, .string p0.Field, .string p0.Op, (.slice A0_5 p0.Kids.length c0_5)]]) hm Try.func45 s45 rfl fun w0 σ hO Q hQ => ?_
 unfold zkf at hF
 have hL := Hp.le.refl τ
 show wpn _ _ a45.body _ _ _
 unfold a45
 dsimp only
 refine zex (n := 6) hO rfl rfl fun b2 σ hO => ?_
 have hO := zsf1 hO
 refine zh hO [] [] [1] zrU fun j => ?_
 refine zh hO [] [(3, zsa 0)] [1] zrV fun j => ?_
 refine zo (zh hO [0] [(7, zsh A0_5 p0.Kids c0_5), (8, zsa (p0.Kids.length : Int)), (9, zsa 0)] [3] (And.intro (And.intro rfl rfl) zrX) fun j => ?_)
 refine zY ?_
 have hO := hO.sel []
 refine zbY (fun (n : Nat) e' σ' => ∃ (x18 x19 : Int) (τ' : Hp), agr [(3, zsa x18), (7, zsh A0_5 p0.Kids c0_5), (8, zsa (p0.Kids.length : Int)), (9, zsa x19)] e' ∧ Obs τ' σ' [] ∧ Hp.le τ τ' ∧ ze3 (zdY gn) p0 n x18 x19 = some rr) big ⟨0, 0, _, zr9 zrW, hO, hL, hF⟩ ?_
 clear hF hO hL
 rintro n35 e σ ⟨x18, x19, _, hA, hO, hL, hF⟩
 rw [← zbc _ _ hA]
 cases n35 with
 | zero => exact nomatch (show none = some rr from hF)
 | succ n35 =>
 replace hF : zgS (ze3 (zdY gn) p0 n35) (zdY gn) p0 x18 x19 = some rr := hF
 unfold zgS at hF
 refine zh hO [] [(10, .bool (decide (x19 < (p0.Kids.length : Int))))] [3, 7, 8, 9] zrY fun j => ?_
 refine zE hF rfl (fun hF => ?_) fun hF => ?_
 ·refine zS (zY ?_)
  obtain ⟨y37, g38, hF⟩ := zsg hF
  refine z7 (T := zC) (r0_5.le hL) hO.base rfl rfl g38 (by decide) fun a39 _ k40 m41 => ?_
  obtain ⟨v42, rfl, r43⟩ := zcB k40
  obtain ⟨A44, c45, rfl, -⟩ := r43.form
  refine zV rfl ((m41.le hO.base).all rfl) ?_
  refine zbg hO fun b46 σ hO => ?_
  have hO := zsf1 hO
  refine zs hO (i := 0) rfl (off := 0) rfl rfl rfl rfl (Nat.le_of_ble_eq_true rfl) rfl fun σ hO => ?_
  have hO := zsf1 hO
  refine za (zbR (zd hO 2 [0] [(13, zsa x18), (14, .agg #[(.int .u8 (y37.Kind.toNat : Int)), (.int .i64 y37.Num), (.string y37.Name), (.string y37.Field), (.string y37.Op), (zsh A44 y37.Kids c45)])] [7, 8, 9] (And.intro (And.intro rfl rfl) zrY) fun j => ?_))
  obtain ⟨c47, h48, hF⟩ := zsg hF
  refine zbr hO (ih_syntax_depth r43 h48) rfl fun _ σ _ _ hO h49 h50 => ?_
  have hL := hL.trans h49
  have r43 := r43.le h49
  obtain ⟨rfl, rfl⟩ := h50
  have hO := zsf1 hO
  refine zh hO [] [(3, zsa (zeF x18 c47))] [7, 8, 9] zrX fun j => ?_
  refine zj (zbe (zp (zbR (zh hO [] [(9, zsa (IntKind.i64.wrap (x19 + 1)))] [3, 7, 8] zrX fun j => ?_))))
  refine zj (zp ?_)
  have hO := hO.sel []
  exact ⟨n35, Nat.lt_succ_self _, (zeF x18 c47), (IntKind.i64.wrap (x19 + 1)), _, zr9 zrW, hO, hL, hF⟩
 refine zbX (zb1 (zb0 (zp (zX hO [] [(2, zsa (IntKind.i64.wrap (x18 + 1)))] zrU fun j => ?_))))
 refine zbt ?_
 cases hF
 exact hQ _ _ _ _ _ rfl hO hL ⟨rfl, rfl⟩
theorem zrD (n : Nat) : zng n := by
 induction n with
 | zero =>
  intro τ p0 v0_5 r0_5 rr hF; exact nomatch (show none = some rr from hF)
 | succ n ih =>
  intro τ p0 v0_5 r0_5 rr hF; exact zrw ih r0_5 hF
theorem znV : ∀ {τ : Hp} {p0 : zb} {v0_5 : Value} (r0_5 : RdT zC τ v0_5 p0.Kids) {rr : Int} (hF : zkV p0 = some rr), Ctr Try.prog 45 #[.agg #[.int .u8 p0.Kind.toNat, .int .i64 p0.Num, .string p0.Name, .string p0.Field, .string p0.Op, v0_5]] τ [] (fun v τ' vs' => v = .int .i64 rr ∧ vs' = []) := (zrD big)
theorem zpm {τ : Hp} {p0 : zb} {v0_5 : Value} (r0_5 : RdT zC τ v0_5 p0.Kids) {rr : Bool} (hF : zhr p0 = some rr) :
  Ctr Try.prog 44 #[.agg #[.int .u8 p0.Kind.toNat, .int .i64 p0.Num, .string p0.Name, .string p0.Field, .string p0.Op, v0_5]] τ [] (fun v τ' vs' => v = .bool rr ∧ vs' = []) := by
 obtain ⟨A0_5, c0_5, rfl, -⟩ := r0_5.form
 refine zbI (args := [.agg #[.int .u8 p0.Kind.toNat, .int .i64 p0.Num, .string p0.Name, .string p0.Field, .string p0.Op, (.slice A0_5 p0.Kids.length c0_5)]]) hm Try.func44 s44 rfl fun w0 σ hO Q hQ => ?_
 unfold zhr at hF
 have hL := Hp.le.refl τ
 show wpn _ _ a44.body _ _ _
 unfold a44
 dsimp only
 refine zex (n := 6) hO rfl rfl fun b2 σ hO => ?_
 have hO := zsf1 hO
 refine zh hO [] [] [1] zrU fun j => ?_
 refine zbE hO 1 [0] [(3, .agg #[(.int .u8 (p0.Kind.toNat : Int)), (.int .i64 p0.Num), (.string p0.Name), (.string p0.Field), (.string p0.Op), (zsh A0_5 p0.Kids c0_5)])] (And.intro (And.intro rfl rfl) zrU) fun j => ?_
 obtain ⟨c3, h4, hF⟩ := zsg hF
 refine zbr hO (znV (r0_5.le hL) h4) rfl fun _ σ _ _ hO h5 h6 => ?_
 have hL := hL.trans h5
 obtain ⟨rfl, rfl⟩ := h6
 have hO := zsf1 hO
 refine zX hO [] [(2, .bool (decide (c3 > 40)))] zrU fun j => ?_
 refine zbt ?_
 cases hF
 have hO := hO.sel []
 exact hQ _ _ _ _ _ rfl hO hL ⟨rfl, rfl⟩
def zgD (gn : Nat) : Prop := ∀ {τ : Hp} {v0 : Value} {p0 : (List zg)} {p1 : Int} (r0 : RdT zJ τ v0 p0) {rr : Bool} (hF : (zdd gn) p0 p1 = some rr), Ctr Try.prog 21 #[v0, .int .i64 p1] τ [] (fun v τ' vs' => v = .bool rr ∧ vs' = [])
theorem znP {τ : Hp} {v0 : Value} {p0 : (List zb)} (r0 : RdT zC τ v0 p0) {rr : Int} (hF : zhT p0 = some rr) :
  Ctr Try.prog 71 #[v0, .func (.func 44) #[] #[]] τ [] (fun v τ' vs' => v = .int .i64 rr ∧ vs' = []) := by
 obtain ⟨A0, c0, rfl, -⟩ := r0.form
 refine zbI (args := [.slice A0 p0.length c0, .func (.func 44) #[] #[]]) hm Try.func71 s71 rfl fun w0 σ hO Q hQ => ?_
 unfold zhT at hF
 have hL := Hp.le.refl τ
 show wpn _ _ a71.body _ _ _
 unfold a71
 dsimp only
 refine zh hO [] [] [0, 1] zrV fun j => ?_
 refine zo (zh hO [] [(7, zsa (p0.length : Int)), (8, zsa 0)] [0, 1] zrX fun j => ?_)
 refine zY (zbY (fun (n : Nat) e' σ' => ∃ (x18 : Int) (τ' : Hp), agr [(0, zsh A0 p0 c0), (1, .func (.func 44) #[] #[]), (7, zsa (p0.length : Int)), (8, zsa x18)] e' ∧ Obs τ' σ' [] ∧ Hp.le τ τ' ∧ ze9 p0 n x18 = some rr) big ⟨0, _, zr9 zrW, hO, hL, hF⟩ ?_)
 clear hF hO hL
 rintro n34 e σ ⟨x18, _, hA, hO, hL, hF⟩
 rw [← zbc _ _ hA]
 cases n34 with
 | zero => exact nomatch (show none = some rr from hF)
 | succ n34 =>
 replace hF : zgR (ze9 p0 n34) p0 x18 = some rr := hF
 unfold zgR at hF
 refine zh hO [] [(9, .bool (decide (x18 < (p0.length : Int))))] [0, 1, 7, 8] zrY fun j => ?_
 refine zE hF rfl (fun hF => ?_) fun hF => ?_
 ·refine zS (zY (zh hO [] [(5, zsa x18)] [0, 1, 7, 8] zrY fun j => ?_))
  refine zd hO 3 [] [(11, .func (.func 44) #[] #[]), (12, zsh A0 p0 c0), (13, zsa x18)] [0, 1, 5, 7, 8] zr1 fun j => ?_
  obtain ⟨y36, g37, hF⟩ := zsg hF
  refine z7 (T := zC) (r0.le hL) hO.base rfl rfl g37 (by decide) fun a38 _ k39 m40 => ?_
  obtain ⟨v41, rfl, r42⟩ := zcB k39
  obtain ⟨A43, c44, rfl, -⟩ := r42.form
  refine zV rfl ((m40.le hO.base).all rfl) ?_
  obtain ⟨c45, h46, hF⟩ := zsg hF
  refine zjU rfl (by kernel_rfl) hO (zpm r42 h46) rfl fun _ σ _ _ hO h47 h48 => ?_
  have hL := hL.trans h47
  have m40 := m40.le h47
  have r42 := r42.le h47
  obtain ⟨rfl, rfl⟩ := h48
  have hO : Obs _ _ [] := hO
  refine za (zb2 (zE hF rfl (fun hF => ?_) fun hF => ?_))
  ·refine zo (zX hO [] [(4, zsa x18)] zrU fun j => ?_)
   refine zbq (zbm (zU (zU (zbm (zU ?_)))))
   cases hF
   exact hQ _ _ _ _ _ rfl hO hL ⟨rfl, rfl⟩
  refine zS (zj (zbe (zp (zbR (zh hO [] [(8, zsa (IntKind.i64.wrap (x18 + 1)))] [0, 1, 7] zrX fun j => ?_)))))
  refine zj (zp ?_)
  exact ⟨n34, Nat.lt_succ_self _, (IntKind.i64.wrap (x18 + 1)), _, zr9 zrW, hO, hL, hF⟩
 refine zbX (zb1 (zb0 (zp (zX hO [] [(4, zsa (-1))] zrU fun j => ?_))))
 refine zbt ?_
 cases hF
 exact hQ _ _ _ _ _ rfl hO hL ⟨rfl, rfl⟩
theorem zq5 {τ : Hp} {v0 : Value} {p0 : (List zb)} (r0 : RdT zC τ v0 p0) {rr : Bool} (hF : zhp p0 = some rr) :
  Ctr Try.prog 46 #[v0, .func (.func 44) #[] #[]] τ [] (fun v τ' vs' => v = .bool rr ∧ vs' = []) := by
 obtain ⟨A0, c0, rfl, -⟩ := r0.form
 refine zbI (args := [.slice A0 p0.length c0, .func (.func 44) #[] #[]]) hm Try.func46 s46 rfl fun w0 σ hO Q hQ => ?_
 unfold zhp at hF
 have hL := Hp.le.refl τ
 show wpn _ _ a46.body _ _ _
 unfold a46
 dsimp only
 refine zh hO [] [] [0, 1] zrV fun j => ?_
 refine zbE hO 2 [] [(5, zsh A0 p0 c0), (6, .func (.func 44) #[] #[])] zrV fun j => ?_
 obtain ⟨c3, h4, hF⟩ := zsg hF
 refine zbr hO (znP (r0.le hL) h4) rfl fun _ σ _ _ hO h5 h6 => ?_
 have hL := hL.trans h5
 obtain ⟨rfl, rfl⟩ := h6
 have hO : Obs _ _ [] := hO
 refine zX hO [] [(4, .bool (decide (c3 ≥ 0)))] zrU fun j => ?_
 refine zbt ?_
 cases hF
 exact hQ _ _ _ _ _ rfl hO hL ⟨rfl, rfl⟩
theorem zos {gn : Nat} (ih_syntax_deep : zgD gn) {τ : Hp} {p0 : zg} {v0_8 v0_9 v0_10 : Value} {qf0 : Int} {af0 : Addr} (r0_8 : RdT zC τ v0_8 p0.Kids) (r0_9 : RdT zJ τ v0_9 p0.Body) (r0_10 : RdT zJ τ v0_10 p0.Else) (mf0 : At τ af0 [.int .i64 qf0]) {rr : Bool} (hF : zgf (zdd gn) p0 qf0 = some rr) :
  Ctr Try.prog 43 #[.agg #[.int .u8 p0.Kind.toNat, .int .i64 p0.Line, .string p0.Name, .string p0.Field, .string p0.Call, .int .u8 p0.Type_.Kind.toNat, .int .i64 p0.Type_.N, .string p0.Type_.Name, v0_8, v0_9, v0_10], .pointer (some af0)] τ [] (fun v τ' vs' => v = .bool rr ∧ vs' = []) := by
 obtain ⟨A0_8, c0_8, rfl, -⟩ := r0_8.form
 obtain ⟨A0_9, c0_9, rfl, -⟩ := r0_9.form
 obtain ⟨A0_10, c0_10, rfl, -⟩ := r0_10.form
 refine zbI (args := [.agg #[.int .u8 p0.Kind.toNat, .int .i64 p0.Line, .string p0.Name, .string p0.Field, .string p0.Call, .int .u8 p0.Type_.Kind.toNat, .int .i64 p0.Type_.N, .string p0.Type_.Name, (.slice A0_8 p0.Kids.length c0_8), (.slice A0_9 p0.Body.length c0_9), (.slice A0_10 p0.Else.length c0_10)], .pointer (some af0)]) hm Try.func43 s43 rfl fun w0 σ hO Q hQ => ?_
 unfold zgf at hF
 have hL := Hp.le.refl τ
 show wpn _ _ a43.body _ _ _
 unfold a43
 dsimp only
 refine zex (n := 11) hO rfl rfl fun b2 σ hO => ?_
 have hO := zsf1 hO
 refine zh hO [] [] [1, 2] zrV fun j => ?_
 refine zh hO [] [(4, .func (.func 44) #[] #[])] [1, 2] zrW fun j => ?_
 refine zV rfl ((mf0.le hL).le hO.base).fst ?_
 refine zd hO 2 [] [(7, .bool (qf0 == 0))] [1, 2, 4] zrX fun j => ?_
 obtain ⟨c3, h4, hF⟩ := zsg hF
 refine zcr 2 (fun e' σ' => ∃ (τ' : Hp), agr [(12, .bool c3), (1, .pointer (some af0)), (2, zsb b2)] e' ∧ Obs τ' σ' [zb5 b2 (p0.Kind.toNat : Int) p0.Line p0.Name p0.Field p0.Call (p0.Type_.Kind.toNat : Int) p0.Type_.N p0.Type_.Name (zsh A0_8 p0.Kids c0_8) (zsh A0_9 p0.Body c0_9) (zsh A0_10 p0.Else c0_10)] ∧ Hp.le τ τ') ?_ ?_
 ·have hF := h4
  rcases zbD hF with ⟨hb5, hF⟩ | ⟨hb5, hF⟩
  ·refine zbw (zsd hb5) ?_
   refine zM (zsc hb5) ?_
   refine za ?_
   cases hF
   refine zj ?_
   exact ⟨rfl, _, zr9 zrV, hO, hL⟩
  refine zbv (zsd hb5) ?_
  refine zd hO 3 [0] [(9, zsh A0_8 p0.Kids c0_8), (10, .func (.func 44) #[] #[])] [1, 2, 7] (And.intro (And.intro rfl rfl) zrY) fun j => ?_
  obtain ⟨c6, h7, hF⟩ := zsg hF
  refine zbr hO (zq5 (r0_8.le hL) h7) rfl fun _ σ _ _ hO h8 h9 => ?_
  have hL := hL.trans h8
  obtain ⟨rfl, rfl⟩ := h9
  have hO := zsf1 hO
  refine zM (zsc hb5) ?_
  refine za ?_
  cases hF
  refine zj ?_
  exact ⟨rfl, _, zr9 zrV, hO, hL⟩
 rintro e σ ⟨_, hA, hO, hL⟩
 rw [← zbc _ _ hA]
 refine zd hO 1 [] [(13, .bool c3)] [1, 2] zrW fun j => ?_
 obtain ⟨c10, h11, hF⟩ := zsg hF
 refine zcr 2 (fun e' σ' => ∃ (τ' : Hp), agr [(19, .bool c10), (1, .pointer (some af0)), (2, zsb b2)] e' ∧ Obs τ' σ' [zb5 b2 (p0.Kind.toNat : Int) p0.Line p0.Name p0.Field p0.Call (p0.Type_.Kind.toNat : Int) p0.Type_.N p0.Type_.Name (zsh A0_8 p0.Kids c0_8) (zsh A0_9 p0.Body c0_9) (zsh A0_10 p0.Else c0_10)] ∧ Hp.le τ τ') ?_ ?_
 ·have hF := h11
  rcases zbD hF with ⟨hb12, hF⟩ | ⟨hb12, hF⟩
  ·refine zbw (zsd hb12) ?_
   refine zM (zsc hb12) ?_
   refine za ?_
   cases hF
   refine zj ?_
   exact ⟨rfl, _, zr9 zrV, hO, hL⟩
  refine zbv (zsd hb12) ?_
  refine zd hO 2 [0] [(15, zsh A0_9 p0.Body c0_9)] [1, 2, 13] (And.intro (And.intro rfl rfl) zrX) fun j => ?_
  refine zV rfl ((mf0.le hL).le hO.base).fst ?_
  refine zd hO 1 [] [(17, zsa (IntKind.i64.wrap (qf0 - 1)))] [1, 2, 13, 15] zrY fun j => ?_
  obtain ⟨c13, h14, hF⟩ := zsg hF
  refine zbr hO (ih_syntax_deep (r0_9.le hL) h14) rfl fun _ σ _ _ hO h15 h16 => ?_
  have hL := hL.trans h15
  obtain ⟨rfl, rfl⟩ := h16
  have hO := zsf1 hO
  refine zM (zsc hb12) ?_
  refine za ?_
  cases hF
  refine zj ?_
  exact ⟨rfl, _, zr9 zrV, hO, hL⟩
 rintro e σ ⟨_, hA, hO, hL⟩
 rw [← zbc _ _ hA]
 refine zd hO 1 [] [(20, .bool c10)] [1, 2] zrW fun j => ?_
 obtain ⟨c17, h18, hF⟩ := zsg hF
 refine zcr 2 (fun e' σ' => ∃ (τ' : Hp), agr [(26, .bool c17)] e' ∧ Obs τ' σ' [zb5 b2 (p0.Kind.toNat : Int) p0.Line p0.Name p0.Field p0.Call (p0.Type_.Kind.toNat : Int) p0.Type_.N p0.Type_.Name (zsh A0_8 p0.Kids c0_8) (zsh A0_9 p0.Body c0_9) (zsh A0_10 p0.Else c0_10)] ∧ Hp.le τ τ') ?_ ?_
 ·have hF := h18
  rcases zbD hF with ⟨hb19, hF⟩ | ⟨hb19, hF⟩
  ·refine zbw (zsd hb19) ?_
   refine zM (zsc hb19) ?_
   refine za ?_
   cases hF
   refine zj ?_
   exact ⟨rfl, _, zr9 (trivial), hO, hL⟩
  refine zbv (zsd hb19) ?_
  refine zd hO 2 [0] [(22, zsh A0_10 p0.Else c0_10)] [1, 20] (And.intro (And.intro rfl rfl) zrW) fun j => ?_
  refine zV rfl ((mf0.le hL).le hO.base).fst ?_
  refine zd hO 1 [] [(24, zsa (IntKind.i64.wrap (qf0 - 1)))] [20, 22] zrW fun j => ?_
  obtain ⟨c20, h21, hF⟩ := zsg hF
  refine zbr hO (ih_syntax_deep (r0_10.le hL) h21) rfl fun _ σ _ _ hO h22 h23 => ?_
  have hL := hL.trans h22
  obtain ⟨rfl, rfl⟩ := h23
  have hO := zsf1 hO
  refine zM (zsc hb19) ?_
  refine za ?_
  cases hF
  refine zj ?_
  exact ⟨rfl, _, zr9 (trivial), hO, hL⟩
 rintro e σ ⟨_, hA, hO, hL⟩
 rw [← zbc _ _ hA]
 refine zX hO [] [(3, .bool c17)] zrU fun j => ?_
 refine zbt ?_
 cases hF
 have hO := hO.sel []
 exact hQ _ _ _ _ _ rfl hO hL ⟨rfl, rfl⟩
theorem zq2 {gn : Nat} (ih_syntax_deep : zgD gn) {τ : Hp} {v0 : Value} {p0 : (List zg)} {q1_0 : Int} {a1_0 : Addr} (r0 : RdT zJ τ v0 p0) (m1_0 : At τ a1_0 [.int .i64 q1_0]) {rr : Int} (hF : ziI (zdd gn) p0 q1_0 = some rr) :
  Ctr Try.prog 70 #[v0, .func (.func 43) #[] #[(.pointer (some a1_0))]] τ [] (fun v τ' vs' => v = .int .i64 rr ∧ vs' = []) := by
 obtain ⟨A0, c0, rfl, -⟩ := r0.form
 refine zbI (args := [zsh A0 p0 c0, .func (.func 43) #[] #[(.pointer (some a1_0))]]) hm Try.func70 s70 rfl fun w0 σ hO Q hQ => ?_
 unfold ziI at hF
 have hL := Hp.le.refl τ
 show wpn _ _ a70.body _ _ _
 unfold a70
 dsimp only
 refine zh hO [] [] [0, 1] zrV fun j => ?_
 refine zo (zh hO [] [(7, zsa (p0.length : Int)), (8, zsa 0)] [0, 1] zrX fun j => ?_)
 refine zY (zbY (fun (n : Nat) e' σ' => ∃ (x26 : Int) (τ' : Hp), agr [(0, zsh A0 p0 c0), (1, .func (.func 43) #[] #[(.pointer (some a1_0))]), (7, zsa (p0.length : Int)), (8, zsa x26)] e' ∧ Obs τ' σ' [] ∧ Hp.le τ τ' ∧ zfm (zdd gn) p0 q1_0 n x26 = some rr) big ⟨0, _, zr9 zrW, hO, hL, hF⟩ ?_)
 clear hF hO hL
 rintro n50 e σ ⟨x26, _, hA, hO, hL, hF⟩
 rw [← zbc _ _ hA]
 cases n50 with
 | zero => exact nomatch (show none = some rr from hF)
 | succ n50 =>
 replace hF : zht (zfm (zdd gn) p0 q1_0 n50) (zdd gn) p0 q1_0 x26 = some rr := hF
 unfold zht at hF
 refine zh hO [] [(9, .bool (decide (x26 < (p0.length : Int))))] [0, 1, 7, 8] zrY fun j => ?_
 refine zE hF rfl (fun hF => ?_) fun hF => ?_
 ·refine zS (zY (zh hO [] [(5, zsa x26)] [0, 1, 7, 8] zrY fun j => ?_))
  refine zd hO 3 [] [(11, .func (.func 43) #[] #[(.pointer (some a1_0))]), (12, zsh A0 p0 c0), (13, zsa x26)] [0, 1, 5, 7, 8] zr1 fun j => ?_
  obtain ⟨y52, g53, hF⟩ := zsg hF
  refine z7 (T := zJ) (r0.le hL) hO.base rfl rfl g53 (by decide) fun a54 _ k55 m56 => ?_
  obtain ⟨v57, v61, v65, rfl, r58, r62, r66⟩ := zgp k55
  obtain ⟨A59, c60, rfl, -⟩ := r58.form
  obtain ⟨A63, c64, rfl, -⟩ := r62.form
  obtain ⟨A67, c68, rfl, -⟩ := r66.form
  refine zV rfl ((m56.le hO.base).all rfl) ?_
  obtain ⟨c69, h70, hF⟩ := zsg hF
  refine zjU rfl (by kernel_rfl) hO (zos ih_syntax_deep r58 r62 r66 (m1_0.le hL) h70) rfl fun _ σ _ _ hO h71 h72 => ?_
  have hL := hL.trans h71
  have m56 := m56.le h71
  have r58 := r58.le h71
  have r62 := r62.le h71
  have r66 := r66.le h71
  obtain ⟨rfl, rfl⟩ := h72
  have hO : Obs _ _ [] := hO
  refine za (zb2 (zE hF rfl (fun hF => ?_) fun hF => ?_))
  ·refine zo (zX hO [] [(4, zsa x26)] zrU fun j => ?_)
   refine zbq (zbm (zU (zU (zbm (zU ?_)))))
   cases hF
   exact hQ _ _ _ _ _ rfl hO hL ⟨rfl, rfl⟩
  refine zS (zj (zbe (zp (zbR (zh hO [] [(8, zsa (IntKind.i64.wrap (x26 + 1)))] [0, 1, 7] zrX fun j => ?_)))))
  refine zj (zp ?_)
  exact ⟨n50, Nat.lt_succ_self _, (IntKind.i64.wrap (x26 + 1)), _, zr9 zrW, hO, hL, hF⟩
 refine zbX (zb1 (zb0 (zp (zX hO [] [(4, zsa (-1))] zrU fun j => ?_))))
 refine zbt ?_
 cases hF
 exact hQ _ _ _ _ _ rfl hO hL ⟨rfl, rfl⟩
theorem zqP {gn : Nat} (ih_syntax_deep : zgD gn) {τ : Hp} {v0 : Value} {p0 : (List zg)} {q1_0 : Int} {a1_0 : Addr} (r0 : RdT zJ τ v0 p0) (m1_0 : At τ a1_0 [.int .i64 q1_0]) {rr : Bool} (hF : zgy (zdd gn) p0 q1_0 = some rr) :
  Ctr Try.prog 42 #[v0, .func (.func 43) #[] #[(.pointer (some a1_0))]] τ [] (fun v τ' vs' => v = .bool rr ∧ vs' = []) := by
 obtain ⟨A0, c0, rfl, -⟩ := r0.form
 refine zbI (args := [zsh A0 p0 c0, .func (.func 43) #[] #[(.pointer (some a1_0))]]) hm Try.func42 s42 rfl fun w0 σ hO Q hQ => ?_
 unfold zgy at hF
 have hL := Hp.le.refl τ
 show wpn _ _ a42.body _ _ _
 unfold a42
 dsimp only
 refine zh hO [] [] [0, 1] zrV fun j => ?_
 refine zbE hO 2 [] [(5, zsh A0 p0 c0), (6, .func (.func 43) #[] #[(.pointer (some a1_0))])] zrV fun j => ?_
 obtain ⟨c3, h4, hF⟩ := zsg hF
 refine zbr hO (zq2 ih_syntax_deep (r0.le hL) (m1_0.le hL) h4) rfl fun _ σ _ _ hO h5 h6 => ?_
 have hL := hL.trans h5
 obtain ⟨rfl, rfl⟩ := h6
 have hO : Obs _ _ [] := hO
 refine zX hO [] [(4, .bool (decide (c3 ≥ 0)))] zrU fun j => ?_
 refine zbt ?_
 cases hF
 exact hQ _ _ _ _ _ rfl hO hL ⟨rfl, rfl⟩
theorem zpb {gn : Nat} (ih_syntax_deep : zgD gn) {τ : Hp} {v0 : Value} {p0 : (List zg)} {p1 : Int} (r0 : RdT zJ τ v0 p0) {rr : Bool} (hF : zkv (zdd gn) p0 p1 = some rr) :
  Ctr Try.prog 21 #[v0, .int .i64 p1] τ [] (fun v τ' vs' => v = .bool rr ∧ vs' = []) := by
 obtain ⟨A0, c0, rfl, -⟩ := r0.form
 refine zbI (args := [.slice A0 p0.length c0, .int .i64 p1]) hm Try.func21 s21 rfl fun w0 σ hO Q hQ => ?_
 unfold zkv at hF
 have hL := Hp.le.refl τ
 show wpn _ _ a21.body _ _ _
 unfold a21
 dsimp only
 refine zex (n := 1) hO rfl rfl fun b3 σ hO => ?_
 have hO := zsf1 hO
 refine zh hO [] [] [0, 3] zrV fun j => ?_
 refine zbE hO 2 [] [(5, zsh A0 p0 c0), (6, .func (.func 43) #[] #[(.pointer (some ⟨b3, 0, none⟩))])] zrV fun j => ?_
 obtain ⟨_, h5, m4, hO⟩ := hO.shareV (i := 0) rfl
 have hL := hL.trans h5
 have hO := zsf1 hO
 obtain ⟨c6, h7, hF⟩ := zsg hF
 refine zbr hO (zqP ih_syntax_deep (r0.le hL) m4 h7) rfl fun _ σ _ _ hO h8 h9 => ?_
 have hL := hL.trans h8
 have m4 := m4.le h8
 obtain ⟨rfl, rfl⟩ := h9
 have hO := zsf1 hO
 refine zX hO [] [(4, .bool c6)] zrU fun j => ?_
 refine zbt ?_
 cases hF
 have hO := hO.sel []
 exact hQ _ _ _ _ _ rfl hO hL ⟨rfl, rfl⟩
theorem zom (n : Nat) : zgD n := by
 induction n with
 | zero =>
  intro τ v0 p0 p1 r0 rr hF; exact nomatch (show none = some rr from hF)
 | succ n ih =>
  intro τ v0 p0 p1 r0 rr hF; exact zpb ih r0 hF
theorem zoB : ∀ {τ : Hp} {v0 : Value} {p0 : (List zg)} {p1 : Int} (r0 : RdT zJ τ v0 p0) {rr : Bool} (hF : zkg p0 p1 = some rr), Ctr Try.prog 21 #[v0, .int .i64 p1] τ [] (fun v τ' vs' => v = .bool rr ∧ vs' = []) := (zom big)
theorem zqC {τ : Hp} {p0 : zi} {v0_2 v0_6 : Value} (r0_2 : RdT zcW τ v0_2 p0.Params) (r0_6 : RdT zJ τ v0_6 p0.Body) {rr : Bool} (hF : zio p0 = some rr) :
  Ctr Try.prog 20 #[.agg #[.string p0.Name, .int .i64 p0.Line, v0_2, .int .u8 p0.Result.Kind.toNat, .int .i64 p0.Result.N, .string p0.Result.Name, v0_6]] τ [] (fun v τ' vs' => v = .bool rr ∧ vs' = []) := by
 obtain ⟨A0_2, c0_2, rfl, -⟩ := r0_2.form
 obtain ⟨A0_6, c0_6, rfl, -⟩ := r0_6.form
 refine zbI (args := [.agg #[.string p0.Name, .int .i64 p0.Line, (.slice A0_2 p0.Params.length c0_2), .int .u8 p0.Result.Kind.toNat, .int .i64 p0.Result.N, .string p0.Result.Name, (.slice A0_6 p0.Body.length c0_6)]]) hm Try.func20 s20 rfl fun w0 σ hO Q hQ => ?_
 unfold zio at hF
 have hL := Hp.le.refl τ
 show wpn _ _ a20.body _ _ _
 unfold a20
 dsimp only
 refine zex (n := 7) hO rfl rfl fun b2 σ hO => ?_
 have hO := zsf1 hO
 refine zh hO [] [] [1] zrU fun j => ?_
 refine zbE hO 2 [0] [(4, zsh A0_6 p0.Body c0_6)] (And.intro (And.intro rfl rfl) zrU) fun j => ?_
 obtain ⟨c3, h4, hF⟩ := zsg hF
 refine zbr hO (zoB (r0_6.le hL) h4) rfl fun _ σ _ _ hO h5 h6 => ?_
 have hL := hL.trans h5
 obtain ⟨rfl, rfl⟩ := h6
 have hO := zsf1 hO
 refine zX hO [] [(2, .bool c3)] zrU fun j => ?_
 refine zbt ?_
 cases hF
 have hO := hO.sel []
 exact hQ _ _ _ _ _ rfl hO hL ⟨rfl, rfl⟩
theorem zpu {τ : Hp} {v0 : Value} {p0 : (List zi)} (r0 : RdT zk τ v0 p0) {rr : Int} (hF : zh3 p0 = some rr) :
  Ctr Try.prog 41 #[v0, .func (.func 20) #[] #[]] τ [] (fun v τ' vs' => v = .int .i64 rr ∧ vs' = []) := by
 obtain ⟨A0, c0, rfl, -⟩ := r0.form
 refine zbI (args := [.slice A0 p0.length c0, .func (.func 20) #[] #[]]) hm Try.func41 s41 rfl fun w0 σ hO Q hQ => ?_
 unfold zh3 at hF
 have hL := Hp.le.refl τ
 show wpn _ _ a41.body _ _ _
 unfold a41
 dsimp only
 refine zh hO [] [] [0, 1] zrV fun j => ?_
 refine zo (zh hO [] [(7, zsa (p0.length : Int)), (8, zsa 0)] [0, 1] zrX fun j => ?_)
 refine zY (zbY (fun (n : Nat) e' σ' => ∃ (x22 : Int) (τ' : Hp), agr [(0, zsh A0 p0 c0), (1, .func (.func 20) #[] #[]), (7, zsa (p0.length : Int)), (8, zsa x22)] e' ∧ Obs τ' σ' [] ∧ Hp.le τ τ' ∧ ze1 p0 n x22 = some rr) big ⟨0, _, zr9 zrW, hO, hL, hF⟩ ?_)
 clear hF hO hL
 rintro n42 e σ ⟨x22, _, hA, hO, hL, hF⟩
 rw [← zbc _ _ hA]
 cases n42 with
 | zero => exact nomatch (show none = some rr from hF)
 | succ n42 =>
 replace hF : zgQ (ze1 p0 n42) p0 x22 = some rr := hF
 unfold zgQ at hF
 refine zh hO [] [(9, .bool (decide (x22 < (p0.length : Int))))] [0, 1, 7, 8] zrY fun j => ?_
 refine zE hF rfl (fun hF => ?_) fun hF => ?_
 ·refine zS (zY (zh hO [] [(5, zsa x22)] [0, 1, 7, 8] zrY fun j => ?_))
  refine zd hO 3 [] [(11, .func (.func 20) #[] #[]), (12, zsh A0 p0 c0), (13, zsa x22)] [0, 1, 5, 7, 8] zr1 fun j => ?_
  obtain ⟨y44, g45, hF⟩ := zsg hF
  refine z7 (T := zk) (r0.le hL) hO.base rfl rfl g45 (by decide) fun a46 _ k47 m48 => ?_
  obtain ⟨v49, v53, rfl, r50, r54⟩ := k47
  obtain ⟨A51, c52, rfl, -⟩ := r50.form
  obtain ⟨A55, c56, rfl, -⟩ := r54.form
  refine zV rfl ((m48.le hO.base).all rfl) ?_
  obtain ⟨c57, h58, hF⟩ := zsg hF
  refine zjU rfl (by kernel_rfl) hO (zqC r50 r54 h58) rfl fun _ σ _ _ hO h59 h60 => ?_
  have hL := hL.trans h59
  have m48 := m48.le h59
  have r50 := r50.le h59
  have r54 := r54.le h59
  obtain ⟨rfl, rfl⟩ := h60
  have hO : Obs _ _ [] := hO
  refine za (zb2 (zE hF rfl (fun hF => ?_) fun hF => ?_))
  ·refine zo (zX hO [] [(4, zsa x22)] zrU fun j => ?_)
   refine zbq (zbm (zU (zU (zbm (zU ?_)))))
   cases hF
   exact hQ _ _ _ _ _ rfl hO hL ⟨rfl, rfl⟩
  refine zS (zj (zbe (zp (zbR (zh hO [] [(8, zsa (IntKind.i64.wrap (x22 + 1)))] [0, 1, 7] zrX fun j => ?_)))))
  refine zj (zp ?_)
  exact ⟨n42, Nat.lt_succ_self _, (IntKind.i64.wrap (x22 + 1)), _, zr9 zrW, hO, hL, hF⟩
 refine zbX (zb1 (zb0 (zp (zX hO [] [(4, zsa (-1))] zrU fun j => ?_))))
 refine zbt ?_
 cases hF
 exact hQ _ _ _ _ _ rfl hO hL ⟨rfl, rfl⟩
theorem zp8 {τ : Hp} {v0 : Value} {p0 : (List zi)} (r0 : RdT zk τ v0 p0) {rr : Bool} (hF : zfM p0 = some rr) :
  Ctr Try.prog 19 #[v0, .func (.func 20) #[] #[]] τ [] (fun v τ' vs' => v = .bool rr ∧ vs' = []) := by
 obtain ⟨A0, c0, rfl, -⟩ := r0.form
 refine zbI (args := [.slice A0 p0.length c0, .func (.func 20) #[] #[]]) hm Try.func19 s19 rfl fun w0 σ hO Q hQ => ?_
 unfold zfM at hF
 have hL := Hp.le.refl τ
 show wpn _ _ a19.body _ _ _
 unfold a19
 dsimp only
 refine zh hO [] [] [0, 1] zrV fun j => ?_
 refine zbE hO 2 [] [(5, zsh A0 p0 c0), (6, .func (.func 20) #[] #[])] zrV fun j => ?_
 obtain ⟨c3, h4, hF⟩ := zsg hF
 refine zbr hO (zpu (r0.le hL) h4) rfl fun _ σ _ _ hO h5 h6 => ?_
 have hL := hL.trans h5
 obtain ⟨rfl, rfl⟩ := h6
 have hO : Obs _ _ [] := hO
 refine zX hO [] [(4, .bool (decide (c3 ≥ 0)))] zrU fun j => ?_
 refine zbt ?_
 cases hF
 exact hQ _ _ _ _ _ rfl hO hL ⟨rfl, rfl⟩
theorem zgB {τ : Hp} {v0 : Value} {p0 : (List zr)} (r0 : RdT zt τ v0 p0) {rr : zL × Int × Int} (hF : zdM p0 = some rr) :
  Ctr Try.prog 9 #[v0] τ [] (fun v τ' vs' => ∃ (v0_0 v0_1 : Value), v = .tuple #[.agg #[v0_0, v0_1], .int .i64 rr.2.1, .int .i64 rr.2.2] ∧ vs' = [] ∧ RdT zn τ' v0_0 rr.1.Structs ∧ RdT zk τ' v0_1 rr.1.Funcs) := by
 obtain ⟨A0, c0, rfl, -⟩ := r0.form
 refine zbI (args := [.slice A0 p0.length c0]) hm Try.func9 s9 rfl fun w0 σ hO Q hQ => ?_
 unfold zdM at hF
 have hL := Hp.le.refl τ
 show wpn _ _ a9.body _ _ _
 unfold a9
 dsimp only
 refine zbg hO fun b2 σ hO => ?_
 have hO := zsf1 hO
 refine zh hO [] [] [0, 2] zrV fun j => ?_
 refine zd hO 3 [] [(8, .agg #[(zsh A0 p0 c0), (.int .i64 0), (.slice none 0 0), (.slice none 0 0)])] [2] zrV fun j => ?_
 refine zex (n := 4) hO rfl rfl fun b3 σ hO => ?_
 have hO := zsf2 hO
 refine zh hO [] [(5, zsb b3)] [2] zrV fun j => ?_
 refine zo (zd hO 1 [] [(10, zsb b3)] [2, 5] zrW fun j => ?_)
 have hO := hO.no
 have hO := zsf3 hO
 have w4 := ze.nil0 (T := zn) (ty := 71) hO
 have hO := hO.no
 have hO := zsf4 hO
 have w5 := ze.nil0 (T := zk) (ty := 50) hO
 obtain ⟨c6, h7, hF⟩ := zsg hF
 refine zbB (hs := [_]) (vs := [_, _, _]) hO (zn9 (q0 := (⟨(⟨p0, 0⟩ : zbf), (⟨([] : List zl), ([] : List zi)⟩ : zL)⟩ : zc)) (r0.le hL) w4 w5 h7) rfl fun _ σ _ _ hO h8 h9 => ?_
 have hL := hL.trans h8
 obtain ⟨v10, v14, o17, v19, o22, rfl, rfl, r13, w18, w23⟩ := h9
 obtain ⟨A11, c12, rfl, -⟩ := r13.form
 obtain ⟨A15, c16, rfl, -⟩ := w18.form
 obtain ⟨A20, c21, rfl, -⟩ := w23.form
 have hO := zsf4 hO
 refine zh hO [] [(12, .bool (!c6.1))] [2, 5] zrW fun j => ?_
 refine zE hF rfl (fun hF => ?_) fun hF => ?_
 ·refine zo (zcD (zd hO 6 [1] [(13, .agg #[(.slice none 0 0), (.slice none 0 0)]), (17, .pointer (some ⟨b3, 1, none⟩)), (18, zsa c6.2.cursor.at_)] [2] (And.intro (And.intro rfl rfl) zrX) fun j => ?_))
  refine zv (zs hO (i := 0) rfl (off := 0) rfl rfl rfl rfl (Nat.le_of_ble_eq_true rfl) rfl fun σ hO => ?_)
  have hO := zsf4 hO
  refine za (zu ⟨(zf rfl (hO.val (i := 1) (off := 1) (agg := false) (n := 1) rfl rfl) rfl), trivial⟩ ?_)
  refine zh hO [] [(3, zsa c6.2.cursor.at_), (4, zsa 7)] [2] zrW fun j => ?_
  refine zbq ?_
  cases hF
  have hV0 := hO.val (i := 0) rfl (off := 0) (agg := true) (n := 2) rfl
  have hO := hO.sel []
  exact hQ _ _ _ _ _ (zbP rfl (hV0) (zdV (zdV rfl))) hO hL ⟨_, _, rfl, rfl, (RdT.nil _ _), (RdT.nil _ _)⟩
 refine zS (zo (zd hO 5 [1] [(23, zsh A20 c6.2.prog.Funcs c21)] [2, 5] (And.intro (And.intro rfl rfl) zrW) fun j => ?_))
 obtain ⟨_, h26, r25, hO⟩ := w23.share hO (i := 3) rfl
 have hL := hL.trans h26
 have r13 := r13.le h26
 have w18 := w18.le h26
 have hO := zsf4 hO
 obtain ⟨c27, h28, hF⟩ := zsg hF
 refine zbr hO (zp8 r25 h28) rfl fun _ σ _ _ hO h29 h30 => ?_
 have hL := hL.trans h29
 have r25 := r25.le h29
 have r13 := r13.le h29
 have w18 := w18.le h29
 obtain ⟨rfl, rfl⟩ := h30
 have hO := zsf4 hO
 refine za (zE hF rfl (fun hF => ?_) fun hF => ?_)
 ·refine zo (zd hO 1 [] [(25, .agg #[(.slice none 0 0), (.slice none 0 0)])] [2] zrV fun j => ?_)
  refine zs hO (i := 0) rfl (off := 0) rfl rfl rfl rfl (Nat.le_of_ble_eq_true rfl) rfl fun σ hO => ?_
  have hO := zsf4 hO
  refine zh hO [] [(3, zsa 0), (4, zsa 11)] [2] zrW fun j => ?_
  refine zbq ?_
  cases hF
  have hV0 := hO.val (i := 0) rfl (off := 0) (agg := true) (n := 2) rfl
  have hO := hO.sel []
  exact hQ _ _ _ _ _ (zbP rfl (hV0) (zdV (zdV rfl))) hO hL ⟨_, _, rfl, rfl, (RdT.nil _ _), (RdT.nil _ _)⟩
 refine zS (zd hO 4 [1] [(29, .agg #[(zsh A15 c6.2.prog.Structs c16), (zsh A20 c6.2.prog.Funcs c21)])] [2] (And.intro (And.intro rfl rfl) zrV) fun j => ?_)
 refine zs hO (i := 0) rfl (off := 0) rfl rfl rfl rfl (Nat.le_of_ble_eq_true rfl) rfl fun σ hO => ?_
 have hO := zsf4 hO
 refine zh hO [] [(3, zsa 0), (4, zsa 0)] [2] zrW fun j => ?_
 refine zbt ?_
 obtain ⟨_, h33, r32, hO⟩ := w18.share hO (i := 2) rfl
 have hL := hL.trans h33
 have r25 := r25.le h33
 have r13 := r13.le h33
 have hO := zsf4 hO
 cases hF
 have hV0 := hO.val (i := 0) rfl (off := 0) (agg := true) (n := 2) rfl
 have hO := hO.sel []
 exact hQ _ _ _ _ _ (zbP rfl (hV0) (zdV (zdV rfl))) hO hL ⟨_, _, rfl, rfl, r32, r25⟩
theorem zmc {τ : Hp} {v0 : Value} {p0 : (List UInt8)} {p1 : Int} (r0 : RdT Ty.u8 τ v0 p0) {rr : Int} (hF : ziw p0 p1 = some rr) :
  Ctr Try.prog 29 #[v0, .int .i64 p1] τ [] (fun v τ' vs' => v = .int .i64 rr ∧ vs' = []) := by
 obtain ⟨A0, c0, rfl, -⟩ := r0.form
 refine zbI (args := [.slice A0 p0.length c0, .int .i64 p1]) hm Try.func29 s29 rfl fun w0 σ hO Q hQ => ?_
 unfold ziw at hF
 have hL := Hp.le.refl τ
 show wpn _ _ a29.body _ _ _
 unfold a29
 dsimp only
 refine zh hO [] [] [0, 1] zrV fun j => ?_
 refine zY (zbY (fun (n : Nat) e' σ' => ∃ (x48 : Int) (τ' : Hp), agr [(0, zsh A0 p0 c0), (1, zsa x48)] e' ∧ Obs τ' σ' [] ∧ Hp.le τ τ' ∧ zff p0 n x48 = some rr) big ⟨p1, _, zr9 zrU, hO, hL, hF⟩ ?_)
 clear hF hO hL
 rintro n94 e σ ⟨x48, _, hA, hO, hL, hF⟩
 rw [← zbc _ _ hA]
 cases n94 with
 | zero => exact nomatch (show none = some rr from hF)
 | succ n94 =>
 replace hF : zkF (zff p0 n94) p0 x48 = some rr := hF
 unfold zkF at hF
 refine zo (zh hO [] [(9, .bool (decide (x48 < (p0.length : Int))))] [0, 1] zrW fun j => ?_)
 refine zE hF rfl (fun hF => ?_) fun hF => ?_
 ·refine zS (zcF (zY (zd hO 2 [] [(10, zsh A0 p0 c0), (11, zsa x48)] [0, 1] zrX fun j => ?_)))
  obtain ⟨y96, g97, hF⟩ := zsg hF
  refine z7 (T := Ty.u8) (r0.le hL) hO.base rfl rfl g97 (by decide) fun a98 _ k99 m100 => ?_
  obtain rfl : _ = ([.int .u8 y96.toNat] : List Value) := k99
  refine zV rfl (m100.le hO.base).fst ?_
  refine zh hO [] [(5, .int .u8 (y96.toNat : Int))] [0, 1] zrW fun j => ?_
  refine zcF (zY (zh hO [] [(15, .bool (((((y96.toNat : Int) == 32) || ((y96.toNat : Int) == 9)) || ((y96.toNat : Int) == 13)) || ((y96.toNat : Int) == 10)))] [0, 1, 5] (And.intro (And.intro rfl rfl) (fun _ => And.intro (And.intro rfl rfl) (fun _ => And.intro (And.intro rfl rfl) (fun _ => zr9 zrW)))) fun j => ?_))
  refine zb2 (zE hF rfl (fun hF => ?_) fun hF => ?_)
  ·refine zh hO [] [(1, zsa (IntKind.i64.wrap (x48 + 1)))] [0] zrV fun j => ?_
   refine zj (zbe (zp (zj (zbe (zp (zj ?_))))))
   refine zp ?_
   exact ⟨n94, Nat.lt_succ_self _, (IntKind.i64.wrap (x48 + 1)), _, zr9 zrU, hO, hL, hF⟩
  refine zo (zd hO 6 [] [(42, .bool (((y96.toNat : Int) == 47) && (decide ((IntKind.i64.wrap (x48 + 1)) < (p0.length : Int)))))] [0, 1] (And.intro (And.intro rfl rfl) (fun _ => zr9 zrV)) fun j => ?_)
  obtain ⟨c102, h103, hF⟩ := zsg hF
  refine zcU 2 [(49, .bool c102), (0, zsh A0 p0 c0), (1, zsa x48)] (fun Q hQ => ?_) fun j => ?_
  ·have hF := h103
   rcases zbD hF with ⟨hb104, hF⟩ | ⟨hb104, hF⟩
   ·refine zbv (zse hb104) ?_
    refine zd hO 3 [] [(43, zsh A0 p0 c0), (45, zsa (IntKind.i64.wrap (x48 + 1)))] [0, 1, 42] zrY fun j => ?_
    obtain ⟨y105, g106, hF⟩ := zsg hF
    refine z7 (T := Ty.u8) (r0.le hL) hO.base rfl rfl g106 (by decide) fun a107 _ k108 m109 => ?_
    obtain rfl : _ = ([.int .u8 y105.toNat] : List Value) := k108
    refine zV rfl (m109.le hO.base).fst ?_
    refine zd hO 1 [] [(48, .bool ((y105.toNat : Int) == 47))] [0, 1, 42] zrX fun j => ?_
    refine zM (zsc hb104) ?_
    refine za ?_
    cases hF
    refine zj ?_
    exact hQ _ zrW
   refine zbw (zse hb104) ?_
   refine zM (zsc hb104) ?_
   refine za ?_
   cases hF
   refine zj ?_
   exact hQ _ zrW
  refine zh hO [] [(32, .bool c102)] [0, 1] zrW fun j => ?_
  refine zE hF rfl (fun hF => ?_) fun hF => ?_
  ·refine zY (zbY (fun (n : Nat) e' σ' => ∃ (x120 : Int) (τ' : Hp), agr [(0, zsh A0 p0 c0), (1, zsa x120)] e' ∧ Obs τ' σ' [] ∧ Hp.le τ τ' ∧ zig (zff p0 n94) p0 n x120 = some rr) big ⟨x48, _, zr9 zrU, hO, hL, hF⟩ ?_)
   clear hF hO hL
   rintro n130 e σ ⟨x120, _, hA, hO, hL, hF⟩
   rw [← zbc _ _ hA]
   cases n130 with
   | zero => exact nomatch (show none = some rr from hF)
   | succ n130 =>
   replace hF : zkd (zig (zff p0 n94) p0 n130) (zff p0 n94) p0 x120 = some rr := hF
   unfold zkd at hF
   refine zo (zd hO 5 [] [(54, .bool (decide (x120 < (p0.length : Int))))] [0, 1] zrW fun j => ?_)
   obtain ⟨c131, h132, hF⟩ := zsg hF
   refine zcU 2 [(60, .bool c131), (0, zsh A0 p0 c0), (1, zsa x120)] (fun Q hQ => ?_) fun j => ?_
   ·have hF := h132
    rcases zbD hF with ⟨hb133, hF⟩ | ⟨hb133, hF⟩
    ·refine zbv (zse hb133) ?_
     refine zd hO 2 [] [(55, zsh A0 p0 c0), (56, zsa x120)] [0, 1, 54] zrY fun j => ?_
     obtain ⟨y134, g135, hF⟩ := zsg hF
     refine z7 (T := Ty.u8) (r0.le hL) hO.base rfl rfl g135 (by decide) fun a136 _ k137 m138 => ?_
     obtain rfl : _ = ([.int .u8 y134.toNat] : List Value) := k137
     refine zV rfl (m138.le hO.base).fst ?_
     refine zd hO 1 [] [(59, .bool ((y134.toNat : Int) != 10))] [0, 1, 54] zrX fun j => ?_
     refine zM (zsc hb133) ?_
     refine za ?_
     cases hF
     refine zj ?_
     exact hQ _ zrW
    refine zbw (zse hb133) ?_
    refine zM (zsc hb133) ?_
    refine za ?_
    cases hF
    refine zj ?_
    exact hQ _ zrW
   refine za (zE hF rfl (fun hF => ?_) fun hF => ?_)
   ·refine zS (zcF (zY (zbR (zh hO [] [(1, zsa (IntKind.i64.wrap (x120 + 1)))] [0] zrV fun j => ?_))))
    refine zj (zbe (zp (zj (zp ?_))))
    exact ⟨n130, Nat.lt_succ_self _, (IntKind.i64.wrap (x120 + 1)), _, zr9 zrU, hO, hL, hF⟩
   refine zbX (zb1 (zb0 (zp (zj (zbe (zp ?_))))))
   refine zj (zbe (zp (zj (zp ?_))))
   exact ⟨n94, Nat.lt_succ_self _, x120, _, zr9 zrU, hO, hL, hF⟩
  refine zo (zX hO [] [(4, zsa x48)] zrU fun j => ?_)
  refine zbq (zbm (zU (zbm (zU (zU (zbm ?_))))))
  refine zU ?_
  cases hF
  exact hQ _ _ _ _ _ rfl hO hL ⟨rfl, rfl⟩
 refine zbX (zb1 (zb0 (zp (zX hO [] [(4, zsa x48)] zrU fun j => ?_))))
 refine zbt ?_
 cases hF
 exact hQ _ _ _ _ _ rfl hO hL ⟨rfl, rfl⟩
theorem zjl {τ : Hp} {p0 : Int}  {rr : Bool} (hF : zhI p0 = some rr) :
  Ctr Try.prog 51 #[.int .u8 p0] τ [] (fun v τ' vs' => v = .bool rr ∧ vs' = []) := by
 refine zbI (args := [.int .u8 p0]) hm Try.func51 s51 rfl fun w0 σ hO Q hQ => ?_
 unfold zhI at hF
 have hL := Hp.le.refl τ
 show wpn _ _ a51.body _ _ _
 unfold a51
 dsimp only
 refine zh hO [] [] [0] zrU fun j => ?_
 refine zd hO 6 [] [(9, .bool ((decide (p0 ≥ 97)) && (decide (p0 ≤ 122))))] [0] (And.intro (And.intro rfl rfl) (fun _ => zr9 zrU)) fun j => ?_
 obtain ⟨c2, h3, hF⟩ := zsg hF
 refine zcU 4 [(16, .bool c2), (0, .int .u8 p0)] (fun Q hQ => ?_) fun j => ?_
 ·have hF := h3
  rcases zbD hF with ⟨hb4, hF⟩ | ⟨hb4, hF⟩
  ·refine zbw (zsd hb4) ?_
   refine zbw rfl ?_
   refine zbw (zsd hb4) ?_
   refine zM (zsc hb4) ?_
   refine za ?_
   cases hF
   refine zj ?_
   exact hQ _ zrV
  refine zbv (zsd hb4) ?_
  refine zd hO 3 [] [(12, .bool (decide (p0 ≥ 65)))] [0, 9] zrW fun j => ?_
  rcases zbD hF with ⟨hb5, hF⟩ | ⟨hb5, hF⟩
  ·refine zbv (zse hb5) ?_
   refine zd hO 2 [] [(14, .bool (decide (p0 ≤ 90)))] [0, 9, 12] zrX fun j => ?_
   refine zbv (zsd hb4) ?_
   refine zM (zsc hb5) ?_
   refine zM (zsc hb4) ?_
   refine za ?_
   cases hF
   refine zj ?_
   exact hQ _ zrV
  refine zbw (zse hb5) ?_
  refine zbv (zsd hb4) ?_
  refine zM (zsc hb5) ?_
  refine zM (zsc hb4) ?_
  refine za ?_
  cases hF
  refine zj ?_
  exact hQ _ zrV
 refine zX hO [] [(2, .bool (c2 || (p0 == 95)))] (And.intro (And.intro rfl rfl) (fun _ => zr9 trivial)) fun j => ?_
 refine zbt ?_
 cases hF
 exact hQ _ _ _ _ _ rfl hO hL ⟨rfl, rfl⟩
theorem zkD {τ : Hp} {p0 : Int}  {rr : Bool} (hF : zgl p0 = some rr) :
  Ctr Try.prog 52 #[.int .u8 p0] τ [] (fun v τ' vs' => v = .bool rr ∧ vs' = []) := by
 refine zbI (args := [.int .u8 p0]) hm Try.func52 s52 rfl fun w0 σ hO Q hQ => ?_
 unfold zgl at hF
 have hL := Hp.le.refl τ
 show wpn _ _ a52.body _ _ _
 unfold a52
 dsimp only
 refine zh hO [] [] [0] zrU fun j => ?_
 refine zX hO [] [(2, .bool ((decide (p0 ≥ 48)) && (decide (p0 ≤ 57))))] (And.intro (And.intro rfl rfl) (fun _ => zr9 trivial)) fun j => ?_
 refine zbt ?_
 cases hF
 exact hQ _ _ _ _ _ rfl hO hL ⟨rfl, rfl⟩
theorem zqL {τ : Hp} {v0 : Value} {p0 : (List ByteArray)} {p1 : ByteArray} (r0 : RdT Ty.str τ v0 p0) {rr : Bool} (hF : zkt p0 p1 = some rr) :
  Ctr Try.prog 53 #[v0, .string p1] τ [] (fun v τ' vs' => v = .bool rr ∧ vs' = []) := by
 obtain ⟨A0, c0, rfl, -⟩ := r0.form
 refine zbI (args := [.slice A0 p0.length c0, .string p1]) hm Try.func53 s53 rfl fun w0 σ hO Q hQ => ?_
 unfold zkt at hF
 have hL := Hp.le.refl τ
 show wpn _ _ a53.body _ _ _
 unfold a53
 dsimp only
 refine zh hO [] [] [0, 1] zrV fun j => ?_
 refine zo (zh hO [] [(5, zsa 0)] [0, 1] zrW fun j => ?_)
 refine zY (zbY (fun (n : Nat) e' σ' => ∃ (x10 : Int) (τ' : Hp), agr [(0, zsh A0 p0 c0), (1, .string p1), (5, zsa x10)] e' ∧ Obs τ' σ' [] ∧ Hp.le τ τ' ∧ ziA p0 p1 n x10 = some rr) big ⟨0, _, zr9 zrV, hO, hL, hF⟩ ?_)
 clear hF hO hL
 rintro n18 e σ ⟨x10, _, hA, hO, hL, hF⟩
 rw [← zbc _ _ hA]
 cases n18 with
 | zero => exact nomatch (show none = some rr from hF)
 | succ n18 =>
 replace hF : zjX (ziA p0 p1 n18) p0 p1 x10 = some rr := hF
 unfold zjX at hF
 refine zo (zh hO [] [(9, .bool (decide (x10 < (p0.length : Int))))] [0, 1, 5] zrX fun j => ?_)
 refine zE hF rfl (fun hF => ?_) fun hF => ?_
 ·refine zS (zY (zd hO 2 [] [(12, zsh A0 p0 c0), (13, zsa x10)] [0, 1, 5] zrY fun j => ?_))
  obtain ⟨y20, g21, hF⟩ := zsg hF
  refine z7 (T := Ty.str) (r0.le hL) hO.base rfl rfl g21 (by decide) fun a22 _ k23 m24 => ?_
  obtain rfl : _ = ([.string y20] : List Value) := k23
  refine zV rfl (m24.le hO.base).fst ?_
  refine zh hO [] [(17, .bool (zbn y20 p1))] [0, 1, 5] zrX fun j => ?_
  refine zb2 (zE hF rfl (fun hF => ?_) fun hF => ?_)
  ·refine zo (zX hO [] [(4, .bool true)] zrU fun j => ?_)
   refine zbq (zbm (zU (zU (zbm (zU ?_)))))
   cases hF
   exact hQ _ _ _ _ _ rfl hO hL ⟨rfl, rfl⟩
  refine zS (zj (zbe (zp (zbR (zh hO [] [(5, zsa (IntKind.i64.wrap (x10 + 1)))] [0, 1] zrW fun j => ?_)))))
  refine zj (zp ?_)
  exact ⟨n18, Nat.lt_succ_self _, (IntKind.i64.wrap (x10 + 1)), _, zr9 zrV, hO, hL, hF⟩
 refine zbX (zb1 (zb0 (zp (zX hO [] [(4, .bool false)] zrU fun j => ?_))))
 refine zbt ?_
 cases hF
 exact hQ _ _ _ _ _ rfl hO hL ⟨rfl, rfl⟩
theorem zp3 {τ : Hp}   {rr : (List ByteArray)} (hF : zjZ  = some rr) :
  Ctr Try.prog 54 #[] τ [] (fun v τ' vs' => ∃ (v0 : Value) (o0 : Ob), v = v0 ∧ vs' = [o0] ∧ ze Ty.str 9 τ' v0 rr o0) := by
 refine zbI (args := []) hm Try.func54 s54 rfl fun w0 σ hO Q hQ => ?_
 unfold zjZ at hF
 have hL := Hp.le.refl τ
 show wpn _ _ a54.body _ _ _
 unfold a54
 dsimp only
 refine zX hO [] [] (trivial) fun j => ?_
 refine zB (T := Ty.str) (l := ([(⟨#[116, 121, 112, 101]⟩ : ByteArray), (⟨#[115, 116, 114, 117, 99, 116]⟩ : ByteArray), (⟨#[102, 117, 110, 99]⟩ : ByteArray), (⟨#[118, 97, 114]⟩ : ByteArray), (⟨#[105, 102]⟩ : ByteArray), (⟨#[101, 108, 115, 101]⟩ : ByteArray), (⟨#[102, 111, 114]⟩ : ByteArray), (⟨#[114, 101, 116, 117, 114, 110]⟩ : ByteArray), (⟨#[112, 114, 105, 110, 116]⟩ : ByteArray), (⟨#[105, 110, 112, 117, 116]⟩ : ByteArray), (⟨#[105, 110, 116]⟩ : ByteArray), (⟨#[98, 111, 111, 108]⟩ : ByteArray), (⟨#[116, 114, 117, 101]⟩ : ByteArray), (⟨#[102, 97, 108, 115, 101]⟩ : ByteArray)] : List ByteArray)) (cs := [.string (⟨#[116, 121, 112, 101]⟩ : ByteArray), .string (⟨#[115, 116, 114, 117, 99, 116]⟩ : ByteArray), .string (⟨#[102, 117, 110, 99]⟩ : ByteArray), .string (⟨#[118, 97, 114]⟩ : ByteArray), .string (⟨#[105, 102]⟩ : ByteArray), .string (⟨#[101, 108, 115, 101]⟩ : ByteArray), .string (⟨#[102, 111, 114]⟩ : ByteArray), .string (⟨#[114, 101, 116, 117, 114, 110]⟩ : ByteArray), .string (⟨#[112, 114, 105, 110, 116]⟩ : ByteArray), .string (⟨#[105, 110, 112, 117, 116]⟩ : ByteArray), .string (⟨#[105, 110, 116]⟩ : ByteArray), .string (⟨#[98, 111, 111, 108]⟩ : ByteArray), .string (⟨#[116, 114, 117, 101]⟩ : ByteArray), .string (⟨#[102, 97, 108, 115, 101]⟩ : ByteArray)]) hO (by kernel_rfl) ⟨[.string (⟨#[116, 121, 112, 101]⟩ : ByteArray)], _, rfl, rfl, ⟨[.string (⟨#[115, 116, 114, 117, 99, 116]⟩ : ByteArray)], _, rfl, rfl, ⟨[.string (⟨#[102, 117, 110, 99]⟩ : ByteArray)], _, rfl, rfl, ⟨[.string (⟨#[118, 97, 114]⟩ : ByteArray)], _, rfl, rfl, ⟨[.string (⟨#[105, 102]⟩ : ByteArray)], _, rfl, rfl, ⟨[.string (⟨#[101, 108, 115, 101]⟩ : ByteArray)], _, rfl, rfl, ⟨[.string (⟨#[102, 111, 114]⟩ : ByteArray)], _, rfl, rfl, ⟨[.string (⟨#[114, 101, 116, 117, 114, 110]⟩ : ByteArray)], _, rfl, rfl, ⟨[.string (⟨#[112, 114, 105, 110, 116]⟩ : ByteArray)], _, rfl, rfl, ⟨[.string (⟨#[105, 110, 112, 117, 116]⟩ : ByteArray)], _, rfl, rfl, ⟨[.string (⟨#[105, 110, 116]⟩ : ByteArray)], _, rfl, rfl, ⟨[.string (⟨#[98, 111, 111, 108]⟩ : ByteArray)], _, rfl, rfl, ⟨[.string (⟨#[116, 114, 117, 101]⟩ : ByteArray)], _, rfl, rfl, ⟨[.string (⟨#[102, 97, 108, 115, 101]⟩ : ByteArray)], _, rfl, rfl, rfl⟩⟩⟩⟩⟩⟩⟩⟩⟩⟩⟩⟩⟩⟩ rfl (by decide) fun _ σ o3 w4 hO => ?_
 obtain ⟨A1, c2, rfl, -⟩ := w4.form
 have hO := zsf1 hO
 refine zX hO [] [(0, zsh A1 ([(⟨#[116, 121, 112, 101]⟩ : ByteArray), (⟨#[115, 116, 114, 117, 99, 116]⟩ : ByteArray), (⟨#[102, 117, 110, 99]⟩ : ByteArray), (⟨#[118, 97, 114]⟩ : ByteArray), (⟨#[105, 102]⟩ : ByteArray), (⟨#[101, 108, 115, 101]⟩ : ByteArray), (⟨#[102, 111, 114]⟩ : ByteArray), (⟨#[114, 101, 116, 117, 114, 110]⟩ : ByteArray), (⟨#[112, 114, 105, 110, 116]⟩ : ByteArray), (⟨#[105, 110, 112, 117, 116]⟩ : ByteArray), (⟨#[105, 110, 116]⟩ : ByteArray), (⟨#[98, 111, 111, 108]⟩ : ByteArray), (⟨#[116, 114, 117, 101]⟩ : ByteArray), (⟨#[102, 97, 108, 115, 101]⟩ : ByteArray)] : List ByteArray) c2)] zrU fun j => ?_
 refine zbt ?_
 cases hF
 exact hQ _ _ _ _ _ rfl hO hL ⟨_, _, rfl, rfl, w4⟩
theorem zrk {τ : Hp} {p0 : ByteArray}  {rr : Int × Bool} (hF : zkR p0 = some rr) :
  Ctr Try.prog 55 #[.string p0] τ [] (fun v τ' vs' => v = .tuple #[.int .i64 rr.1, .bool rr.2] ∧ vs' = []) := by
 refine zbI (args := [.string p0]) hm Try.func55 s55 rfl fun w0 σ hO Q hQ => ?_
 unfold zkR at hF
 have hL := Hp.le.refl τ
 show wpn _ _ a55.body _ _ _
 unfold a55
 dsimp only
 refine zh hO [] [] [0] zrU fun j => ?_
 refine zh hO [] [(4, zsa 0)] [0] zrV fun j => ?_
 refine zo (zh hO [] [(5, zsa 0)] [0, 4] zrW fun j => ?_)
 refine zY (zbY (fun (n : Nat) e' σ' => ∃ (x11 x12 : Int) (τ' : Hp), agr [(0, .string p0), (4, zsa x11), (5, zsa x12)] e' ∧ Obs τ' σ' [] ∧ Hp.le τ τ' ∧ ziX p0 n x11 x12 = some rr) big ⟨0, 0, _, zr9 zrV, hO, hL, hF⟩ ?_)
 clear hF hO hL
 rintro n22 e σ ⟨x11, x12, _, hA, hO, hL, hF⟩
 rw [← zbc _ _ hA]
 cases n22 with
 | zero => exact nomatch (show none = some rr from hF)
 | succ n22 =>
 replace hF : zjF (ziX p0 n22) p0 x11 x12 = some rr := hF
 unfold zjF at hF
 refine zo (zh hO [] [(10, .bool (decide (x12 < (p0.size : Int))))] [0, 4, 5] zrX fun j => ?_)
 refine zE hF rfl (fun hF => ?_) fun hF => ?_
 ·refine zS (zY (zd hO 2 [] [(13, .string p0), (14, zsa x12)] [0, 4, 5] zrY fun j => ?_))
  obtain ⟨y24, g25, hF⟩ := zsg hF
  refine znx rfl rfl g25 ?_
  refine zh hO [] [(6, zsa (IntKind.i64.wrap (IntKind.u8.wrap ((y24.toNat : Int) - 48))))] [0, 4, 5] zrX fun j => ?_
  refine zo (zh hO [] [(22, .bool (decide (x11 > (IntKind.i64.wrap (Int.tdiv (IntKind.i64.wrap (9223372036854775807 - (IntKind.i64.wrap (IntKind.u8.wrap ((y24.toNat : Int) - 48))))) 10)))))] [0, 4, 5, 6] zrY fun j => ?_)
  refine zE hF rfl (fun hF => ?_) fun hF => ?_
  ·refine zo (zX hO [] [(2, zsa 0), (3, .bool false)] zrV fun j => ?_)
   refine zbq (zbm (zU (zU (zbm (zU ?_)))))
   cases hF
   exact hQ _ _ _ _ _ rfl hO hL ⟨rfl, rfl⟩
  refine zS (zbR (zh hO [] [(4, zsa (IntKind.i64.wrap ((IntKind.i64.wrap (10 * x11)) + (IntKind.i64.wrap (IntKind.u8.wrap ((y24.toNat : Int) - 48))))))] [0, 5] zrW fun j => ?_))
  refine zj (zbe (zp (zbR (zh hO [] [(5, zsa (IntKind.i64.wrap (x12 + 1)))] [0, 4] zrW fun j => ?_))))
  refine zj (zp ?_)
  exact ⟨n22, Nat.lt_succ_self _, (IntKind.i64.wrap ((IntKind.i64.wrap (10 * x11)) + (IntKind.i64.wrap (IntKind.u8.wrap ((y24.toNat : Int) - 48))))), (IntKind.i64.wrap (x12 + 1)), _, zr9 zrV, hO, hL, hF⟩
 refine zbX (zb1 (zb0 (zp (zcD (zd hO 5 [] [(27, zsa x11), (31, .bool ((p0.size : Int) == 1))] [0] zrW fun j => ?_)))))
 obtain ⟨c27, h28, hF⟩ := zsg hF
 refine zcU 2 [(35, .bool c27), (27, zsa x11)] (fun Q hQ => ?_) fun j => ?_
 ·have hF := h28
  rcases zbD hF with ⟨hb29, hF⟩ | ⟨hb29, hF⟩
  ·refine zbw (zsd hb29) ?_
   refine zM (zsc hb29) ?_
   refine za ?_
   cases hF
   refine zj ?_
   exact hQ _ zrV
  refine zbv (zsd hb29) ?_
  refine zd hO 1 [] [(32, .string p0)] [27, 31] zrW fun j => ?_
  obtain ⟨y30, g31, hF⟩ := zsg hF
  refine znx rfl rfl g31 ?_
  refine zd hO 1 [] [(34, .bool ((y30.toNat : Int) != 48))] [27, 31] zrW fun j => ?_
  refine zM (zsc hb29) ?_
  refine za ?_
  cases hF
  refine zj ?_
  exact hQ _ zrV
 refine zX hO [] [(2, zsa x11), (3, .bool c27)] zrV fun j => ?_
 refine zbt ?_
 cases hF
 exact hQ _ _ _ _ _ rfl hO hL ⟨rfl, rfl⟩
theorem zqw {τ : Hp}   {rr : (List ByteArray)} (hF : zk8  = some rr) :
  Ctr Try.prog 56 #[] τ [] (fun v τ' vs' => ∃ (v0 : Value) (o0 : Ob), v = v0 ∧ vs' = [o0] ∧ ze Ty.str 9 τ' v0 rr o0) := by
 refine zbI (args := []) hm Try.func56 s56 rfl fun w0 σ hO Q hQ => ?_
 unfold zk8 at hF
 have hL := Hp.le.refl τ
 show wpn _ _ a56.body _ _ _
 unfold a56
 dsimp only
 refine zX hO [] [] (trivial) fun j => ?_
 refine zB (T := Ty.str) (l := ([(⟨#[38, 38]⟩ : ByteArray), (⟨#[124, 124]⟩ : ByteArray), (⟨#[61, 61]⟩ : ByteArray), (⟨#[33, 61]⟩ : ByteArray), (⟨#[60, 61]⟩ : ByteArray), (⟨#[62, 61]⟩ : ByteArray), (⟨#[40]⟩ : ByteArray), (⟨#[41]⟩ : ByteArray), (⟨#[123]⟩ : ByteArray), (⟨#[125]⟩ : ByteArray), (⟨#[91]⟩ : ByteArray), (⟨#[93]⟩ : ByteArray), (⟨#[44]⟩ : ByteArray), (⟨#[59]⟩ : ByteArray), (⟨#[46]⟩ : ByteArray), (⟨#[61]⟩ : ByteArray), (⟨#[43]⟩ : ByteArray), (⟨#[45]⟩ : ByteArray), (⟨#[42]⟩ : ByteArray), (⟨#[47]⟩ : ByteArray), (⟨#[37]⟩ : ByteArray), (⟨#[60]⟩ : ByteArray), (⟨#[62]⟩ : ByteArray), (⟨#[33]⟩ : ByteArray)] : List ByteArray)) (cs := [.string (⟨#[38, 38]⟩ : ByteArray), .string (⟨#[124, 124]⟩ : ByteArray), .string (⟨#[61, 61]⟩ : ByteArray), .string (⟨#[33, 61]⟩ : ByteArray), .string (⟨#[60, 61]⟩ : ByteArray), .string (⟨#[62, 61]⟩ : ByteArray), .string (⟨#[40]⟩ : ByteArray), .string (⟨#[41]⟩ : ByteArray), .string (⟨#[123]⟩ : ByteArray), .string (⟨#[125]⟩ : ByteArray), .string (⟨#[91]⟩ : ByteArray), .string (⟨#[93]⟩ : ByteArray), .string (⟨#[44]⟩ : ByteArray), .string (⟨#[59]⟩ : ByteArray), .string (⟨#[46]⟩ : ByteArray), .string (⟨#[61]⟩ : ByteArray), .string (⟨#[43]⟩ : ByteArray), .string (⟨#[45]⟩ : ByteArray), .string (⟨#[42]⟩ : ByteArray), .string (⟨#[47]⟩ : ByteArray), .string (⟨#[37]⟩ : ByteArray), .string (⟨#[60]⟩ : ByteArray), .string (⟨#[62]⟩ : ByteArray), .string (⟨#[33]⟩ : ByteArray)]) hO (by kernel_rfl) ⟨[.string (⟨#[38, 38]⟩ : ByteArray)], _, rfl, rfl, ⟨[.string (⟨#[124, 124]⟩ : ByteArray)], _, rfl, rfl, ⟨[.string (⟨#[61, 61]⟩ : ByteArray)], _, rfl, rfl, ⟨[.string (⟨#[33, 61]⟩ : ByteArray)], _, rfl, rfl, ⟨[.string (⟨#[60, 61]⟩ : ByteArray)], _, rfl, rfl, ⟨[.string (⟨#[62, 61]⟩ : ByteArray)], _, rfl, rfl, ⟨[.string (⟨#[40]⟩ : ByteArray)], _, rfl, rfl, ⟨[.string (⟨#[41]⟩ : ByteArray)], _, rfl, rfl, ⟨[.string (⟨#[123]⟩ : ByteArray)], _, rfl, rfl, ⟨[.string (⟨#[125]⟩ : ByteArray)], _, rfl, rfl, ⟨[.string (⟨#[91]⟩ : ByteArray)], _, rfl, rfl, ⟨[.string (⟨#[93]⟩ : ByteArray)], _, rfl, rfl, ⟨[.string (⟨#[44]⟩ : ByteArray)], _, rfl, rfl, ⟨[.string (⟨#[59]⟩ : ByteArray)], _, rfl, rfl, ⟨[.string (⟨#[46]⟩ : ByteArray)], _, rfl, rfl, ⟨[.string (⟨#[61]⟩ : ByteArray)], _, rfl, rfl, ⟨[.string (⟨#[43]⟩ : ByteArray)], _, rfl, rfl, ⟨[.string (⟨#[45]⟩ : ByteArray)], _, rfl, rfl, ⟨[.string (⟨#[42]⟩ : ByteArray)], _, rfl, rfl, ⟨[.string (⟨#[47]⟩ : ByteArray)], _, rfl, rfl, ⟨[.string (⟨#[37]⟩ : ByteArray)], _, rfl, rfl, ⟨[.string (⟨#[60]⟩ : ByteArray)], _, rfl, rfl, ⟨[.string (⟨#[62]⟩ : ByteArray)], _, rfl, rfl, ⟨[.string (⟨#[33]⟩ : ByteArray)], _, rfl, rfl, rfl⟩⟩⟩⟩⟩⟩⟩⟩⟩⟩⟩⟩⟩⟩⟩⟩⟩⟩⟩⟩⟩⟩⟩⟩ rfl (by decide) fun _ σ o3 w4 hO => ?_
 obtain ⟨A1, c2, rfl, -⟩ := w4.form
 have hO := zsf1 hO
 refine zX hO [] [(0, zsh A1 ([(⟨#[38, 38]⟩ : ByteArray), (⟨#[124, 124]⟩ : ByteArray), (⟨#[61, 61]⟩ : ByteArray), (⟨#[33, 61]⟩ : ByteArray), (⟨#[60, 61]⟩ : ByteArray), (⟨#[62, 61]⟩ : ByteArray), (⟨#[40]⟩ : ByteArray), (⟨#[41]⟩ : ByteArray), (⟨#[123]⟩ : ByteArray), (⟨#[125]⟩ : ByteArray), (⟨#[91]⟩ : ByteArray), (⟨#[93]⟩ : ByteArray), (⟨#[44]⟩ : ByteArray), (⟨#[59]⟩ : ByteArray), (⟨#[46]⟩ : ByteArray), (⟨#[61]⟩ : ByteArray), (⟨#[43]⟩ : ByteArray), (⟨#[45]⟩ : ByteArray), (⟨#[42]⟩ : ByteArray), (⟨#[47]⟩ : ByteArray), (⟨#[37]⟩ : ByteArray), (⟨#[60]⟩ : ByteArray), (⟨#[62]⟩ : ByteArray), (⟨#[33]⟩ : ByteArray)] : List ByteArray) c2)] zrU fun j => ?_
 refine zbt ?_
 cases hF
 exact hQ _ _ _ _ _ rfl hO hL ⟨_, _, rfl, rfl, w4⟩
theorem zpU {τ : Hp} {v0 : Value} {p0 : (List UInt8)} {p1 : Int} (r0 : RdT Ty.u8 τ v0 p0) {rr : zr × Bool} (hF : zkU p0 p1 = some rr) :
  Ctr Try.prog 30 #[v0, .int .i64 p1] τ [] (fun v τ' vs' => v = .tuple #[.agg #[.int .u8 rr.1.Kind.toNat, .string rr.1.Text, .int .i64 rr.1.Num, .int .i64 rr.1.Line], .bool rr.2] ∧ vs' = []) := by
 obtain ⟨A0, c0, rfl, -⟩ := r0.form
 refine zbI (args := [.slice A0 p0.length c0, .int .i64 p1]) hm Try.func30 s30 rfl fun w0 σ hO Q hQ => ?_
 unfold zkU at hF
 have hL := Hp.le.refl τ
 show wpn _ _ a30.body _ _ _
 unfold a30
 dsimp only
 refine zbg hO fun b3 σ hO => ?_
 have hO := zsf1 hO
 refine zh hO [] [] [0, 1, 4] zrW fun j => ?_
 refine zh hO [] [(6, zsa p1)] [0, 1, 4] zrX fun j => ?_
 refine zd hO 2 [] [(15, zsh A0 p0 c0), (16, zsa p1)] [0, 1, 4, 6] zrZ fun j => ?_
 obtain ⟨y4, g5, hF⟩ := zsg hF
 refine z7 (T := Ty.u8) (r0.le hL) hO.base rfl rfl g5 (by decide) fun a6 _ k7 m8 => ?_
 obtain rfl : _ = ([.int .u8 y4.toNat] : List Value) := k7
 refine zV rfl (m8.le hO.base).fst ?_
 refine zh hO [] [(7, .int .u8 (y4.toNat : Int))] [0, 1, 4, 6] zrY fun j => ?_
 refine zY (zd hO 1 [] [(20, .int .u8 (y4.toNat : Int))] [0, 1, 4, 6, 7] zrZ fun j => ?_)
 obtain ⟨c9, h10, hF⟩ := zsg hF
 refine zbr hO (zjl h10) rfl fun _ σ _ _ hO h11 h12 => ?_
 have hL := hL.trans h11
 obtain ⟨rfl, rfl⟩ := h12
 have hO := zsf1 hO
 refine zh hO [] [(19, .bool c9)] [0, 1, 4, 6, 7] zrZ fun j => ?_
 refine zb2 (zE hF rfl (fun hF => ?_) fun hF => ?_)
 ·refine zo (zY (zbY (fun (n : Nat) e' σ' => ∃ (x58 : Int) (τ' : Hp), agr [(0, zsh A0 p0 c0), (1, zsa p1), (4, zsb b3), (6, zsa x58)] e' ∧ Obs τ' σ' [ze0 b3 0 (⟨#[]⟩ : ByteArray) 0 0] ∧ Hp.le τ τ' ∧ zhW p0 p1 n x58 = some rr) big ⟨p1, _, zr9 zrW, hO, hL, hF⟩ ?_))
  clear hF hO hL
  rintro n103 e σ ⟨x58, _, hA, hO, hL, hF⟩
  rw [← zbc _ _ hA]
  cases n103 with
  | zero => exact nomatch (show none = some rr from hF)
  | succ n103 =>
  replace hF : zkj (zhW p0 p1 n103) p0 p1 x58 = some rr := hF
  unfold zkj at hF
  refine zo (zd hO 5 [] [(26, .bool (decide (x58 < (p0.length : Int))))] [0, 1, 4, 6] zrY fun j => ?_)
  obtain ⟨c104, h105, hF⟩ := zsg hF
  refine zcr 4 (fun e' σ' => ∃ (τ' : Hp), agr [(39, .bool c104), (0, zsh A0 p0 c0), (1, zsa p1), (4, zsb b3), (6, zsa x58)] e' ∧ Obs τ' σ' [ze0 b3 0 (⟨#[]⟩ : ByteArray) 0 0] ∧ Hp.le τ τ') ?_ ?_
  ·have hF := h105
   rcases zbD hF with ⟨hb106, hF⟩ | ⟨hb106, hF⟩
   ·refine zbv (zse hb106) ?_
    refine zd hO 2 [] [(27, zsh A0 p0 c0), (28, zsa x58)] [0, 1, 4, 6, 26] zr0 fun j => ?_
    obtain ⟨y107, g108, hF⟩ := zsg hF
    refine z7 (T := Ty.u8) (r0.le hL) hO.base rfl rfl g108 (by decide) fun a109 _ k110 m111 => ?_
    obtain rfl : _ = ([.int .u8 y107.toNat] : List Value) := k110
    refine zV rfl (m111.le hO.base).fst ?_
    obtain ⟨c112, h113, hF⟩ := zsg hF
    refine zbr hO (zjl h113) rfl fun _ σ _ _ hO h114 h115 => ?_
    have hL := hL.trans h114
    have m111 := m111.le h114
    obtain ⟨rfl, rfl⟩ := h115
    have hO := zsf1 hO
    refine zd hO 1 [] [(32, .bool c112)] [0, 1, 4, 6, 26] zrZ fun j => ?_
    rcases zbD hF with ⟨hb116, hF⟩ | ⟨hb116, hF⟩
    ·refine zbw (zsd hb116) ?_
     refine zbv (zse hb106) ?_
     refine zM (zsc hb116) ?_
     refine zM (zsc hb106) ?_
     refine za ?_
     cases hF
     refine zj ?_
     exact ⟨rfl, _, zr9 zrX, hO, hL⟩
    refine zbv (zsd hb116) ?_
    refine zd hO 2 [] [(33, zsh A0 p0 c0), (34, zsa x58)] [0, 1, 4, 6, 26, 32] zr1 fun j => ?_
    obtain ⟨y117, g118, hF⟩ := zsg hF
    refine z7 (T := Ty.u8) (r0.le hL) hO.base rfl rfl g118 (by decide) fun a119 _ k120 m121 => ?_
    obtain rfl : _ = ([.int .u8 y117.toNat] : List Value) := k120
    refine zV rfl (m121.le hO.base).fst ?_
    obtain ⟨c122, h123, hF⟩ := zsg hF
    refine zbr hO (zkD h123) rfl fun _ σ _ _ hO h124 h125 => ?_
    have hL := hL.trans h124
    have m121 := m121.le h124
    obtain ⟨rfl, rfl⟩ := h125
    have hO := zsf1 hO
    refine zbv (zse hb106) ?_
    refine zM (zsc hb116) ?_
    refine zM (zsc hb106) ?_
    refine za ?_
    cases hF
    refine zj ?_
    exact ⟨rfl, _, zr9 zrX, hO, hL⟩
   refine zbw (zse hb106) ?_
   refine zbw rfl ?_
   refine zbw (zse hb106) ?_
   refine zM (zsc hb106) ?_
   refine za ?_
   cases hF
   refine zj ?_
   exact ⟨rfl, _, zr9 zrX, hO, hL⟩
  rintro e σ ⟨_, hA, hO, hL⟩
  rw [← zbc _ _ hA]
  refine za (zE hF rfl (fun hF => ?_) fun hF => ?_)
  ·refine zS (zcF (zY (zbR (zh hO [] [(6, zsa (IntKind.i64.wrap (x58 + 1)))] [0, 1, 4] zrX fun j => ?_))))
   refine zj (zbe (zp (zj (zp ?_))))
   exact ⟨n103, Nat.lt_succ_self _, (IntKind.i64.wrap (x58 + 1)), _, zr9 zrW, hO, hL, hF⟩
  refine zbX (zb1 (zb0 (zp (zo (zd hO 3 [] [(42, zsh A0 p0 c0), (43, zsa p1), (44, zsa x58)] [4] zrX fun j => ?_)))))
  obtain ⟨y127, g128, hF⟩ := zsg hF
  refine zhv (T := Ty.u8) (r0.le hL) rfl rfl rfl g128 fun _ r129 => ?_
  obtain ⟨A130, c131, rfl, -⟩ := r129.form
  refine zkO (l := y127) (r129.le hO.base) rfl ?_
  refine zh hO [] [(8, .string (⟨y127.toArray⟩ : ByteArray))] [4] zrV fun j => ?_
  refine zo (zo ?_)
  obtain ⟨c132, h133, hF⟩ := zsg hF
  refine zbr hO (zp3 h133) rfl fun _ σ _ _ hO h134 h135 => ?_
  have hL := hL.trans h134
  obtain ⟨v136, o139, rfl, rfl, w140⟩ := h135
  obtain ⟨A137, c138, rfl, -⟩ := w140.form
  have hO := zsf2 hO
  refine zd hO 1 [] [(48, .string (⟨y127.toArray⟩ : ByteArray))] [4, 8, 47] zrX fun j => ?_
  obtain ⟨_, h142, r141, hO⟩ := w140.share hO (i := 1) rfl
  have hL := hL.trans h142
  have hO := zsf2 hO
  obtain ⟨c143, h144, hF⟩ := zsg hF
  refine zbr hO (zqL (p1 := (⟨y127.toArray⟩ : ByteArray)) r141 h144) rfl fun _ σ _ _ hO h145 h146 => ?_
  have hL := hL.trans h145
  have r141 := r141.le h145
  obtain ⟨rfl, rfl⟩ := h146
  have hO := zsf2 hO
  refine za (zE hF rfl (fun hF => ?_) fun hF => ?_)
  ·refine zo (zd hO 2 [] [(51, .agg #[(.int .u8 3), (.string (⟨y127.toArray⟩ : ByteArray)), (.int .i64 0), (.int .i64 0)])] [4] zrV fun j => ?_)
   refine zs hO (i := 0) rfl (off := 0) rfl rfl rfl rfl (Nat.le_of_ble_eq_true rfl) rfl fun σ hO => ?_
   have hO := zsf2 hO
   refine zh hO [] [(5, .bool true)] [4] zrV fun j => ?_
   refine zbq (zbm (zU ?_))
   cases hF
   have hV0 := hO.val (i := 0) rfl (off := 0) (agg := true) (n := 4) rfl
   have hO := hO.sel []
   exact hQ _ _ _ _ _ (zbP rfl (hV0) (zdV rfl)) hO hL ⟨rfl, rfl⟩
  refine zS (zo (zd hO 5 [] [(53, .agg #[(.int .u8 1), (.string (⟨y127.toArray⟩ : ByteArray)), (.int .i64 0), (.int .i64 0)]), (56, .bool (decide (((⟨y127.toArray⟩ : ByteArray).size : Int) ≤ 24)))] [4] zrW fun j => ?_))
  refine zs hO (i := 0) rfl (off := 0) rfl rfl rfl rfl (Nat.le_of_ble_eq_true rfl) rfl fun σ hO => ?_
  have hO := zsf2 hO
  refine zh hO [] [(5, .bool (decide (((⟨y127.toArray⟩ : ByteArray).size : Int) ≤ 24)))] [4] zrV fun j => ?_
  refine zbq (zbm (zU ?_))
  cases hF
  have hV0 := hO.val (i := 0) rfl (off := 0) (agg := true) (n := 4) rfl
  have hO := hO.sel []
  exact hQ _ _ _ _ _ (zbP rfl (hV0) (zdV rfl)) hO hL ⟨rfl, rfl⟩
 refine zo (zd hO 1 [] [(58, .int .u8 (y4.toNat : Int))] [0, 1, 4, 6] zrY fun j => ?_)
 obtain ⟨c148, h149, hF⟩ := zsg hF
 refine zbr hO (zkD h149) rfl fun _ σ _ _ hO h150 h151 => ?_
 have hL := hL.trans h150
 obtain ⟨rfl, rfl⟩ := h151
 have hO := zsf1 hO
 refine zh hO [] [(57, .bool c148)] [0, 1, 4, 6] zrY fun j => ?_
 refine zE hF rfl (fun hF => ?_) fun hF => ?_
 ·refine zo (zY (zbY (fun (n : Nat) e' σ' => ∃ (x188 : Int) (τ' : Hp), agr [(0, zsh A0 p0 c0), (1, zsa p1), (4, zsb b3), (6, zsa x188)] e' ∧ Obs τ' σ' [ze0 b3 0 (⟨#[]⟩ : ByteArray) 0 0] ∧ Hp.le τ τ' ∧ zhQ p0 p1 n x188 = some rr) big ⟨p1, _, zr9 zrW, hO, hL, hF⟩ ?_))
  clear hF hO hL
  rintro n224 e σ ⟨x188, _, hA, hO, hL, hF⟩
  rw [← zbc _ _ hA]
  cases n224 with
  | zero => exact nomatch (show none = some rr from hF)
  | succ n224 =>
  replace hF : zkW (zhQ p0 p1 n224) p0 p1 x188 = some rr := hF
  unfold zkW at hF
  refine zo (zd hO 5 [] [(64, .bool (decide (x188 < (p0.length : Int))))] [0, 1, 4, 6] zrY fun j => ?_)
  obtain ⟨c225, h226, hF⟩ := zsg hF
  refine zcr 2 (fun e' σ' => ∃ (τ' : Hp), agr [(70, .bool c225), (0, zsh A0 p0 c0), (1, zsa p1), (4, zsb b3), (6, zsa x188)] e' ∧ Obs τ' σ' [ze0 b3 0 (⟨#[]⟩ : ByteArray) 0 0] ∧ Hp.le τ τ') ?_ ?_
  ·have hF := h226
   rcases zbD hF with ⟨hb227, hF⟩ | ⟨hb227, hF⟩
   ·refine zbv (zse hb227) ?_
    refine zd hO 2 [] [(65, zsh A0 p0 c0), (66, zsa x188)] [0, 1, 4, 6, 64] zr0 fun j => ?_
    obtain ⟨y228, g229, hF⟩ := zsg hF
    refine z7 (T := Ty.u8) (r0.le hL) hO.base rfl rfl g229 (by decide) fun a230 _ k231 m232 => ?_
    obtain rfl : _ = ([.int .u8 y228.toNat] : List Value) := k231
    refine zV rfl (m232.le hO.base).fst ?_
    obtain ⟨c233, h234, hF⟩ := zsg hF
    refine zbr hO (zkD h234) rfl fun _ σ _ _ hO h235 h236 => ?_
    have hL := hL.trans h235
    have m232 := m232.le h235
    obtain ⟨rfl, rfl⟩ := h236
    have hO := zsf1 hO
    refine zM (zsc hb227) ?_
    refine za ?_
    cases hF
    refine zj ?_
    exact ⟨rfl, _, zr9 zrX, hO, hL⟩
   refine zbw (zse hb227) ?_
   refine zM (zsc hb227) ?_
   refine za ?_
   cases hF
   refine zj ?_
   exact ⟨rfl, _, zr9 zrX, hO, hL⟩
  rintro e σ ⟨_, hA, hO, hL⟩
  rw [← zbc _ _ hA]
  refine za (zE hF rfl (fun hF => ?_) fun hF => ?_)
  ·refine zS (zcF (zY (zbR (zh hO [] [(6, zsa (IntKind.i64.wrap (x188 + 1)))] [0, 1, 4] zrX fun j => ?_))))
   refine zj (zbe (zp (zj (zp ?_))))
   exact ⟨n224, Nat.lt_succ_self _, (IntKind.i64.wrap (x188 + 1)), _, zr9 zrW, hO, hL, hF⟩
  refine zbX (zb1 (zb0 (zp (zo (zd hO 3 [] [(73, zsh A0 p0 c0), (74, zsa p1), (75, zsa x188)] [0, 4, 6] zrZ fun j => ?_)))))
  obtain ⟨y238, g239, hF⟩ := zsg hF
  refine zhv (T := Ty.u8) (r0.le hL) rfl rfl rfl g239 fun _ r240 => ?_
  obtain ⟨A241, c242, rfl, -⟩ := r240.form
  refine zkO (l := y238) (r240.le hO.base) rfl ?_
  refine zh hO [] [(9, .string (⟨y238.toArray⟩ : ByteArray))] [0, 4, 6] zrX fun j => ?_
  refine zo (zd hO 1 [] [(79, .string (⟨y238.toArray⟩ : ByteArray))] [0, 4, 6, 9] zrY fun j => ?_)
  obtain ⟨c243, h244, hF⟩ := zsg hF
  refine zbr hO (zrk (p0 := (⟨y238.toArray⟩ : ByteArray)) h244) rfl fun _ σ _ _ hO h245 h246 => ?_
  have hL := hL.trans h245
  obtain ⟨rfl, rfl⟩ := h246
  have hO := zsf1 hO
  refine zh hO [] [(10, zsa c243.1), (11, .bool c243.2)] [0, 4, 6, 9] zrZ fun j => ?_
  refine zo (zd hO 5 [] [(85, .agg #[(.int .u8 2), (.string (⟨y238.toArray⟩ : ByteArray)), (.int .i64 c243.1), (.int .i64 0)]), (87, .bool c243.2)] [0, 4, 6] zrY fun j => ?_)
  obtain ⟨c247, h248, hF⟩ := zsg hF
  refine zcr 4 (fun e' σ' => ∃ (τ' : Hp), agr [(100, .bool c247), (4, zsb b3), (85, .agg #[(.int .u8 2), (.string (⟨y238.toArray⟩ : ByteArray)), (.int .i64 c243.1), (.int .i64 0)])] e' ∧ Obs τ' σ' [ze0 b3 0 (⟨#[]⟩ : ByteArray) 0 0] ∧ Hp.le τ τ') ?_ ?_
  ·have hF := h248
   rcases zbD hF with ⟨hb249, hF⟩ | ⟨hb249, hF⟩
   ·refine zbv (zse hb249) ?_
    refine zd hO 5 [] [(92, .bool (x188 == (p0.length : Int)))] [0, 4, 6, 85, 87] zrZ fun j => ?_
    rcases zbD hF with ⟨hb250, hF⟩ | ⟨hb250, hF⟩
    ·refine zbw (zsd hb250) ?_
     refine zbv (zse hb249) ?_
     refine zM (zsc hb250) ?_
     refine zM (zsc hb249) ?_
     refine za ?_
     cases hF
     refine zj ?_
     exact ⟨rfl, _, zr9 zrV, hO, hL⟩
    refine zbv (zsd hb250) ?_
    refine zd hO 2 [] [(93, zsh A0 p0 c0), (94, zsa x188)] [4, 85, 87, 92] zrZ fun j => ?_
    obtain ⟨y251, g252, hF⟩ := zsg hF
    refine z7 (T := Ty.u8) (r0.le hL) hO.base rfl rfl g252 (by decide) fun a253 _ k254 m255 => ?_
    obtain rfl : _ = ([.int .u8 y251.toNat] : List Value) := k254
    refine zV rfl (m255.le hO.base).fst ?_
    obtain ⟨c256, h257, hF⟩ := zsg hF
    refine zbr hO (zjl h257) rfl fun _ σ _ _ hO h258 h259 => ?_
    have hL := hL.trans h258
    have m255 := m255.le h258
    obtain ⟨rfl, rfl⟩ := h259
    have hO := zsf1 hO
    refine zbE hO 1 [] [(4, zsb b3), (85, .agg #[(.int .u8 2), (.string (⟨y238.toArray⟩ : ByteArray)), (.int .i64 c243.1), (.int .i64 0)]), (87, .bool c243.2), (92, .bool (x188 == (p0.length : Int))), (98, .bool (!c256))] zrY fun j => ?_
    refine zbv (zse hb249) ?_
    refine zM (zsc hb250) ?_
    refine zM (zsc hb249) ?_
    refine za ?_
    cases hF
    refine zj ?_
    exact ⟨rfl, _, zr9 zrV, hO, hL⟩
   refine zbw (zse hb249) ?_
   refine zbw rfl ?_
   refine zbw (zse hb249) ?_
   refine zM (zsc hb249) ?_
   refine za ?_
   cases hF
   refine zj ?_
   exact ⟨rfl, _, zr9 zrV, hO, hL⟩
  rintro e σ ⟨_, hA, hO, hL⟩
  rw [← zbc _ _ hA]
  refine zs hO (i := 0) rfl (off := 0) rfl rfl rfl rfl (Nat.le_of_ble_eq_true rfl) rfl fun σ hO => ?_
  have hO := zsf1 hO
  refine zh hO [] [(5, .bool c247)] [4] zrV fun j => ?_
  refine zbq (zbm (zU ?_))
  cases hF
  have hV0 := hO.val (i := 0) rfl (off := 0) (agg := true) (n := 4) rfl
  have hO := hO.sel []
  exact hQ _ _ _ _ _ (zbP rfl (hV0) (zdV rfl)) hO hL ⟨rfl, rfl⟩
 refine zS (zj (zbe (zp ?_)))
 obtain ⟨c260, h261, hF⟩ := zsg hF
 refine zbr hO (zqw h261) rfl fun _ σ _ _ hO h262 h263 => ?_
 have hL := hL.trans h262
 obtain ⟨v264, o267, rfl, rfl, w268⟩ := h263
 obtain ⟨A265, c266, rfl, -⟩ := w268.form
 have hO := zsf2 hO
 refine zX hO [] [(0, zsh A0 p0 c0), (1, zsa p1), (4, zsb b3), (12, zsh A265 c260 c266)] zrX fun j => ?_
 refine zo (zh hO [] [(13, zsa 0)] [0, 1, 4, 12] zrY fun j => ?_)
 refine zY (zbY (fun (n : Nat) e' σ' => ∃ (A312 : Option Addr) (c313 : Nat) (o314 : Ob) (x315 : List ByteArray) (x317 : Int) (τ' : Hp), agr [(0, zsh A0 p0 c0), (1, zsa p1), (4, zsb b3), (12, zsh A312 x315 c313), (13, zsa x317)] e' ∧ Obs τ' σ' [ze0 b3 0 (⟨#[]⟩ : ByteArray) 0 0, o314] ∧ Hp.le τ τ' ∧ ze Ty.str 9 τ' (zsh A312 x315 c313) x315 o314 ∧ zi1 p0 p1 n x315 x317 = some rr) big ⟨A265, c266, o267, c260, 0, _, zr9 zrX, hO, hL, w268, hF⟩ ?_)
 clear hF hO hL
 rintro n356 e σ ⟨A312, c313, o314, x315, x317, _, hA, hO, hL, w316, hF⟩
 rw [← zbc _ _ hA]
 cases n356 with
 | zero => exact nomatch (show none = some rr from hF)
 | succ n356 =>
 replace hF : zk0 (zi1 p0 p1 n356) p0 p1 x315 x317 = some rr := hF
 unfold zk0 at hF
 refine zo (zh hO [] [(105, .bool (decide (x317 < (x315.length : Int))))] [0, 1, 4, 12, 13] zrZ fun j => ?_)
 refine zE hF rfl (fun hF => ?_) fun hF => ?_
 ·refine zS (zY (zcD (zd hO 3 [] [(108, zsa p1), (109, zsh A312 x315 c313), (110, zsa x317)] [0, 1, 4, 12, 13] zr1 fun j => ?_)))
  obtain ⟨y358, g359, hF⟩ := zsg hF
  refine zf2 (T := Ty.str) hO w316 (i := 1) rfl rfl rfl g359 (by decide) fun a360 _ k361 m362 i363 => ?_
  have k364 := k361
  obtain rfl : _ = ([.string y358] : List Value) := k364
  refine zV rfl m362.fst ?_
  refine zd hO 6 [] [(118, .bool (decide ((IntKind.i64.wrap (p1 + (y358.size : Int))) ≤ (p0.length : Int))))] [0, 1, 4, 12, 13] zrZ fun j => ?_
  obtain ⟨c365, h366, hF⟩ := zsg hF
  refine zcU 2 [(135, .bool c365), (0, zsh A0 p0 c0), (1, zsa p1), (4, zsb b3), (12, zsh A312 x315 c313), (13, zsa x317)] (fun Q hQ => ?_) fun j => ?_
  ·have hF := h366
   rcases zbD hF with ⟨hb367, hF⟩ | ⟨hb367, hF⟩
   ·refine zbv (zse hb367) ?_
    refine zd hO 5 [] [(119, zsh A0 p0 c0), (120, zsa p1), (121, zsa p1), (122, zsh A312 x315 c313), (123, zsa x317)] [0, 1, 4, 12, 13, 118] zr4 fun j => ?_
    obtain ⟨y368, g369, hF⟩ := zsg hF
    refine zf2 (T := Ty.str) hO w316 (i := 1) rfl rfl rfl g369 (by decide) fun a370 _ k371 m372 i373 => ?_
    have k374 := k371
    obtain rfl : _ = ([.string y368] : List Value) := k374
    refine zV rfl m372.fst ?_
    refine zd hO 2 [] [(127, zsa (IntKind.i64.wrap (p1 + (y368.size : Int))))] [0, 1, 4, 12, 13, 118, 119, 120] zr2 fun j => ?_
    obtain ⟨y375, g376, hF⟩ := zsg hF
    refine zhv (T := Ty.u8) (r0.le hL) rfl rfl rfl g376 fun _ r377 => ?_
    obtain ⟨A378, c379, rfl, -⟩ := r377.form
    refine zkO (l := y375) (r377.le hO.base) rfl ?_
    refine zd hO 2 [] [(130, zsh A312 x315 c313), (131, zsa x317)] [0, 1, 4, 12, 13, 118, 129] zr2 fun j => ?_
    obtain ⟨y380, g381, hF⟩ := zsg hF
    refine zf2 (T := Ty.str) hO w316 (i := 1) rfl rfl rfl g381 (by decide) fun a382 _ k383 m384 i385 => ?_
    have k386 := k383
    obtain rfl : _ = ([.string y380] : List Value) := k386
    refine zV rfl m384.fst ?_
    refine zd hO 1 [] [(134, .bool (zbn (⟨y375.toArray⟩ : ByteArray) y380))] [0, 1, 4, 12, 13, 118] zr0 fun j => ?_
    refine zM (zsc hb367) ?_
    refine za ?_
    cases hF
    refine zj ?_
    exact hQ _ zrZ
   refine zbw (zse hb367) ?_
   refine zM (zsc hb367) ?_
   refine za ?_
   cases hF
   refine zj ?_
   exact hQ _ zrZ
  refine za (zb2 (zE hF rfl (fun hF => ?_) fun hF => ?_))
  ·refine zo (zd hO 2 [] [(136, zsh A312 x315 c313), (137, zsa x317)] [4] zrW fun j => ?_)
   obtain ⟨y388, g389, hF⟩ := zsg hF
   refine zf2 (T := Ty.str) hO w316 (i := 1) rfl rfl rfl g389 (by decide) fun a390 _ k391 m392 i393 => ?_
   have k394 := k391
   obtain rfl : _ = ([.string y388] : List Value) := k394
   refine zV rfl m392.fst ?_
   refine zd hO 1 [] [(140, .agg #[(.int .u8 4), (.string y388), (.int .i64 0), (.int .i64 0)])] [4] zrV fun j => ?_
   refine zs hO (i := 0) rfl (off := 0) rfl rfl rfl rfl (Nat.le_of_ble_eq_true rfl) rfl fun σ hO => ?_
   have hO := zsf2 hO
   refine zh hO [] [(5, .bool true)] [4] zrV fun j => ?_
   refine zbq (zbm (zU (zU (zbm (zU ?_)))))
   cases hF
   have hV0 := hO.val (i := 0) rfl (off := 0) (agg := true) (n := 4) rfl
   have hO := hO.sel []
   exact hQ _ _ _ _ _ (zbP rfl (hV0) (zdV rfl)) hO hL ⟨rfl, rfl⟩
  refine zS (zj (zbe (zp (zbR (zh hO [] [(13, zsa (IntKind.i64.wrap (x317 + 1)))] [0, 1, 4, 12] zrY fun j => ?_)))))
  refine zj (zp ?_)
  exact ⟨n356, Nat.lt_succ_self _, A312, c313, o314, x315, (IntKind.i64.wrap (x317 + 1)), _, zr9 zrX, hO, hL, w316, hF⟩
 refine zbX (zb1 (zb0 (zp (zd hO 1 [] [(141, .agg #[(.int .u8 0), (.string (⟨#[]⟩ : ByteArray)), (.int .i64 0), (.int .i64 0)])] [4] zrV fun j => ?_))))
 refine zs hO (i := 0) rfl (off := 0) rfl rfl rfl rfl (Nat.le_of_ble_eq_true rfl) rfl fun σ hO => ?_
 have hO := zsf2 hO
 refine zh hO [] [(5, .bool false)] [4] zrV fun j => ?_
 refine zbt ?_
 cases hF
 have hV0 := hO.val (i := 0) rfl (off := 0) (agg := true) (n := 4) rfl
 have hO := hO.sel []
 exact hQ _ _ _ _ _ (zbP rfl (hV0) (zdV rfl)) hO hL ⟨rfl, rfl⟩
theorem zra {τ : Hp} {v0 : Value} {p0 : (List UInt8)} (r0 : RdT Ty.u8 τ v0 p0) {rr : (List zr) × Int × Int} (hF : zk1 p0 = some rr) :
  Ctr Try.prog 13 #[v0] τ [] (fun v τ' vs' => ∃ (v0 : Value) (o0 : Ob), v = .tuple #[v0, .int .i64 rr.2.1, .int .i64 rr.2.2] ∧ vs' = [o0] ∧ ze zt 79 τ' v0 rr.1 o0) := by
 obtain ⟨A0, c0, rfl, -⟩ := r0.form
 refine zbI (args := [.slice A0 p0.length c0]) hm Try.func13 s13 rfl fun w0 σ hO Q hQ => ?_
 unfold zk1 at hF
 have hL := Hp.le.refl τ
 show wpn _ _ a13.body _ _ _
 unfold a13
 dsimp only
 refine zh hO [] [] [0] zrU fun j => ?_
 refine zo (zh hO [] [(13, .bool (decide ((p0.length : Int) > 16384)))] [0] zrV fun j => ?_)
 refine zE hF rfl (fun hF => ?_) fun hF => ?_
 ·refine zo (zX hO [] [(2, .slice none 0 0), (3, zsa 0), (4, zsa 11)] zrW fun j => ?_)
  refine zbq ?_
  have hO := hO.no
  have hO := zsf1 hO
  cases hF
  exact hQ _ _ _ _ _ rfl hO hL ⟨_, _, rfl, rfl, (ze.nil _ _ _)⟩
 refine zS (zh hO [] [(5, .slice none 0 0)] [0] zrV fun j => ?_)
 refine zh hO [] [(6, zsa 1)] [0, 5] zrW fun j => ?_
 refine zh hO [] [(7, zsa 0)] [0, 5, 6] zrX fun j => ?_
 refine zd hO 1 [] [(14, zsh A0 p0 c0)] [0, 5, 6, 7] zrY fun j => ?_
 obtain ⟨c3, h4, hF⟩ := zsg hF
 refine zbr hO (zmc (r0.le hL) h4) rfl fun _ σ _ _ hO h5 h6 => ?_
 have hL := hL.trans h5
 obtain ⟨rfl, rfl⟩ := h6
 have hO : Obs _ _ [] := hO
 refine zh hO [] [(8, zsa c3)] [0, 5, 6, 7] zrY fun j => ?_
 refine zY ?_
 have hO := hO.no
 have hO := zsf1 hO
 refine zbY (fun (n : Nat) e' σ' => ∃ (A80 : Option Addr) (c81 : Nat) (o82 : Ob) (x83 : List zr) (x85 x86 x87 : Int) (τ' : Hp), agr [(0, zsh A0 p0 c0), (5, zsh A80 x83 c81), (6, zsa x85), (7, zsa x86), (8, zsa x87)] e' ∧ Obs τ' σ' [o82] ∧ Hp.le τ τ' ∧ ze zt 79 τ' (zsh A80 x83 c81) x83 o82 ∧ zfq p0 n x83 x85 x86 x87 = some rr) big ⟨none, 0, none, [], 1, 0, c3, _, zr9 zrX, hO, hL, ze.nil _ _ _, hF⟩ ?_
 clear hF hO hL
 rintro n168 e σ ⟨A80, c81, o82, x83, x85, x86, x87, _, hA, hO, hL, w84, hF⟩
 rw [← zbc _ _ hA]
 cases n168 with
 | zero => exact nomatch (show none = some rr from hF)
 | succ n168 =>
 replace hF : zkQ (zfq p0 n168) p0 x83 x85 x86 x87 = some rr := hF
 unfold zkQ at hF
 refine zo (zh hO [] [(19, .bool (decide (x87 < (p0.length : Int))))] [0, 5, 6, 7, 8] zrZ fun j => ?_)
 refine zE hF rfl (fun hF => ?_) fun hF => ?_
 ·refine zS (zcF (zY (zY (zbY (fun (n : Nat) e' σ' => ∃ (A197 : Option Addr) (c198 : Nat) (o199 : Ob) (x200 : List zr) (x202 x203 : Int) (τ' : Hp), agr [(0, zsh A0 p0 c0), (5, zsh A197 x200 c198), (6, zsa x202), (7, zsa x203), (8, zsa x87)] e' ∧ Obs τ' σ' [o199] ∧ Hp.le τ τ' ∧ ze zt 79 τ' (zsh A197 x200 c198) x200 o199 ∧ zix (zfq p0 n168) p0 x87 n x200 x202 x203 = some rr) big ⟨A80, c81, o82, x83, x85, x86, _, zr9 zrX, hO, hL, w84, hF⟩ ?_))))
  clear hF hO hL
  rintro n226 e σ ⟨A197, c198, o199, x200, x202, x203, _, hA, hO, hL, w201, hF⟩
  rw [← zbc _ _ hA]
  cases n226 with
  | zero => exact nomatch (show none = some rr from hF)
  | succ n226 =>
  replace hF : zjK (zix (zfq p0 n168) p0 x87 n226) (zfq p0 n168) p0 x87 x200 x202 x203 = some rr := hF
  unfold zjK at hF
  refine zo (zh hO [] [(22, .bool (decide (x203 < x87)))] [0, 5, 6, 7, 8] zrZ fun j => ?_)
  refine zE hF rfl (fun hF => ?_) fun hF => ?_
  ·refine zS (zY (zd hO 2 [] [(25, zsh A0 p0 c0), (26, zsa x203)] [0, 5, 6, 7, 8] zr0 fun j => ?_))
   obtain ⟨y228, g229, hF⟩ := zsg hF
   refine z7 (T := Ty.u8) (r0.le hL) hO.base rfl rfl g229 (by decide) fun a230 _ k231 m232 => ?_
   obtain rfl : _ = ([.int .u8 y228.toNat] : List Value) := k231
   refine zV rfl (m232.le hO.base).fst ?_
   refine zh hO [] [(29, .bool ((y228.toNat : Int) == 10))] [0, 5, 6, 7, 8] zrZ fun j => ?_
   refine zb2 (zE hF rfl (fun hF => ?_) fun hF => ?_)
   ·refine zh hO [] [(6, zsa (IntKind.i64.wrap (x202 + 1)))] [0, 5, 7, 8] zrY fun j => ?_
    refine zj (zbe (zp (zbR (zh hO [] [(7, zsa (IntKind.i64.wrap (x203 + 1)))] [0, 5, 6, 8] zrY fun j => ?_))))
    refine zj (zp ?_)
    exact ⟨n226, Nat.lt_succ_self _, A197, c198, o199, x200, (IntKind.i64.wrap (x202 + 1)), (IntKind.i64.wrap (x203 + 1)), _, zr9 zrX, hO, hL, w201, hF⟩
   refine zS (zj (zbe (zp (zbR (zh hO [] [(7, zsa (IntKind.i64.wrap (x203 + 1)))] [0, 5, 6, 8] zrY fun j => ?_)))))
   refine zj (zp ?_)
   exact ⟨n226, Nat.lt_succ_self _, A197, c198, o199, x200, x202, (IntKind.i64.wrap (x203 + 1)), _, zr9 zrX, hO, hL, w201, hF⟩
  refine zbX (zb1 (zb0 (zp (zd hO 2 [] [(33, zsh A0 p0 c0), (34, zsa x87)] [0, 5, 6, 7, 8] zr0 fun j => ?_))))
  obtain ⟨c234, h235, hF⟩ := zsg hF
  refine zbr hO (zpU (r0.le hL) h235) rfl fun _ σ _ _ hO h236 h237 => ?_
  have hL := hL.trans h236
  have w201 := w201.le h236
  obtain ⟨rfl, rfl⟩ := h237
  have hO := zsf1 hO
  refine zd hO 3 [] [(36, .agg #[(.int .u8 (c234.1.Kind.toNat : Int)), (.string c234.1.Text), (.int .i64 c234.1.Num), (.int .i64 c234.1.Line)]), (37, .bool c234.2)] [0, 5, 6, 7, 8] zr0 fun j => ?_
  refine zbg hO fun b238 σ hO => ?_
  have hO := zsf2 hO
  refine zs hO (i := 1) rfl (off := 0) rfl rfl rfl rfl (Nat.le_of_ble_eq_true rfl) rfl fun σ hO => ?_
  have hO := zsf2 hO
  refine zh hO [] [(10, .bool c234.2)] [0, 5, 6, 7, 8, 9] zr0 fun j => ?_
  refine zo (zh hO [] [(39, .bool (!c234.2))] [0, 5, 6, 7, 8, 9] zr0 fun j => ?_)
  refine zE hF rfl (fun hF => ?_) fun hF => ?_
  ·refine zo (zX hO [] [(2, .slice none 0 0), (3, zsa x202), (4, zsa 6)] zrW fun j => ?_)
   refine zbq (zbm (zU (zU (zbm (zU ?_)))))
   have hO := hO.no
   have hO := zsf3 hO
   cases hF
   have hO := hO.sel [2]
   exact hQ _ _ _ _ _ rfl hO hL ⟨_, _, rfl, rfl, (ze.nil _ _ _)⟩
  refine zS (zd hO 2 [] [(41, zsa x202), (42, .pointer (some ⟨b238, 3, none⟩))] [0, 5, 6, 7, 8, 9] zr1 fun j => ?_)
  refine zs hO (i := 1) rfl (off := 3) rfl rfl rfl rfl (Nat.le_of_ble_eq_true rfl) rfl fun σ hO => ?_
  have hO := zsf2 hO
  refine za (zd hO 2 [1] [(43, zsh A197 x200 c198), (44, .agg #[(.int .u8 (c234.1.Kind.toNat : Int)), (.string c234.1.Text), (.int .i64 c234.1.Num), (.int .i64 x202)])] [0, 6, 7, 8, 9] (And.intro (And.intro rfl rfl) zr0) fun j => ?_)
  obtain ⟨_, hr244, hF⟩ := zsg hF
  refine zmo (T := zt) (y := (⟨c234.1.Kind, c234.1.Text, c234.1.Num, x202⟩ : zr)) hO w201 (i := 0) rfl rfl (fun _ => rfl) rfl rfl rfl hr244 (by decide) fun u _ σ o242 w243 hO => ?_
  obtain ⟨A240, c241, rfl, -⟩ := w243.form
  have hO := zsf2 hO
  refine zh hO [] [(5, zsh A240 (x200 ++ [(⟨c234.1.Kind, c234.1.Text, c234.1.Num, x202⟩ : zr)]) c241)] [0, 6, 7, 8, 9] zrZ fun j => ?_
  refine zbR (zbE hO 6 [1] [(0, zsh A0 p0 c0), (5, zsh A240 (x200 ++ [(⟨c234.1.Kind, c234.1.Text, c234.1.Num, x202⟩ : zr)]) c241), (6, zsa x202), (7, zsa x203), (47, zsh A0 p0 c0), (52, zsa (IntKind.i64.wrap (x87 + (c234.1.Text.size : Int))))] (And.intro (And.intro rfl rfl) zrZ) fun j => ?_)
  obtain ⟨c245, h246, hF⟩ := zsg hF
  refine zbr hO (zmc (r0.le hL) h246) rfl fun _ σ _ _ hO h247 h248 => ?_
  have hL := hL.trans h247
  have w243 := w243.le h247
  obtain ⟨rfl, rfl⟩ := h248
  have hO := zsf2 hO
  refine zh hO [] [(8, zsa c245)] [0, 5, 6, 7] zrY fun j => ?_
  refine zj (zbe (zp (zj (zp ?_))))
  have hO := hO.sel [0]
  exact ⟨n168, Nat.lt_succ_self _, A240, c241, o242, (x200 ++ [(⟨c234.1.Kind, c234.1.Text, c234.1.Num, x202⟩ : zr)]), x202, x203, c245, _, zr9 zrX, hO, hL, w243, hF⟩
 refine zbX (zb1 (zb0 (zp (zX hO [] [(2, zsh A80 x83 c81), (3, zsa 0), (4, zsa 0)] zrW fun j => ?_))))
 refine zbt ?_
 cases hF
 exact hQ _ _ _ _ _ rfl hO hL ⟨_, _, rfl, rfl, w84⟩
theorem zl8 {τ : Hp} {p0 : ByteArray}  {rr : (List zr)} (hF : ziZ p0 = some rr) :
  Ctr Try.prog 17 #[.string p0] τ [] (fun v τ' vs' => ∃ (v0 : Value) (o0 : Ob), v = v0 ∧ vs' = [o0] ∧ ze zt 79 τ' v0 rr o0) := by
 refine zbI (args := [.string p0]) hm Try.func17 s17 rfl fun w0 σ hO Q hQ => ?_
 unfold ziZ at hF
 have hL := Hp.le.refl τ
 show wpn _ _ a17.body _ _ _
 unfold a17
 dsimp only
 refine zh hO [] [] [0] zrU fun j => ?_
 refine zbE hO 1 [] [(7, .string p0)] zrU fun j => ?_
 refine zp5 hO rfl fun _ σ _ hO h5 r2 => ?_
 have hL := hL.trans h5
 obtain ⟨A3, c4, rfl, -⟩ := r2.form
 obtain ⟨c6, h7, hF⟩ := zsg hF
 refine zbr hO (zra r2 h7) rfl fun _ σ _ _ hO h8 h9 => ?_
 have hL := hL.trans h8
 have r2 := r2.le h8
 obtain ⟨v10, o13, rfl, rfl, w14⟩ := h9
 obtain ⟨A11, c12, rfl, -⟩ := w14.form
 have hO := zsf1 hO
 refine zX hO [] [(3, zsh A11 c6.1 c12)] zrU fun j => ?_
 refine zX hO [] [(2, zsh A11 c6.1 c12)] zrU fun j => ?_
 refine zbt ?_
 cases hF
 exact hQ _ _ _ _ _ rfl hO hL ⟨_, _, rfl, rfl, w14⟩
theorem zgn {τ : Hp}   {rr : Bool} (hF : zey  = some rr) :
  Ctr Try.prog 8 #[] τ [] (fun v τ' vs' => v = .bool rr ∧ vs' = []) := by
 refine zbI (args := []) hm Try.func8 s8 rfl fun w0 σ hO Q hQ => ?_
 unfold zey at hF
 have hL := Hp.le.refl τ
 show wpn _ _ a8.body _ _ _
 unfold a8
 dsimp only
 refine zX hO [] [] (trivial) fun j => ?_
 obtain ⟨c1, h2, hF⟩ := zsg hF
 refine zbr hO (zl8 (p0 := (⟨#[102, 117, 110, 99, 32, 109, 97, 105, 110, 40, 41, 32, 123, 32, 120, 32, 61, 32, 49, 32, 45, 32, 50, 32, 45, 32, 51, 32, 42, 32, 45, 121, 59, 32, 125]⟩ : ByteArray)) h2) rfl fun _ σ _ _ hO h3 h4 => ?_
 have hL := hL.trans h3
 obtain ⟨v5, o8, rfl, rfl, w9⟩ := h4
 obtain ⟨A6, c7, rfl, -⟩ := w9.form
 have hO := zsf1 hO
 obtain ⟨_, h11, r10, hO⟩ := w9.share hO (i := 0) rfl
 have hL := hL.trans h11
 have hO := zsf1 hO
 obtain ⟨c12, h13, hF⟩ := zsg hF
 refine zbr hO (zgB r10 h13) rfl fun _ σ _ _ hO h14 h15 => ?_
 have hL := hL.trans h14
 have r10 := r10.le h14
 obtain ⟨v16, v20, rfl, rfl, r17, r21⟩ := h15
 obtain ⟨A18, c19, rfl, -⟩ := r17.form
 obtain ⟨A22, c23, rfl, -⟩ := r21.form
 have hO := zsf1 hO
 refine zbE hO 4 [] [(11, .agg #[(zsh A18 c12.1.Structs c19), (zsh A22 c12.1.Funcs c23)]), (12, zsa c12.2.1), (13, zsa c12.2.2)] zrW fun j => ?_
 refine zbg hO fun b24 σ hO => ?_
 have hO := zsf2 hO
 refine zs hO (i := 1) rfl (off := 0) rfl rfl rfl rfl (Nat.le_of_ble_eq_true rfl) rfl fun σ hO => ?_
 have hO := zsf2 hO
 refine zh hO [] [(2, zsa c12.2.1), (3, zsa c12.2.2)] [1] zrW fun j => ?_
 obtain ⟨c25, h26, hF⟩ := zsg hF
 refine zbr hO (zl8 (p0 := (⟨#[102, 117, 110, 99, 32, 109, 97, 105, 110, 40, 41, 32, 123, 32, 120, 32, 61, 32, 102, 40, 49, 41, 32, 43, 32, 50, 59, 32, 125]⟩ : ByteArray)) h26) rfl fun _ σ _ _ hO h27 h28 => ?_
 have hL := hL.trans h27
 have r17 := r17.le h27
 have r21 := r21.le h27
 obtain ⟨v29, o32, rfl, rfl, w33⟩ := h28
 obtain ⟨A30, c31, rfl, -⟩ := w33.form
 have hO := zsf3 hO
 obtain ⟨_, h35, r34, hO⟩ := w33.share hO (i := 2) rfl
 have hL := hL.trans h35
 have r17 := r17.le h35
 have r21 := r21.le h35
 have hO := zsf3 hO
 obtain ⟨c36, h37, hF⟩ := zsg hF
 refine zbr hO (zgB r34 h37) rfl fun _ σ _ _ hO h38 h39 => ?_
 have hL := hL.trans h38
 have r34 := r34.le h38
 have r17 := r17.le h38
 have r21 := r21.le h38
 obtain ⟨v40, v44, rfl, rfl, r41, r45⟩ := h39
 obtain ⟨A42, c43, rfl, -⟩ := r41.form
 obtain ⟨A46, c47, rfl, -⟩ := r45.form
 have hO := zsf3 hO
 refine zd hO 4 [] [(17, .agg #[(zsh A42 c36.1.Structs c43), (zsh A46 c36.1.Funcs c47)]), (18, zsa c36.2.1), (19, zsa c36.2.2)] [1, 2, 3] zrZ fun j => ?_
 refine zbg hO fun b48 σ hO => ?_
 have hO := zsf4 hO
 refine zs hO (i := 3) rfl (off := 0) rfl rfl rfl rfl (Nat.le_of_ble_eq_true rfl) rfl fun σ hO => ?_
 have hO := zsf4 hO
 refine zh hO [] [(5, zsa c36.2.1), (6, zsa c36.2.2)] [1, 2, 3] zrY fun j => ?_
 refine zo (zd hO 9 [1] [(32, .bool (((c12.2.2 != 0) || (c12.2.1 != 0)) || ((c12.1.Funcs.length : Int) != 1)))] [1, 5, 6] (And.intro (And.intro rfl rfl) (fun _ => And.intro (And.intro rfl rfl) (And.intro (And.intro rfl rfl) (fun _ => zr9 zrW)))) fun j => ?_)
 obtain ⟨c49, h50, hF⟩ := zsg hF
 refine zcU 2 [(40, .bool c49), (1, zsb b24), (5, zsa c36.2.1), (6, zsa c36.2.2)] (fun Q hQ => ?_) fun j => ?_
 ·have hF := h50
  rcases zbD hF with ⟨hb51, hF⟩ | ⟨hb51, hF⟩
  ·refine zbw (zsd hb51) ?_
   refine zM (zsc hb51) ?_
   refine za ?_
   cases hF
   refine zj ?_
   exact hQ _ zrX
  refine zbv (zsd hb51) ?_
  refine zd hO 2 [1] [(34, zsh A22 c12.1.Funcs c23)] [1, 5, 6, 32] (And.intro (And.intro rfl rfl) zrY) fun j => ?_
  obtain ⟨y52, g53, hF⟩ := zsg hF
  refine z7 (T := zk) r21 hO.base rfl rfl g53 (by decide) fun a54 _ k55 m56 => ?_
  obtain ⟨v57, v61, rfl, r58, r62⟩ := k55
  obtain ⟨A59, c60, rfl, -⟩ := r58.form
  obtain ⟨A63, c64, rfl, -⟩ := r62.form
  refine zd hO 1 [] [(36, .pointer (some (a54.add 6)))] [1, 5, 6, 32] zrY fun j => ?_
  refine zV rfl ((m56.le hO.base).one 6 rfl) ?_
  refine zd hO 2 [] [(39, .bool ((y52.Body.length : Int) != 1))] [1, 5, 6, 32] zrY fun j => ?_
  refine zM (zsc hb51) ?_
  refine za ?_
  cases hF
  refine zj ?_
  exact hQ _ zrX
 refine zd hO 1 [] [(41, .bool c49)] [1, 5, 6] zrX fun j => ?_
 obtain ⟨c65, h66, hF⟩ := zsg hF
 refine zcU 2 [(52, .bool c65), (1, zsb b24), (5, zsa c36.2.1), (6, zsa c36.2.2)] (fun Q hQ => ?_) fun j => ?_
 ·have hF := h66
  rcases zbD hF with ⟨hb67, hF⟩ | ⟨hb67, hF⟩
  ·refine zbw (zsd hb67) ?_
   refine zM (zsc hb67) ?_
   refine za ?_
   cases hF
   refine zj ?_
   exact hQ _ zrX
  refine zbv (zsd hb67) ?_
  refine zd hO 2 [1] [(43, zsh A22 c12.1.Funcs c23)] [1, 5, 6, 41] (And.intro (And.intro rfl rfl) zrY) fun j => ?_
  obtain ⟨y68, g69, hF⟩ := zsg hF
  refine z7 (T := zk) r21 hO.base rfl rfl g69 (by decide) fun a70 _ k71 m72 => ?_
  obtain ⟨v73, v77, rfl, r74, r78⟩ := k71
  obtain ⟨A75, c76, rfl, -⟩ := r74.form
  obtain ⟨A79, c80, rfl, -⟩ := r78.form
  refine zd hO 1 [] [(45, .pointer (some (a70.add 6)))] [1, 5, 6, 41] zrY fun j => ?_
  refine zV rfl ((m72.le hO.base).one 6 rfl) ?_
  obtain ⟨y81, g82, hF⟩ := zsg hF
  refine z7 (T := zJ) r78 hO.base rfl rfl g82 (by decide) fun a83 _ k84 m85 => ?_
  obtain ⟨v86, v90, v94, rfl, r87, r91, r95⟩ := zgp k84
  obtain ⟨A88, c89, rfl, -⟩ := r87.form
  obtain ⟨A92, c93, rfl, -⟩ := r91.form
  obtain ⟨A96, c97, rfl, -⟩ := r95.form
  refine zd hO 1 [] [(48, .pointer (some (a83.add 8)))] [1, 5, 6, 41] zrY fun j => ?_
  refine zV rfl ((m85.le hO.base).one 8 rfl) ?_
  refine zbE hO 2 [] [(1, zsb b24), (5, zsa c36.2.1), (6, zsa c36.2.2), (41, .bool c49), (51, .bool ((y81.Kids.length : Int) != 1))] zrY fun j => ?_
  refine zM (zsc hb67) ?_
  refine za ?_
  cases hF
  refine zj ?_
  exact hQ _ zrX
 refine za (zE hF rfl (fun hF => ?_) fun hF => ?_)
 ·refine zo (zX hO [] [(0, .bool false)] zrU fun j => ?_)
  refine zbq ?_
  cases hF
  have hO := hO.sel []
  exact hQ _ _ _ _ _ rfl hO hL ⟨rfl, rfl⟩
 refine zS (zd hO 2 [1] [(54, zsh A22 c12.1.Funcs c23)] [5, 6] (And.intro (And.intro rfl rfl) zrW) fun j => ?_)
 obtain ⟨y99, g100, hF⟩ := zsg hF
 refine z7 (T := zk) r21 hO.base rfl rfl g100 (by decide) fun a101 _ k102 m103 => ?_
 obtain ⟨v104, v108, rfl, r105, r109⟩ := k102
 obtain ⟨A106, c107, rfl, -⟩ := r105.form
 obtain ⟨A110, c111, rfl, -⟩ := r109.form
 refine zd hO 1 [] [(56, .pointer (some (a101.add 6)))] [5, 6] zrW fun j => ?_
 refine zV rfl ((m103.le hO.base).one 6 rfl) ?_
 obtain ⟨y112, g113, hF⟩ := zsg hF
 refine z7 (T := zJ) r109 hO.base rfl rfl g113 (by decide) fun a114 _ k115 m116 => ?_
 obtain ⟨v117, v121, v125, rfl, r118, r122, r126⟩ := zgp k115
 obtain ⟨A119, c120, rfl, -⟩ := r118.form
 obtain ⟨A123, c124, rfl, -⟩ := r122.form
 obtain ⟨A127, c128, rfl, -⟩ := r126.form
 refine zd hO 1 [] [(59, .pointer (some (a114.add 8)))] [5, 6] zrW fun j => ?_
 refine zV rfl ((m116.le hO.base).one 8 rfl) ?_
 obtain ⟨y129, g130, hF⟩ := zsg hF
 refine z7 (T := zC) r118 hO.base rfl rfl g130 (by decide) fun a131 _ k132 m133 => ?_
 obtain ⟨v134, rfl, r135⟩ := zcB k132
 obtain ⟨A136, c137, rfl, -⟩ := r135.form
 refine zV rfl ((m133.le hO.base).all rfl) ?_
 refine zbg hO fun b138 σ hO => ?_
 have hO := zsf5 hO
 refine zs hO (i := 4) rfl (off := 0) rfl rfl rfl rfl (Nat.le_of_ble_eq_true rfl) rfl fun σ hO => ?_
 have hO := zsf5 hO
 refine za (zbE hO 7 [4, 4] [(5, zsa c36.2.1), (6, zsa c36.2.2), (7, zsb b138), (72, .bool ((zbn y129.Op (⟨#[45]⟩ : ByteArray)) && ((y129.Kids.length : Int) == 2)))] (And.intro (And.intro rfl rfl) (And.intro (And.intro rfl rfl) (And.intro (And.intro rfl rfl) (fun _ => zr9 zrW)))) fun j => ?_)
 obtain ⟨c139, h140, hF⟩ := zsg hF
 refine zcU 2 [(79, .bool c139), (5, zsa c36.2.1), (6, zsa c36.2.2), (7, zsb b138)] (fun Q hQ => ?_) fun j => ?_
 ·have hF := h140
  rcases zbD hF with ⟨hb141, hF⟩ | ⟨hb141, hF⟩
  ·refine zbv (zse hb141) ?_
   refine zd hO 2 [4] [(74, zsh A136 y129.Kids c137)] [5, 6, 7, 72] (And.intro (And.intro rfl rfl) zrY) fun j => ?_
   obtain ⟨y142, g143, hF⟩ := zsg hF
   refine z7 (T := zC) r135 hO.base rfl rfl g143 (by decide) fun a144 _ k145 m146 => ?_
   obtain ⟨v147, rfl, r148⟩ := zcB k145
   obtain ⟨A149, c150, rfl, -⟩ := r148.form
   refine zd hO 1 [] [(76, .pointer (some (a144.add 4)))] [5, 6, 7, 72] zrY fun j => ?_
   refine zV rfl ((m146.le hO.base).one 4 rfl) ?_
   refine zd hO 1 [] [(78, .bool (zbn y142.Op (⟨#[45]⟩ : ByteArray)))] [5, 6, 7, 72] zrY fun j => ?_
   refine zM (zsc hb141) ?_
   refine za ?_
   cases hF
   refine zj ?_
   exact hQ _ zrX
  refine zbw (zse hb141) ?_
  refine zM (zsc hb141) ?_
  refine za ?_
  cases hF
  refine zj ?_
  exact hQ _ zrX
 refine zd hO 1 [] [(80, .bool c139)] [5, 6, 7] zrX fun j => ?_
 obtain ⟨c151, h152, hF⟩ := zsg hF
 refine zcU 2 [(87, .bool c151), (5, zsa c36.2.1), (6, zsa c36.2.2)] (fun Q hQ => ?_) fun j => ?_
 ·have hF := h152
  rcases zbD hF with ⟨hb153, hF⟩ | ⟨hb153, hF⟩
  ·refine zbv (zse hb153) ?_
   refine zd hO 2 [4] [(82, zsh A136 y129.Kids c137)] [5, 6, 80] (And.intro (And.intro rfl rfl) zrX) fun j => ?_
   obtain ⟨y154, g155, hF⟩ := zsg hF
   refine z7 (T := zC) r135 hO.base rfl rfl g155 (by decide) fun a156 _ k157 m158 => ?_
   obtain ⟨v159, rfl, r160⟩ := zcB k157
   obtain ⟨A161, c162, rfl, -⟩ := r160.form
   refine zd hO 1 [] [(84, .pointer (some (a156.add 4)))] [5, 6, 80] zrX fun j => ?_
   refine zV rfl ((m158.le hO.base).one 4 rfl) ?_
   refine zd hO 1 [] [(86, .bool (zbn y154.Op (⟨#[42]⟩ : ByteArray)))] [5, 6, 80] zrX fun j => ?_
   refine zM (zsc hb153) ?_
   refine za ?_
   cases hF
   refine zj ?_
   exact hQ _ zrW
  refine zbw (zse hb153) ?_
  refine zM (zsc hb153) ?_
  refine za ?_
  cases hF
  refine zj ?_
  exact hQ _ zrW
 refine zX hO [] [(0, .bool ((c151 && (c36.2.1 == 11)) && (c36.2.2 == 7)))] (And.intro (And.intro rfl rfl) (fun _ => And.intro (And.intro rfl rfl) (fun _ => zr9 trivial))) fun j => ?_
 refine zbt ?_
 cases hF
 have hO := hO.sel []
 exact hQ _ _ _ _ _ rfl hO hL ⟨rfl, rfl⟩
end Go.Proofs.Ytnhboaaikehpoaa
