import Derived.Test.YtnhboaaikehpoaaF
import Derived.Test.YtnhboaaikehpoaaM00
import Derived.Test.YtnhboaaikehpoaaM01
namespace Go.Proofs.Ytnhboaaikehpoaa
open Go.Ab Go.RowKit
set_option linter.unusedVariables false
set_option linter.unusedSimpArgs false
set_option maxRecDepth 10000
set_option maxHeartbeats 1000000
theorem zqi {τ : Hp} {v0 : Value} {p0 : (List ByteArray)} {p1 : ByteArray} (r0 : RdT Ty.str τ v0 p0) {rr : Int} (hF : zh5 p0 p1 = some rr) :
  Ctr Try.prog 82 #[v0, .string p1] τ [] (fun v τ' vs' => v = .int .i64 rr ∧ vs' = []) := by
 obtain ⟨A0, c0, rfl, -⟩ := r0.form
 refine zbI (args := [.slice A0 p0.length c0, .string p1]) hm Try.func82 s82 rfl fun w0 σ hO Q hQ => ?_
 unfold zh5 at hF
 have hL := Hp.le.refl τ
 show wpn _ _ a82.body _ _ _
 unfold a82
 dsimp only
 refine zh hO [] [] [0, 1] zrV fun j => ?_
 refine zo (zh hO [] [(7, zsa (p0.length : Int)), (8, zsa 0)] [0, 1] zrX fun j => ?_)
 refine zY (zbY (fun (n : Nat) e' σ' => ∃ (x10 : Int) (τ' : Hp), agr [(0, zsh A0 p0 c0), (1, .string p1), (7, zsa (p0.length : Int)), (8, zsa x10)] e' ∧ Obs τ' σ' [] ∧ Hp.le τ τ' ∧ zgb p0 p1 n x10 = some rr) big ⟨0, _, zr9 zrW, hO, hL, hF⟩ ?_)
 clear hF hO hL
 rintro n18 e σ ⟨x10, _, hA, hO, hL, hF⟩
 rw [← zbc _ _ hA]
 cases n18 with
 | zero => exact nomatch (show none = some rr from hF)
 | succ n18 =>
 replace hF : zgJ (zgb p0 p1 n18) p0 p1 x10 = some rr := hF
 unfold zgJ at hF
 refine zh hO [] [(9, .bool (decide (x10 < (p0.length : Int))))] [0, 1, 7, 8] zrY fun j => ?_
 refine zE hF rfl (fun hF => ?_) fun hF => ?_
 ·refine zS (zY (zh hO [] [(5, zsa x10)] [0, 1, 7, 8] zrY fun j => ?_))
  refine zd hO 3 [] [(11, .string p1), (12, zsh A0 p0 c0), (13, zsa x10)] [0, 1, 5, 7, 8] zr1 fun j => ?_
  obtain ⟨y20, g21, hF⟩ := zsg hF
  refine z7 (T := Ty.str) (r0.le hL) hO.base rfl rfl g21 (by decide) fun a22 _ k23 m24 => ?_
  obtain rfl : _ = ([.string y20] : List Value) := k23
  refine zV rfl (m24.le hO.base).fst ?_
  refine zh hO [] [(16, .bool (zbn p1 y20))] [0, 1, 5, 7, 8] zrZ fun j => ?_
  refine zb2 (zE hF rfl (fun hF => ?_) fun hF => ?_)
  ·refine zo (zX hO [] [(4, zsa x10)] zrU fun j => ?_)
   refine zbq (zbm (zU (zU (zbm (zU ?_)))))
   cases hF
   exact hQ _ _ _ _ _ rfl hO hL ⟨rfl, rfl⟩
  refine zS (zj (zbe (zp (zbR (zh hO [] [(8, zsa (IntKind.i64.wrap (x10 + 1)))] [0, 1, 7] zrX fun j => ?_)))))
  refine zj (zp ?_)
  exact ⟨n18, Nat.lt_succ_self _, (IntKind.i64.wrap (x10 + 1)), _, zr9 zrW, hO, hL, hF⟩
 refine zbX (zb1 (zb0 (zp (zX hO [] [(4, zsa (-1))] zrU fun j => ?_))))
 refine zbt ?_
 cases hF
 exact hQ _ _ _ _ _ rfl hO hL ⟨rfl, rfl⟩
theorem zmi {τ : Hp} {v0 : Value} {p0 : (List ByteArray)} {p1 : ByteArray} (r0 : RdT Ty.str τ v0 p0) {rr : Bool} (hF : zgc p0 p1 = some rr) :
  Ctr Try.prog 77 #[v0, .string p1] τ [] (fun v τ' vs' => v = .bool rr ∧ vs' = []) := by
 obtain ⟨A0, c0, rfl, -⟩ := r0.form
 refine zbI (args := [.slice A0 p0.length c0, .string p1]) hm Try.func77 s77 rfl fun w0 σ hO Q hQ => ?_
 unfold zgc at hF
 have hL := Hp.le.refl τ
 show wpn _ _ a77.body _ _ _
 unfold a77
 dsimp only
 refine zh hO [] [] [0, 1] zrV fun j => ?_
 refine zbE hO 2 [] [(5, zsh A0 p0 c0), (6, .string p1)] zrV fun j => ?_
 obtain ⟨c3, h4, hF⟩ := zsg hF
 refine zbr hO (zqi (r0.le hL) h4) rfl fun _ σ _ _ hO h5 h6 => ?_
 have hL := hL.trans h5
 obtain ⟨rfl, rfl⟩ := h6
 have hO : Obs _ _ [] := hO
 refine zX hO [] [(4, .bool (decide (c3 ≥ 0)))] zrU fun j => ?_
 refine zbt ?_
 cases hF
 exact hQ _ _ _ _ _ rfl hO hL ⟨rfl, rfl⟩
theorem zpA {τ : Hp} {q0 : zbf} {bm0 : Nat} {vm0_0 : Value} {p1 : Int} {v2 : Value} {p2 : (List ByteArray)} (rm0_0 : RdT zt τ vm0_0 q0.tokens) (r2 : RdT Ty.str τ v2 p2) {rr : Bool} (hF : zgN q0 p1 p2 = some rr) :
  Ctr Try.prog 62 #[.pointer (some ⟨bm0, 0, none⟩), .int .u8 p1, v2] τ [some (bm0, ⟨[vm0_0, .int .i64 q0.at_], 58, 2, true⟩)] (fun v τ' vs' => v = .bool rr ∧ vs' = [some (bm0, ⟨[vm0_0, .int .i64 q0.at_], 58, 2, true⟩)]) := by
 obtain ⟨Am0_0, cm0_0, rfl, -⟩ := rm0_0.form
 obtain ⟨A2, c2, rfl, -⟩ := r2.form
 refine zbI (args := [.pointer (some ⟨bm0, 0, none⟩), .int .u8 p1, .slice A2 p2.length c2]) hm Try.func62 s62 rfl fun w0 σ hO Q hQ => ?_
 unfold zgN at hF
 have hL := Hp.le.refl τ
 show wpn _ _ a62.body _ _ _
 unfold a62
 dsimp only
 refine zh hO [] [] [0, 1, 2] zrW fun j => ?_
 refine zo (zcD (zd hO 11 [0, 0] [(17, .bool (decide (q0.at_ ≥ (q0.tokens.length : Int))))] [0, 1, 2] (And.intro (And.intro rfl rfl) (And.intro (And.intro rfl rfl) zrX)) fun j => ?_))
 obtain ⟨c4, h5, hF⟩ := zsg hF
 refine zcU 2 [(31, .bool c4), (0, zsb bm0), (2, zsh A2 p2 c2)] (fun Q hQ => ?_) fun j => ?_
 ·have hF := h5
  rcases zbD hF with ⟨hb6, hF⟩ | ⟨hb6, hF⟩
  ·refine zbw (zsd hb6) ?_
   refine zM (zsc hb6) ?_
   refine za ?_
   cases hF
   refine zj ?_
   exact hQ _ zrW
  refine zbv (zsd hb6) ?_
  refine zd hO 8 [0, 0] [(21, zsh Am0_0 q0.tokens cm0_0), (25, zsa q0.at_)] [0, 1, 2, 17] (And.intro (And.intro rfl rfl) (And.intro (And.intro rfl rfl) zrZ)) fun j => ?_
  obtain ⟨y7, g8, hF⟩ := zsg hF
  refine z7 (T := zt) (rm0_0.le hL) hO.base rfl rfl g8 (by decide) fun a9 _ k10 m11 => ?_
  obtain rfl : _ = ([.int .u8 y7.Kind.toNat, .string y7.Text, .int .i64 y7.Num, .int .i64 y7.Line] : List Value) := k10
  refine zd hO 1 [] [(27, .pointer (some a9))] [0, 1, 2, 17] zrY fun j => ?_
  refine zV rfl (m11.le hO.base).fst ?_
  refine zd hO 2 [] [(30, .bool ((y7.Kind.toNat : Int) != p1))] [0, 2, 17] zrX fun j => ?_
  refine zM (zsc hb6) ?_
  refine za ?_
  cases hF
  refine zj ?_
  exact hQ _ zrW
 refine za (zE hF rfl (fun hF => ?_) fun hF => ?_)
 ·refine zo (zh hO [] [(6, .bool false)] [0] zrV fun j => ?_)
  refine zbq ?_
  cases hF
  exact hQ _ _ _ _ _ rfl hO hL ⟨rfl, rfl⟩
 refine zS (zcD (zd hO 4 [] [(35, .bool ((p2.length : Int) == 0))] [0, 2] zrW fun j => ?_))
 obtain ⟨c13, h14, hF⟩ := zsg hF
 refine zcr 2 (fun e' σ' => ∃ (τ' : Hp), agr [(49, .bool c13), (0, zsb bm0)] e' ∧ Obs τ' σ' [some (bm0, ⟨[zsh Am0_0 q0.tokens cm0_0, .int .i64 q0.at_], 58, 2, true⟩)] ∧ Hp.le τ τ') ?_ ?_
 ·have hF := h14
  rcases zbD hF with ⟨hb15, hF⟩ | ⟨hb15, hF⟩
  ·refine zbw (zsd hb15) ?_
   refine zM (zsc hb15) ?_
   refine za ?_
   cases hF
   refine zj ?_
   exact ⟨rfl, _, zr9 zrU, hO, hL⟩
  refine zbv (zsd hb15) ?_
  refine zd hO 9 [0, 0] [(36, zsh A2 p2 c2), (40, zsh Am0_0 q0.tokens cm0_0), (44, zsa q0.at_)] [0, 35] (And.intro (And.intro rfl rfl) (And.intro (And.intro rfl rfl) zrY)) fun j => ?_
  obtain ⟨y16, g17, hF⟩ := zsg hF
  refine z7 (T := zt) (rm0_0.le hL) hO.base rfl rfl g17 (by decide) fun a18 _ k19 m20 => ?_
  obtain rfl : _ = ([.int .u8 y16.Kind.toNat, .string y16.Text, .int .i64 y16.Num, .int .i64 y16.Line] : List Value) := k19
  refine zd hO 1 [] [(46, .pointer (some (a18.add 1)))] [0, 35, 36] zrX fun j => ?_
  refine zV rfl ((m20.le hO.base).one 1 rfl) ?_
  obtain ⟨c21, h22, hF⟩ := zsg hF
  refine zbr hO (zmi (r2.le hL) h22) rfl fun _ σ _ _ hO h23 h24 => ?_
  have hL := hL.trans h23
  have m20 := m20.le h23
  obtain ⟨rfl, rfl⟩ := h24
  have hO := zsf1 hO
  refine zM (zsc hb15) ?_
  refine za ?_
  cases hF
  refine zj ?_
  exact ⟨rfl, _, zr9 zrU, hO, hL⟩
 rintro e σ ⟨_, hA, hO, hL⟩
 rw [← zbc _ _ hA]
 refine zh hO [] [(6, .bool c13)] [0] zrV fun j => ?_
 refine zbt ?_
 cases hF
 exact hQ _ _ _ _ _ rfl hO hL ⟨rfl, rfl⟩
theorem zd8 {τ : Hp} {q0 : zc} {bm0 : Nat} {vm0_0 vm0_2 : Value} {om0_2 : Ob} {vm0_3 : Value} {om0_3 : Ob} {p1 : Int} {v2 : Value} {p2 : (List ByteArray)} (rm0_0 : RdT zt τ vm0_0 q0.cursor.tokens) (wm0_2 : ze zn 71 τ vm0_2 q0.prog.Structs om0_2) (wm0_3 : ze zk 50 τ vm0_3 q0.prog.Funcs om0_3) (r2 : RdT Ty.str τ v2 p2) {rr : Bool} (hF : zcR q0 p1 p2 = some rr) :
  Ctr Try.prog 62 #[.pointer (some ⟨bm0, 0, none⟩), .int .u8 p1, v2] τ [zw bm0 vm0_0 q0.cursor.at_ vm0_2 vm0_3, om0_2, om0_3] (fun v τ' vs' => v = .bool rr ∧ vs' = [zw bm0 vm0_0 q0.cursor.at_ vm0_2 vm0_3, om0_2, om0_3]) := by
 obtain ⟨Am0_0, cm0_0, rfl, -⟩ := rm0_0.form
 obtain ⟨Am0_2, cm0_2, rfl, -⟩ := wm0_2.form
 obtain ⟨Am0_3, cm0_3, rfl, -⟩ := wm0_3.form
 obtain ⟨A2, c2, rfl, -⟩ := r2.form
 refine zbI (args := [.pointer (some ⟨bm0, 0, none⟩), .int .u8 p1, .slice A2 p2.length c2]) hm Try.func62 s62 rfl fun w0 σ hO Q hQ => ?_
 unfold zcR at hF
 have hL := Hp.le.refl τ
 show wpn _ _ a62.body _ _ _
 unfold a62
 dsimp only
 refine zh hO [] [] [0, 1, 2] zrW fun j => ?_
 refine zo (zcD (zd hO 11 [0, 0] [(17, .bool (decide (q0.cursor.at_ ≥ (q0.cursor.tokens.length : Int))))] [0, 1, 2] (And.intro (And.intro rfl rfl) (And.intro (And.intro rfl rfl) zrX)) fun j => ?_))
 obtain ⟨c4, h5, hF⟩ := zsg hF
 refine zcU 2 [(31, .bool c4), (0, zsb bm0), (2, zsh A2 p2 c2)] (fun Q hQ => ?_) fun j => ?_
 ·have hF := h5
  rcases zbD hF with ⟨hb6, hF⟩ | ⟨hb6, hF⟩
  ·refine zbw (zsd hb6) ?_
   refine zM (zsc hb6) ?_
   refine za ?_
   cases hF
   refine zj ?_
   exact hQ _ zrW
  refine zbv (zsd hb6) ?_
  refine zd hO 8 [0, 0] [(21, zsh Am0_0 q0.cursor.tokens cm0_0), (25, zsa q0.cursor.at_)] [0, 1, 2, 17] (And.intro (And.intro rfl rfl) (And.intro (And.intro rfl rfl) zrZ)) fun j => ?_
  obtain ⟨y7, g8, hF⟩ := zsg hF
  refine z7 (T := zt) (rm0_0.le hL) hO.base rfl rfl g8 (by decide) fun a9 _ k10 m11 => ?_
  obtain rfl : _ = ([.int .u8 y7.Kind.toNat, .string y7.Text, .int .i64 y7.Num, .int .i64 y7.Line] : List Value) := k10
  refine zd hO 1 [] [(27, .pointer (some a9))] [0, 1, 2, 17] zrY fun j => ?_
  refine zV rfl (m11.le hO.base).fst ?_
  refine zd hO 2 [] [(30, .bool ((y7.Kind.toNat : Int) != p1))] [0, 2, 17] zrX fun j => ?_
  refine zM (zsc hb6) ?_
  refine za ?_
  cases hF
  refine zj ?_
  exact hQ _ zrW
 refine za (zE hF rfl (fun hF => ?_) fun hF => ?_)
 ·refine zo (zh hO [] [(6, .bool false)] [0] zrV fun j => ?_)
  refine zbq ?_
  cases hF
  exact hQ _ _ _ _ _ rfl hO hL ⟨rfl, rfl⟩
 refine zS (zcD (zd hO 4 [] [(35, .bool ((p2.length : Int) == 0))] [0, 2] zrW fun j => ?_))
 obtain ⟨c13, h14, hF⟩ := zsg hF
 refine zcr 2 (fun e' σ' => ∃ (τ' : Hp), agr [(49, .bool c13), (0, zsb bm0)] e' ∧ Obs τ' σ' [zw bm0 (zsh Am0_0 q0.cursor.tokens cm0_0) q0.cursor.at_ (zsh Am0_2 q0.prog.Structs cm0_2) (zsh Am0_3 q0.prog.Funcs cm0_3), om0_2, om0_3] ∧ Hp.le τ τ') ?_ ?_
 ·have hF := h14
  rcases zbD hF with ⟨hb15, hF⟩ | ⟨hb15, hF⟩
  ·refine zbw (zsd hb15) ?_
   refine zM (zsc hb15) ?_
   refine za ?_
   cases hF
   refine zj ?_
   exact ⟨rfl, _, zr9 zrU, hO, hL⟩
  refine zbv (zsd hb15) ?_
  refine zd hO 9 [0, 0] [(36, zsh A2 p2 c2), (40, zsh Am0_0 q0.cursor.tokens cm0_0), (44, zsa q0.cursor.at_)] [0, 35] (And.intro (And.intro rfl rfl) (And.intro (And.intro rfl rfl) zrY)) fun j => ?_
  obtain ⟨y16, g17, hF⟩ := zsg hF
  refine z7 (T := zt) (rm0_0.le hL) hO.base rfl rfl g17 (by decide) fun a18 _ k19 m20 => ?_
  obtain rfl : _ = ([.int .u8 y16.Kind.toNat, .string y16.Text, .int .i64 y16.Num, .int .i64 y16.Line] : List Value) := k19
  refine zd hO 1 [] [(46, .pointer (some (a18.add 1)))] [0, 35, 36] zrX fun j => ?_
  refine zV rfl ((m20.le hO.base).one 1 rfl) ?_
  obtain ⟨c21, h22, hF⟩ := zsg hF
  refine zbr hO (zmi (r2.le hL) h22) rfl fun _ σ _ _ hO h23 h24 => ?_
  have hL := hL.trans h23
  have m20 := m20.le h23
  obtain ⟨rfl, rfl⟩ := h24
  have hO := zsf3 hO
  refine zM (zsc hb15) ?_
  refine za ?_
  cases hF
  refine zj ?_
  exact ⟨rfl, _, zr9 zrU, hO, hL⟩
 rintro e σ ⟨_, hA, hO, hL⟩
 rw [← zbc _ _ hA]
 refine zh hO [] [(6, .bool c13)] [0] zrV fun j => ?_
 refine zbt ?_
 cases hF
 exact hQ _ _ _ _ _ rfl hO hL ⟨rfl, rfl⟩
theorem zcA {τ : Hp} {q0 : zc} {bm0 : Nat} {vm0_0 vm0_2 : Value} {om0_2 : Ob} {vm0_3 : Value} {om0_3 : Ob} {p1 : Int} {v2 : Value} {p2 : (List ByteArray)} (rm0_0 : RdT zt τ vm0_0 q0.cursor.tokens) (wm0_2 : ze zn 71 τ vm0_2 q0.prog.Structs om0_2) (wm0_3 : ze zk 50 τ vm0_3 q0.prog.Funcs om0_3) (r2 : RdT Ty.str τ v2 p2) {rr : Except (Value × zc) (zr × zc)} (hF : zc9 q0 p1 p2 = some rr) :
  zbM Try.prog 64 #[.pointer (some ⟨bm0, 0, none⟩), .int .u8 p1, v2] τ [zw bm0 vm0_0 q0.cursor.at_ vm0_2 vm0_3, om0_2, om0_3] (fun v τ' vs' => match (generalizing := false) rr with | .ok rr => ∃ (u0_0 u0_2 : Value) (y0_2 : Ob) (u0_3 : Value) (y0_3 : Ob), v = .agg #[.int .u8 rr.1.Kind.toNat, .string rr.1.Text, .int .i64 rr.1.Num, .int .i64 rr.1.Line] ∧ vs' = [zw bm0 u0_0 rr.2.cursor.at_ u0_2 u0_3, y0_2, y0_3] ∧ RdT zt τ' u0_0 rr.2.cursor.tokens ∧ ze zn 71 τ' u0_2 rr.2.prog.Structs y0_2 ∧ ze zk 50 τ' u0_3 rr.2.prog.Funcs y0_3 | .error _ => False) (fun ch τ' vs' => match (generalizing := false) rr with | .ok _ => False | .error ee => ∃ (u0_0 u0_2 : Value) (y0_2 : Ob) (u0_3 : Value) (y0_3 : Ob), ch = [{ v := ee.1, recovered := false }] ∧ vs' = [zw bm0 u0_0 ee.2.cursor.at_ u0_2 u0_3, y0_2, y0_3] ∧ RdT zt τ' u0_0 ee.2.cursor.tokens ∧ ze zn 71 τ' u0_2 ee.2.prog.Structs y0_2 ∧ ze zk 50 τ' u0_3 ee.2.prog.Funcs y0_3) := by
 obtain ⟨Am0_0, cm0_0, rfl, -⟩ := rm0_0.form
 obtain ⟨Am0_2, cm0_2, rfl, -⟩ := wm0_2.form
 obtain ⟨Am0_3, cm0_3, rfl, -⟩ := wm0_3.form
 obtain ⟨A2, c2, rfl, -⟩ := r2.form
 refine zcL (args := [.pointer (some ⟨bm0, 0, none⟩), .int .u8 p1, .slice A2 p2.length c2]) hm Try.func64 s64 rfl fun w0 σ hP hO Q hQ => ?_
 unfold zc9 at hF
 have hL := Hp.le.refl τ
 show wpn _ _ a64.body _ _ _
 unfold a64
 dsimp only
 refine zbg hO fun b4 σ hO => ?_
 have hO := zsf4 hO
 refine za (zo (zd hO 3 [] [(7, zsb bm0), (8, .int .u8 p1), (9, zsh A2 p2 c2)] [0, 6] zrY fun j => ?_))
 obtain ⟨c5, h6, hF⟩ := zsg hF
 have hO := hO.sel [3, 0, 1, 2]
 refine zbB (hs := [_]) (vs := [_, _, _]) hO (zd8 (rm0_0.le hL) (wm0_2.le hL) (wm0_3.le hL) (r2.le hL) h6) rfl fun _ σ _ _ hO h7 h8 => ?_
 have hL := hL.trans h7
 obtain ⟨rfl, rfl⟩ := h8
 have hO := zsf4 hO
 have hO := hO.sel [1, 2, 3, 0]
 have hO := zsf4 hO
 refine zh hO [] [(11, .bool (!c5))] [0, 6] zrW fun j => ?_
 refine zh7 (fun e' σ' => ∃ (A10 : Option Addr) (c11 : Nat) (o12 : Ob) (x13 : List zl) (A15 : Option Addr) (c16 : Nat) (o17 : Ob) (x18 : List zi) (τ' : Hp), agr [(0, zsb bm0), (6, zsb b4)] e' ∧ Obs τ' σ' [zw bm0 (zsh Am0_0 q0.cursor.tokens cm0_0) q0.cursor.at_ (zsh A10 x13 c11) (zsh A15 x18 c16), o12, o17, ze0 b4 0 (⟨#[]⟩ : ByteArray) 0 0] ∧ Hp.le τ τ' ∧ ze zn 71 τ' (zsh A10 x13 c11) x13 o12 ∧ ze zk 50 τ' (zsh A15 x18 c16) x18 o17 ∧ ziJ q0 x13 x18 = some rr) ?_ ?_
 ·refine zb2 (zE hF rfl (fun hF => ?_) fun hF => ?_)
  ·refine zd hO 2 [] [(13, .iface 92 (.agg #[]))] [0, 6] zrW fun j => ?_
   refine zp4 rfl ?_
   cases hF
   have hO := hO.sel [0, 1, 2]
   exact hP _ _ _ _ hO hL ⟨_, _, _, _, _, rfl, rfl, (rm0_0.le hL), (wm0_2.le hL), (wm0_3.le hL)⟩
  refine zS (zj (zp ?_))
  exact ⟨Am0_2, cm0_2, om0_2, q0.prog.Structs, Am0_3, cm0_3, om0_3, q0.prog.Funcs, _, zr9 zrU, hO, hL, (wm0_2.le hL), (wm0_3.le hL), hF⟩
 rintro e σ ⟨A10, c11, o12, x13, A15, c16, o17, x18, _, hA, hO, hL, w14, w19, hF⟩
 rw [← zbc _ _ hA]
 unfold ziJ at hF
 refine zd hO 7 [0] [(18, zsa (IntKind.i64.wrap (q0.cursor.at_ + 1))), (20, .pointer (some ⟨bm0, 1, none⟩))] [0, 6] (And.intro (And.intro rfl rfl) zrX) fun j => ?_
 refine zs hO (i := 0) rfl (off := 1) rfl rfl rfl rfl (Nat.le_of_ble_eq_true rfl) rfl fun σ hO => ?_
 have hO := zsf4 hO
 refine za (zcD (zd hO 9 [0, 0] [(24, zsh Am0_0 q0.cursor.tokens cm0_0), (29, zsa (IntKind.i64.wrap ((IntKind.i64.wrap (q0.cursor.at_ + 1)) - 1)))] [0, 6] (And.intro (And.intro rfl rfl) (And.intro (And.intro rfl rfl) zrX)) fun j => ?_))
 obtain ⟨y20, g21, hF⟩ := zsg hF
 refine z7 (T := zt) (rm0_0.le hL) hO.base rfl rfl g21 (by decide) fun a22 _ k23 m24 => ?_
 obtain rfl : _ = ([.int .u8 y20.Kind.toNat, .string y20.Text, .int .i64 y20.Num, .int .i64 y20.Line] : List Value) := k23
 refine zV rfl ((m24.le hO.base).all rfl) ?_
 refine zs hO (i := 3) rfl (off := 0) rfl rfl rfl rfl (Nat.le_of_ble_eq_true rfl) rfl fun σ hO => ?_
 have hO := zsf4 hO
 refine za (zbt ?_)
 cases hF
 have hV0 := hO.val (i := 3) rfl (off := 0) (agg := true) (n := 4) rfl
 have hO := hO.sel [0, 1, 2]
 refine (hQ _ _ _ _ _ (zbP rfl (hV0) rfl) hO hL ?_).1
 exact ⟨_, _, _, _, _, rfl, rfl, (rm0_0.le hL), w14, w19⟩
theorem zb7 {τ : Hp} {q0 : zc} {bm0 : Nat} {vm0_0 vm0_2 : Value} {om0_2 : Ob} {vm0_3 : Value} {om0_3 : Ob} (rm0_0 : RdT zt τ vm0_0 q0.cursor.tokens) (wm0_2 : ze zn 71 τ vm0_2 q0.prog.Structs om0_2) (wm0_3 : ze zk 50 τ vm0_3 q0.prog.Funcs om0_3) {rr : Except (Value × zc) (ByteArray × zc)} (hF : zcZ q0 = some rr) :
  zbM Try.prog 63 #[.pointer (some ⟨bm0, 0, none⟩)] τ [zw bm0 vm0_0 q0.cursor.at_ vm0_2 vm0_3, om0_2, om0_3] (fun v τ' vs' => match (generalizing := false) rr with | .ok rr => ∃ (u0_0 u0_2 : Value) (y0_2 : Ob) (u0_3 : Value) (y0_3 : Ob), v = .string rr.1 ∧ vs' = [zw bm0 u0_0 rr.2.cursor.at_ u0_2 u0_3, y0_2, y0_3] ∧ RdT zt τ' u0_0 rr.2.cursor.tokens ∧ ze zn 71 τ' u0_2 rr.2.prog.Structs y0_2 ∧ ze zk 50 τ' u0_3 rr.2.prog.Funcs y0_3 | .error _ => False) (fun ch τ' vs' => match (generalizing := false) rr with | .ok _ => False | .error ee => ∃ (u0_0 u0_2 : Value) (y0_2 : Ob) (u0_3 : Value) (y0_3 : Ob), ch = [{ v := ee.1, recovered := false }] ∧ vs' = [zw bm0 u0_0 ee.2.cursor.at_ u0_2 u0_3, y0_2, y0_3] ∧ RdT zt τ' u0_0 ee.2.cursor.tokens ∧ ze zn 71 τ' u0_2 ee.2.prog.Structs y0_2 ∧ ze zk 50 τ' u0_3 ee.2.prog.Funcs y0_3) := by
 obtain ⟨Am0_0, cm0_0, rfl, -⟩ := rm0_0.form
 obtain ⟨Am0_2, cm0_2, rfl, -⟩ := wm0_2.form
 obtain ⟨Am0_3, cm0_3, rfl, -⟩ := wm0_3.form
 refine zcL (args := [.pointer (some ⟨bm0, 0, none⟩)]) hm Try.func63 s63 rfl fun w0 σ hP hO Q hQ => ?_
 unfold zcZ at hF
 have hL := Hp.le.refl τ
 show wpn _ _ a63.body _ _ _
 unfold a63
 dsimp only
 refine zh hO [] [] [0] zrU fun j => ?_
 refine zd hO 1 [] [(3, zsb bm0)] [0] zrV fun j => ?_
 rcases zO hF with ⟨x6, h7, hF⟩ | ⟨c2, h3, hF⟩
 ·refine zN (hs := []) (vs := [_, _, _]) hO (zcA (rm0_0.le hL) (wm0_2.le hL) (wm0_3.le hL) (RdT.nil Ty.str _) h7) (fun _ _ _ h => False.elim h) rfl fun _ σ _ _ hO h8 h9 => ?_
  have hL := hL.trans h8
  obtain ⟨v10, v14, o17, v19, o22, rfl, rfl, r13, w18, w23⟩ := h9
  obtain ⟨A11, c12, rfl, -⟩ := r13.form
  obtain ⟨A15, c16, rfl, -⟩ := w18.form
  obtain ⟨A20, c21, rfl, -⟩ := w23.form
  have hO := zsf3 hO
  cases hF
  exact hP _ _ _ _ hO hL ⟨_, _, _, _, _, rfl, rfl, r13, w18, w23⟩
 refine zP (hs := []) (vs := [_, _, _]) hO (zcA (rm0_0.le hL) (wm0_2.le hL) (wm0_3.le hL) (RdT.nil Ty.str _) h3) (fun _ _ _ h => False.elim h) rfl fun _ σ _ _ hO h4 h5 => ?_
 have hL := hL.trans h4
 obtain ⟨v24, v28, o31, v33, o36, rfl, rfl, r27, w32, w37⟩ := h5
 obtain ⟨A25, c26, rfl, -⟩ := r27.form
 obtain ⟨A29, c30, rfl, -⟩ := w32.form
 obtain ⟨A34, c35, rfl, -⟩ := w37.form
 have hO := zsf3 hO
 refine zh hO [] [(2, .string c2.1.Text)] [0] zrV fun j => ?_
 refine zbt ?_
 cases hF
 refine (hQ _ _ _ _ _ rfl hO hL ?_).1
 exact ⟨_, _, _, _, _, rfl, rfl, r27, w32, w37⟩
theorem zbG {τ : Hp} {q0 : zc} {bm0 : Nat} {vm0_0 vm0_2 : Value} {om0_2 : Ob} {vm0_3 : Value} {om0_3 : Ob} {v1 : Value} {p1 : (List ByteArray)} (rm0_0 : RdT zt τ vm0_0 q0.cursor.tokens) (wm0_2 : ze zn 71 τ vm0_2 q0.prog.Structs om0_2) (wm0_3 : ze zk 50 τ vm0_3 q0.prog.Funcs om0_3) (r1 : RdT Ty.str τ v1 p1) {rr : Except (Value × zc) (zc)} (hF : zcj q0 p1 = some rr) :
  zbM Try.prog 65 #[.pointer (some ⟨bm0, 0, none⟩), v1] τ [zw bm0 vm0_0 q0.cursor.at_ vm0_2 vm0_3, om0_2, om0_3] (fun v τ' vs' => match (generalizing := false) rr with | .ok rr => ∃ (u0_0 u0_2 : Value) (y0_2 : Ob) (u0_3 : Value) (y0_3 : Ob), v = .tuple #[] ∧ vs' = [zw bm0 u0_0 rr.cursor.at_ u0_2 u0_3, y0_2, y0_3] ∧ RdT zt τ' u0_0 rr.cursor.tokens ∧ ze zn 71 τ' u0_2 rr.prog.Structs y0_2 ∧ ze zk 50 τ' u0_3 rr.prog.Funcs y0_3 | .error _ => False) (fun ch τ' vs' => match (generalizing := false) rr with | .ok _ => False | .error ee => ∃ (u0_0 u0_2 : Value) (y0_2 : Ob) (u0_3 : Value) (y0_3 : Ob), ch = [{ v := ee.1, recovered := false }] ∧ vs' = [zw bm0 u0_0 ee.2.cursor.at_ u0_2 u0_3, y0_2, y0_3] ∧ RdT zt τ' u0_0 ee.2.cursor.tokens ∧ ze zn 71 τ' u0_2 ee.2.prog.Structs y0_2 ∧ ze zk 50 τ' u0_3 ee.2.prog.Funcs y0_3) := by
 obtain ⟨Am0_0, cm0_0, rfl, -⟩ := rm0_0.form
 obtain ⟨Am0_2, cm0_2, rfl, -⟩ := wm0_2.form
 obtain ⟨Am0_3, cm0_3, rfl, -⟩ := wm0_3.form
 obtain ⟨A1, c1, rfl, -⟩ := r1.form
 refine zcL (args := [.pointer (some ⟨bm0, 0, none⟩), .slice A1 p1.length c1]) hm Try.func65 s65 rfl fun w0 σ hP hO Q hQ => ?_
 unfold zcj at hF
 have hL := Hp.le.refl τ
 show wpn _ _ a65.body _ _ _
 unfold a65
 dsimp only
 refine zh hO [] [(6, zsh A1 p1 c1), (7, zsa (p1.length : Int)), (8, zsa 0)] [0] zrX fun j => ?_
 refine zcF (zY (zbY (fun (n : Nat) e' σ' => ∃ (A61 : Option Addr) (c62 : Nat) (x63 : List zr) (x65 : Int) (A66 : Option Addr) (c67 : Nat) (o68 : Ob) (x69 : List zl) (A71 : Option Addr) (c72 : Nat) (o73 : Ob) (x74 : List zi) (x76 : Int) (τ' : Hp), agr [(0, zsb bm0), (6, zsh A1 p1 c1), (7, zsa (p1.length : Int)), (8, zsa x76)] e' ∧ Obs τ' σ' [zw bm0 (zsh A61 x63 c62) x65 (zsh A66 x69 c67) (zsh A71 x74 c72), o68, o73] ∧ Hp.le τ τ' ∧ RdT zt τ' (zsh A61 x63 c62) x63 ∧ ze zn 71 τ' (zsh A66 x69 c67) x69 o68 ∧ ze zk 50 τ' (zsh A71 x74 c72) x74 o73 ∧ zg2 p1 n x63 x65 x69 x74 x76 = some rr) big ⟨Am0_0, cm0_0, q0.cursor.tokens, q0.cursor.at_, Am0_2, cm0_2, om0_2, q0.prog.Structs, Am0_3, cm0_3, om0_3, q0.prog.Funcs, 0, _, zr9 zrW, hO, hL, (rm0_0.le hL), (wm0_2.le hL), (wm0_3.le hL), hF⟩ ?_))
 clear hF hO hL
 rintro n125 e σ ⟨A61, c62, x63, x65, A66, c67, o68, x69, A71, c72, o73, x74, x76, _, hA, hO, hL, r64, w70, w75, hF⟩
 rw [← zbc _ _ hA]
 cases n125 with
 | zero => exact nomatch (show none = some rr from hF)
 | succ n125 =>
 replace hF : zg4 (zg2 p1 n125) p1 x63 x65 x69 x74 x76 = some rr := hF
 unfold zg4 at hF
 refine zh hO [] [(9, .bool (decide (x76 < (p1.length : Int))))] [0, 6, 7, 8] zrY fun j => ?_
 refine zE hF rfl (fun hF => ?_) fun hF => ?_
 ·refine zS (zY ?_)
  obtain ⟨y127, g128, hF⟩ := zsg hF
  refine z7 (T := Ty.str) (r1.le hL) hO.base rfl rfl g128 (by decide) fun a129 _ k130 m131 => ?_
  obtain rfl : _ = ([.string y127] : List Value) := k130
  refine zV rfl (m131.le hO.base).fst ?_
  refine zh hO [] [(5, .string y127)] [0, 6, 7, 8] zrY fun j => ?_
  refine zbR (zd hO 2 [] [(12, zsb bm0), (13, .string y127)] [0, 6, 7, 8] zrZ fun j => ?_)
  refine zB (T := Ty.str) (l := ([y127] : List ByteArray)) (cs := [.string y127]) hO rfl ⟨[.string y127], _, rfl, rfl, rfl⟩ rfl (by decide) fun _ σ o134 w135 hO => ?_
  obtain ⟨A132, c133, rfl, -⟩ := w135.form
  have hO := zsf4 hO
  obtain ⟨_, h137, r136, hO⟩ := w135.share hO (i := 3) rfl
  have hL := hL.trans h137
  have r64 := r64.le h137
  have w70 := w70.le h137
  have w75 := w75.le h137
  have hO := zsf4 hO
  have hO := hO.sel [3, 0, 1, 2]
  rcases zO hF with ⟨x142, h143, hF⟩ | ⟨c138, h139, hF⟩
  ·refine zN (hs := [_]) (vs := [_, _, _]) hO (zcA (q0 := (⟨(⟨x63, x65⟩ : zbf), (⟨x69, x74⟩ : zL)⟩ : zc)) r64 w70 w75 r136 h143) (fun _ _ _ h => False.elim h) rfl fun _ σ _ _ hO h144 h145 => ?_
   have hL := hL.trans h144
   have r136 := r136.le h144
   obtain ⟨v146, v150, o153, v155, o158, rfl, rfl, r149, w154, w159⟩ := h145
   obtain ⟨A147, c148, rfl, -⟩ := r149.form
   obtain ⟨A151, c152, rfl, -⟩ := w154.form
   obtain ⟨A156, c157, rfl, -⟩ := w159.form
   have hO := zsf4 hO
   cases hF
   have hO := hO.sel [1, 2, 3]
   exact hP _ _ _ _ hO hL ⟨_, _, _, _, _, rfl, rfl, r149, w154, w159⟩
  refine zP (hs := [_]) (vs := [_, _, _]) hO (zcA (q0 := (⟨(⟨x63, x65⟩ : zbf), (⟨x69, x74⟩ : zL)⟩ : zc)) r64 w70 w75 r136 h139) (fun _ _ _ h => False.elim h) rfl fun _ σ _ _ hO h140 h141 => ?_
  have hL := hL.trans h140
  have r136 := r136.le h140
  obtain ⟨v160, v164, o167, v169, o172, rfl, rfl, r163, w168, w173⟩ := h141
  obtain ⟨A161, c162, rfl, -⟩ := r163.form
  obtain ⟨A165, c166, rfl, -⟩ := w168.form
  obtain ⟨A170, c171, rfl, -⟩ := w173.form
  have hO := zsf4 hO
  refine za (zj (zbe (zp (zbR (zh hO [] [(8, zsa (IntKind.i64.wrap (x76 + 1)))] [0, 6, 7] zrX fun j => ?_)))))
  refine zj (zp ?_)
  have hO := hO.sel [1, 2, 3]
  exact ⟨n125, Nat.lt_succ_self _, A161, c162, c138.2.cursor.tokens, c138.2.cursor.at_, A165, c166, o167, c138.2.prog.Structs, A170, c171, o172, c138.2.prog.Funcs, (IntKind.i64.wrap (x76 + 1)), _, zr9 zrW, hO, hL, r163, w168, w173, hF⟩
 refine zbX (zb1 (zb0 (zp (zj ?_))))
 cases hF
 refine (hQ _ _ _ _ _ rfl hO hL ?_).2
 exact ⟨_, _, _, _, _, rfl, rfl, r64, w70, w75⟩
theorem zca {τ : Hp} {q0 : zc} {bm0 : Nat} {vm0_0 vm0_2 : Value} {om0_2 : Ob} {vm0_3 : Value} {om0_3 : Ob} {p1 : Int} {v2 : Value} {p2 : (List ByteArray)} (rm0_0 : RdT zt τ vm0_0 q0.cursor.tokens) (wm0_2 : ze zn 71 τ vm0_2 q0.prog.Structs om0_2) (wm0_3 : ze zk 50 τ vm0_3 q0.prog.Funcs om0_3) (r2 : RdT Ty.str τ v2 p2) {rr : Bool × zc} (hF : zbK q0 p1 p2 = some rr) :
  Ctr Try.prog 38 #[.pointer (some ⟨bm0, 0, none⟩), .int .u8 p1, v2] τ [zw bm0 vm0_0 q0.cursor.at_ vm0_2 vm0_3, om0_2, om0_3] (fun v τ' vs' => ∃ (u0_0 u0_2 : Value) (y0_2 : Ob) (u0_3 : Value) (y0_3 : Ob), v = .bool rr.1 ∧ vs' = [zw bm0 u0_0 rr.2.cursor.at_ u0_2 u0_3, y0_2, y0_3] ∧ RdT zt τ' u0_0 rr.2.cursor.tokens ∧ ze zn 71 τ' u0_2 rr.2.prog.Structs y0_2 ∧ ze zk 50 τ' u0_3 rr.2.prog.Funcs y0_3) := by
 obtain ⟨Am0_0, cm0_0, rfl, -⟩ := rm0_0.form
 obtain ⟨Am0_2, cm0_2, rfl, -⟩ := wm0_2.form
 obtain ⟨Am0_3, cm0_3, rfl, -⟩ := wm0_3.form
 obtain ⟨A2, c2, rfl, -⟩ := r2.form
 refine zbI (args := [.pointer (some ⟨bm0, 0, none⟩), .int .u8 p1, .slice A2 p2.length c2]) hm Try.func38 s38 rfl fun w0 σ hO Q hQ => ?_
 unfold zbK at hF
 have hL := Hp.le.refl τ
 show wpn _ _ a38.body _ _ _
 unfold a38
 dsimp only
 refine zh hO [] [] [0, 1, 2] zrW fun j => ?_
 refine zo (zd hO 3 [] [(7, zsb bm0), (8, .int .u8 p1), (9, zsh A2 p2 c2)] [0] zrX fun j => ?_)
 obtain ⟨c4, h5, hF⟩ := zsg hF
 refine zbB (hs := []) (vs := [_, _, _]) hO (zd8 (rm0_0.le hL) (wm0_2.le hL) (wm0_3.le hL) (r2.le hL) h5) rfl fun _ σ _ _ hO h6 h7 => ?_
 have hL := hL.trans h6
 obtain ⟨rfl, rfl⟩ := h7
 have hO := zsf3 hO
 refine zh hO [] [(11, .bool (!c4))] [0] zrV fun j => ?_
 refine zE hF rfl (fun hF => ?_) fun hF => ?_
 ·refine zo (zh hO [] [(6, .bool false)] [0] zrV fun j => ?_)
  refine zbq ?_
  cases hF
  exact hQ _ _ _ _ _ rfl hO hL ⟨_, _, _, _, _, rfl, rfl, (rm0_0.le hL), (wm0_2.le hL), (wm0_3.le hL)⟩
 refine zS (zd hO 7 [0] [(16, zsa (IntKind.i64.wrap (q0.cursor.at_ + 1))), (18, .pointer (some ⟨bm0, 1, none⟩))] [0] (And.intro (And.intro rfl rfl) zrW) fun j => ?_)
 refine zs hO (i := 0) rfl (off := 1) rfl rfl rfl rfl (Nat.le_of_ble_eq_true rfl) rfl fun σ hO => ?_
 have hO := zsf3 hO
 refine za (zh hO [] [(6, .bool true)] [0] zrV fun j => ?_)
 refine zbt ?_
 cases hF
 exact hQ _ _ _ _ _ rfl hO hL ⟨_, _, _, _, _, rfl, rfl, (rm0_0.le hL), (wm0_2.le hL), (wm0_3.le hL)⟩
theorem zlJ {τ : Hp} {q0 : zc} {bm0 : Nat} {vm0_0 vm0_2 : Value} {om0_2 : Ob} {vm0_3 : Value} {om0_3 : Ob} (rm0_0 : RdT zt τ vm0_0 q0.cursor.tokens) (wm0_2 : ze zn 71 τ vm0_2 q0.prog.Structs om0_2) (wm0_3 : ze zk 50 τ vm0_3 q0.prog.Funcs om0_3) {rr : Except (Value × zc) (zc)} (hF : zhJ q0 = some rr) :
  zbM Try.prog 39 #[.pointer (some ⟨bm0, 0, none⟩)] τ [zw bm0 vm0_0 q0.cursor.at_ vm0_2 vm0_3, om0_2, om0_3] (fun v τ' vs' => match (generalizing := false) rr with | .ok rr => ∃ (u0_0 u0_2 : Value) (y0_2 : Ob) (u0_3 : Value) (y0_3 : Ob), v = .tuple #[] ∧ vs' = [zw bm0 u0_0 rr.cursor.at_ u0_2 u0_3, y0_2, y0_3] ∧ RdT zt τ' u0_0 rr.cursor.tokens ∧ ze zn 71 τ' u0_2 rr.prog.Structs y0_2 ∧ ze zk 50 τ' u0_3 rr.prog.Funcs y0_3 | .error _ => False) (fun ch τ' vs' => match (generalizing := false) rr with | .ok _ => False | .error ee => ∃ (u0_0 u0_2 : Value) (y0_2 : Ob) (u0_3 : Value) (y0_3 : Ob), ch = [{ v := ee.1, recovered := false }] ∧ vs' = [zw bm0 u0_0 ee.2.cursor.at_ u0_2 u0_3, y0_2, y0_3] ∧ RdT zt τ' u0_0 ee.2.cursor.tokens ∧ ze zn 71 τ' u0_2 ee.2.prog.Structs y0_2 ∧ ze zk 50 τ' u0_3 ee.2.prog.Funcs y0_3) := by
 obtain ⟨Am0_0, cm0_0, rfl, -⟩ := rm0_0.form
 obtain ⟨Am0_2, cm0_2, rfl, -⟩ := wm0_2.form
 obtain ⟨Am0_3, cm0_3, rfl, -⟩ := wm0_3.form
 refine zcL (args := [.pointer (some ⟨bm0, 0, none⟩)]) hm Try.func39 s39 rfl fun w0 σ hP hO Q hQ => ?_
 unfold zhJ at hF
 have hL := Hp.le.refl τ
 show wpn _ _ a39.body _ _ _
 unfold a39
 dsimp only
 refine zd hO 3 [] [(5, zsb bm0)] [0] zrV fun j => ?_
 rcases zO hF with ⟨x6, h7, hF⟩ | ⟨c2, h3, hF⟩
 ·refine zN (hs := []) (vs := [_, _, _]) hO (zb7 (rm0_0.le hL) (wm0_2.le hL) (wm0_3.le hL) h7) (fun _ _ _ h => False.elim h) rfl fun _ σ _ _ hO h8 h9 => ?_
  have hL := hL.trans h8
  obtain ⟨v10, v14, o17, v19, o22, rfl, rfl, r13, w18, w23⟩ := h9
  obtain ⟨A11, c12, rfl, -⟩ := r13.form
  obtain ⟨A15, c16, rfl, -⟩ := w18.form
  obtain ⟨A20, c21, rfl, -⟩ := w23.form
  have hO := zsf3 hO
  cases hF
  exact hP _ _ _ _ hO hL ⟨_, _, _, _, _, rfl, rfl, r13, w18, w23⟩
 refine zP (hs := []) (vs := [_, _, _]) hO (zb7 (rm0_0.le hL) (wm0_2.le hL) (wm0_3.le hL) h3) (fun _ _ _ h => False.elim h) rfl fun _ σ _ _ hO h4 h5 => ?_
 have hL := hL.trans h4
 obtain ⟨v24, v28, o31, v33, o36, rfl, rfl, r27, w32, w37⟩ := h5
 obtain ⟨A25, c26, rfl, -⟩ := r27.form
 obtain ⟨A29, c30, rfl, -⟩ := w32.form
 obtain ⟨A34, c35, rfl, -⟩ := w37.form
 have hO := zsf3 hO
 refine zd hO 1 [] [(7, .agg #[(.string c2.1), (.slice none 0 0)])] [0] zrV fun j => ?_
 refine zbg hO fun b38 σ hO => ?_
 have hO := zsf4 hO
 refine zs hO (i := 3) rfl (off := 0) rfl rfl rfl rfl (Nat.le_of_ble_eq_true rfl) rfl fun σ hO => ?_
 have hO := zsf4 hO
 refine za (zd hO 3 [] [(10, zsb bm0)] [0, 2] zrW fun j => ?_)
 refine zB (T := Ty.str) (l := ([(⟨#[115, 116, 114, 117, 99, 116]⟩ : ByteArray)] : List ByteArray)) (cs := [.string (⟨#[115, 116, 114, 117, 99, 116]⟩ : ByteArray)]) hO rfl ⟨[.string (⟨#[115, 116, 114, 117, 99, 116]⟩ : ByteArray)], _, rfl, rfl, rfl⟩ rfl (by decide) fun _ σ o41 w42 hO => ?_
 obtain ⟨A39, c40, rfl, -⟩ := w42.form
 have hO := zsf5 hO
 obtain ⟨_, h44, r43, hO⟩ := w42.share hO (i := 4) rfl
 have hL := hL.trans h44
 have r27 := r27.le h44
 have w32 := w32.le h44
 have w37 := w37.le h44
 have hO := zsf5 hO
 have hO := hO.sel [3, 4, 0, 1, 2]
 rcases zO hF with ⟨x49, h50, hF⟩ | ⟨c45, h46, hF⟩
 ·refine zN (hs := [_, _]) (vs := [_, _, _]) hO (zcA r27 w32 w37 r43 h50) (fun _ _ _ h => False.elim h) rfl fun _ σ _ _ hO h51 h52 => ?_
  have hL := hL.trans h51
  have r43 := r43.le h51
  obtain ⟨v53, v57, o60, v62, o65, rfl, rfl, r56, w61, w66⟩ := h52
  obtain ⟨A54, c55, rfl, -⟩ := r56.form
  obtain ⟨A58, c59, rfl, -⟩ := w61.form
  obtain ⟨A63, c64, rfl, -⟩ := w66.form
  have hO := zsf5 hO
  cases hF
  have hO := hO.sel [2, 3, 4]
  exact hP _ _ _ _ hO hL ⟨_, _, _, _, _, rfl, rfl, r56, w61, w66⟩
 refine zP (hs := [_, _]) (vs := [_, _, _]) hO (zcA r27 w32 w37 r43 h46) (fun _ _ _ h => False.elim h) rfl fun _ σ _ _ hO h47 h48 => ?_
 have hL := hL.trans h47
 have r43 := r43.le h47
 obtain ⟨v67, v71, o74, v76, o79, rfl, rfl, r70, w75, w80⟩ := h48
 obtain ⟨A68, c69, rfl, -⟩ := r70.form
 obtain ⟨A72, c73, rfl, -⟩ := w75.form
 obtain ⟨A77, c78, rfl, -⟩ := w80.form
 have hO := zsf5 hO
 refine za (zd hO 3 [] [(15, zsb bm0)] [0, 2] zrW fun j => ?_)
 refine zB (T := Ty.str) (l := ([(⟨#[123]⟩ : ByteArray)] : List ByteArray)) (cs := [.string (⟨#[123]⟩ : ByteArray)]) hO rfl ⟨[.string (⟨#[123]⟩ : ByteArray)], _, rfl, rfl, rfl⟩ rfl (by decide) fun _ σ o83 w84 hO => ?_
 obtain ⟨A81, c82, rfl, -⟩ := w84.form
 have hO := zsf6 hO
 obtain ⟨_, h86, r85, hO⟩ := w84.share hO (i := 5) rfl
 have hL := hL.trans h86
 have r70 := r70.le h86
 have w75 := w75.le h86
 have w80 := w80.le h86
 have hO := zsf6 hO
 have hO := hO.sel [0, 1, 5, 2, 3, 4]
 rcases zO hF with ⟨x91, h92, hF⟩ | ⟨c87, h88, hF⟩
 ·refine zN (hs := [_, _, _]) (vs := [_, _, _]) hO (zbG r70 w75 w80 r85 h92) (fun _ _ _ h => False.elim h) rfl fun _ σ _ _ hO h93 h94 => ?_
  have hL := hL.trans h93
  have r85 := r85.le h93
  obtain ⟨v95, v99, o102, v104, o107, rfl, rfl, r98, w103, w108⟩ := h94
  obtain ⟨A96, c97, rfl, -⟩ := r98.form
  obtain ⟨A100, c101, rfl, -⟩ := w103.form
  obtain ⟨A105, c106, rfl, -⟩ := w108.form
  have hO := zsf6 hO
  cases hF
  have hO := hO.sel [3, 4, 5]
  exact hP _ _ _ _ hO hL ⟨_, _, _, _, _, rfl, rfl, r98, w103, w108⟩
 refine zP (hs := [_, _, _]) (vs := [_, _, _]) hO (zbG r70 w75 w80 r85 h88) (fun _ _ _ h => False.elim h) rfl fun _ σ _ _ hO h89 h90 => ?_
 have hL := hL.trans h89
 have r85 := r85.le h89
 obtain ⟨v109, v113, o116, v118, o121, rfl, rfl, r112, w117, w122⟩ := h90
 obtain ⟨A110, c111, rfl, -⟩ := r112.form
 obtain ⟨A114, c115, rfl, -⟩ := w117.form
 obtain ⟨A119, c120, rfl, -⟩ := w122.form
 have hO := zsf6 hO
 refine za (zY ?_)
 have hO := hO.no
 have hO := zsf7 hO
 have hO := hO.sel [3, 4, 5, 0, 6]
 refine zbY (fun (n : Nat) e' σ' => ∃ (A300 : Option Addr) (c301 : Nat) (x302 : List zr) (x304 : Int) (A305 : Option Addr) (c306 : Nat) (o307 : Ob) (x308 : List zl) (A310 : Option Addr) (c311 : Nat) (o312 : Ob) (x313 : List zi) (A315 : Option Addr) (c316 : Nat) (o317 : Ob) (x318 : List ByteArray) (τ' : Hp), agr [(0, zsb bm0), (2, zsb b38)] e' ∧ Obs τ' σ' [zw bm0 (zsh A300 x302 c301) x304 (zsh A305 x308 c306) (zsh A310 x313 c311), o307, o312, some (b38, ⟨[.string c2.1, zsh A315 x318 c316], 71, 2, true⟩), o317] ∧ Hp.le τ τ' ∧ RdT zt τ' (zsh A300 x302 c301) x302 ∧ ze zn 71 τ' (zsh A305 x308 c306) x308 o307 ∧ ze zk 50 τ' (zsh A310 x313 c311) x313 o312 ∧ ze Ty.str 9 τ' (zsh A315 x318 c316) x318 o317 ∧ zf5 c2 n x302 x304 x308 x313 x318 = some rr) big ⟨A110, c111, c87.cursor.tokens, c87.cursor.at_, A114, c115, o116, c87.prog.Structs, A119, c120, o121, c87.prog.Funcs, none, 0, none, [], _, zr9 zrU, hO, hL, r112, w117, w122, ze.nil _ _ _, hF⟩ ?_
 clear hF hO hL
 rintro n487 e σ ⟨A300, c301, x302, x304, A305, c306, o307, x308, A310, c311, o312, x313, A315, c316, o317, x318, _, hA, hO, hL, r303, w309, w314, w319, hF⟩
 rw [← zbc _ _ hA]
 cases n487 with
 | zero => exact nomatch (show none = some rr from hF)
 | succ n487 =>
 replace hF : zhf (zf5 c2 n487) c2 x302 x304 x308 x313 x318 = some rr := hF
 unfold zhf at hF
 refine zo (zd hO 3 [] [(20, zsb bm0)] [0, 2] zrW fun j => ?_)
 refine zB (T := Ty.str) (l := ([(⟨#[125]⟩ : ByteArray)] : List ByteArray)) (cs := [.string (⟨#[125]⟩ : ByteArray)]) hO rfl ⟨[.string (⟨#[125]⟩ : ByteArray)], _, rfl, rfl, rfl⟩ rfl (by decide) fun _ σ o490 w491 hO => ?_
 obtain ⟨A488, c489, rfl, -⟩ := w491.form
 have hO := zsf6 hO
 obtain ⟨_, h493, r492, hO⟩ := w491.share hO (i := 5) rfl
 have hL := hL.trans h493
 have r303 := r303.le h493
 have w309 := w309.le h493
 have w314 := w314.le h493
 have w319 := w319.le h493
 have hO := zsf6 hO
 obtain ⟨c494, h495, hF⟩ := zsg hF
 have hO := hO.sel [3, 4, 5, 0, 1, 2]
 refine zbB (hs := [_, _, _]) (vs := [_, _, _]) hO (zca (q0 := (⟨(⟨x302, x304⟩ : zbf), (⟨x308, x313⟩ : zL)⟩ : zc)) r303 w309 w314 r492 h495) rfl fun _ σ _ _ hO h496 h497 => ?_
 have hL := hL.trans h496
 have r492 := r492.le h496
 have w319 := w319.le h496
 obtain ⟨v498, v502, o505, v507, o510, rfl, rfl, r501, w506, w511⟩ := h497
 obtain ⟨A499, c500, rfl, -⟩ := r501.form
 obtain ⟨A503, c504, rfl, -⟩ := w506.form
 obtain ⟨A508, c509, rfl, -⟩ := w511.form
 have hO := zsf6 hO
 refine zh hO [] [(23, .bool (!c494.1))] [0, 2] zrW fun j => ?_
 refine zE hF rfl (fun hF => ?_) fun hF => ?_
 ·refine zS (zcF (zY (zcD (zd hO 5 [0] [(24, .pointer (some ⟨b38, 1, none⟩)), (25, zsh A315 x318 c316), (28, zsb bm0)] [0, 2] (And.intro (And.intro rfl rfl) zrY) fun j => ?_))))
  refine zv ?_
  rcases zO hF with ⟨x517, h518, hF⟩ | ⟨c513, h514, hF⟩
  ·refine zN (hs := [_, _, _]) (vs := [_, _, _]) hO (zb7 r501 w506 w511 h518) (fun _ _ _ h => False.elim h) rfl fun _ σ _ _ hO h519 h520 => ?_
   have hL := hL.trans h519
   have w319 := w319.le h519
   obtain ⟨v521, v525, o528, v530, o533, rfl, rfl, r524, w529, w534⟩ := h520
   obtain ⟨A522, c523, rfl, -⟩ := r524.form
   obtain ⟨A526, c527, rfl, -⟩ := w529.form
   obtain ⟨A531, c532, rfl, -⟩ := w534.form
   have hO := zsf6 hO
   cases hF
   have hO := hO.sel [3, 4, 5]
   exact hP _ _ _ _ hO hL ⟨_, _, _, _, _, rfl, rfl, r524, w529, w534⟩
  refine zP (hs := [_, _, _]) (vs := [_, _, _]) hO (zb7 r501 w506 w511 h514) (fun _ _ _ h => False.elim h) rfl fun _ σ _ _ hO h515 h516 => ?_
  have hL := hL.trans h515
  have w319 := w319.le h515
  obtain ⟨v535, v539, o542, v544, o547, rfl, rfl, r538, w543, w548⟩ := h516
  obtain ⟨A536, c537, rfl, -⟩ := r538.form
  obtain ⟨A540, c541, rfl, -⟩ := w543.form
  obtain ⟨A545, c546, rfl, -⟩ := w548.form
  have hO := zsf6 hO
  refine za (zu ⟨(zf rfl (hO.val (i := 0) (off := 1) (agg := false) (n := 1) rfl rfl) rfl), trivial⟩ ?_)
  refine zv (zB (T := Ty.str) (l := ([c513.1] : List ByteArray)) (cs := [.string c513.1]) hO rfl ⟨[.string c513.1], _, rfl, rfl, rfl⟩ rfl (by decide) fun _ σ o551 w552 hO => ?_)
  obtain ⟨A549, c550, rfl, -⟩ := w552.form
  have hO := zsf7 hO
  refine za (zu ⟨(zf rfl (hO.val (i := 0) (off := 1) (agg := false) (n := 1) rfl rfl) rfl), trivial⟩ ?_)
  obtain ⟨_, hr557, hF⟩ := zsg hF
  refine zj5 (T := Ty.str) (Ty.sc_flat _ _) hO w319 (i := 1) rfl rfl rfl (w552.rd hO (i := 6) rfl) hr557 (by decide) fun _ σ o555 w556 hO => ?_
  obtain ⟨A553, c554, rfl, -⟩ := w556.form
  have hO := zsf7 hO
  refine zd hO 1 [] [(32, .pointer (some ⟨b38, 1, none⟩))] [0, 2, 31] zrX fun j => ?_
  refine zs hO (i := 0) rfl (off := 1) rfl rfl rfl rfl (Nat.le_of_ble_eq_true rfl) rfl fun σ hO => ?_
  have hO := zsf7 hO
  refine za (zd hO 3 [] [(35, zsb bm0)] [0, 2] zrW fun j => ?_)
  refine zB (T := Ty.str) (l := ([(⟨#[105, 110, 116]⟩ : ByteArray)] : List ByteArray)) (cs := [.string (⟨#[105, 110, 116]⟩ : ByteArray)]) hO rfl ⟨[.string (⟨#[105, 110, 116]⟩ : ByteArray)], _, rfl, rfl, rfl⟩ rfl (by decide) fun _ σ o560 w561 hO => ?_
  obtain ⟨A558, c559, rfl, -⟩ := w561.form
  have hO := zsf8 hO
  obtain ⟨_, h563, r562, hO⟩ := w561.share hO (i := 7) rfl
  have hL := hL.trans h563
  have w556 := w556.le h563
  have r538 := r538.le h563
  have w543 := w543.le h563
  have w548 := w548.le h563
  have hO := zsf8 hO
  have hO := hO.sel [0, 1, 2, 6, 7, 3, 4, 5]
  rcases zO hF with ⟨x568, h569, hF⟩ | ⟨c564, h565, hF⟩
  ·refine zN (hs := [_, _, _, _, _]) (vs := [_, _, _]) hO (zcA r538 w543 w548 r562 h569) (fun _ _ _ h => False.elim h) rfl fun _ σ _ _ hO h570 h571 => ?_
   have hL := hL.trans h570
   have r562 := r562.le h570
   have w556 := w556.le h570
   obtain ⟨v572, v576, o579, v581, o584, rfl, rfl, r575, w580, w585⟩ := h571
   obtain ⟨A573, c574, rfl, -⟩ := r575.form
   obtain ⟨A577, c578, rfl, -⟩ := w580.form
   obtain ⟨A582, c583, rfl, -⟩ := w585.form
   have hO := zsf8 hO
   cases hF
   have hO := hO.sel [5, 6, 7]
   exact hP _ _ _ _ hO hL ⟨_, _, _, _, _, rfl, rfl, r575, w580, w585⟩
  refine zP (hs := [_, _, _, _, _]) (vs := [_, _, _]) hO (zcA r538 w543 w548 r562 h565) (fun _ _ _ h => False.elim h) rfl fun _ σ _ _ hO h566 h567 => ?_
  have hL := hL.trans h566
  have r562 := r562.le h566
  have w556 := w556.le h566
  obtain ⟨v586, v590, o593, v595, o598, rfl, rfl, r589, w594, w599⟩ := h567
  obtain ⟨A587, c588, rfl, -⟩ := r589.form
  obtain ⟨A591, c592, rfl, -⟩ := w594.form
  obtain ⟨A596, c597, rfl, -⟩ := w599.form
  have hO := zsf8 hO
  refine za (zbR (zd hO 3 [] [(40, zsb bm0)] [0, 2] zrW fun j => ?_))
  refine zB (T := Ty.str) (l := ([(⟨#[59]⟩ : ByteArray)] : List ByteArray)) (cs := [.string (⟨#[59]⟩ : ByteArray)]) hO rfl ⟨[.string (⟨#[59]⟩ : ByteArray)], _, rfl, rfl, rfl⟩ rfl (by decide) fun _ σ o602 w603 hO => ?_
  obtain ⟨A600, c601, rfl, -⟩ := w603.form
  have hO := zsf9 hO
  obtain ⟨_, h605, r604, hO⟩ := w603.share hO (i := 8) rfl
  have hL := hL.trans h605
  have w556 := w556.le h605
  have r589 := r589.le h605
  have w594 := w594.le h605
  have w599 := w599.le h605
  have hO := zsf9 hO
  have hO := hO.sel [0, 1, 2, 3, 4, 8, 5, 6, 7]
  rcases zO hF with ⟨x610, h611, hF⟩ | ⟨c606, h607, hF⟩
  ·refine zN (hs := [_, _, _, _, _, _]) (vs := [_, _, _]) hO (zbG r589 w594 w599 r604 h611) (fun _ _ _ h => False.elim h) rfl fun _ σ _ _ hO h612 h613 => ?_
   have hL := hL.trans h612
   have r604 := r604.le h612
   have w556 := w556.le h612
   obtain ⟨v614, v618, o621, v623, o626, rfl, rfl, r617, w622, w627⟩ := h613
   obtain ⟨A615, c616, rfl, -⟩ := r617.form
   obtain ⟨A619, c620, rfl, -⟩ := w622.form
   obtain ⟨A624, c625, rfl, -⟩ := w627.form
   have hO := zsf9 hO
   cases hF
   have hO := hO.sel [6, 7, 8]
   exact hP _ _ _ _ hO hL ⟨_, _, _, _, _, rfl, rfl, r617, w622, w627⟩
  refine zP (hs := [_, _, _, _, _, _]) (vs := [_, _, _]) hO (zbG r589 w594 w599 r604 h607) (fun _ _ _ h => False.elim h) rfl fun _ σ _ _ hO h608 h609 => ?_
  have hL := hL.trans h608
  have r604 := r604.le h608
  have w556 := w556.le h608
  obtain ⟨v628, v632, o635, v637, o640, rfl, rfl, r631, w636, w641⟩ := h609
  obtain ⟨A629, c630, rfl, -⟩ := r631.form
  obtain ⟨A633, c634, rfl, -⟩ := w636.form
  obtain ⟨A638, c639, rfl, -⟩ := w641.form
  have hO := zsf9 hO
  refine za (zj (zbe (zp (zj (zp ?_)))))
  have hO := hO.sel [6, 7, 8, 0, 1]
  exact ⟨n487, Nat.lt_succ_self _, A629, c630, c606.cursor.tokens, c606.cursor.at_, A633, c634, o635, c606.prog.Structs, A638, c639, o640, c606.prog.Funcs, A553, c554, o555, (x318 ++ ([c513.1] : List ByteArray)), _, zr9 zrU, hO, hL, r631, w636, w641, w556, hF⟩
 refine zbX (zb1 (zb0 (zp (ziR (zd hO 7 [3, 0] [(43, zsb bm0), (47, .pointer (some ⟨bm0, 2, none⟩)), (48, zsh A503 c494.2.prog.Structs c504), (49, .agg #[(.string c2.1), (zsh A315 x318 c316)])] [0] (And.intro (And.intro rfl rfl) (And.intro (And.intro rfl rfl) zrY)) fun j => ?_)))))
 refine zv ?_
 obtain ⟨_, h643, r642, hO⟩ := w319.share hO (i := 1) rfl
 have hL := hL.trans h643
 have w506 := w506.le h643
 have r501 := r501.le h643
 have w511 := w511.le h643
 have hO := zsf6 hO
 refine zB (T := zn) (l := ([(⟨c2.1, x318⟩ : zl)] : List zl)) (cs := [.string c2.1, zsh A315 x318 c316]) hO rfl ⟨[.string c2.1, zsh A315 x318 c316], _, rfl, ⟨_, rfl, r642⟩, rfl⟩ rfl (by decide) fun _ σ o646 w647 hO => ?_
 obtain ⟨A644, c645, rfl, -⟩ := w647.form
 have hO := zsf7 hO
 refine za (zu ⟨(zf rfl (hO.val (i := 3) (off := 2) (agg := false) (n := 1) rfl rfl) rfl), trivial⟩ ?_)
 obtain ⟨_, h649, r648, hO⟩ := w647.share hO (i := 6) rfl
 have hL := hL.trans h649
 have w506 := w506.le h649
 have r642 := r642.le h649
 have r501 := r501.le h649
 have w511 := w511.le h649
 have hO := zsf7 hO
 obtain ⟨_, hr654, hF⟩ := zsg hF
 refine zH (T := zn) hO w506 (i := 4) rfl rfl rfl r648 hr654 (by decide) fun _ σ o652 w653 hO => ?_
 obtain ⟨A650, c651, rfl, -⟩ := w653.form
 have hO := zsf7 hO
 refine zd hO 3 [] [(54, .pointer (some ⟨bm0, 2, none⟩))] [0, 51] zrW fun j => ?_
 refine zs hO (i := 3) rfl (off := 2) rfl rfl rfl rfl (Nat.le_of_ble_eq_true rfl) rfl fun σ hO => ?_
 have hO := zsf7 hO
 refine za (zj ?_)
 cases hF
 have hO := hO.sel [3, 4, 5]
 refine (hQ _ _ _ _ _ rfl hO hL ?_).2
 exact ⟨_, _, _, _, _, rfl, rfl, r501, w653, w511⟩
theorem zfL {τ : Hp} {q0 : zc} {bm0 : Nat} {vm0_0 vm0_2 : Value} {om0_2 : Ob} {vm0_3 : Value} {om0_3 : Ob} {p1 : Bool} (rm0_0 : RdT zt τ vm0_0 q0.cursor.tokens) (wm0_2 : ze zn 71 τ vm0_2 q0.prog.Structs om0_2) (wm0_3 : ze zk 50 τ vm0_3 q0.prog.Funcs om0_3) {rr : Except (Value × zc) (zI × zc)} (hF : zfs q0 p1 = some rr) :
  zbM Try.prog 68 #[.pointer (some ⟨bm0, 0, none⟩), .bool p1] τ [zw bm0 vm0_0 q0.cursor.at_ vm0_2 vm0_3, om0_2, om0_3] (fun v τ' vs' => match (generalizing := false) rr with | .ok rr => ∃ (u0_0 u0_2 : Value) (y0_2 : Ob) (u0_3 : Value) (y0_3 : Ob), v = .agg #[.int .u8 rr.1.Kind.toNat, .int .i64 rr.1.N, .string rr.1.Name] ∧ vs' = [zw bm0 u0_0 rr.2.cursor.at_ u0_2 u0_3, y0_2, y0_3] ∧ RdT zt τ' u0_0 rr.2.cursor.tokens ∧ ze zn 71 τ' u0_2 rr.2.prog.Structs y0_2 ∧ ze zk 50 τ' u0_3 rr.2.prog.Funcs y0_3 | .error _ => False) (fun ch τ' vs' => match (generalizing := false) rr with | .ok _ => False | .error ee => ∃ (u0_0 u0_2 : Value) (y0_2 : Ob) (u0_3 : Value) (y0_3 : Ob), ch = [{ v := ee.1, recovered := false }] ∧ vs' = [zw bm0 u0_0 ee.2.cursor.at_ u0_2 u0_3, y0_2, y0_3] ∧ RdT zt τ' u0_0 ee.2.cursor.tokens ∧ ze zn 71 τ' u0_2 ee.2.prog.Structs y0_2 ∧ ze zk 50 τ' u0_3 ee.2.prog.Funcs y0_3) := by
 obtain ⟨Am0_0, cm0_0, rfl, -⟩ := rm0_0.form
 obtain ⟨Am0_2, cm0_2, rfl, -⟩ := wm0_2.form
 obtain ⟨Am0_3, cm0_3, rfl, -⟩ := wm0_3.form
 refine zcL (args := [.pointer (some ⟨bm0, 0, none⟩), .bool p1]) hm Try.func68 s68 rfl fun w0 σ hP hO Q hQ => ?_
 unfold zfs at hF
 have hL := Hp.le.refl τ
 show wpn _ _ a68.body _ _ _
 unfold a68
 dsimp only
 refine zbg hO fun b3 σ hO => ?_
 have hO := zsf4 hO
 refine za (zY (zd hO 3 [] [(9, zsb bm0)] [0, 1, 4] zrX fun j => ?_))
 refine zB (T := Ty.str) (l := ([(⟨#[105, 110, 116]⟩ : ByteArray)] : List ByteArray)) (cs := [.string (⟨#[105, 110, 116]⟩ : ByteArray)]) hO rfl ⟨[.string (⟨#[105, 110, 116]⟩ : ByteArray)], _, rfl, rfl, rfl⟩ rfl (by decide) fun _ σ o6 w7 hO => ?_
 obtain ⟨A4, c5, rfl, -⟩ := w7.form
 have hO := zsf5 hO
 obtain ⟨_, h9, r8, hO⟩ := w7.share hO (i := 4) rfl
 have hL := hL.trans h9
 have hO := zsf5 hO
 obtain ⟨c10, h11, hF⟩ := zsg hF
 have hO := hO.sel [3, 4, 0, 1, 2]
 refine zbB (hs := [_, _]) (vs := [_, _, _]) hO (zca (rm0_0.le hL) (wm0_2.le hL) (wm0_3.le hL) r8 h11) rfl fun _ σ _ _ hO h12 h13 => ?_
 have hL := hL.trans h12
 have r8 := r8.le h12
 obtain ⟨v14, v18, o21, v23, o26, rfl, rfl, r17, w22, w27⟩ := h13
 obtain ⟨A15, c16, rfl, -⟩ := r17.form
 obtain ⟨A19, c20, rfl, -⟩ := w22.form
 obtain ⟨A24, c25, rfl, -⟩ := w27.form
 have hO := zsf5 hO
 refine zh hO [] [(6, .bool c10.1)] [0, 1, 4] zrX fun j => ?_
 refine zb2 (zE hF rfl (fun hF => ?_) fun hF => ?_)
 ·refine zo (zd hO 1 [] [(12, .agg #[(.int .u8 1), (.int .i64 0), (.string (⟨#[]⟩ : ByteArray))])] [0, 4] zrW fun j => ?_)
  refine zs hO (i := 0) rfl (off := 0) rfl rfl rfl rfl (Nat.le_of_ble_eq_true rfl) rfl fun σ hO => ?_
  have hO := zsf5 hO
  refine za (zbq (zbm (zU ?_)))
  cases hF
  have hV0 := hO.val (i := 0) rfl (off := 0) (agg := true) (n := 3) rfl
  have hO := hO.sel [2, 3, 4]
  refine (hQ _ _ _ _ _ (zbP rfl (hV0) rfl) hO hL ?_).1
  exact ⟨_, _, _, _, _, rfl, rfl, r17, w22, w27⟩
 refine zo (zd hO 3 [] [(16, zsb bm0)] [0, 1, 4] zrX fun j => ?_)
 refine zB (T := Ty.str) (l := ([(⟨#[98, 111, 111, 108]⟩ : ByteArray)] : List ByteArray)) (cs := [.string (⟨#[98, 111, 111, 108]⟩ : ByteArray)]) hO rfl ⟨[.string (⟨#[98, 111, 111, 108]⟩ : ByteArray)], _, rfl, rfl, rfl⟩ rfl (by decide) fun _ σ o31 w32 hO => ?_
 obtain ⟨A29, c30, rfl, -⟩ := w32.form
 have hO := zsf6 hO
 obtain ⟨_, h34, r33, hO⟩ := w32.share hO (i := 5) rfl
 have hL := hL.trans h34
 have r17 := r17.le h34
 have w22 := w22.le h34
 have w27 := w27.le h34
 have hO := zsf6 hO
 obtain ⟨c35, h36, hF⟩ := zsg hF
 have hO := hO.sel [0, 1, 5, 2, 3, 4]
 refine zbB (hs := [_, _, _]) (vs := [_, _, _]) hO (zca r17 w22 w27 r33 h36) rfl fun _ σ _ _ hO h37 h38 => ?_
 have hL := hL.trans h37
 have r33 := r33.le h37
 obtain ⟨v39, v43, o46, v48, o51, rfl, rfl, r42, w47, w52⟩ := h38
 obtain ⟨A40, c41, rfl, -⟩ := r42.form
 obtain ⟨A44, c45, rfl, -⟩ := w47.form
 obtain ⟨A49, c50, rfl, -⟩ := w52.form
 have hO := zsf6 hO
 refine zh hO [] [(13, .bool c35.1)] [0, 1, 4] zrX fun j => ?_
 refine zE hF rfl (fun hF => ?_) fun hF => ?_
 ·refine zo (zd hO 1 [] [(19, .agg #[(.int .u8 2), (.int .i64 0), (.string (⟨#[]⟩ : ByteArray))])] [0, 4] zrW fun j => ?_)
  refine zs hO (i := 0) rfl (off := 0) rfl rfl rfl rfl (Nat.le_of_ble_eq_true rfl) rfl fun σ hO => ?_
  have hO := zsf6 hO
  refine za (zbq (zbm (zU ?_)))
  cases hF
  have hV0 := hO.val (i := 0) rfl (off := 0) (agg := true) (n := 3) rfl
  have hO := hO.sel [3, 4, 5]
  refine (hQ _ _ _ _ _ (zbP rfl (hV0) rfl) hO hL ?_).1
  exact ⟨_, _, _, _, _, rfl, rfl, r42, w47, w52⟩
 refine zo (zd hO 3 [] [(23, zsb bm0)] [0, 1, 4] zrX fun j => ?_)
 refine zB (T := Ty.str) (l := ([(⟨#[91]⟩ : ByteArray)] : List ByteArray)) (cs := [.string (⟨#[91]⟩ : ByteArray)]) hO rfl ⟨[.string (⟨#[91]⟩ : ByteArray)], _, rfl, rfl, rfl⟩ rfl (by decide) fun _ σ o56 w57 hO => ?_
 obtain ⟨A54, c55, rfl, -⟩ := w57.form
 have hO := zsf7 hO
 obtain ⟨_, h59, r58, hO⟩ := w57.share hO (i := 6) rfl
 have hL := hL.trans h59
 have r42 := r42.le h59
 have w47 := w47.le h59
 have w52 := w52.le h59
 have hO := zsf7 hO
 obtain ⟨c60, h61, hF⟩ := zsg hF
 have hO := hO.sel [0, 1, 2, 6, 3, 4, 5]
 refine zbB (hs := [_, _, _, _]) (vs := [_, _, _]) hO (zca r42 w47 w52 r58 h61) rfl fun _ σ _ _ hO h62 h63 => ?_
 have hL := hL.trans h62
 have r58 := r58.le h62
 obtain ⟨v64, v68, o71, v73, o76, rfl, rfl, r67, w72, w77⟩ := h63
 obtain ⟨A65, c66, rfl, -⟩ := r67.form
 obtain ⟨A69, c70, rfl, -⟩ := w72.form
 obtain ⟨A74, c75, rfl, -⟩ := w77.form
 have hO := zsf7 hO
 refine zh hO [] [(20, .bool c60.1)] [0, 1, 4] zrX fun j => ?_
 refine zE hF rfl (fun hF => ?_) fun hF => ?_
 ·refine zo (zd hO 3 [] [(28, zsb bm0)] [0, 4] zrW fun j => ?_)
  rcases zO hF with ⟨x83, h84, hF⟩ | ⟨c79, h80, hF⟩
  ·refine zN (hs := [_, _, _, _]) (vs := [_, _, _]) hO (zcA r67 w72 w77 (RdT.nil Ty.str _) h84) (fun _ _ _ h => False.elim h) rfl fun _ σ _ _ hO h85 h86 => ?_
   have hL := hL.trans h85
   obtain ⟨v87, v91, o94, v96, o99, rfl, rfl, r90, w95, w100⟩ := h86
   obtain ⟨A88, c89, rfl, -⟩ := r90.form
   obtain ⟨A92, c93, rfl, -⟩ := w95.form
   obtain ⟨A97, c98, rfl, -⟩ := w100.form
   have hO := zsf7 hO
   cases hF
   have hO := hO.sel [4, 5, 6]
   exact hP _ _ _ _ hO hL ⟨_, _, _, _, _, rfl, rfl, r90, w95, w100⟩
  refine zP (hs := [_, _, _, _]) (vs := [_, _, _]) hO (zcA r67 w72 w77 (RdT.nil Ty.str _) h80) (fun _ _ _ h => False.elim h) rfl fun _ σ _ _ hO h81 h82 => ?_
  have hL := hL.trans h81
  obtain ⟨v101, v105, o108, v110, o113, rfl, rfl, r104, w109, w114⟩ := h82
  obtain ⟨A102, c103, rfl, -⟩ := r104.form
  obtain ⟨A106, c107, rfl, -⟩ := w109.form
  obtain ⟨A111, c112, rfl, -⟩ := w114.form
  have hO := zsf7 hO
  refine zh hO [] [(5, zsa c79.1.Num)] [0, 4] zrW fun j => ?_
  refine zo (zbE hO 3 [] [(0, zsb bm0), (4, zsb b3), (5, zsa c79.1.Num), (33, zsb bm0)] zrX fun j => ?_)
  refine zB (T := Ty.str) (l := ([(⟨#[93]⟩ : ByteArray)] : List ByteArray)) (cs := [.string (⟨#[93]⟩ : ByteArray)]) hO rfl ⟨[.string (⟨#[93]⟩ : ByteArray)], _, rfl, rfl, rfl⟩ rfl (by decide) fun _ σ o117 w118 hO => ?_
  obtain ⟨A115, c116, rfl, -⟩ := w118.form
  have hO := zsf8 hO
  obtain ⟨_, h120, r119, hO⟩ := w118.share hO (i := 7) rfl
  have hL := hL.trans h120
  have r104 := r104.le h120
  have w109 := w109.le h120
  have w114 := w114.le h120
  have hO := zsf8 hO
  have hO := hO.sel [0, 1, 2, 3, 7, 4, 5, 6]
  rcases zO hF with ⟨x125, h126, hF⟩ | ⟨c121, h122, hF⟩
  ·refine zN (hs := [_, _, _, _, _]) (vs := [_, _, _]) hO (zbG r104 w109 w114 r119 h126) (fun _ _ _ h => False.elim h) rfl fun _ σ _ _ hO h127 h128 => ?_
   have hL := hL.trans h127
   have r119 := r119.le h127
   obtain ⟨v129, v133, o136, v138, o141, rfl, rfl, r132, w137, w142⟩ := h128
   obtain ⟨A130, c131, rfl, -⟩ := r132.form
   obtain ⟨A134, c135, rfl, -⟩ := w137.form
   obtain ⟨A139, c140, rfl, -⟩ := w142.form
   have hO := zsf8 hO
   cases hF
   have hO := hO.sel [5, 6, 7]
   exact hP _ _ _ _ hO hL ⟨_, _, _, _, _, rfl, rfl, r132, w137, w142⟩
  refine zP (hs := [_, _, _, _, _]) (vs := [_, _, _]) hO (zbG r104 w109 w114 r119 h122) (fun _ _ _ h => False.elim h) rfl fun _ σ _ _ hO h123 h124 => ?_
  have hL := hL.trans h123
  have r119 := r119.le h123
  obtain ⟨v143, v147, o150, v152, o155, rfl, rfl, r146, w151, w156⟩ := h124
  obtain ⟨A144, c145, rfl, -⟩ := r146.form
  obtain ⟨A148, c149, rfl, -⟩ := w151.form
  obtain ⟨A153, c154, rfl, -⟩ := w156.form
  have hO := zsf8 hO
  refine za (zo (zd hO 3 [] [(38, zsb bm0)] [0, 4, 5] zrX fun j => ?_))
  refine zB (T := Ty.str) (l := ([(⟨#[105, 110, 116]⟩ : ByteArray)] : List ByteArray)) (cs := [.string (⟨#[105, 110, 116]⟩ : ByteArray)]) hO rfl ⟨[.string (⟨#[105, 110, 116]⟩ : ByteArray)], _, rfl, rfl, rfl⟩ rfl (by decide) fun _ σ o159 w160 hO => ?_
  obtain ⟨A157, c158, rfl, -⟩ := w160.form
  have hO := zsf9 hO
  obtain ⟨_, h162, r161, hO⟩ := w160.share hO (i := 8) rfl
  have hL := hL.trans h162
  have r146 := r146.le h162
  have w151 := w151.le h162
  have w156 := w156.le h162
  have hO := zsf9 hO
  have hO := hO.sel [0, 1, 2, 3, 4, 8, 5, 6, 7]
  rcases zO hF with ⟨x167, h168, hF⟩ | ⟨c163, h164, hF⟩
  ·refine zN (hs := [_, _, _, _, _, _]) (vs := [_, _, _]) hO (zcA r146 w151 w156 r161 h168) (fun _ _ _ h => False.elim h) rfl fun _ σ _ _ hO h169 h170 => ?_
   have hL := hL.trans h169
   have r161 := r161.le h169
   obtain ⟨v171, v175, o178, v180, o183, rfl, rfl, r174, w179, w184⟩ := h170
   obtain ⟨A172, c173, rfl, -⟩ := r174.form
   obtain ⟨A176, c177, rfl, -⟩ := w179.form
   obtain ⟨A181, c182, rfl, -⟩ := w184.form
   have hO := zsf9 hO
   cases hF
   have hO := hO.sel [6, 7, 8]
   exact hP _ _ _ _ hO hL ⟨_, _, _, _, _, rfl, rfl, r174, w179, w184⟩
  refine zP (hs := [_, _, _, _, _, _]) (vs := [_, _, _]) hO (zcA r146 w151 w156 r161 h164) (fun _ _ _ h => False.elim h) rfl fun _ σ _ _ hO h165 h166 => ?_
  have hL := hL.trans h165
  have r161 := r161.le h165
  obtain ⟨v185, v189, o192, v194, o197, rfl, rfl, r188, w193, w198⟩ := h166
  obtain ⟨A186, c187, rfl, -⟩ := r188.form
  obtain ⟨A190, c191, rfl, -⟩ := w193.form
  obtain ⟨A195, c196, rfl, -⟩ := w198.form
  have hO := zsf9 hO
  refine za (zo (zd hO 2 [] [(42, .agg #[(.int .u8 3), (.int .i64 c79.1.Num), (.string (⟨#[]⟩ : ByteArray))])] [0, 4] zrW fun j => ?_))
  refine zs hO (i := 0) rfl (off := 0) rfl rfl rfl rfl (Nat.le_of_ble_eq_true rfl) rfl fun σ hO => ?_
  have hO := zsf9 hO
  refine za (zbq (zbm (zU ?_)))
  cases hF
  have hV0 := hO.val (i := 0) rfl (off := 0) (agg := true) (n := 3) rfl
  have hO := hO.sel [6, 7, 8]
  refine (hQ _ _ _ _ _ (zbP rfl (hV0) rfl) hO hL ?_).1
  exact ⟨_, _, _, _, _, rfl, rfl, r188, w193, w198⟩
 refine zo (zd hO 2 [] [(45, .bool p1)] [0, 4] zrW fun j => ?_)
 have hO := hO.sel [0, 4, 5, 6]
 have hO := zsf4 hO
 obtain ⟨c199, h200, hF⟩ := zsg hF
 refine zcr 2 (fun e' σ' => ∃ (τ' : Hp), agr [(50, .bool c199), (0, zsb bm0), (4, zsb b3)] e' ∧ Obs τ' σ' [zqJ b3 0 0 (⟨#[]⟩ : ByteArray), zw bm0 (zsh A65 c60.2.cursor.tokens c66) c60.2.cursor.at_ (zsh A69 c60.2.prog.Structs c70) (zsh A74 c60.2.prog.Funcs c75), o71, o76] ∧ Hp.le τ τ' ∧ RdT zt τ' (zsh A65 c60.2.cursor.tokens c66) c60.2.cursor.tokens ∧ ze zn 71 τ' (zsh A69 c60.2.prog.Structs c70) c60.2.prog.Structs o71 ∧ ze zk 50 τ' (zsh A74 c60.2.prog.Funcs c75) c60.2.prog.Funcs o76) ?_ ?_
 ·have hF := h200
  rcases zbD hF with ⟨hb201, hF⟩ | ⟨hb201, hF⟩
  ·refine zbw (zsd hb201) ?_
   refine zM (zsc hb201) ?_
   refine za ?_
   cases hF
   refine zj ?_
   exact ⟨rfl, _, zr9 zrV, hO, hL, r67, w72, w77⟩
  refine zbv (zsd hb201) ?_
  refine zd hO 3 [] [(48, zsb bm0)] [0, 4, 45] zrX fun j => ?_
  obtain ⟨c202, h203, hF⟩ := zsg hF
  refine zbB (hs := [_]) (vs := [_, _, _]) hO (zd8 r67 w72 w77 (RdT.nil Ty.str _) h203) rfl fun _ σ _ _ hO h204 h205 => ?_
  have hL := hL.trans h204
  have r67 := r67.le h204
  have w72 := w72.le h204
  have w77 := w77.le h204
  obtain ⟨rfl, rfl⟩ := h205
  have hO := zsf4 hO
  refine zM (zsc hb201) ?_
  refine za ?_
  cases hF
  refine zj ?_
  exact ⟨rfl, _, zr9 zrV, hO, hL, r67, w72, w77⟩
 rintro e σ ⟨_, hA, hO, hL, r67, w72, w77⟩
 rw [← zbc _ _ hA]
 refine zh hO [] [(43, .bool c199)] [0, 4] zrW fun j => ?_
 refine zE hF rfl (fun hF => ?_) fun hF => ?_
 ·refine zo (zbE hO 3 [] [(0, zsb bm0), (4, zsb b3), (53, zsb bm0)] zrW fun j => ?_)
  rcases zO hF with ⟨x211, h212, hF⟩ | ⟨c207, h208, hF⟩
  ·refine zN (hs := [_]) (vs := [_, _, _]) hO (zb7 r67 w72 w77 h212) (fun _ _ _ h => False.elim h) rfl fun _ σ _ _ hO h213 h214 => ?_
   have hL := hL.trans h213
   obtain ⟨v215, v219, o222, v224, o227, rfl, rfl, r218, w223, w228⟩ := h214
   obtain ⟨A216, c217, rfl, -⟩ := r218.form
   obtain ⟨A220, c221, rfl, -⟩ := w223.form
   obtain ⟨A225, c226, rfl, -⟩ := w228.form
   have hO := zsf4 hO
   cases hF
   have hO := hO.sel [1, 2, 3]
   exact hP _ _ _ _ hO hL ⟨_, _, _, _, _, rfl, rfl, r218, w223, w228⟩
  refine zP (hs := [_]) (vs := [_, _, _]) hO (zb7 r67 w72 w77 h208) (fun _ _ _ h => False.elim h) rfl fun _ σ _ _ hO h209 h210 => ?_
  have hL := hL.trans h209
  obtain ⟨v229, v233, o236, v238, o241, rfl, rfl, r232, w237, w242⟩ := h210
  obtain ⟨A230, c231, rfl, -⟩ := r232.form
  obtain ⟨A234, c235, rfl, -⟩ := w237.form
  obtain ⟨A239, c240, rfl, -⟩ := w242.form
  have hO := zsf4 hO
  refine zd hO 1 [] [(55, .agg #[(.int .u8 4), (.int .i64 0), (.string c207.1)])] [0, 4] zrW fun j => ?_
  refine zs hO (i := 0) rfl (off := 0) rfl rfl rfl rfl (Nat.le_of_ble_eq_true rfl) rfl fun σ hO => ?_
  have hO := zsf4 hO
  refine za (zbq (zbm (zU ?_)))
  cases hF
  have hV0 := hO.val (i := 0) rfl (off := 0) (agg := true) (n := 3) rfl
  have hO := hO.sel [1, 2, 3]
  refine (hQ _ _ _ _ _ (zbP rfl (hV0) rfl) hO hL ?_).1
  exact ⟨_, _, _, _, _, rfl, rfl, r232, w237, w242⟩
 refine zS (zj (zbe (zp (zbE hO 1 [] [(0, zsb bm0), (4, zsb b3), (56, .agg #[(.int .u8 0), (.int .i64 0), (.string (⟨#[]⟩ : ByteArray))])] zrW fun j => ?_))))
 refine zs hO (i := 0) rfl (off := 0) rfl rfl rfl rfl (Nat.le_of_ble_eq_true rfl) rfl fun σ hO => ?_
 have hO := zsf4 hO
 refine za (zbt ?_)
 cases hF
 have hV0 := hO.val (i := 0) rfl (off := 0) (agg := true) (n := 3) rfl
 have hO := hO.sel [1, 2, 3]
 refine (hQ _ _ _ _ _ (zbP rfl (hV0) rfl) hO hL ?_).1
 exact ⟨_, _, _, _, _, rfl, rfl, r67, w72, w77⟩
theorem ziu {τ : Hp} {q0 : zc} {bm0 : Nat} {vm0_0 vm0_2 : Value} {om0_2 : Ob} {vm0_3 : Value} {om0_3 : Ob} (rm0_0 : RdT zt τ vm0_0 q0.cursor.tokens) (wm0_2 : ze zn 71 τ vm0_2 q0.prog.Structs om0_2) (wm0_3 : ze zk 50 τ vm0_3 q0.prog.Funcs om0_3) {rr : Except (Value × zc) (zbh × zc)} (hF : zga q0 = some rr) :
  zbM Try.prog 67 #[.pointer (some ⟨bm0, 0, none⟩)] τ [zw bm0 vm0_0 q0.cursor.at_ vm0_2 vm0_3, om0_2, om0_3] (fun v τ' vs' => match (generalizing := false) rr with | .ok rr => ∃ (u0_0 u0_2 : Value) (y0_2 : Ob) (u0_3 : Value) (y0_3 : Ob), v = .agg #[.string rr.1.Name, .int .u8 rr.1.Type_.Kind.toNat, .int .i64 rr.1.Type_.N, .string rr.1.Type_.Name] ∧ vs' = [zw bm0 u0_0 rr.2.cursor.at_ u0_2 u0_3, y0_2, y0_3] ∧ RdT zt τ' u0_0 rr.2.cursor.tokens ∧ ze zn 71 τ' u0_2 rr.2.prog.Structs y0_2 ∧ ze zk 50 τ' u0_3 rr.2.prog.Funcs y0_3 | .error _ => False) (fun ch τ' vs' => match (generalizing := false) rr with | .ok _ => False | .error ee => ∃ (u0_0 u0_2 : Value) (y0_2 : Ob) (u0_3 : Value) (y0_3 : Ob), ch = [{ v := ee.1, recovered := false }] ∧ vs' = [zw bm0 u0_0 ee.2.cursor.at_ u0_2 u0_3, y0_2, y0_3] ∧ RdT zt τ' u0_0 ee.2.cursor.tokens ∧ ze zn 71 τ' u0_2 ee.2.prog.Structs y0_2 ∧ ze zk 50 τ' u0_3 ee.2.prog.Funcs y0_3) := by
 obtain ⟨Am0_0, cm0_0, rfl, -⟩ := rm0_0.form
 obtain ⟨Am0_2, cm0_2, rfl, -⟩ := wm0_2.form
 obtain ⟨Am0_3, cm0_3, rfl, -⟩ := wm0_3.form
 refine zcL (args := [.pointer (some ⟨bm0, 0, none⟩)]) hm Try.func67 s67 rfl fun w0 σ hP hO Q hQ => ?_
 unfold zga at hF
 have hL := Hp.le.refl τ
 show wpn _ _ a67.body _ _ _
 unfold a67
 dsimp only
 refine zbg hO fun b2 σ hO => ?_
 have hO := zsf4 hO
 refine za (zd hO 3 [] [(6, zsb bm0)] [0, 2] zrW fun j => ?_)
 have hO := hO.sel [3, 0, 1, 2]
 rcases zO hF with ⟨x7, h8, hF⟩ | ⟨c3, h4, hF⟩
 ·refine zN (hs := [_]) (vs := [_, _, _]) hO (zb7 (rm0_0.le hL) (wm0_2.le hL) (wm0_3.le hL) h8) (fun _ _ _ h => False.elim h) rfl fun _ σ _ _ hO h9 h10 => ?_
  have hL := hL.trans h9
  obtain ⟨v11, v15, o18, v20, o23, rfl, rfl, r14, w19, w24⟩ := h10
  obtain ⟨A12, c13, rfl, -⟩ := r14.form
  obtain ⟨A16, c17, rfl, -⟩ := w19.form
  obtain ⟨A21, c22, rfl, -⟩ := w24.form
  have hO := zsf4 hO
  cases hF
  have hO := hO.sel [1, 2, 3]
  exact hP _ _ _ _ hO hL ⟨_, _, _, _, _, rfl, rfl, r14, w19, w24⟩
 refine zP (hs := [_]) (vs := [_, _, _]) hO (zb7 (rm0_0.le hL) (wm0_2.le hL) (wm0_3.le hL) h4) (fun _ _ _ h => False.elim h) rfl fun _ σ _ _ hO h5 h6 => ?_
 have hL := hL.trans h5
 obtain ⟨v25, v29, o32, v34, o37, rfl, rfl, r28, w33, w38⟩ := h6
 obtain ⟨A26, c27, rfl, -⟩ := r28.form
 obtain ⟨A30, c31, rfl, -⟩ := w33.form
 obtain ⟨A35, c36, rfl, -⟩ := w38.form
 have hO := zsf4 hO
 refine zd hO 1 [] [(8, .agg #[(.string c3.1), (.int .u8 0), (.int .i64 0), (.string (⟨#[]⟩ : ByteArray))])] [0, 2] zrW fun j => ?_
 refine zbg hO fun b39 σ hO => ?_
 have hO := zsf5 hO
 refine zs hO (i := 4) rfl (off := 0) rfl rfl rfl rfl (Nat.le_of_ble_eq_true rfl) rfl fun σ hO => ?_
 have hO := zsf5 hO
 refine za (zd hO 1 [] [(9, zsb bm0)] [0, 2, 3] zrX fun j => ?_)
 have hO := hO.sel [0, 4, 1, 2, 3]
 rcases zO hF with ⟨x44, h45, hF⟩ | ⟨c40, h41, hF⟩
 ·refine zN (hs := [_, _]) (vs := [_, _, _]) hO (zfL r28 w33 w38 h45) (fun _ _ _ h => False.elim h) rfl fun _ σ _ _ hO h46 h47 => ?_
  have hL := hL.trans h46
  obtain ⟨v48, v52, o55, v57, o60, rfl, rfl, r51, w56, w61⟩ := h47
  obtain ⟨A49, c50, rfl, -⟩ := r51.form
  obtain ⟨A53, c54, rfl, -⟩ := w56.form
  obtain ⟨A58, c59, rfl, -⟩ := w61.form
  have hO := zsf5 hO
  cases hF
  have hO := hO.sel [2, 3, 4]
  exact hP _ _ _ _ hO hL ⟨_, _, _, _, _, rfl, rfl, r51, w56, w61⟩
 refine zP (hs := [_, _]) (vs := [_, _, _]) hO (zfL r28 w33 w38 h41) (fun _ _ _ h => False.elim h) rfl fun _ σ _ _ hO h42 h43 => ?_
 have hL := hL.trans h42
 obtain ⟨v62, v66, o69, v71, o74, rfl, rfl, r65, w70, w75⟩ := h43
 obtain ⟨A63, c64, rfl, -⟩ := r65.form
 obtain ⟨A67, c68, rfl, -⟩ := w70.form
 obtain ⟨A72, c73, rfl, -⟩ := w75.form
 have hO := zsf5 hO
 refine zd hO 1 [] [(11, .pointer (some ⟨b39, 1, none⟩))] [0, 2, 3, 10] zrY fun j => ?_
 refine zs hO (i := 1) rfl (off := 1) rfl rfl rfl rfl (Nat.le_of_ble_eq_true rfl) rfl fun σ hO => ?_
 have hO := zsf5 hO
 refine za (zd hO 1 [1] [(12, .agg #[(.string c3.1), (.int .u8 (c40.1.Kind.toNat : Int)), (.int .i64 c40.1.N), (.string c40.1.Name)])] [0, 2] (And.intro (And.intro rfl rfl) zrW) fun j => ?_)
 refine zs hO (i := 0) rfl (off := 0) rfl rfl rfl rfl (Nat.le_of_ble_eq_true rfl) rfl fun σ hO => ?_
 have hO := zsf5 hO
 refine za (zbt ?_)
 cases hF
 have hV0 := hO.val (i := 0) rfl (off := 0) (agg := true) (n := 4) rfl
 have hO := hO.sel [2, 3, 4]
 refine (hQ _ _ _ _ _ (zbP rfl (hV0) rfl) hO hL ?_).1
 exact ⟨_, _, _, _, _, rfl, rfl, r65, w70, w75⟩
theorem zpV {τ : Hp}   {rr : (List (List ByteArray))} (hF : zid  = some rr) :
  Ctr Try.prog 92 #[] τ [] (fun v τ' vs' => ∃ (v0 : Value) (o0 : Ob), v = v0 ∧ vs' = [o0] ∧ ze (Ty.slice Ty.str) 69 τ' v0 rr o0) := by
 refine zbI (args := []) hm Try.func92 s92 rfl fun w0 σ hO Q hQ => ?_
 unfold zid at hF
 have hL := Hp.le.refl τ
 show wpn _ _ a92.body _ _ _
 unfold a92
 dsimp only
 refine zX hO [] [] (trivial) fun j => ?_
 refine zB (T := Ty.str) (l := ([(⟨#[124, 124]⟩ : ByteArray)] : List ByteArray)) (cs := [.string (⟨#[124, 124]⟩ : ByteArray)]) hO rfl ⟨[.string (⟨#[124, 124]⟩ : ByteArray)], _, rfl, rfl, rfl⟩ rfl (by decide) fun _ σ o3 w4 hO => ?_
 obtain ⟨A1, c2, rfl, -⟩ := w4.form
 have hO := zsf1 hO
 refine zB (T := Ty.str) (l := ([(⟨#[38, 38]⟩ : ByteArray)] : List ByteArray)) (cs := [.string (⟨#[38, 38]⟩ : ByteArray)]) hO rfl ⟨[.string (⟨#[38, 38]⟩ : ByteArray)], _, rfl, rfl, rfl⟩ rfl (by decide) fun _ σ o7 w8 hO => ?_
 obtain ⟨A5, c6, rfl, -⟩ := w8.form
 have hO := zsf2 hO
 refine zB (T := Ty.str) (l := ([(⟨#[61, 61]⟩ : ByteArray), (⟨#[33, 61]⟩ : ByteArray), (⟨#[60]⟩ : ByteArray), (⟨#[60, 61]⟩ : ByteArray), (⟨#[62]⟩ : ByteArray), (⟨#[62, 61]⟩ : ByteArray)] : List ByteArray)) (cs := [.string (⟨#[61, 61]⟩ : ByteArray), .string (⟨#[33, 61]⟩ : ByteArray), .string (⟨#[60]⟩ : ByteArray), .string (⟨#[60, 61]⟩ : ByteArray), .string (⟨#[62]⟩ : ByteArray), .string (⟨#[62, 61]⟩ : ByteArray)]) hO (by kernel_rfl) ⟨[.string (⟨#[61, 61]⟩ : ByteArray)], _, rfl, rfl, ⟨[.string (⟨#[33, 61]⟩ : ByteArray)], _, rfl, rfl, ⟨[.string (⟨#[60]⟩ : ByteArray)], _, rfl, rfl, ⟨[.string (⟨#[60, 61]⟩ : ByteArray)], _, rfl, rfl, ⟨[.string (⟨#[62]⟩ : ByteArray)], _, rfl, rfl, ⟨[.string (⟨#[62, 61]⟩ : ByteArray)], _, rfl, rfl, rfl⟩⟩⟩⟩⟩⟩ rfl (by decide) fun _ σ o11 w12 hO => ?_
 obtain ⟨A9, c10, rfl, -⟩ := w12.form
 have hO := zsf3 hO
 refine zB (T := Ty.str) (l := ([(⟨#[43]⟩ : ByteArray), (⟨#[45]⟩ : ByteArray)] : List ByteArray)) (cs := [.string (⟨#[43]⟩ : ByteArray), .string (⟨#[45]⟩ : ByteArray)]) hO rfl ⟨[.string (⟨#[43]⟩ : ByteArray)], _, rfl, rfl, ⟨[.string (⟨#[45]⟩ : ByteArray)], _, rfl, rfl, rfl⟩⟩ rfl (by decide) fun _ σ o15 w16 hO => ?_
 obtain ⟨A13, c14, rfl, -⟩ := w16.form
 have hO := zsf4 hO
 refine zB (T := Ty.str) (l := ([(⟨#[42]⟩ : ByteArray), (⟨#[47]⟩ : ByteArray), (⟨#[37]⟩ : ByteArray)] : List ByteArray)) (cs := [.string (⟨#[42]⟩ : ByteArray), .string (⟨#[47]⟩ : ByteArray), .string (⟨#[37]⟩ : ByteArray)]) hO rfl ⟨[.string (⟨#[42]⟩ : ByteArray)], _, rfl, rfl, ⟨[.string (⟨#[47]⟩ : ByteArray)], _, rfl, rfl, ⟨[.string (⟨#[37]⟩ : ByteArray)], _, rfl, rfl, rfl⟩⟩⟩ rfl (by decide) fun _ σ o19 w20 hO => ?_
 obtain ⟨A17, c18, rfl, -⟩ := w20.form
 have hO := zsf5 hO
 obtain ⟨_, h22, r21, hO⟩ := w4.share hO (i := 0) rfl
 have hL := hL.trans h22
 have w8 := w8.le h22
 have w12 := w12.le h22
 have w16 := w16.le h22
 have w20 := w20.le h22
 have hO := zsf5 hO
 obtain ⟨_, h24, r23, hO⟩ := w8.share hO (i := 1) rfl
 have hL := hL.trans h24
 have r21 := r21.le h24
 have w12 := w12.le h24
 have w16 := w16.le h24
 have w20 := w20.le h24
 have hO := zsf5 hO
 obtain ⟨_, h26, r25, hO⟩ := w12.share hO (i := 2) rfl
 have hL := hL.trans h26
 have r21 := r21.le h26
 have r23 := r23.le h26
 have w16 := w16.le h26
 have w20 := w20.le h26
 have hO := zsf5 hO
 obtain ⟨_, h28, r27, hO⟩ := w16.share hO (i := 3) rfl
 have hL := hL.trans h28
 have r21 := r21.le h28
 have r23 := r23.le h28
 have r25 := r25.le h28
 have w20 := w20.le h28
 have hO := zsf5 hO
 obtain ⟨_, h30, r29, hO⟩ := w20.share hO (i := 4) rfl
 have hL := hL.trans h30
 have r21 := r21.le h30
 have r23 := r23.le h30
 have r25 := r25.le h30
 have r27 := r27.le h30
 have hO := zsf5 hO
 refine zB (T := (Ty.slice Ty.str)) (l := ([([(⟨#[124, 124]⟩ : ByteArray)] : List ByteArray), ([(⟨#[38, 38]⟩ : ByteArray)] : List ByteArray), ([(⟨#[61, 61]⟩ : ByteArray), (⟨#[33, 61]⟩ : ByteArray), (⟨#[60]⟩ : ByteArray), (⟨#[60, 61]⟩ : ByteArray), (⟨#[62]⟩ : ByteArray), (⟨#[62, 61]⟩ : ByteArray)] : List ByteArray), ([(⟨#[43]⟩ : ByteArray), (⟨#[45]⟩ : ByteArray)] : List ByteArray), ([(⟨#[42]⟩ : ByteArray), (⟨#[47]⟩ : ByteArray), (⟨#[37]⟩ : ByteArray)] : List ByteArray)] : List (List ByteArray))) (cs := [zsh A1 ([(⟨#[124, 124]⟩ : ByteArray)] : List ByteArray) c2, zsh A5 ([(⟨#[38, 38]⟩ : ByteArray)] : List ByteArray) c6, zsh A9 ([(⟨#[61, 61]⟩ : ByteArray), (⟨#[33, 61]⟩ : ByteArray), (⟨#[60]⟩ : ByteArray), (⟨#[60, 61]⟩ : ByteArray), (⟨#[62]⟩ : ByteArray), (⟨#[62, 61]⟩ : ByteArray)] : List ByteArray) c10, zsh A13 ([(⟨#[43]⟩ : ByteArray), (⟨#[45]⟩ : ByteArray)] : List ByteArray) c14, zsh A17 ([(⟨#[42]⟩ : ByteArray), (⟨#[47]⟩ : ByteArray), (⟨#[37]⟩ : ByteArray)] : List ByteArray) c18]) hO rfl ⟨[zsh A1 ([(⟨#[124, 124]⟩ : ByteArray)] : List ByteArray) c2], _, rfl, ⟨_, rfl, r21⟩, ⟨[zsh A5 ([(⟨#[38, 38]⟩ : ByteArray)] : List ByteArray) c6], _, rfl, ⟨_, rfl, r23⟩, ⟨[zsh A9 ([(⟨#[61, 61]⟩ : ByteArray), (⟨#[33, 61]⟩ : ByteArray), (⟨#[60]⟩ : ByteArray), (⟨#[60, 61]⟩ : ByteArray), (⟨#[62]⟩ : ByteArray), (⟨#[62, 61]⟩ : ByteArray)] : List ByteArray) c10], _, rfl, ⟨_, rfl, r25⟩, ⟨[zsh A13 ([(⟨#[43]⟩ : ByteArray), (⟨#[45]⟩ : ByteArray)] : List ByteArray) c14], _, rfl, ⟨_, rfl, r27⟩, ⟨[zsh A17 ([(⟨#[42]⟩ : ByteArray), (⟨#[47]⟩ : ByteArray), (⟨#[37]⟩ : ByteArray)] : List ByteArray) c18], _, rfl, ⟨_, rfl, r29⟩, rfl⟩⟩⟩⟩⟩ rfl (by decide) fun _ σ o33 w34 hO => ?_
 obtain ⟨A31, c32, rfl, -⟩ := w34.form
 have hO := zsf6 hO
 refine zX hO [] [(0, zsh A31 ([([(⟨#[124, 124]⟩ : ByteArray)] : List ByteArray), ([(⟨#[38, 38]⟩ : ByteArray)] : List ByteArray), ([(⟨#[61, 61]⟩ : ByteArray), (⟨#[33, 61]⟩ : ByteArray), (⟨#[60]⟩ : ByteArray), (⟨#[60, 61]⟩ : ByteArray), (⟨#[62]⟩ : ByteArray), (⟨#[62, 61]⟩ : ByteArray)] : List ByteArray), ([(⟨#[43]⟩ : ByteArray), (⟨#[45]⟩ : ByteArray)] : List ByteArray), ([(⟨#[42]⟩ : ByteArray), (⟨#[47]⟩ : ByteArray), (⟨#[37]⟩ : ByteArray)] : List ByteArray)] : List (List ByteArray)) c32)] zrU fun j => ?_
 refine zbt ?_
 cases hF
 have hO := hO.sel [5]
 exact hQ _ _ _ _ _ rfl hO hL ⟨_, _, rfl, rfl, w34⟩
def zgH (gn : Nat) : Prop := ∀ {τ : Hp} {q0 : zc} {bm0 : Nat} {vm0_0 vm0_2 : Value} {om0_2 : Ob} {vm0_3 : Value} {om0_3 : Ob} (rm0_0 : RdT zt τ vm0_0 q0.cursor.tokens) (wm0_2 : ze zn 71 τ vm0_2 q0.prog.Structs om0_2) (wm0_3 : ze zk 50 τ vm0_3 q0.prog.Funcs om0_3) {rr : Except (Value × zc) (zb × zc)} (hF : ((zZ gn).1) q0 = some rr), zbM Try.prog 83 #[.pointer (some ⟨bm0, 0, none⟩)] τ [zw bm0 vm0_0 q0.cursor.at_ vm0_2 vm0_3, om0_2, om0_3] (fun v τ' vs' => match (generalizing := false) rr with | .ok rr => ∃ (v0_5 u0_0 u0_2 : Value) (y0_2 : Ob) (u0_3 : Value) (y0_3 : Ob), v = .agg #[.int .u8 rr.1.Kind.toNat, .int .i64 rr.1.Num, .string rr.1.Name, .string rr.1.Field, .string rr.1.Op, v0_5] ∧ vs' = [zw bm0 u0_0 rr.2.cursor.at_ u0_2 u0_3, y0_2, y0_3] ∧ RdT zC τ' v0_5 rr.1.Kids ∧ RdT zt τ' u0_0 rr.2.cursor.tokens ∧ ze zn 71 τ' u0_2 rr.2.prog.Structs y0_2 ∧ ze zk 50 τ' u0_3 rr.2.prog.Funcs y0_3 | .error _ => False) (fun ch τ' vs' => match (generalizing := false) rr with | .ok _ => False | .error ee => ∃ (u0_0 u0_2 : Value) (y0_2 : Ob) (u0_3 : Value) (y0_3 : Ob), ch = [{ v := ee.1, recovered := false }] ∧ vs' = [zw bm0 u0_0 ee.2.cursor.at_ u0_2 u0_3, y0_2, y0_3] ∧ RdT zt τ' u0_0 ee.2.cursor.tokens ∧ ze zn 71 τ' u0_2 ee.2.prog.Structs y0_2 ∧ ze zk 50 τ' u0_3 ee.2.prog.Funcs y0_3)
def zho (gn : Nat) : Prop := ∀ {τ : Hp} {q0 : zc} {bm0 : Nat} {vm0_0 vm0_2 : Value} {om0_2 : Ob} {vm0_3 : Value} {om0_3 : Ob} {v1 : Value} {p1 : (List (List ByteArray))} (rm0_0 : RdT zt τ vm0_0 q0.cursor.tokens) (wm0_2 : ze zn 71 τ vm0_2 q0.prog.Structs om0_2) (wm0_3 : ze zk 50 τ vm0_3 q0.prog.Funcs om0_3) (r1 : RdT (Ty.slice Ty.str) τ v1 p1) {rr : Except (Value × zc) (zb × zc)} (hF : ((zZ gn).2.1) q0 p1 = some rr), zbM Try.prog 91 #[.pointer (some ⟨bm0, 0, none⟩), v1] τ [zw bm0 vm0_0 q0.cursor.at_ vm0_2 vm0_3, om0_2, om0_3] (fun v τ' vs' => match (generalizing := false) rr with | .ok rr => ∃ (v0_5 u0_0 u0_2 : Value) (y0_2 : Ob) (u0_3 : Value) (y0_3 : Ob), v = .agg #[.int .u8 rr.1.Kind.toNat, .int .i64 rr.1.Num, .string rr.1.Name, .string rr.1.Field, .string rr.1.Op, v0_5] ∧ vs' = [zw bm0 u0_0 rr.2.cursor.at_ u0_2 u0_3, y0_2, y0_3] ∧ RdT zC τ' v0_5 rr.1.Kids ∧ RdT zt τ' u0_0 rr.2.cursor.tokens ∧ ze zn 71 τ' u0_2 rr.2.prog.Structs y0_2 ∧ ze zk 50 τ' u0_3 rr.2.prog.Funcs y0_3 | .error _ => False) (fun ch τ' vs' => match (generalizing := false) rr with | .ok _ => False | .error ee => ∃ (u0_0 u0_2 : Value) (y0_2 : Ob) (u0_3 : Value) (y0_3 : Ob), ch = [{ v := ee.1, recovered := false }] ∧ vs' = [zw bm0 u0_0 ee.2.cursor.at_ u0_2 u0_3, y0_2, y0_3] ∧ RdT zt τ' u0_0 ee.2.cursor.tokens ∧ ze zn 71 τ' u0_2 ee.2.prog.Structs y0_2 ∧ ze zk 50 τ' u0_3 ee.2.prog.Funcs y0_3)
def zhl (gn : Nat) : Prop := ∀ {τ : Hp} {q0 : zc} {bm0 : Nat} {vm0_0 vm0_2 : Value} {om0_2 : Ob} {vm0_3 : Value} {om0_3 : Ob} (rm0_0 : RdT zt τ vm0_0 q0.cursor.tokens) (wm0_2 : ze zn 71 τ vm0_2 q0.prog.Structs om0_2) (wm0_3 : ze zk 50 τ vm0_3 q0.prog.Funcs om0_3) {rr : Except (Value × zc) (zb × zc)} (hF : ((zZ gn).2.2.1) q0 = some rr), zbM Try.prog 95 #[.pointer (some ⟨bm0, 0, none⟩)] τ [zw bm0 vm0_0 q0.cursor.at_ vm0_2 vm0_3, om0_2, om0_3] (fun v τ' vs' => match (generalizing := false) rr with | .ok rr => ∃ (v0_5 u0_0 u0_2 : Value) (y0_2 : Ob) (u0_3 : Value) (y0_3 : Ob), v = .agg #[.int .u8 rr.1.Kind.toNat, .int .i64 rr.1.Num, .string rr.1.Name, .string rr.1.Field, .string rr.1.Op, v0_5] ∧ vs' = [zw bm0 u0_0 rr.2.cursor.at_ u0_2 u0_3, y0_2, y0_3] ∧ RdT zC τ' v0_5 rr.1.Kids ∧ RdT zt τ' u0_0 rr.2.cursor.tokens ∧ ze zn 71 τ' u0_2 rr.2.prog.Structs y0_2 ∧ ze zk 50 τ' u0_3 rr.2.prog.Funcs y0_3 | .error _ => False) (fun ch τ' vs' => match (generalizing := false) rr with | .ok _ => False | .error ee => ∃ (u0_0 u0_2 : Value) (y0_2 : Ob) (u0_3 : Value) (y0_3 : Ob), ch = [{ v := ee.1, recovered := false }] ∧ vs' = [zw bm0 u0_0 ee.2.cursor.at_ u0_2 u0_3, y0_2, y0_3] ∧ RdT zt τ' u0_0 ee.2.cursor.tokens ∧ ze zn 71 τ' u0_2 ee.2.prog.Structs y0_2 ∧ ze zk 50 τ' u0_3 ee.2.prog.Funcs y0_3)
def zhA (gn : Nat) : Prop := ∀ {τ : Hp} {q0 : zc} {bm0 : Nat} {vm0_0 vm0_2 : Value} {om0_2 : Ob} {vm0_3 : Value} {om0_3 : Ob} (rm0_0 : RdT zt τ vm0_0 q0.cursor.tokens) (wm0_2 : ze zn 71 τ vm0_2 q0.prog.Structs om0_2) (wm0_3 : ze zk 50 τ vm0_3 q0.prog.Funcs om0_3) {rr : Except (Value × zc) (zb × zc)} (hF : ((zZ gn).2.2.2) q0 = some rr), zbM Try.prog 98 #[.pointer (some ⟨bm0, 0, none⟩)] τ [zw bm0 vm0_0 q0.cursor.at_ vm0_2 vm0_3, om0_2, om0_3] (fun v τ' vs' => match (generalizing := false) rr with | .ok rr => ∃ (v0_5 u0_0 u0_2 : Value) (y0_2 : Ob) (u0_3 : Value) (y0_3 : Ob), v = .agg #[.int .u8 rr.1.Kind.toNat, .int .i64 rr.1.Num, .string rr.1.Name, .string rr.1.Field, .string rr.1.Op, v0_5] ∧ vs' = [zw bm0 u0_0 rr.2.cursor.at_ u0_2 u0_3, y0_2, y0_3] ∧ RdT zC τ' v0_5 rr.1.Kids ∧ RdT zt τ' u0_0 rr.2.cursor.tokens ∧ ze zn 71 τ' u0_2 rr.2.prog.Structs y0_2 ∧ ze zk 50 τ' u0_3 rr.2.prog.Funcs y0_3 | .error _ => False) (fun ch τ' vs' => match (generalizing := false) rr with | .ok _ => False | .error ee => ∃ (u0_0 u0_2 : Value) (y0_2 : Ob) (u0_3 : Value) (y0_3 : Ob), ch = [{ v := ee.1, recovered := false }] ∧ vs' = [zw bm0 u0_0 ee.2.cursor.at_ u0_2 u0_3, y0_2, y0_3] ∧ RdT zt τ' u0_0 ee.2.cursor.tokens ∧ ze zn 71 τ' u0_2 ee.2.prog.Structs y0_2 ∧ ze zk 50 τ' u0_3 ee.2.prog.Funcs y0_3)
theorem zoC {gn : Nat} (ih_syntax_parser_exp : zgH gn) (ih_syntax_parser_binary : zho gn) (ih_syntax_parser_unary : zhl gn) (ih_syntax_parser_index : zhA gn) {τ : Hp} {q0 : zc} {bm0 : Nat} {vm0_0 vm0_2 : Value} {om0_2 : Ob} {vm0_3 : Value} {om0_3 : Ob} (rm0_0 : RdT zt τ vm0_0 q0.cursor.tokens) (wm0_2 : ze zn 71 τ vm0_2 q0.prog.Structs om0_2) (wm0_3 : ze zk 50 τ vm0_3 q0.prog.Funcs om0_3) {rr : Except (Value × zc) (zb × zc)} (hF : zgK ((zZ gn).1) ((zZ gn).2.1) ((zZ gn).2.2.1) ((zZ gn).2.2.2) q0 = some rr) :
  zbM Try.prog 83 #[.pointer (some ⟨bm0, 0, none⟩)] τ [zw bm0 vm0_0 q0.cursor.at_ vm0_2 vm0_3, om0_2, om0_3] (fun v τ' vs' => match (generalizing := false) rr with | .ok rr => ∃ (v0_5 u0_0 u0_2 : Value) (y0_2 : Ob) (u0_3 : Value) (y0_3 : Ob), v = .agg #[.int .u8 rr.1.Kind.toNat, .int .i64 rr.1.Num, .string rr.1.Name, .string rr.1.Field, .string rr.1.Op, v0_5] ∧ vs' = [zw bm0 u0_0 rr.2.cursor.at_ u0_2 u0_3, y0_2, y0_3] ∧ RdT zC τ' v0_5 rr.1.Kids ∧ RdT zt τ' u0_0 rr.2.cursor.tokens ∧ ze zn 71 τ' u0_2 rr.2.prog.Structs y0_2 ∧ ze zk 50 τ' u0_3 rr.2.prog.Funcs y0_3 | .error _ => False) (fun ch τ' vs' => match (generalizing := false) rr with | .ok _ => False | .error ee => ∃ (u0_0 u0_2 : Value) (y0_2 : Ob) (u0_3 : Value) (y0_3 : Ob), ch = [{ v := ee.1, recovered := false }] ∧ vs' = [zw bm0 u0_0 ee.2.cursor.at_ u0_2 u0_3, y0_2, y0_3] ∧ RdT zt τ' u0_0 ee.2.cursor.tokens ∧ ze zn 71 τ' u0_2 ee.2.prog.Structs y0_2 ∧ ze zk 50 τ' u0_3 ee.2.prog.Funcs y0_3) := by
 obtain ⟨Am0_0, cm0_0, rfl, -⟩ := rm0_0.form
 obtain ⟨Am0_2, cm0_2, rfl, -⟩ := wm0_2.form
 obtain ⟨Am0_3, cm0_3, rfl, -⟩ := wm0_3.form
 refine zcL (args := [.pointer (some ⟨bm0, 0, none⟩)]) hm Try.func83 s83 rfl fun w0 σ hP hO Q hQ => ?_
 unfold zgK at hF
 have hL := Hp.le.refl τ
 show wpn _ _ a83.body _ _ _
 unfold a83
 dsimp only
 refine zbg hO fun b2 σ hO => ?_
 have hO := zsf4 hO
 refine za (zd hO 1 [] [(3, zsb bm0)] [0, 2] zrW fun j => ?_)
 obtain ⟨c3, h4, hF⟩ := zsg hF
 refine zbr hO (zpV h4) rfl fun _ σ _ _ hO h5 h6 => ?_
 have hL := hL.trans h5
 obtain ⟨v7, o10, rfl, rfl, w11⟩ := h6
 obtain ⟨A8, c9, rfl, -⟩ := w11.form
 have hO := zsf5 hO
 obtain ⟨_, h13, r12, hO⟩ := w11.share hO (i := 4) rfl
 have hL := hL.trans h13
 have hO := zsf5 hO
 have hO := hO.sel [3, 4, 0, 1, 2]
 rcases zO hF with ⟨x18, h19, hF⟩ | ⟨c14, h15, hF⟩
 ·refine zN (hs := [_, _]) (vs := [_, _, _]) hO (ih_syntax_parser_binary (rm0_0.le hL) (wm0_2.le hL) (wm0_3.le hL) r12 h19) (fun _ _ _ h => False.elim h) rfl fun _ σ _ _ hO h20 h21 => ?_
  have hL := hL.trans h20
  have r12 := r12.le h20
  obtain ⟨v22, v26, o29, v31, o34, rfl, rfl, r25, w30, w35⟩ := h21
  obtain ⟨A23, c24, rfl, -⟩ := r25.form
  obtain ⟨A27, c28, rfl, -⟩ := w30.form
  obtain ⟨A32, c33, rfl, -⟩ := w35.form
  have hO := zsf5 hO
  cases hF
  have hO := hO.sel [2, 3, 4]
  exact hP _ _ _ _ hO hL ⟨_, _, _, _, _, rfl, rfl, r25, w30, w35⟩
 refine zP (hs := [_, _]) (vs := [_, _, _]) hO (ih_syntax_parser_binary (rm0_0.le hL) (wm0_2.le hL) (wm0_3.le hL) r12 h15) (fun _ _ _ h => False.elim h) rfl fun _ σ _ _ hO h16 h17 => ?_
 have hL := hL.trans h16
 have r12 := r12.le h16
 obtain ⟨v36, v40, v44, o47, v49, o52, rfl, rfl, r37, r43, w48, w53⟩ := h17
 obtain ⟨A38, c39, rfl, -⟩ := r37.form
 obtain ⟨A41, c42, rfl, -⟩ := r43.form
 obtain ⟨A45, c46, rfl, -⟩ := w48.form
 obtain ⟨A50, c51, rfl, -⟩ := w53.form
 have hO := zsf5 hO
 refine zs hO (i := 0) rfl (off := 0) rfl rfl rfl rfl (Nat.le_of_ble_eq_true rfl) rfl fun σ hO => ?_
 have hO := zsf5 hO
 refine za (zbt ?_)
 cases hF
 have hV0 := hO.val (i := 0) rfl (off := 0) (agg := true) (n := 6) rfl
 have hO := hO.sel [2, 3, 4]
 refine (hQ _ _ _ _ _ (zbP rfl (hV0) rfl) hO hL ?_).1
 exact ⟨_, _, _, _, _, _, rfl, rfl, r37, r43, w48, w53⟩
theorem zqU {gn : Nat} (ih_syntax_parser_exp : zgH gn) (ih_syntax_parser_binary : zho gn) (ih_syntax_parser_unary : zhl gn) (ih_syntax_parser_index : zhA gn) {τ : Hp} {q0 : zc} {bm0 : Nat} {vm0_0 vm0_2 : Value} {om0_2 : Ob} {vm0_3 : Value} {om0_3 : Ob} {v1 : Value} {p1 : (List (List ByteArray))} (rm0_0 : RdT zt τ vm0_0 q0.cursor.tokens) (wm0_2 : ze zn 71 τ vm0_2 q0.prog.Structs om0_2) (wm0_3 : ze zk 50 τ vm0_3 q0.prog.Funcs om0_3) (r1 : RdT (Ty.slice Ty.str) τ v1 p1) {rr : Except (Value × zc) (zb × zc)} (hF : zhd ((zZ gn).1) ((zZ gn).2.1) ((zZ gn).2.2.1) ((zZ gn).2.2.2) q0 p1 = some rr) :
  zbM Try.prog 91 #[.pointer (some ⟨bm0, 0, none⟩), v1] τ [zw bm0 vm0_0 q0.cursor.at_ vm0_2 vm0_3, om0_2, om0_3] (fun v τ' vs' => match (generalizing := false) rr with | .ok rr => ∃ (v0_5 u0_0 u0_2 : Value) (y0_2 : Ob) (u0_3 : Value) (y0_3 : Ob), v = .agg #[.int .u8 rr.1.Kind.toNat, .int .i64 rr.1.Num, .string rr.1.Name, .string rr.1.Field, .string rr.1.Op, v0_5] ∧ vs' = [zw bm0 u0_0 rr.2.cursor.at_ u0_2 u0_3, y0_2, y0_3] ∧ RdT zC τ' v0_5 rr.1.Kids ∧ RdT zt τ' u0_0 rr.2.cursor.tokens ∧ ze zn 71 τ' u0_2 rr.2.prog.Structs y0_2 ∧ ze zk 50 τ' u0_3 rr.2.prog.Funcs y0_3 | .error _ => False) (fun ch τ' vs' => match (generalizing := false) rr with | .ok _ => False | .error ee => ∃ (u0_0 u0_2 : Value) (y0_2 : Ob) (u0_3 : Value) (y0_3 : Ob), ch = [{ v := ee.1, recovered := false }] ∧ vs' = [zw bm0 u0_0 ee.2.cursor.at_ u0_2 u0_3, y0_2, y0_3] ∧ RdT zt τ' u0_0 ee.2.cursor.tokens ∧ ze zn 71 τ' u0_2 ee.2.prog.Structs y0_2 ∧ ze zk 50 τ' u0_3 ee.2.prog.Funcs y0_3) := by
 obtain ⟨Am0_0, cm0_0, rfl, -⟩ := rm0_0.form
 obtain ⟨Am0_2, cm0_2, rfl, -⟩ := wm0_2.form
 obtain ⟨Am0_3, cm0_3, rfl, -⟩ := wm0_3.form
 obtain ⟨A1, c1, rfl, -⟩ := r1.form
 refine zcL (args := [.pointer (some ⟨bm0, 0, none⟩), .slice A1 p1.length c1]) hm Try.func91 s91 rfl fun w0 σ hP hO Q hQ => ?_
 unfold zhd at hF
 have hL := Hp.le.refl τ
 show wpn _ _ a91.body _ _ _
 unfold a91
 dsimp only
 refine zbg hO fun b3 σ hO => ?_
 have hO := zsf4 hO
 refine za (zo (zh hO [] [(9, .bool ((p1.length : Int) == 0))] [0, 1, 4] zrX fun j => ?_))
 refine zE hF rfl (fun hF => ?_) fun hF => ?_
 ·refine zo (zd hO 1 [] [(10, zsb bm0)] [0, 4] zrW fun j => ?_)
  have hO := hO.sel [3, 0, 1, 2]
  rcases zO hF with ⟨x9, h10, hF⟩ | ⟨c5, h6, hF⟩
  ·refine zN (hs := [_]) (vs := [_, _, _]) hO (ih_syntax_parser_unary (rm0_0.le hL) (wm0_2.le hL) (wm0_3.le hL) h10) (fun _ _ _ h => False.elim h) rfl fun _ σ _ _ hO h11 h12 => ?_
   have hL := hL.trans h11
   obtain ⟨v13, v17, o20, v22, o25, rfl, rfl, r16, w21, w26⟩ := h12
   obtain ⟨A14, c15, rfl, -⟩ := r16.form
   obtain ⟨A18, c19, rfl, -⟩ := w21.form
   obtain ⟨A23, c24, rfl, -⟩ := w26.form
   have hO := zsf4 hO
   cases hF
   have hO := hO.sel [1, 2, 3]
   exact hP _ _ _ _ hO hL ⟨_, _, _, _, _, rfl, rfl, r16, w21, w26⟩
  refine zP (hs := [_]) (vs := [_, _, _]) hO (ih_syntax_parser_unary (rm0_0.le hL) (wm0_2.le hL) (wm0_3.le hL) h6) (fun _ _ _ h => False.elim h) rfl fun _ σ _ _ hO h7 h8 => ?_
  have hL := hL.trans h7
  obtain ⟨v27, v31, v35, o38, v40, o43, rfl, rfl, r28, r34, w39, w44⟩ := h8
  obtain ⟨A29, c30, rfl, -⟩ := r28.form
  obtain ⟨A32, c33, rfl, -⟩ := r34.form
  obtain ⟨A36, c37, rfl, -⟩ := w39.form
  obtain ⟨A41, c42, rfl, -⟩ := w44.form
  have hO := zsf4 hO
  refine zs hO (i := 0) rfl (off := 0) rfl rfl rfl rfl (Nat.le_of_ble_eq_true rfl) rfl fun σ hO => ?_
  have hO := zsf4 hO
  refine za (zbq ?_)
  cases hF
  have hV0 := hO.val (i := 0) rfl (off := 0) (agg := true) (n := 6) rfl
  have hO := hO.sel [1, 2, 3]
  refine (hQ _ _ _ _ _ (zbP rfl (hV0) rfl) hO hL ?_).1
  exact ⟨_, _, _, _, _, _, rfl, rfl, r28, r34, w39, w44⟩
 refine zS (zd hO 2 [] [(12, zsb bm0), (13, zsh A1 p1 c1)] [0, 1, 4] zrY fun j => ?_)
 obtain ⟨y45, g46, hF⟩ := zsg hF
 refine zhv (T := (Ty.slice Ty.str)) (r1.le hL) rfl rfl rfl g46 fun _ r47 => ?_
 obtain ⟨A48, c49, rfl, -⟩ := r47.form
 have hO := hO.sel [3, 0, 1, 2]
 rcases zO hF with ⟨x54, h55, hF⟩ | ⟨c50, h51, hF⟩
 ·refine zN (hs := [_]) (vs := [_, _, _]) hO (ih_syntax_parser_binary (rm0_0.le hL) (wm0_2.le hL) (wm0_3.le hL) r47 h55) (fun _ _ _ h => False.elim h) rfl fun _ σ _ _ hO h56 h57 => ?_
  have hL := hL.trans h56
  have r47 := r47.le h56
  obtain ⟨v58, v62, o65, v67, o70, rfl, rfl, r61, w66, w71⟩ := h57
  obtain ⟨A59, c60, rfl, -⟩ := r61.form
  obtain ⟨A63, c64, rfl, -⟩ := w66.form
  obtain ⟨A68, c69, rfl, -⟩ := w71.form
  have hO := zsf4 hO
  cases hF
  have hO := hO.sel [1, 2, 3]
  exact hP _ _ _ _ hO hL ⟨_, _, _, _, _, rfl, rfl, r61, w66, w71⟩
 refine zP (hs := [_]) (vs := [_, _, _]) hO (ih_syntax_parser_binary (rm0_0.le hL) (wm0_2.le hL) (wm0_3.le hL) r47 h51) (fun _ _ _ h => False.elim h) rfl fun _ σ _ _ hO h52 h53 => ?_
 have hL := hL.trans h52
 have r47 := r47.le h52
 obtain ⟨v72, v76, v80, o83, v85, o88, rfl, rfl, r73, r79, w84, w89⟩ := h53
 obtain ⟨A74, c75, rfl, -⟩ := r73.form
 obtain ⟨A77, c78, rfl, -⟩ := r79.form
 obtain ⟨A81, c82, rfl, -⟩ := w84.form
 obtain ⟨A86, c87, rfl, -⟩ := w89.form
 have hO := zsf4 hO
 refine zbg hO fun b90 σ hO => ?_
 have hO := zsf5 hO
 refine zs hO (i := 4) rfl (off := 0) rfl rfl rfl rfl (Nat.le_of_ble_eq_true rfl) rfl fun σ hO => ?_
 have hO := zsf5 hO
 refine za (zY ?_)
 have hO := hO.sel [1, 2, 3, 0, 4]
 refine zbY (fun (n : Nat) e' σ' => ∃ (A224 : Option Addr) (c225 : Nat) (x226 : List zr) (x228 : Int) (A229 : Option Addr) (c230 : Nat) (o231 : Ob) (x232 : List zl) (A234 : Option Addr) (c235 : Nat) (o236 : Ob) (x237 : List zi) (x239 : UInt8) (x240 : Int) (x241 x242 x243 : ByteArray) (A244 : Option Addr) (c245 : Nat) (x246 : List zb) (τ' : Hp), agr [(0, zsb bm0), (1, zsh A1 p1 c1), (4, zsb b3), (5, zsb b90)] e' ∧ Obs τ' σ' [zw bm0 (zsh A224 x226 c225) x228 (zsh A229 x232 c230) (zsh A234 x237 c235), o231, o236, znh b3 0 0 (⟨#[]⟩ : ByteArray) (⟨#[]⟩ : ByteArray) (⟨#[]⟩ : ByteArray) (.slice none 0 0), znh b90 (x239.toNat : Int) x240 x241 x242 x243 (zsh A244 x246 c245)] ∧ Hp.le τ τ' ∧ RdT zt τ' (zsh A224 x226 c225) x226 ∧ ze zn 71 τ' (zsh A229 x232 c230) x232 o231 ∧ ze zk 50 τ' (zsh A234 x237 c235) x237 o236 ∧ RdT zC τ' (zsh A244 x246 c245) x246 ∧ zhG (zZ gn).2.1 p1 n x226 x228 x232 x237 x239 x240 x241 x242 x243 x246 = some rr) big ⟨A77, c78, c50.2.cursor.tokens, c50.2.cursor.at_, A81, c82, o83, c50.2.prog.Structs, A86, c87, o88, c50.2.prog.Funcs, c50.1.Kind, c50.1.Num, c50.1.Name, c50.1.Field, c50.1.Op, A74, c75, c50.1.Kids, _, zr9 zrW, hO, hL, r79, w84, w89, r73, hF⟩ ?_
 clear hF hO hL
 rintro n347 e σ ⟨A224, c225, x226, x228, A229, c230, o231, x232, A234, c235, o236, x237, x239, x240, x241, x242, x243, A244, c245, x246, _, hA, hO, hL, r227, w233, w238, r247, hF⟩
 rw [← zbc _ _ hA]
 cases n347 with
 | zero => exact nomatch (show none = some rr from hF)
 | succ n347 =>
 replace hF : zhF (zhG (zZ gn).2.1 p1 n347) (zZ gn).2.1 p1 x226 x228 x232 x237 x239 x240 x241 x242 x243 x246 = some rr := hF
 unfold zhF at hF
 refine zo (zcD (zd hO 4 [] [(18, zsb bm0), (19, zsh A1 p1 c1)] [0, 1, 4, 5] zrZ fun j => ?_))
 obtain ⟨y348, g349, hF⟩ := zsg hF
 refine z7 (T := (Ty.slice Ty.str)) (r1.le hL) hO.base rfl rfl g349 (by decide) fun a350 _ k351 m352 => ?_
 obtain ⟨v353, rfl, r354⟩ := k351
 obtain ⟨A355, c356, rfl, -⟩ := r354.form
 refine zV rfl (m352.le hO.base).fst ?_
 obtain ⟨c357, h358, hF⟩ := zsg hF
 have hO := hO.sel [3, 4, 0, 1, 2]
 refine zbB (hs := [_, _]) (vs := [_, _, _]) hO (zd8 (q0 := (⟨(⟨x226, x228⟩ : zbf), (⟨x232, x237⟩ : zL)⟩ : zc)) r227 w233 w238 r354 h358) rfl fun _ σ _ _ hO h359 h360 => ?_
 have hL := hL.trans h359
 have m352 := m352.le h359
 have r354 := r354.le h359
 have r247 := r247.le h359
 have r227 := r227.le h359
 have w233 := w233.le h359
 have w238 := w238.le h359
 obtain ⟨rfl, rfl⟩ := h360
 have hO := zsf5 hO
 have hO := hO.sel [2, 3, 4, 0, 1]
 have hO := zsf5 hO
 refine za (zE hF rfl (fun hF => ?_) fun hF => ?_)
 ·refine zS (zcF (zY (zd hO 3 [] [(25, zsb bm0)] [0, 1, 4, 5] zrY fun j => ?_)))
  have hO := hO.sel [3, 4, 0, 1, 2]
  rcases zO hF with ⟨x366, h367, hF⟩ | ⟨c362, h363, hF⟩
  ·refine zN (hs := [_, _]) (vs := [_, _, _]) hO (zcA (q0 := (⟨(⟨x226, x228⟩ : zbf), (⟨x232, x237⟩ : zL)⟩ : zc)) r227 w233 w238 (RdT.nil Ty.str _) h367) (fun _ _ _ h => False.elim h) rfl fun _ σ _ _ hO h368 h369 => ?_
   have hL := hL.trans h368
   have r247 := r247.le h368
   obtain ⟨v370, v374, o377, v379, o382, rfl, rfl, r373, w378, w383⟩ := h369
   obtain ⟨A371, c372, rfl, -⟩ := r373.form
   obtain ⟨A375, c376, rfl, -⟩ := w378.form
   obtain ⟨A380, c381, rfl, -⟩ := w383.form
   have hO := zsf5 hO
   cases hF
   have hO := hO.sel [2, 3, 4]
   exact hP _ _ _ _ hO hL ⟨_, _, _, _, _, rfl, rfl, r373, w378, w383⟩
  refine zP (hs := [_, _]) (vs := [_, _, _]) hO (zcA (q0 := (⟨(⟨x226, x228⟩ : zbf), (⟨x232, x237⟩ : zL)⟩ : zc)) r227 w233 w238 (RdT.nil Ty.str _) h363) (fun _ _ _ h => False.elim h) rfl fun _ σ _ _ hO h364 h365 => ?_
  have hL := hL.trans h364
  have r247 := r247.le h364
  obtain ⟨v384, v388, o391, v393, o396, rfl, rfl, r387, w392, w397⟩ := h365
  obtain ⟨A385, c386, rfl, -⟩ := r387.form
  obtain ⟨A389, c390, rfl, -⟩ := w392.form
  obtain ⟨A394, c395, rfl, -⟩ := w397.form
  have hO := zsf5 hO
  refine zh hO [] [(6, .string c362.1.Text)] [0, 1, 4, 5] zrY fun j => ?_
  refine ziR (zd hO 4 [1] [(28, .string c362.1.Text), (29, .agg #[(.int .u8 (x239.toNat : Int)), (.int .i64 x240), (.string x241), (.string x242), (.string x243), (zsh A244 x246 c245)]), (30, zsb bm0), (31, zsh A1 p1 c1)] [0, 1, 4, 5] (And.intro (And.intro rfl rfl) zr1) fun j => ?_)
  obtain ⟨y398, g399, hF⟩ := zsg hF
  refine zhv (T := (Ty.slice Ty.str)) (r1.le hL) rfl rfl rfl g399 fun _ r400 => ?_
  obtain ⟨A401, c402, rfl, -⟩ := r400.form
  refine zv ?_
  rcases zO hF with ⟨x407, h408, hF⟩ | ⟨c403, h404, hF⟩
  ·refine zN (hs := [_, _]) (vs := [_, _, _]) hO (ih_syntax_parser_binary r387 w392 w397 r400 h408) (fun _ _ _ h => False.elim h) rfl fun _ σ _ _ hO h409 h410 => ?_
   have hL := hL.trans h409
   have r247 := r247.le h409
   have r400 := r400.le h409
   obtain ⟨v411, v415, o418, v420, o423, rfl, rfl, r414, w419, w424⟩ := h410
   obtain ⟨A412, c413, rfl, -⟩ := r414.form
   obtain ⟨A416, c417, rfl, -⟩ := w419.form
   obtain ⟨A421, c422, rfl, -⟩ := w424.form
   have hO := zsf5 hO
   cases hF
   have hO := hO.sel [2, 3, 4]
   exact hP _ _ _ _ hO hL ⟨_, _, _, _, _, rfl, rfl, r414, w419, w424⟩
  refine zP (hs := [_, _]) (vs := [_, _, _]) hO (ih_syntax_parser_binary r387 w392 w397 r400 h404) (fun _ _ _ h => False.elim h) rfl fun _ σ _ _ hO h405 h406 => ?_
  have hL := hL.trans h405
  have r247 := r247.le h405
  have r400 := r400.le h405
  obtain ⟨v425, v429, v433, o436, v438, o441, rfl, rfl, r426, r432, w437, w442⟩ := h406
  obtain ⟨A427, c428, rfl, -⟩ := r426.form
  obtain ⟨A430, c431, rfl, -⟩ := r432.form
  obtain ⟨A434, c435, rfl, -⟩ := w437.form
  obtain ⟨A439, c440, rfl, -⟩ := w442.form
  have hO := zsf5 hO
  refine za (zu ⟨(zf rfl (hO.val (i := 1) (off := 0) (agg := true) (n := 6) rfl rfl) rfl), trivial⟩ ?_)
  refine zB (T := zC) (l := ([(⟨x239, x240, x241, x242, x243, x246⟩ : zb), (⟨c403.1.Kind, c403.1.Num, c403.1.Name, c403.1.Field, c403.1.Op, c403.1.Kids⟩ : zb)] : List zb)) (cs := [.int .u8 (x239.toNat : Int), .int .i64 x240, .string x241, .string x242, .string x243, zsh A244 x246 c245, .int .u8 (c403.1.Kind.toNat : Int), .int .i64 c403.1.Num, .string c403.1.Name, .string c403.1.Field, .string c403.1.Op, zsh A427 c403.1.Kids c428]) hO rfl ⟨[.int .u8 (x239.toNat : Int), .int .i64 x240, .string x241, .string x242, .string x243, zsh A244 x246 c245], _, rfl, (zcz ⟨_, rfl, r247⟩), ⟨[.int .u8 (c403.1.Kind.toNat : Int), .int .i64 c403.1.Num, .string c403.1.Name, .string c403.1.Field, .string c403.1.Op, zsh A427 c403.1.Kids c428], _, rfl, (zcz ⟨_, rfl, r426⟩), rfl⟩⟩ rfl (by decide) fun _ σ o445 w446 hO => ?_
  obtain ⟨A443, c444, rfl, -⟩ := w446.form
  have hO := zsf6 hO
  refine zd hO 1 [] [(35, .agg #[(.int .u8 7), (.int .i64 0), (.string (⟨#[]⟩ : ByteArray)), (.string (⟨#[]⟩ : ByteArray)), (.string c362.1.Text), (zsh A443 ([(⟨x239, x240, x241, x242, x243, x246⟩ : zb), (⟨c403.1.Kind, c403.1.Num, c403.1.Name, c403.1.Field, c403.1.Op, c403.1.Kids⟩ : zb)] : List zb) c444)])] [0, 1, 4, 5] zrY fun j => ?_
  refine zs hO (i := 1) rfl (off := 0) rfl rfl rfl rfl (Nat.le_of_ble_eq_true rfl) rfl fun σ hO => ?_
  have hO := zsf6 hO
  refine za (zj (zbe (zp (zj (zp ?_)))))
  obtain ⟨_, h448, r447, hO⟩ := w446.share hO (i := 5) rfl
  have hL := hL.trans h448
  have r432 := r432.le h448
  have w437 := w437.le h448
  have w442 := w442.le h448
  have hO := zsf6 hO
  have hO := hO.sel [2, 3, 4, 0, 1]
  exact ⟨n347, Nat.lt_succ_self _, A430, c431, c403.2.cursor.tokens, c403.2.cursor.at_, A434, c435, o436, c403.2.prog.Structs, A439, c440, o441, c403.2.prog.Funcs, (7 : UInt8), 0, (⟨#[]⟩ : ByteArray), (⟨#[]⟩ : ByteArray), c362.1.Text, A443, c444, ([(⟨x239, x240, x241, x242, x243, x246⟩ : zb), (⟨c403.1.Kind, c403.1.Num, c403.1.Name, c403.1.Field, c403.1.Op, c403.1.Kids⟩ : zb)] : List zb), _, zr9 zrW, hO, hL, r432, w437, w442, r447, hF⟩
 refine zbX (zb1 (zb0 (zp (zd hO 1 [4] [(36, .agg #[(.int .u8 (x239.toNat : Int)), (.int .i64 x240), (.string x241), (.string x242), (.string x243), (zsh A244 x246 c245)])] [0, 4] (And.intro (And.intro rfl rfl) zrW) fun j => ?_))))
 refine zs hO (i := 3) rfl (off := 0) rfl rfl rfl rfl (Nat.le_of_ble_eq_true rfl) rfl fun σ hO => ?_
 have hO := zsf5 hO
 refine za (zbt ?_)
 cases hF
 have hV0 := hO.val (i := 3) rfl (off := 0) (agg := true) (n := 6) rfl
 have hO := hO.sel [0, 1, 2]
 refine (hQ _ _ _ _ _ (zbP rfl (hV0) rfl) hO hL ?_).1
 exact ⟨_, _, _, _, _, _, rfl, rfl, r247, r227, w233, w238⟩
theorem zn5 {gn : Nat} (ih_syntax_parser_exp : zgH gn) (ih_syntax_parser_binary : zho gn) (ih_syntax_parser_unary : zhl gn) (ih_syntax_parser_index : zhA gn) {τ : Hp} {q0 : zc} {bm0 : Nat} {vm0_0 vm0_2 : Value} {om0_2 : Ob} {vm0_3 : Value} {om0_3 : Ob} (rm0_0 : RdT zt τ vm0_0 q0.cursor.tokens) (wm0_2 : ze zn 71 τ vm0_2 q0.prog.Structs om0_2) (wm0_3 : ze zk 50 τ vm0_3 q0.prog.Funcs om0_3) {rr : Except (Value × zc) (zb × zc)} (hF : zg8 ((zZ gn).1) ((zZ gn).2.1) ((zZ gn).2.2.1) ((zZ gn).2.2.2) q0 = some rr) :
  zbM Try.prog 95 #[.pointer (some ⟨bm0, 0, none⟩)] τ [zw bm0 vm0_0 q0.cursor.at_ vm0_2 vm0_3, om0_2, om0_3] (fun v τ' vs' => match (generalizing := false) rr with | .ok rr => ∃ (v0_5 u0_0 u0_2 : Value) (y0_2 : Ob) (u0_3 : Value) (y0_3 : Ob), v = .agg #[.int .u8 rr.1.Kind.toNat, .int .i64 rr.1.Num, .string rr.1.Name, .string rr.1.Field, .string rr.1.Op, v0_5] ∧ vs' = [zw bm0 u0_0 rr.2.cursor.at_ u0_2 u0_3, y0_2, y0_3] ∧ RdT zC τ' v0_5 rr.1.Kids ∧ RdT zt τ' u0_0 rr.2.cursor.tokens ∧ ze zn 71 τ' u0_2 rr.2.prog.Structs y0_2 ∧ ze zk 50 τ' u0_3 rr.2.prog.Funcs y0_3 | .error _ => False) (fun ch τ' vs' => match (generalizing := false) rr with | .ok _ => False | .error ee => ∃ (u0_0 u0_2 : Value) (y0_2 : Ob) (u0_3 : Value) (y0_3 : Ob), ch = [{ v := ee.1, recovered := false }] ∧ vs' = [zw bm0 u0_0 ee.2.cursor.at_ u0_2 u0_3, y0_2, y0_3] ∧ RdT zt τ' u0_0 ee.2.cursor.tokens ∧ ze zn 71 τ' u0_2 ee.2.prog.Structs y0_2 ∧ ze zk 50 τ' u0_3 ee.2.prog.Funcs y0_3) := by
 obtain ⟨Am0_0, cm0_0, rfl, -⟩ := rm0_0.form
 obtain ⟨Am0_2, cm0_2, rfl, -⟩ := wm0_2.form
 obtain ⟨Am0_3, cm0_3, rfl, -⟩ := wm0_3.form
 refine zcL (args := [.pointer (some ⟨bm0, 0, none⟩)]) hm Try.func95 s95 rfl fun w0 σ hP hO Q hQ => ?_
 unfold zg8 at hF
 have hL := Hp.le.refl τ
 show wpn _ _ a95.body _ _ _
 unfold a95
 dsimp only
 refine zbg hO fun b2 σ hO => ?_
 have hO := zsf4 hO
 refine za (zY (zd hO 3 [] [(9, zsb bm0)] [0, 2] zrW fun j => ?_))
 refine zB (T := Ty.str) (l := ([(⟨#[45]⟩ : ByteArray), (⟨#[33]⟩ : ByteArray)] : List ByteArray)) (cs := [.string (⟨#[45]⟩ : ByteArray), .string (⟨#[33]⟩ : ByteArray)]) hO rfl ⟨[.string (⟨#[45]⟩ : ByteArray)], _, rfl, rfl, ⟨[.string (⟨#[33]⟩ : ByteArray)], _, rfl, rfl, rfl⟩⟩ rfl (by decide) fun _ σ o5 w6 hO => ?_
 obtain ⟨A3, c4, rfl, -⟩ := w6.form
 have hO := zsf5 hO
 obtain ⟨_, h8, r7, hO⟩ := w6.share hO (i := 4) rfl
 have hL := hL.trans h8
 have hO := zsf5 hO
 obtain ⟨c9, h10, hF⟩ := zsg hF
 have hO := hO.sel [3, 4, 0, 1, 2]
 refine zbB (hs := [_, _]) (vs := [_, _, _]) hO (zd8 (rm0_0.le hL) (wm0_2.le hL) (wm0_3.le hL) r7 h10) rfl fun _ σ _ _ hO h11 h12 => ?_
 have hL := hL.trans h11
 have r7 := r7.le h11
 obtain ⟨rfl, rfl⟩ := h12
 have hO := zsf5 hO
 have hO := hO.sel [2, 3, 4, 0, 1]
 have hO := zsf5 hO
 refine zh hO [] [(6, .bool c9)] [0, 2] zrW fun j => ?_
 refine zb2 (zE hF rfl (fun hF => ?_) fun hF => ?_)
 ·refine zo (zd hO 3 [] [(14, zsb bm0)] [0, 2] zrW fun j => ?_)
  have hO := hO.sel [3, 4, 0, 1, 2]
  rcases zO hF with ⟨x18, h19, hF⟩ | ⟨c14, h15, hF⟩
  ·refine zN (hs := [_, _]) (vs := [_, _, _]) hO (zcA (rm0_0.le hL) (wm0_2.le hL) (wm0_3.le hL) (RdT.nil Ty.str _) h19) (fun _ _ _ h => False.elim h) rfl fun _ σ _ _ hO h20 h21 => ?_
   have hL := hL.trans h20
   obtain ⟨v22, v26, o29, v31, o34, rfl, rfl, r25, w30, w35⟩ := h21
   obtain ⟨A23, c24, rfl, -⟩ := r25.form
   obtain ⟨A27, c28, rfl, -⟩ := w30.form
   obtain ⟨A32, c33, rfl, -⟩ := w35.form
   have hO := zsf5 hO
   cases hF
   have hO := hO.sel [2, 3, 4]
   exact hP _ _ _ _ hO hL ⟨_, _, _, _, _, rfl, rfl, r25, w30, w35⟩
  refine zP (hs := [_, _]) (vs := [_, _, _]) hO (zcA (rm0_0.le hL) (wm0_2.le hL) (wm0_3.le hL) (RdT.nil Ty.str _) h15) (fun _ _ _ h => False.elim h) rfl fun _ σ _ _ hO h16 h17 => ?_
  have hL := hL.trans h16
  obtain ⟨v36, v40, o43, v45, o48, rfl, rfl, r39, w44, w49⟩ := h17
  obtain ⟨A37, c38, rfl, -⟩ := r39.form
  obtain ⟨A41, c42, rfl, -⟩ := w44.form
  obtain ⟨A46, c47, rfl, -⟩ := w49.form
  have hO := zsf5 hO
  refine zh hO [] [(3, .string c14.1.Text)] [0, 2] zrW fun j => ?_
  refine zo (zd hO 2 [] [(17, .string c14.1.Text), (18, zsb bm0)] [0, 2] zrX fun j => ?_)
  rcases zO hF with ⟨x54, h55, hF⟩ | ⟨c50, h51, hF⟩
  ·refine zN (hs := [_, _]) (vs := [_, _, _]) hO (ih_syntax_parser_unary r39 w44 w49 h55) (fun _ _ _ h => False.elim h) rfl fun _ σ _ _ hO h56 h57 => ?_
   have hL := hL.trans h56
   obtain ⟨v58, v62, o65, v67, o70, rfl, rfl, r61, w66, w71⟩ := h57
   obtain ⟨A59, c60, rfl, -⟩ := r61.form
   obtain ⟨A63, c64, rfl, -⟩ := w66.form
   obtain ⟨A68, c69, rfl, -⟩ := w71.form
   have hO := zsf5 hO
   cases hF
   have hO := hO.sel [2, 3, 4]
   exact hP _ _ _ _ hO hL ⟨_, _, _, _, _, rfl, rfl, r61, w66, w71⟩
  refine zP (hs := [_, _]) (vs := [_, _, _]) hO (ih_syntax_parser_unary r39 w44 w49 h51) (fun _ _ _ h => False.elim h) rfl fun _ σ _ _ hO h52 h53 => ?_
  have hL := hL.trans h52
  obtain ⟨v72, v76, v80, o83, v85, o88, rfl, rfl, r73, r79, w84, w89⟩ := h53
  obtain ⟨A74, c75, rfl, -⟩ := r73.form
  obtain ⟨A77, c78, rfl, -⟩ := r79.form
  obtain ⟨A81, c82, rfl, -⟩ := w84.form
  obtain ⟨A86, c87, rfl, -⟩ := w89.form
  have hO := zsf5 hO
  refine zB (T := zC) (l := ([(⟨c50.1.Kind, c50.1.Num, c50.1.Name, c50.1.Field, c50.1.Op, c50.1.Kids⟩ : zb)] : List zb)) (cs := [.int .u8 (c50.1.Kind.toNat : Int), .int .i64 c50.1.Num, .string c50.1.Name, .string c50.1.Field, .string c50.1.Op, zsh A74 c50.1.Kids c75]) hO rfl ⟨[.int .u8 (c50.1.Kind.toNat : Int), .int .i64 c50.1.Num, .string c50.1.Name, .string c50.1.Field, .string c50.1.Op, zsh A74 c50.1.Kids c75], _, rfl, (zcz ⟨_, rfl, r73⟩), rfl⟩ rfl (by decide) fun _ σ o92 w93 hO => ?_
  obtain ⟨A90, c91, rfl, -⟩ := w93.form
  have hO := zsf6 hO
  refine zd hO 1 [] [(21, .agg #[(.int .u8 6), (.int .i64 0), (.string (⟨#[]⟩ : ByteArray)), (.string (⟨#[]⟩ : ByteArray)), (.string c14.1.Text), (zsh A90 ([(⟨c50.1.Kind, c50.1.Num, c50.1.Name, c50.1.Field, c50.1.Op, c50.1.Kids⟩ : zb)] : List zb) c91)])] [0, 2] zrW fun j => ?_
  refine zs hO (i := 0) rfl (off := 0) rfl rfl rfl rfl (Nat.le_of_ble_eq_true rfl) rfl fun σ hO => ?_
  have hO := zsf6 hO
  refine za (zbq (zbm (zU ?_)))
  obtain ⟨_, h95, r94, hO⟩ := w93.share hO (i := 5) rfl
  have hL := hL.trans h95
  have r79 := r79.le h95
  have w84 := w84.le h95
  have w89 := w89.le h95
  have hO := zsf6 hO
  cases hF
  have hV0 := hO.val (i := 0) rfl (off := 0) (agg := true) (n := 6) rfl
  have hO := hO.sel [2, 3, 4]
  refine (hQ _ _ _ _ _ (zbP rfl (hV0) rfl) hO hL ?_).1
  exact ⟨_, _, _, _, _, _, rfl, rfl, r94, r79, w84, w89⟩
 refine zo (zd hO 3 [] [(25, zsb bm0)] [0, 2] zrW fun j => ?_)
 refine zB (T := Ty.str) (l := ([(⟨#[40]⟩ : ByteArray)] : List ByteArray)) (cs := [.string (⟨#[40]⟩ : ByteArray)]) hO rfl ⟨[.string (⟨#[40]⟩ : ByteArray)], _, rfl, rfl, rfl⟩ rfl (by decide) fun _ σ o98 w99 hO => ?_
 obtain ⟨A96, c97, rfl, -⟩ := w99.form
 have hO := zsf6 hO
 obtain ⟨_, h101, r100, hO⟩ := w99.share hO (i := 5) rfl
 have hL := hL.trans h101
 have hO := zsf6 hO
 obtain ⟨c102, h103, hF⟩ := zsg hF
 have hO := hO.sel [3, 4, 5, 0, 1, 2]
 refine zbB (hs := [_, _, _]) (vs := [_, _, _]) hO (zca (rm0_0.le hL) (wm0_2.le hL) (wm0_3.le hL) r100 h103) rfl fun _ σ _ _ hO h104 h105 => ?_
 have hL := hL.trans h104
 have r100 := r100.le h104
 obtain ⟨v106, v110, o113, v115, o118, rfl, rfl, r109, w114, w119⟩ := h105
 obtain ⟨A107, c108, rfl, -⟩ := r109.form
 obtain ⟨A111, c112, rfl, -⟩ := w114.form
 obtain ⟨A116, c117, rfl, -⟩ := w119.form
 have hO := zsf6 hO
 refine zh hO [] [(22, .bool c102.1)] [0, 2] zrW fun j => ?_
 refine zE hF rfl (fun hF => ?_) fun hF => ?_
 ·refine zo (zd hO 1 [] [(28, zsb bm0)] [0, 2] zrW fun j => ?_)
  rcases zO hF with ⟨x125, h126, hF⟩ | ⟨c121, h122, hF⟩
  ·refine zN (hs := [_, _, _]) (vs := [_, _, _]) hO (ih_syntax_parser_exp r109 w114 w119 h126) (fun _ _ _ h => False.elim h) rfl fun _ σ _ _ hO h127 h128 => ?_
   have hL := hL.trans h127
   obtain ⟨v129, v133, o136, v138, o141, rfl, rfl, r132, w137, w142⟩ := h128
   obtain ⟨A130, c131, rfl, -⟩ := r132.form
   obtain ⟨A134, c135, rfl, -⟩ := w137.form
   obtain ⟨A139, c140, rfl, -⟩ := w142.form
   have hO := zsf6 hO
   cases hF
   have hO := hO.sel [3, 4, 5]
   exact hP _ _ _ _ hO hL ⟨_, _, _, _, _, rfl, rfl, r132, w137, w142⟩
  refine zP (hs := [_, _, _]) (vs := [_, _, _]) hO (ih_syntax_parser_exp r109 w114 w119 h122) (fun _ _ _ h => False.elim h) rfl fun _ σ _ _ hO h123 h124 => ?_
  have hL := hL.trans h123
  obtain ⟨v143, v147, v151, o154, v156, o159, rfl, rfl, r144, r150, w155, w160⟩ := h124
  obtain ⟨A145, c146, rfl, -⟩ := r144.form
  obtain ⟨A148, c149, rfl, -⟩ := r150.form
  obtain ⟨A152, c153, rfl, -⟩ := w155.form
  obtain ⟨A157, c158, rfl, -⟩ := w160.form
  have hO := zsf6 hO
  refine zbg hO fun b161 σ hO => ?_
  have hO := zsf7 hO
  refine zs hO (i := 6) rfl (off := 0) rfl rfl rfl rfl (Nat.le_of_ble_eq_true rfl) rfl fun σ hO => ?_
  have hO := zsf7 hO
  refine za (zo (zd hO 3 [] [(32, zsb bm0)] [0, 2, 4] zrX fun j => ?_))
  refine zB (T := Ty.str) (l := ([(⟨#[41]⟩ : ByteArray)] : List ByteArray)) (cs := [.string (⟨#[41]⟩ : ByteArray)]) hO rfl ⟨[.string (⟨#[41]⟩ : ByteArray)], _, rfl, rfl, rfl⟩ rfl (by decide) fun _ σ o164 w165 hO => ?_
  obtain ⟨A162, c163, rfl, -⟩ := w165.form
  have hO := zsf8 hO
  obtain ⟨_, h167, r166, hO⟩ := w165.share hO (i := 7) rfl
  have hL := hL.trans h167
  have r150 := r150.le h167
  have w155 := w155.le h167
  have w160 := w160.le h167
  have r144 := r144.le h167
  have hO := zsf8 hO
  have hO := hO.sel [0, 1, 2, 6, 7, 3, 4, 5]
  rcases zO hF with ⟨x172, h173, hF⟩ | ⟨c168, h169, hF⟩
  ·refine zN (hs := [_, _, _, _, _]) (vs := [_, _, _]) hO (zbG r150 w155 w160 r166 h173) (fun _ _ _ h => False.elim h) rfl fun _ σ _ _ hO h174 h175 => ?_
   have hL := hL.trans h174
   have r166 := r166.le h174
   have r144 := r144.le h174
   obtain ⟨v176, v180, o183, v185, o188, rfl, rfl, r179, w184, w189⟩ := h175
   obtain ⟨A177, c178, rfl, -⟩ := r179.form
   obtain ⟨A181, c182, rfl, -⟩ := w184.form
   obtain ⟨A186, c187, rfl, -⟩ := w189.form
   have hO := zsf8 hO
   cases hF
   have hO := hO.sel [5, 6, 7]
   exact hP _ _ _ _ hO hL ⟨_, _, _, _, _, rfl, rfl, r179, w184, w189⟩
  refine zP (hs := [_, _, _, _, _]) (vs := [_, _, _]) hO (zbG r150 w155 w160 r166 h169) (fun _ _ _ h => False.elim h) rfl fun _ σ _ _ hO h170 h171 => ?_
  have hL := hL.trans h170
  have r166 := r166.le h170
  have r144 := r144.le h170
  obtain ⟨v190, v194, o197, v199, o202, rfl, rfl, r193, w198, w203⟩ := h171
  obtain ⟨A191, c192, rfl, -⟩ := r193.form
  obtain ⟨A195, c196, rfl, -⟩ := w198.form
  obtain ⟨A200, c201, rfl, -⟩ := w203.form
  have hO := zsf8 hO
  refine za (zo (zd hO 1 [3] [(35, .agg #[(.int .u8 (c121.1.Kind.toNat : Int)), (.int .i64 c121.1.Num), (.string c121.1.Name), (.string c121.1.Field), (.string c121.1.Op), (zsh A145 c121.1.Kids c146)])] [0, 2] (And.intro (And.intro rfl rfl) zrW) fun j => ?_))
  refine zs hO (i := 0) rfl (off := 0) rfl rfl rfl rfl (Nat.le_of_ble_eq_true rfl) rfl fun σ hO => ?_
  have hO := zsf8 hO
  refine za (zbq (zbm (zU ?_)))
  cases hF
  have hV0 := hO.val (i := 0) rfl (off := 0) (agg := true) (n := 6) rfl
  have hO := hO.sel [5, 6, 7]
  refine (hQ _ _ _ _ _ (zbP rfl (hV0) rfl) hO hL ?_).1
  exact ⟨_, _, _, _, _, _, rfl, rfl, r144, r193, w198, w203⟩
 refine zo (zd hO 3 [] [(39, zsb bm0)] [0, 2] zrW fun j => ?_)
 obtain ⟨c204, h205, hF⟩ := zsg hF
 refine zbB (hs := [_, _, _]) (vs := [_, _, _]) hO (zd8 r109 w114 w119 (RdT.nil Ty.str _) h205) rfl fun _ σ _ _ hO h206 h207 => ?_
 have hL := hL.trans h206
 have r109 := r109.le h206
 have w114 := w114.le h206
 have w119 := w119.le h206
 obtain ⟨rfl, rfl⟩ := h207
 have hO := zsf6 hO
 refine zh hO [] [(36, .bool c204)] [0, 2] zrW fun j => ?_
 refine zE hF rfl (fun hF => ?_) fun hF => ?_
 ·refine zo (zd hO 3 [] [(43, zsb bm0)] [0, 2] zrW fun j => ?_)
  rcases zO hF with ⟨x213, h214, hF⟩ | ⟨c209, h210, hF⟩
  ·refine zN (hs := [_, _, _]) (vs := [_, _, _]) hO (zcA r109 w114 w119 (RdT.nil Ty.str _) h214) (fun _ _ _ h => False.elim h) rfl fun _ σ _ _ hO h215 h216 => ?_
   have hL := hL.trans h215
   obtain ⟨v217, v221, o224, v226, o229, rfl, rfl, r220, w225, w230⟩ := h216
   obtain ⟨A218, c219, rfl, -⟩ := r220.form
   obtain ⟨A222, c223, rfl, -⟩ := w225.form
   obtain ⟨A227, c228, rfl, -⟩ := w230.form
   have hO := zsf6 hO
   cases hF
   have hO := hO.sel [3, 4, 5]
   exact hP _ _ _ _ hO hL ⟨_, _, _, _, _, rfl, rfl, r220, w225, w230⟩
  refine zP (hs := [_, _, _]) (vs := [_, _, _]) hO (zcA r109 w114 w119 (RdT.nil Ty.str _) h210) (fun _ _ _ h => False.elim h) rfl fun _ σ _ _ hO h211 h212 => ?_
  have hL := hL.trans h211
  obtain ⟨v231, v235, o238, v240, o243, rfl, rfl, r234, w239, w244⟩ := h212
  obtain ⟨A232, c233, rfl, -⟩ := r234.form
  obtain ⟨A236, c237, rfl, -⟩ := w239.form
  obtain ⟨A241, c242, rfl, -⟩ := w244.form
  have hO := zsf6 hO
  refine zd hO 2 [] [(46, .agg #[(.int .u8 1), (.int .i64 c209.1.Num), (.string (⟨#[]⟩ : ByteArray)), (.string (⟨#[]⟩ : ByteArray)), (.string (⟨#[]⟩ : ByteArray)), (.slice none 0 0)])] [0, 2] zrW fun j => ?_
  refine zs hO (i := 0) rfl (off := 0) rfl rfl rfl rfl (Nat.le_of_ble_eq_true rfl) rfl fun σ hO => ?_
  have hO := zsf6 hO
  refine za (zbq (zbm (zU ?_)))
  cases hF
  have hV0 := hO.val (i := 0) rfl (off := 0) (agg := true) (n := 6) rfl
  have hO := hO.sel [3, 4, 5]
  refine (hQ _ _ _ _ _ (zbP rfl (hV0) rfl) hO hL ?_).1
  exact ⟨_, _, _, _, _, _, rfl, rfl, (RdT.nil _ _), r234, w239, w244⟩
 refine zo (zd hO 3 [] [(50, zsb bm0)] [0, 2] zrW fun j => ?_)
 refine zB (T := Ty.str) (l := ([(⟨#[116, 114, 117, 101]⟩ : ByteArray)] : List ByteArray)) (cs := [.string (⟨#[116, 114, 117, 101]⟩ : ByteArray)]) hO rfl ⟨[.string (⟨#[116, 114, 117, 101]⟩ : ByteArray)], _, rfl, rfl, rfl⟩ rfl (by decide) fun _ σ o247 w248 hO => ?_
 obtain ⟨A245, c246, rfl, -⟩ := w248.form
 have hO := zsf7 hO
 obtain ⟨_, h250, r249, hO⟩ := w248.share hO (i := 6) rfl
 have hL := hL.trans h250
 have r109 := r109.le h250
 have w114 := w114.le h250
 have w119 := w119.le h250
 have hO := zsf7 hO
 obtain ⟨c251, h252, hF⟩ := zsg hF
 have hO := hO.sel [0, 1, 2, 6, 3, 4, 5]
 refine zbB (hs := [_, _, _, _]) (vs := [_, _, _]) hO (zca r109 w114 w119 r249 h252) rfl fun _ σ _ _ hO h253 h254 => ?_
 have hL := hL.trans h253
 have r249 := r249.le h253
 obtain ⟨v255, v259, o262, v264, o267, rfl, rfl, r258, w263, w268⟩ := h254
 obtain ⟨A256, c257, rfl, -⟩ := r258.form
 obtain ⟨A260, c261, rfl, -⟩ := w263.form
 obtain ⟨A265, c266, rfl, -⟩ := w268.form
 have hO := zsf7 hO
 refine zh hO [] [(47, .bool c251.1)] [0, 2] zrW fun j => ?_
 refine zE hF rfl (fun hF => ?_) fun hF => ?_
 ·refine zo (zbE hO 1 [] [(0, zsb bm0), (2, zsb b2), (53, .agg #[(.int .u8 2), (.int .i64 1), (.string (⟨#[]⟩ : ByteArray)), (.string (⟨#[]⟩ : ByteArray)), (.string (⟨#[]⟩ : ByteArray)), (.slice none 0 0)])] zrW fun j => ?_)
  refine zs hO (i := 0) rfl (off := 0) rfl rfl rfl rfl (Nat.le_of_ble_eq_true rfl) rfl fun σ hO => ?_
  have hO := zsf7 hO
  refine za (zbq (zbm (zU ?_)))
  cases hF
  have hV0 := hO.val (i := 0) rfl (off := 0) (agg := true) (n := 6) rfl
  have hO := hO.sel [4, 5, 6]
  refine (hQ _ _ _ _ _ (zbP rfl (hV0) rfl) hO hL ?_).1
  exact ⟨_, _, _, _, _, _, rfl, rfl, (RdT.nil _ _), r258, w263, w268⟩
 refine zo (zbE hO 3 [] [(0, zsb bm0), (2, zsb b2), (57, zsb bm0)] zrW fun j => ?_)
 refine zB (T := Ty.str) (l := ([(⟨#[102, 97, 108, 115, 101]⟩ : ByteArray)] : List ByteArray)) (cs := [.string (⟨#[102, 97, 108, 115, 101]⟩ : ByteArray)]) hO rfl ⟨[.string (⟨#[102, 97, 108, 115, 101]⟩ : ByteArray)], _, rfl, rfl, rfl⟩ rfl (by decide) fun _ σ o272 w273 hO => ?_
 obtain ⟨A270, c271, rfl, -⟩ := w273.form
 have hO := zsf8 hO
 obtain ⟨_, h275, r274, hO⟩ := w273.share hO (i := 7) rfl
 have hL := hL.trans h275
 have r258 := r258.le h275
 have w263 := w263.le h275
 have w268 := w268.le h275
 have hO := zsf8 hO
 obtain ⟨c276, h277, hF⟩ := zsg hF
 have hO := hO.sel [0, 1, 2, 3, 7, 4, 5, 6]
 refine zbB (hs := [_, _, _, _, _]) (vs := [_, _, _]) hO (zca r258 w263 w268 r274 h277) rfl fun _ σ _ _ hO h278 h279 => ?_
 have hL := hL.trans h278
 have r274 := r274.le h278
 obtain ⟨v280, v284, o287, v289, o292, rfl, rfl, r283, w288, w293⟩ := h279
 obtain ⟨A281, c282, rfl, -⟩ := r283.form
 obtain ⟨A285, c286, rfl, -⟩ := w288.form
 obtain ⟨A290, c291, rfl, -⟩ := w293.form
 have hO := zsf8 hO
 refine zh hO [] [(54, .bool c276.1)] [0, 2] zrW fun j => ?_
 refine zE hF rfl (fun hF => ?_) fun hF => ?_
 ·refine zo (zd hO 1 [] [(60, .agg #[(.int .u8 2), (.int .i64 0), (.string (⟨#[]⟩ : ByteArray)), (.string (⟨#[]⟩ : ByteArray)), (.string (⟨#[]⟩ : ByteArray)), (.slice none 0 0)])] [0, 2] zrW fun j => ?_)
  refine zs hO (i := 0) rfl (off := 0) rfl rfl rfl rfl (Nat.le_of_ble_eq_true rfl) rfl fun σ hO => ?_
  have hO := zsf8 hO
  refine za (zbq (zbm (zU ?_)))
  cases hF
  have hV0 := hO.val (i := 0) rfl (off := 0) (agg := true) (n := 6) rfl
  have hO := hO.sel [5, 6, 7]
  refine (hQ _ _ _ _ _ (zbP rfl (hV0) rfl) hO hL ?_).1
  exact ⟨_, _, _, _, _, _, rfl, rfl, (RdT.nil _ _), r283, w288, w293⟩
 refine zS (zj (zbe (zp (zd hO 3 [] [(63, zsb bm0)] [0, 2] zrW fun j => ?_))))
 rcases zO hF with ⟨x299, h300, hF⟩ | ⟨c295, h296, hF⟩
 ·refine zN (hs := [_, _, _, _, _]) (vs := [_, _, _]) hO (zb7 r283 w288 w293 h300) (fun _ _ _ h => False.elim h) rfl fun _ σ _ _ hO h301 h302 => ?_
  have hL := hL.trans h301
  obtain ⟨v303, v307, o310, v312, o315, rfl, rfl, r306, w311, w316⟩ := h302
  obtain ⟨A304, c305, rfl, -⟩ := r306.form
  obtain ⟨A308, c309, rfl, -⟩ := w311.form
  obtain ⟨A313, c314, rfl, -⟩ := w316.form
  have hO := zsf8 hO
  cases hF
  have hO := hO.sel [5, 6, 7]
  exact hP _ _ _ _ hO hL ⟨_, _, _, _, _, rfl, rfl, r306, w311, w316⟩
 refine zP (hs := [_, _, _, _, _]) (vs := [_, _, _]) hO (zb7 r283 w288 w293 h296) (fun _ _ _ h => False.elim h) rfl fun _ σ _ _ hO h297 h298 => ?_
 have hL := hL.trans h297
 obtain ⟨v317, v321, o324, v326, o329, rfl, rfl, r320, w325, w330⟩ := h298
 obtain ⟨A318, c319, rfl, -⟩ := r320.form
 obtain ⟨A322, c323, rfl, -⟩ := w325.form
 obtain ⟨A327, c328, rfl, -⟩ := w330.form
 have hO := zsf8 hO
 refine zh hO [] [(5, .string c295.1)] [0, 2] zrW fun j => ?_
 refine zY (zd hO 3 [] [(68, zsb bm0)] [0, 2, 5] zrX fun j => ?_)
 refine zB (T := Ty.str) (l := ([(⟨#[91]⟩ : ByteArray)] : List ByteArray)) (cs := [.string (⟨#[91]⟩ : ByteArray)]) hO rfl ⟨[.string (⟨#[91]⟩ : ByteArray)], _, rfl, rfl, rfl⟩ rfl (by decide) fun _ σ o333 w334 hO => ?_
 obtain ⟨A331, c332, rfl, -⟩ := w334.form
 have hO := zsf9 hO
 obtain ⟨_, h336, r335, hO⟩ := w334.share hO (i := 8) rfl
 have hL := hL.trans h336
 have r320 := r320.le h336
 have w325 := w325.le h336
 have w330 := w330.le h336
 have hO := zsf9 hO
 obtain ⟨c337, h338, hF⟩ := zsg hF
 have hO := hO.sel [0, 1, 2, 3, 4, 8, 5, 6, 7]
 refine zbB (hs := [_, _, _, _, _, _]) (vs := [_, _, _]) hO (zd8 r320 w325 w330 r335 h338) rfl fun _ σ _ _ hO h339 h340 => ?_
 have hL := hL.trans h339
 have r335 := r335.le h339
 have r320 := r320.le h339
 have w325 := w325.le h339
 have w330 := w330.le h339
 obtain ⟨rfl, rfl⟩ := h340
 have hO := zsf9 hO
 have hO := hO.sel [0, 1, 2, 3, 4, 6, 7, 8, 5]
 have hO := zsf9 hO
 refine zh hO [] [(65, .bool c337)] [0, 2, 5] zrX fun j => ?_
 refine zb2 (zE hF rfl (fun hF => ?_) fun hF => ?_)
 ·refine zo (zd hO 2 [] [(71, .string c295.1), (72, zsb bm0)] [0, 2] zrX fun j => ?_)
  have hO := hO.sel [0, 1, 2, 3, 4, 8, 5, 6, 7]
  rcases zO hF with ⟨x346, h347, hF⟩ | ⟨c342, h343, hF⟩
  ·refine zN (hs := [_, _, _, _, _, _]) (vs := [_, _, _]) hO (ih_syntax_parser_index r320 w325 w330 h347) (fun _ _ _ h => False.elim h) rfl fun _ σ _ _ hO h348 h349 => ?_
   have hL := hL.trans h348
   obtain ⟨v350, v354, o357, v359, o362, rfl, rfl, r353, w358, w363⟩ := h349
   obtain ⟨A351, c352, rfl, -⟩ := r353.form
   obtain ⟨A355, c356, rfl, -⟩ := w358.form
   obtain ⟨A360, c361, rfl, -⟩ := w363.form
   have hO := zsf9 hO
   cases hF
   have hO := hO.sel [6, 7, 8]
   exact hP _ _ _ _ hO hL ⟨_, _, _, _, _, rfl, rfl, r353, w358, w363⟩
  refine zP (hs := [_, _, _, _, _, _]) (vs := [_, _, _]) hO (ih_syntax_parser_index r320 w325 w330 h343) (fun _ _ _ h => False.elim h) rfl fun _ σ _ _ hO h344 h345 => ?_
  have hL := hL.trans h344
  obtain ⟨v364, v368, v372, o375, v377, o380, rfl, rfl, r365, r371, w376, w381⟩ := h345
  obtain ⟨A366, c367, rfl, -⟩ := r365.form
  obtain ⟨A369, c370, rfl, -⟩ := r371.form
  obtain ⟨A373, c374, rfl, -⟩ := w376.form
  obtain ⟨A378, c379, rfl, -⟩ := w381.form
  have hO := zsf9 hO
  refine zB (T := zC) (l := ([(⟨c342.1.Kind, c342.1.Num, c342.1.Name, c342.1.Field, c342.1.Op, c342.1.Kids⟩ : zb)] : List zb)) (cs := [.int .u8 (c342.1.Kind.toNat : Int), .int .i64 c342.1.Num, .string c342.1.Name, .string c342.1.Field, .string c342.1.Op, zsh A366 c342.1.Kids c367]) hO rfl ⟨[.int .u8 (c342.1.Kind.toNat : Int), .int .i64 c342.1.Num, .string c342.1.Name, .string c342.1.Field, .string c342.1.Op, zsh A366 c342.1.Kids c367], _, rfl, (zcz ⟨_, rfl, r365⟩), rfl⟩ rfl (by decide) fun _ σ o384 w385 hO => ?_
  obtain ⟨A382, c383, rfl, -⟩ := w385.form
  have hO := zsf10 hO
  refine zd hO 1 [] [(75, .agg #[(.int .u8 4), (.int .i64 0), (.string c295.1), (.string (⟨#[]⟩ : ByteArray)), (.string (⟨#[]⟩ : ByteArray)), (zsh A382 ([(⟨c342.1.Kind, c342.1.Num, c342.1.Name, c342.1.Field, c342.1.Op, c342.1.Kids⟩ : zb)] : List zb) c383)])] [0, 2] zrW fun j => ?_
  refine zs hO (i := 0) rfl (off := 0) rfl rfl rfl rfl (Nat.le_of_ble_eq_true rfl) rfl fun σ hO => ?_
  have hO := zsf10 hO
  refine za (zbq (zbm (zU ?_)))
  obtain ⟨_, h387, r386, hO⟩ := w385.share hO (i := 9) rfl
  have hL := hL.trans h387
  have r371 := r371.le h387
  have w376 := w376.le h387
  have w381 := w381.le h387
  have hO := zsf10 hO
  cases hF
  have hV0 := hO.val (i := 0) rfl (off := 0) (agg := true) (n := 6) rfl
  have hO := hO.sel [6, 7, 8]
  refine (hQ _ _ _ _ _ (zbP rfl (hV0) rfl) hO hL ?_).1
  exact ⟨_, _, _, _, _, _, rfl, rfl, r386, r371, w376, w381⟩
 refine zo (zd hO 3 [] [(79, zsb bm0)] [0, 2, 5] zrX fun j => ?_)
 refine zB (T := Ty.str) (l := ([(⟨#[46]⟩ : ByteArray)] : List ByteArray)) (cs := [.string (⟨#[46]⟩ : ByteArray)]) hO rfl ⟨[.string (⟨#[46]⟩ : ByteArray)], _, rfl, rfl, rfl⟩ rfl (by decide) fun _ σ o390 w391 hO => ?_
 obtain ⟨A388, c389, rfl, -⟩ := w391.form
 have hO := zsf10 hO
 obtain ⟨_, h393, r392, hO⟩ := w391.share hO (i := 9) rfl
 have hL := hL.trans h393
 have r320 := r320.le h393
 have w325 := w325.le h393
 have w330 := w330.le h393
 have hO := zsf10 hO
 obtain ⟨c394, h395, hF⟩ := zsg hF
 have hO := hO.sel [0, 1, 2, 3, 4, 8, 9, 5, 6, 7]
 refine zbB (hs := [_, _, _, _, _, _, _]) (vs := [_, _, _]) hO (zca r320 w325 w330 r392 h395) rfl fun _ σ _ _ hO h396 h397 => ?_
 have hL := hL.trans h396
 have r392 := r392.le h396
 obtain ⟨v398, v402, o405, v407, o410, rfl, rfl, r401, w406, w411⟩ := h397
 obtain ⟨A399, c400, rfl, -⟩ := r401.form
 obtain ⟨A403, c404, rfl, -⟩ := w406.form
 obtain ⟨A408, c409, rfl, -⟩ := w411.form
 have hO := zsf10 hO
 refine zh hO [] [(76, .bool c394.1)] [0, 2, 5] zrX fun j => ?_
 refine zE hF rfl (fun hF => ?_) fun hF => ?_
 ·refine zo (zd hO 4 [] [(82, .string c295.1), (85, zsb bm0)] [0, 2] zrX fun j => ?_)
  rcases zO hF with ⟨x417, h418, hF⟩ | ⟨c413, h414, hF⟩
  ·refine zN (hs := [_, _, _, _, _, _, _]) (vs := [_, _, _]) hO (zb7 r401 w406 w411 h418) (fun _ _ _ h => False.elim h) rfl fun _ σ _ _ hO h419 h420 => ?_
   have hL := hL.trans h419
   obtain ⟨v421, v425, o428, v430, o433, rfl, rfl, r424, w429, w434⟩ := h420
   obtain ⟨A422, c423, rfl, -⟩ := r424.form
   obtain ⟨A426, c427, rfl, -⟩ := w429.form
   obtain ⟨A431, c432, rfl, -⟩ := w434.form
   have hO := zsf10 hO
   cases hF
   have hO := hO.sel [7, 8, 9]
   exact hP _ _ _ _ hO hL ⟨_, _, _, _, _, rfl, rfl, r424, w429, w434⟩
  refine zP (hs := [_, _, _, _, _, _, _]) (vs := [_, _, _]) hO (zb7 r401 w406 w411 h414) (fun _ _ _ h => False.elim h) rfl fun _ σ _ _ hO h415 h416 => ?_
  have hL := hL.trans h415
  obtain ⟨v435, v439, o442, v444, o447, rfl, rfl, r438, w443, w448⟩ := h416
  obtain ⟨A436, c437, rfl, -⟩ := r438.form
  obtain ⟨A440, c441, rfl, -⟩ := w443.form
  obtain ⟨A445, c446, rfl, -⟩ := w448.form
  have hO := zsf10 hO
  refine zbE hO 1 [] [(0, zsb bm0), (2, zsb b2), (87, .agg #[(.int .u8 5), (.int .i64 0), (.string c295.1), (.string c413.1), (.string (⟨#[]⟩ : ByteArray)), (.slice none 0 0)])] zrW fun j => ?_
  refine zs hO (i := 0) rfl (off := 0) rfl rfl rfl rfl (Nat.le_of_ble_eq_true rfl) rfl fun σ hO => ?_
  have hO := zsf10 hO
  refine za (zbq (zbm (zU ?_)))
  cases hF
  have hV0 := hO.val (i := 0) rfl (off := 0) (agg := true) (n := 6) rfl
  have hO := hO.sel [7, 8, 9]
  refine (hQ _ _ _ _ _ (zbP rfl (hV0) rfl) hO hL ?_).1
  exact ⟨_, _, _, _, _, _, rfl, rfl, (RdT.nil _ _), r438, w443, w448⟩
 refine zS (zj (zbe (zp (zd hO 2 [] [(89, .agg #[(.int .u8 3), (.int .i64 0), (.string c295.1), (.string (⟨#[]⟩ : ByteArray)), (.string (⟨#[]⟩ : ByteArray)), (.slice none 0 0)])] [0, 2] zrW fun j => ?_))))
 refine zs hO (i := 0) rfl (off := 0) rfl rfl rfl rfl (Nat.le_of_ble_eq_true rfl) rfl fun σ hO => ?_
 have hO := zsf10 hO
 refine za (zbt ?_)
 cases hF
 have hV0 := hO.val (i := 0) rfl (off := 0) (agg := true) (n := 6) rfl
 have hO := hO.sel [7, 8, 9]
 refine (hQ _ _ _ _ _ (zbP rfl (hV0) rfl) hO hL ?_).1
 exact ⟨_, _, _, _, _, _, rfl, rfl, (RdT.nil _ _), r401, w406, w411⟩
theorem zoH {gn : Nat} (ih_syntax_parser_exp : zgH gn) (ih_syntax_parser_binary : zho gn) (ih_syntax_parser_unary : zhl gn) (ih_syntax_parser_index : zhA gn) {τ : Hp} {q0 : zc} {bm0 : Nat} {vm0_0 vm0_2 : Value} {om0_2 : Ob} {vm0_3 : Value} {om0_3 : Ob} (rm0_0 : RdT zt τ vm0_0 q0.cursor.tokens) (wm0_2 : ze zn 71 τ vm0_2 q0.prog.Structs om0_2) (wm0_3 : ze zk 50 τ vm0_3 q0.prog.Funcs om0_3) {rr : Except (Value × zc) (zb × zc)} (hF : zgv ((zZ gn).1) ((zZ gn).2.1) ((zZ gn).2.2.1) ((zZ gn).2.2.2) q0 = some rr) :
  zbM Try.prog 98 #[.pointer (some ⟨bm0, 0, none⟩)] τ [zw bm0 vm0_0 q0.cursor.at_ vm0_2 vm0_3, om0_2, om0_3] (fun v τ' vs' => match (generalizing := false) rr with | .ok rr => ∃ (v0_5 u0_0 u0_2 : Value) (y0_2 : Ob) (u0_3 : Value) (y0_3 : Ob), v = .agg #[.int .u8 rr.1.Kind.toNat, .int .i64 rr.1.Num, .string rr.1.Name, .string rr.1.Field, .string rr.1.Op, v0_5] ∧ vs' = [zw bm0 u0_0 rr.2.cursor.at_ u0_2 u0_3, y0_2, y0_3] ∧ RdT zC τ' v0_5 rr.1.Kids ∧ RdT zt τ' u0_0 rr.2.cursor.tokens ∧ ze zn 71 τ' u0_2 rr.2.prog.Structs y0_2 ∧ ze zk 50 τ' u0_3 rr.2.prog.Funcs y0_3 | .error _ => False) (fun ch τ' vs' => match (generalizing := false) rr with | .ok _ => False | .error ee => ∃ (u0_0 u0_2 : Value) (y0_2 : Ob) (u0_3 : Value) (y0_3 : Ob), ch = [{ v := ee.1, recovered := false }] ∧ vs' = [zw bm0 u0_0 ee.2.cursor.at_ u0_2 u0_3, y0_2, y0_3] ∧ RdT zt τ' u0_0 ee.2.cursor.tokens ∧ ze zn 71 τ' u0_2 ee.2.prog.Structs y0_2 ∧ ze zk 50 τ' u0_3 ee.2.prog.Funcs y0_3) := by
 obtain ⟨Am0_0, cm0_0, rfl, -⟩ := rm0_0.form
 obtain ⟨Am0_2, cm0_2, rfl, -⟩ := wm0_2.form
 obtain ⟨Am0_3, cm0_3, rfl, -⟩ := wm0_3.form
 refine zcL (args := [.pointer (some ⟨bm0, 0, none⟩)]) hm Try.func98 s98 rfl fun w0 σ hP hO Q hQ => ?_
 unfold zgv at hF
 have hL := Hp.le.refl τ
 show wpn _ _ a98.body _ _ _
 unfold a98
 dsimp only
 refine zbg hO fun b2 σ hO => ?_
 have hO := zsf4 hO
 refine za (zd hO 3 [] [(6, zsb bm0)] [0, 2] zrW fun j => ?_)
 refine zB (T := Ty.str) (l := ([(⟨#[91]⟩ : ByteArray)] : List ByteArray)) (cs := [.string (⟨#[91]⟩ : ByteArray)]) hO rfl ⟨[.string (⟨#[91]⟩ : ByteArray)], _, rfl, rfl, rfl⟩ rfl (by decide) fun _ σ o5 w6 hO => ?_
 obtain ⟨A3, c4, rfl, -⟩ := w6.form
 have hO := zsf5 hO
 obtain ⟨_, h8, r7, hO⟩ := w6.share hO (i := 4) rfl
 have hL := hL.trans h8
 have hO := zsf5 hO
 have hO := hO.sel [3, 4, 0, 1, 2]
 rcases zO hF with ⟨x13, h14, hF⟩ | ⟨c9, h10, hF⟩
 ·refine zN (hs := [_, _]) (vs := [_, _, _]) hO (zbG (rm0_0.le hL) (wm0_2.le hL) (wm0_3.le hL) r7 h14) (fun _ _ _ h => False.elim h) rfl fun _ σ _ _ hO h15 h16 => ?_
  have hL := hL.trans h15
  have r7 := r7.le h15
  obtain ⟨v17, v21, o24, v26, o29, rfl, rfl, r20, w25, w30⟩ := h16
  obtain ⟨A18, c19, rfl, -⟩ := r20.form
  obtain ⟨A22, c23, rfl, -⟩ := w25.form
  obtain ⟨A27, c28, rfl, -⟩ := w30.form
  have hO := zsf5 hO
  cases hF
  have hO := hO.sel [2, 3, 4]
  exact hP _ _ _ _ hO hL ⟨_, _, _, _, _, rfl, rfl, r20, w25, w30⟩
 refine zP (hs := [_, _]) (vs := [_, _, _]) hO (zbG (rm0_0.le hL) (wm0_2.le hL) (wm0_3.le hL) r7 h10) (fun _ _ _ h => False.elim h) rfl fun _ σ _ _ hO h11 h12 => ?_
 have hL := hL.trans h11
 have r7 := r7.le h11
 obtain ⟨v31, v35, o38, v40, o43, rfl, rfl, r34, w39, w44⟩ := h12
 obtain ⟨A32, c33, rfl, -⟩ := r34.form
 obtain ⟨A36, c37, rfl, -⟩ := w39.form
 obtain ⟨A41, c42, rfl, -⟩ := w44.form
 have hO := zsf5 hO
 refine za (zd hO 1 [] [(9, zsb bm0)] [0, 2] zrW fun j => ?_)
 rcases zO hF with ⟨x49, h50, hF⟩ | ⟨c45, h46, hF⟩
 ·refine zN (hs := [_, _]) (vs := [_, _, _]) hO (ih_syntax_parser_exp r34 w39 w44 h50) (fun _ _ _ h => False.elim h) rfl fun _ σ _ _ hO h51 h52 => ?_
  have hL := hL.trans h51
  obtain ⟨v53, v57, o60, v62, o65, rfl, rfl, r56, w61, w66⟩ := h52
  obtain ⟨A54, c55, rfl, -⟩ := r56.form
  obtain ⟨A58, c59, rfl, -⟩ := w61.form
  obtain ⟨A63, c64, rfl, -⟩ := w66.form
  have hO := zsf5 hO
  cases hF
  have hO := hO.sel [2, 3, 4]
  exact hP _ _ _ _ hO hL ⟨_, _, _, _, _, rfl, rfl, r56, w61, w66⟩
 refine zP (hs := [_, _]) (vs := [_, _, _]) hO (ih_syntax_parser_exp r34 w39 w44 h46) (fun _ _ _ h => False.elim h) rfl fun _ σ _ _ hO h47 h48 => ?_
 have hL := hL.trans h47
 obtain ⟨v67, v71, v75, o78, v80, o83, rfl, rfl, r68, r74, w79, w84⟩ := h48
 obtain ⟨A69, c70, rfl, -⟩ := r68.form
 obtain ⟨A72, c73, rfl, -⟩ := r74.form
 obtain ⟨A76, c77, rfl, -⟩ := w79.form
 obtain ⟨A81, c82, rfl, -⟩ := w84.form
 have hO := zsf5 hO
 refine zbg hO fun b85 σ hO => ?_
 have hO := zsf6 hO
 refine zs hO (i := 5) rfl (off := 0) rfl rfl rfl rfl (Nat.le_of_ble_eq_true rfl) rfl fun σ hO => ?_
 have hO := zsf6 hO
 refine za (zd hO 3 [] [(13, zsb bm0)] [0, 2, 3] zrX fun j => ?_)
 refine zB (T := Ty.str) (l := ([(⟨#[93]⟩ : ByteArray)] : List ByteArray)) (cs := [.string (⟨#[93]⟩ : ByteArray)]) hO rfl ⟨[.string (⟨#[93]⟩ : ByteArray)], _, rfl, rfl, rfl⟩ rfl (by decide) fun _ σ o88 w89 hO => ?_
 obtain ⟨A86, c87, rfl, -⟩ := w89.form
 have hO := zsf7 hO
 obtain ⟨_, h91, r90, hO⟩ := w89.share hO (i := 6) rfl
 have hL := hL.trans h91
 have r74 := r74.le h91
 have w79 := w79.le h91
 have w84 := w84.le h91
 have r68 := r68.le h91
 have hO := zsf7 hO
 have hO := hO.sel [0, 1, 5, 6, 2, 3, 4]
 rcases zO hF with ⟨x96, h97, hF⟩ | ⟨c92, h93, hF⟩
 ·refine zN (hs := [_, _, _, _]) (vs := [_, _, _]) hO (zbG r74 w79 w84 r90 h97) (fun _ _ _ h => False.elim h) rfl fun _ σ _ _ hO h98 h99 => ?_
  have hL := hL.trans h98
  have r90 := r90.le h98
  have r68 := r68.le h98
  obtain ⟨v100, v104, o107, v109, o112, rfl, rfl, r103, w108, w113⟩ := h99
  obtain ⟨A101, c102, rfl, -⟩ := r103.form
  obtain ⟨A105, c106, rfl, -⟩ := w108.form
  obtain ⟨A110, c111, rfl, -⟩ := w113.form
  have hO := zsf7 hO
  cases hF
  have hO := hO.sel [4, 5, 6]
  exact hP _ _ _ _ hO hL ⟨_, _, _, _, _, rfl, rfl, r103, w108, w113⟩
 refine zP (hs := [_, _, _, _]) (vs := [_, _, _]) hO (zbG r74 w79 w84 r90 h93) (fun _ _ _ h => False.elim h) rfl fun _ σ _ _ hO h94 h95 => ?_
 have hL := hL.trans h94
 have r90 := r90.le h94
 have r68 := r68.le h94
 obtain ⟨v114, v118, o121, v123, o126, rfl, rfl, r117, w122, w127⟩ := h95
 obtain ⟨A115, c116, rfl, -⟩ := r117.form
 obtain ⟨A119, c120, rfl, -⟩ := w122.form
 obtain ⟨A124, c125, rfl, -⟩ := w127.form
 have hO := zsf7 hO
 refine za (zd hO 1 [2] [(16, .agg #[(.int .u8 (c45.1.Kind.toNat : Int)), (.int .i64 c45.1.Num), (.string c45.1.Name), (.string c45.1.Field), (.string c45.1.Op), (zsh A69 c45.1.Kids c70)])] [0, 2] (And.intro (And.intro rfl rfl) zrW) fun j => ?_)
 refine zs hO (i := 0) rfl (off := 0) rfl rfl rfl rfl (Nat.le_of_ble_eq_true rfl) rfl fun σ hO => ?_
 have hO := zsf7 hO
 refine za (zbt ?_)
 cases hF
 have hV0 := hO.val (i := 0) rfl (off := 0) (agg := true) (n := 6) rfl
 have hO := hO.sel [4, 5, 6]
 refine (hQ _ _ _ _ _ (zbP rfl (hV0) rfl) hO hL ?_).1
 exact ⟨_, _, _, _, _, _, rfl, rfl, r68, r117, w122, w127⟩
theorem zmn (n : Nat) : zgH n ∧ zho n ∧ zhl n ∧ zhA n := by
 induction n with
 | zero =>
  refine ⟨?_, ?_, ?_, ?_⟩
  ·intro τ q0 bm0 vm0_0 vm0_2 om0_2 vm0_3 om0_3 rm0_0 wm0_2 wm0_3 rr hF; exact nomatch (show none = some rr from hF)
  ·intro τ q0 bm0 vm0_0 vm0_2 om0_2 vm0_3 om0_3 v1 p1 rm0_0 wm0_2 wm0_3 r1 rr hF; exact nomatch (show none = some rr from hF)
  ·intro τ q0 bm0 vm0_0 vm0_2 om0_2 vm0_3 om0_3 rm0_0 wm0_2 wm0_3 rr hF; exact nomatch (show none = some rr from hF)
  ·intro τ q0 bm0 vm0_0 vm0_2 om0_2 vm0_3 om0_3 rm0_0 wm0_2 wm0_3 rr hF; exact nomatch (show none = some rr from hF)
 | succ n ih =>
  obtain ⟨i0, i1, i2, i3⟩ := ih
  refine ⟨?_, ?_, ?_, ?_⟩
  ·intro τ q0 bm0 vm0_0 vm0_2 om0_2 vm0_3 om0_3 rm0_0 wm0_2 wm0_3 rr hF; exact zoC i0 i1 i2 i3 rm0_0 wm0_2 wm0_3 hF
  ·intro τ q0 bm0 vm0_0 vm0_2 om0_2 vm0_3 om0_3 v1 p1 rm0_0 wm0_2 wm0_3 r1 rr hF; exact zqU i0 i1 i2 i3 rm0_0 wm0_2 wm0_3 r1 hF
  ·intro τ q0 bm0 vm0_0 vm0_2 om0_2 vm0_3 om0_3 rm0_0 wm0_2 wm0_3 rr hF; exact zn5 i0 i1 i2 i3 rm0_0 wm0_2 wm0_3 hF
  ·intro τ q0 bm0 vm0_0 vm0_2 om0_2 vm0_3 om0_3 rm0_0 wm0_2 wm0_3 rr hF; exact zoH i0 i1 i2 i3 rm0_0 wm0_2 wm0_3 hF
theorem zcg : ∀ {τ : Hp} {q0 : zc} {bm0 : Nat} {vm0_0 vm0_2 : Value} {om0_2 : Ob} {vm0_3 : Value} {om0_3 : Ob} (rm0_0 : RdT zt τ vm0_0 q0.cursor.tokens) (wm0_2 : ze zn 71 τ vm0_2 q0.prog.Structs om0_2) (wm0_3 : ze zk 50 τ vm0_3 q0.prog.Funcs om0_3) {rr : Except (Value × zc) (zb × zc)} (hF : zdu q0 = some rr), zbM Try.prog 83 #[.pointer (some ⟨bm0, 0, none⟩)] τ [zw bm0 vm0_0 q0.cursor.at_ vm0_2 vm0_3, om0_2, om0_3] (fun v τ' vs' => match (generalizing := false) rr with | .ok rr => ∃ (v0_5 u0_0 u0_2 : Value) (y0_2 : Ob) (u0_3 : Value) (y0_3 : Ob), v = .agg #[.int .u8 rr.1.Kind.toNat, .int .i64 rr.1.Num, .string rr.1.Name, .string rr.1.Field, .string rr.1.Op, v0_5] ∧ vs' = [zw bm0 u0_0 rr.2.cursor.at_ u0_2 u0_3, y0_2, y0_3] ∧ RdT zC τ' v0_5 rr.1.Kids ∧ RdT zt τ' u0_0 rr.2.cursor.tokens ∧ ze zn 71 τ' u0_2 rr.2.prog.Structs y0_2 ∧ ze zk 50 τ' u0_3 rr.2.prog.Funcs y0_3 | .error _ => False) (fun ch τ' vs' => match (generalizing := false) rr with | .ok _ => False | .error ee => ∃ (u0_0 u0_2 : Value) (y0_2 : Ob) (u0_3 : Value) (y0_3 : Ob), ch = [{ v := ee.1, recovered := false }] ∧ vs' = [zw bm0 u0_0 ee.2.cursor.at_ u0_2 u0_3, y0_2, y0_3] ∧ RdT zt τ' u0_0 ee.2.cursor.tokens ∧ ze zn 71 τ' u0_2 ee.2.prog.Structs y0_2 ∧ ze zk 50 τ' u0_3 ee.2.prog.Funcs y0_3) := (zmn big).1
theorem zni : ∀ {τ : Hp} {q0 : zc} {bm0 : Nat} {vm0_0 vm0_2 : Value} {om0_2 : Ob} {vm0_3 : Value} {om0_3 : Ob} (rm0_0 : RdT zt τ vm0_0 q0.cursor.tokens) (wm0_2 : ze zn 71 τ vm0_2 q0.prog.Structs om0_2) (wm0_3 : ze zk 50 τ vm0_3 q0.prog.Funcs om0_3) {rr : Except (Value × zc) (zb × zc)} (hF : zjR q0 = some rr), zbM Try.prog 98 #[.pointer (some ⟨bm0, 0, none⟩)] τ [zw bm0 vm0_0 q0.cursor.at_ vm0_2 vm0_3, om0_2, om0_3] (fun v τ' vs' => match (generalizing := false) rr with | .ok rr => ∃ (v0_5 u0_0 u0_2 : Value) (y0_2 : Ob) (u0_3 : Value) (y0_3 : Ob), v = .agg #[.int .u8 rr.1.Kind.toNat, .int .i64 rr.1.Num, .string rr.1.Name, .string rr.1.Field, .string rr.1.Op, v0_5] ∧ vs' = [zw bm0 u0_0 rr.2.cursor.at_ u0_2 u0_3, y0_2, y0_3] ∧ RdT zC τ' v0_5 rr.1.Kids ∧ RdT zt τ' u0_0 rr.2.cursor.tokens ∧ ze zn 71 τ' u0_2 rr.2.prog.Structs y0_2 ∧ ze zk 50 τ' u0_3 rr.2.prog.Funcs y0_3 | .error _ => False) (fun ch τ' vs' => match (generalizing := false) rr with | .ok _ => False | .error ee => ∃ (u0_0 u0_2 : Value) (y0_2 : Ob) (u0_3 : Value) (y0_3 : Ob), ch = [{ v := ee.1, recovered := false }] ∧ vs' = [zw bm0 u0_0 ee.2.cursor.at_ u0_2 u0_3, y0_2, y0_3] ∧ RdT zt τ' u0_0 ee.2.cursor.tokens ∧ ze zn 71 τ' u0_2 ee.2.prog.Structs y0_2 ∧ ze zk 50 τ' u0_3 ee.2.prog.Funcs y0_3) := (zmn big).2.2.2
theorem zl7 {τ : Hp} {q0 : zc} {bm0 : Nat} {vm0_0 vm0_2 : Value} {om0_2 : Ob} {vm0_3 : Value} {om0_3 : Ob} {q1 : zg} {bm1 : Nat} {vm1_8 vm1_9 vm1_10 : Value} (rm0_0 : RdT zt τ vm0_0 q0.cursor.tokens) (wm0_2 : ze zn 71 τ vm0_2 q0.prog.Structs om0_2) (wm0_3 : ze zk 50 τ vm0_3 q0.prog.Funcs om0_3) (rm1_8 : RdT zC τ vm1_8 q1.Kids) (rm1_9 : RdT zJ τ vm1_9 q1.Body) (rm1_10 : RdT zJ τ vm1_10 q1.Else) {rr : Except (Value × zc × zg) (zc × zg)} (hF : zgI q0 q1 = some rr) :
  zbM Try.prog 93 #[.pointer (some ⟨bm0, 0, none⟩), .pointer (some ⟨bm1, 0, none⟩)] τ [zw bm0 vm0_0 q0.cursor.at_ vm0_2 vm0_3, om0_2, om0_3, zb5 bm1 q1.Kind.toNat q1.Line q1.Name q1.Field q1.Call q1.Type_.Kind.toNat q1.Type_.N q1.Type_.Name vm1_8 vm1_9 vm1_10] (fun v τ' vs' => match (generalizing := false) rr with | .ok rr => ∃ (u0_0 u0_2 : Value) (y0_2 : Ob) (u0_3 : Value) (y0_3 : Ob) (u1_8 u1_9 u1_10 : Value), v = .tuple #[] ∧ vs' = [zw bm0 u0_0 rr.1.cursor.at_ u0_2 u0_3, y0_2, y0_3, zb5 bm1 rr.2.Kind.toNat rr.2.Line rr.2.Name rr.2.Field rr.2.Call rr.2.Type_.Kind.toNat rr.2.Type_.N rr.2.Type_.Name u1_8 u1_9 u1_10] ∧ RdT zt τ' u0_0 rr.1.cursor.tokens ∧ ze zn 71 τ' u0_2 rr.1.prog.Structs y0_2 ∧ ze zk 50 τ' u0_3 rr.1.prog.Funcs y0_3 ∧ RdT zC τ' u1_8 rr.2.Kids ∧ RdT zJ τ' u1_9 rr.2.Body ∧ RdT zJ τ' u1_10 rr.2.Else | .error _ => False) (fun ch τ' vs' => match (generalizing := false) rr with | .ok _ => False | .error ee => ∃ (u0_0 u0_2 : Value) (y0_2 : Ob) (u0_3 : Value) (y0_3 : Ob) (u1_8 u1_9 u1_10 : Value), ch = [{ v := ee.1, recovered := false }] ∧ vs' = [zw bm0 u0_0 ee.2.1.cursor.at_ u0_2 u0_3, y0_2, y0_3, zb5 bm1 ee.2.2.Kind.toNat ee.2.2.Line ee.2.2.Name ee.2.2.Field ee.2.2.Call ee.2.2.Type_.Kind.toNat ee.2.2.Type_.N ee.2.2.Type_.Name u1_8 u1_9 u1_10] ∧ RdT zt τ' u0_0 ee.2.1.cursor.tokens ∧ ze zn 71 τ' u0_2 ee.2.1.prog.Structs y0_2 ∧ ze zk 50 τ' u0_3 ee.2.1.prog.Funcs y0_3 ∧ RdT zC τ' u1_8 ee.2.2.Kids ∧ RdT zJ τ' u1_9 ee.2.2.Body ∧ RdT zJ τ' u1_10 ee.2.2.Else) := by
 obtain ⟨Am0_0, cm0_0, rfl, -⟩ := rm0_0.form
 obtain ⟨Am0_2, cm0_2, rfl, -⟩ := wm0_2.form
 obtain ⟨Am0_3, cm0_3, rfl, -⟩ := wm0_3.form
 obtain ⟨Am1_8, cm1_8, rfl, -⟩ := rm1_8.form
 obtain ⟨Am1_9, cm1_9, rfl, -⟩ := rm1_9.form
 obtain ⟨Am1_10, cm1_10, rfl, -⟩ := rm1_10.form
 refine zcL (args := [.pointer (some ⟨bm0, 0, none⟩), .pointer (some ⟨bm1, 0, none⟩)]) hm Try.func93 s93 rfl fun w0 σ hP hO Q hQ => ?_
 unfold zgI at hF
 have hL := Hp.le.refl τ
 show wpn _ _ a93.body _ _ _
 unfold a93
 dsimp only
 refine zd hO 5 [] [(4, zsb bm1), (5, zsb bm1), (8, zsb bm0)] [0, 1] zrY fun j => ?_
 have hO := hO.sel [3, 0, 1, 2]
 rcases zO hF with ⟨x7, h8, hF⟩ | ⟨c3, h4, hF⟩
 ·refine zN (hs := [_]) (vs := [_, _, _]) hO (zb7 (rm0_0.le hL) (wm0_2.le hL) (wm0_3.le hL) h8) (fun _ _ _ h => False.elim h) rfl fun _ σ _ _ hO h9 h10 => ?_
  have hL := hL.trans h9
  obtain ⟨v11, v15, o18, v20, o23, rfl, rfl, r14, w19, w24⟩ := h10
  obtain ⟨A12, c13, rfl, -⟩ := r14.form
  obtain ⟨A16, c17, rfl, -⟩ := w19.form
  obtain ⟨A21, c22, rfl, -⟩ := w24.form
  have hO := zsf4 hO
  cases hF
  have hO := hO.sel [1, 2, 3, 0]
  exact hP _ _ _ _ hO hL ⟨_, _, _, _, _, _, _, _, rfl, rfl, r14, w19, w24, (rm1_8.le hL), (rm1_9.le hL), (rm1_10.le hL)⟩
 refine zP (hs := [_]) (vs := [_, _, _]) hO (zb7 (rm0_0.le hL) (wm0_2.le hL) (wm0_3.le hL) h4) (fun _ _ _ h => False.elim h) rfl fun _ σ _ _ hO h5 h6 => ?_
 have hL := hL.trans h5
 obtain ⟨v25, v29, o32, v34, o37, rfl, rfl, r28, w33, w38⟩ := h6
 obtain ⟨A26, c27, rfl, -⟩ := r28.form
 obtain ⟨A30, c31, rfl, -⟩ := w33.form
 obtain ⟨A35, c36, rfl, -⟩ := w38.form
 have hO := zsf4 hO
 refine zd hO 2 [] [(11, zsb bm1)] [0, 1, 5, 9] zrY fun j => ?_
 refine zs hO (i := 0) rfl (off := 0) rfl rfl rfl rfl (Nat.le_of_ble_eq_true rfl) rfl fun σ hO => ?_
 have hO := zsf4 hO
 refine zd hO 2 [] [(13, .pointer (some ⟨bm1, 2, none⟩))] [0, 1, 9] zrX fun j => ?_
 refine zs hO (i := 0) rfl (off := 2) rfl rfl rfl rfl (Nat.le_of_ble_eq_true rfl) rfl fun σ hO => ?_
 have hO := zsf4 hO
 refine za (zd hO 2 [] [(14, zsb bm1), (15, zsb bm0)] [0, 1] zrX fun j => ?_)
 rcases zO hF with ⟨x43, h44, hF⟩ | ⟨c39, h40, hF⟩
 ·refine zN (hs := [_]) (vs := [_, _, _]) hO (zfL r28 w33 w38 h44) (fun _ _ _ h => False.elim h) rfl fun _ σ _ _ hO h45 h46 => ?_
  have hL := hL.trans h45
  obtain ⟨v47, v51, o54, v56, o59, rfl, rfl, r50, w55, w60⟩ := h46
  obtain ⟨A48, c49, rfl, -⟩ := r50.form
  obtain ⟨A52, c53, rfl, -⟩ := w55.form
  obtain ⟨A57, c58, rfl, -⟩ := w60.form
  have hO := zsf4 hO
  cases hF
  have hO := hO.sel [1, 2, 3, 0]
  exact hP _ _ _ _ hO hL ⟨_, _, _, _, _, _, _, _, rfl, rfl, r50, w55, w60, (rm1_8.le hL), (rm1_9.le hL), (rm1_10.le hL)⟩
 refine zP (hs := [_]) (vs := [_, _, _]) hO (zfL r28 w33 w38 h40) (fun _ _ _ h => False.elim h) rfl fun _ σ _ _ hO h41 h42 => ?_
 have hL := hL.trans h41
 obtain ⟨v61, v65, o68, v70, o73, rfl, rfl, r64, w69, w74⟩ := h42
 obtain ⟨A62, c63, rfl, -⟩ := r64.form
 obtain ⟨A66, c67, rfl, -⟩ := w69.form
 obtain ⟨A71, c72, rfl, -⟩ := w74.form
 have hO := zsf4 hO
 refine zd hO 2 [] [(18, .pointer (some ⟨bm1, 5, none⟩))] [0, 1, 16] zrX fun j => ?_
 refine zs hO (i := 0) rfl (off := 5) rfl rfl rfl rfl (Nat.le_of_ble_eq_true rfl) rfl fun σ hO => ?_
 have hO := zsf4 hO
 refine za (zd hO 3 [] [(21, zsb bm0)] [0, 1] zrW fun j => ?_)
 refine zB (T := Ty.str) (l := ([(⟨#[61]⟩ : ByteArray)] : List ByteArray)) (cs := [.string (⟨#[61]⟩ : ByteArray)]) hO rfl ⟨[.string (⟨#[61]⟩ : ByteArray)], _, rfl, rfl, rfl⟩ rfl (by decide) fun _ σ o77 w78 hO => ?_
 obtain ⟨A75, c76, rfl, -⟩ := w78.form
 have hO := zsf5 hO
 obtain ⟨_, h80, r79, hO⟩ := w78.share hO (i := 4) rfl
 have hL := hL.trans h80
 have r64 := r64.le h80
 have w69 := w69.le h80
 have w74 := w74.le h80
 have hO := zsf5 hO
 obtain ⟨c81, h82, hF⟩ := zsg hF
 have hO := hO.sel [0, 4, 1, 2, 3]
 refine zbB (hs := [_, _]) (vs := [_, _, _]) hO (zca r64 w69 w74 r79 h82) rfl fun _ σ _ _ hO h83 h84 => ?_
 have hL := hL.trans h83
 have r79 := r79.le h83
 obtain ⟨v85, v89, o92, v94, o97, rfl, rfl, r88, w93, w98⟩ := h84
 obtain ⟨A86, c87, rfl, -⟩ := r88.form
 obtain ⟨A90, c91, rfl, -⟩ := w93.form
 obtain ⟨A95, c96, rfl, -⟩ := w98.form
 have hO := zsf5 hO
 refine za (zb2 (zE hF rfl (fun hF => ?_) fun hF => ?_))
 ·refine zd hO 2 [] [(24, zsb bm1), (25, zsb bm0)] [0, 1] zrX fun j => ?_
  rcases zO hF with ⟨x104, h105, hF⟩ | ⟨c100, h101, hF⟩
  ·refine zN (hs := [_, _]) (vs := [_, _, _]) hO (zcg r88 w93 w98 h105) (fun _ _ _ h => False.elim h) rfl fun _ σ _ _ hO h106 h107 => ?_
   have hL := hL.trans h106
   obtain ⟨v108, v112, o115, v117, o120, rfl, rfl, r111, w116, w121⟩ := h107
   obtain ⟨A109, c110, rfl, -⟩ := r111.form
   obtain ⟨A113, c114, rfl, -⟩ := w116.form
   obtain ⟨A118, c119, rfl, -⟩ := w121.form
   have hO := zsf5 hO
   cases hF
   have hO := hO.sel [2, 3, 4, 0]
   exact hP _ _ _ _ hO hL ⟨_, _, _, _, _, _, _, _, rfl, rfl, r111, w116, w121, (rm1_8.le hL), (rm1_9.le hL), (rm1_10.le hL)⟩
  refine zP (hs := [_, _]) (vs := [_, _, _]) hO (zcg r88 w93 w98 h101) (fun _ _ _ h => False.elim h) rfl fun _ σ _ _ hO h102 h103 => ?_
  have hL := hL.trans h102
  obtain ⟨v122, v126, v130, o133, v135, o138, rfl, rfl, r123, r129, w134, w139⟩ := h103
  obtain ⟨A124, c125, rfl, -⟩ := r123.form
  obtain ⟨A127, c128, rfl, -⟩ := r129.form
  obtain ⟨A131, c132, rfl, -⟩ := w134.form
  obtain ⟨A136, c137, rfl, -⟩ := w139.form
  have hO := zsf5 hO
  refine zB (T := zC) (l := ([(⟨c100.1.Kind, c100.1.Num, c100.1.Name, c100.1.Field, c100.1.Op, c100.1.Kids⟩ : zb)] : List zb)) (cs := [.int .u8 (c100.1.Kind.toNat : Int), .int .i64 c100.1.Num, .string c100.1.Name, .string c100.1.Field, .string c100.1.Op, zsh A124 c100.1.Kids c125]) hO rfl ⟨[.int .u8 (c100.1.Kind.toNat : Int), .int .i64 c100.1.Num, .string c100.1.Name, .string c100.1.Field, .string c100.1.Op, zsh A124 c100.1.Kids c125], _, rfl, (zcz ⟨_, rfl, r123⟩), rfl⟩ rfl (by decide) fun _ σ o142 w143 hO => ?_
  obtain ⟨A140, c141, rfl, -⟩ := w143.form
  have hO := zsf6 hO
  refine zd hO 2 [] [(29, .pointer (some ⟨bm1, 8, none⟩))] [0, 1, 27] zrX fun j => ?_
  refine zs hO (i := 0) rfl (off := 8) rfl rfl rfl rfl (Nat.le_of_ble_eq_true rfl) rfl fun σ hO => ?_
  have hO := zsf6 hO
  refine za (zj ?_)
  obtain ⟨_, h145, r144, hO⟩ := w143.share hO (i := 5) rfl
  have hL := hL.trans h145
  have r129 := r129.le h145
  have w134 := w134.le h145
  have w139 := w139.le h145
  have hO := zsf6 hO
  cases hF
  have hO := hO.sel [2, 3, 4, 0]
  refine (hQ _ _ _ _ _ rfl hO hL ?_).2
  exact ⟨_, _, _, _, _, _, _, _, rfl, rfl, r129, w134, w139, r144, (rm1_9.le hL), (rm1_10.le hL)⟩
 refine zS (zj ?_)
 cases hF
 have hO := hO.sel [2, 3, 4, 0]
 refine (hQ _ _ _ _ _ rfl hO hL ?_).2
 exact ⟨_, _, _, _, _, _, _, _, rfl, rfl, r88, w93, w98, (rm1_8.le hL), (rm1_9.le hL), (rm1_10.le hL)⟩
end Go.Proofs.Ytnhboaaikehpoaa
