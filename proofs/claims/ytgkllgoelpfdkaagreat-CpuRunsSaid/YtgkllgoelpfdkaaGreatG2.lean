import Derived.Test.YtgkllgoelpfdkaaGreatG1
namespace Go.Proofs.YtgkllgoelpfdkaaGreat
open Go.Ab Go.RowKit
set_option linter.unusedVariables false
set_option linter.unusedSimpArgs false
set_option maxRecDepth 10000
set_option maxHeartbeats 1000000
theorem znG {τ : Hp} {q0 : zh} {bm0 : Nat} {vm0_0 vm0_18 : Value} {om0_18 : Ob} {vm0_19 vm0_20 : Value} {om0_20 : Ob} {p1 : Int} (rm0_0 : RdT Ty.u8 τ vm0_0 q0.code) (wm0_18 : zd (Ty.int .i64) 2 τ vm0_18 q0.words om0_18) (rm0_19 : RdT (Ty.int .i64) τ vm0_19 q0.input) (wm0_20 : zd (Ty.int .i64) 2 τ vm0_20 q0.out om0_20) {rr : Int × Int × zh} (hF : ziG q0 p1 = some rr) :
  Ctr Tryz.prog 10 #[.pointer (some ⟨bm0, 0, none⟩), .int .i64 p1] τ [zI bm0 vm0_0 q0.pc q0.regs vm0_18 vm0_19 vm0_20 q0.how.toNat q0.halting, om0_18, om0_20] (fun v τ' vs' => ∃ (u0_0 u0_18 : Value) (y0_18 : Ob) (u0_19 u0_20 : Value) (y0_20 : Ob), v = .tuple #[.int .u8 rr.1, .int .i64 rr.2.1] ∧ vs' = [zI bm0 u0_0 rr.2.2.pc rr.2.2.regs u0_18 u0_19 u0_20 rr.2.2.how.toNat rr.2.2.halting, y0_18, y0_20] ∧ RdT Ty.u8 τ' u0_0 rr.2.2.code ∧ zd (Ty.int .i64) 2 τ' u0_18 rr.2.2.words y0_18 ∧ RdT (Ty.int .i64) τ' u0_19 rr.2.2.input ∧ zd (Ty.int .i64) 2 τ' u0_20 rr.2.2.out y0_20) := by
 obtain ⟨Am0_0, cm0_0, rfl, -⟩ := rm0_0.form
 obtain ⟨Am0_18, cm0_18, rfl, -⟩ := wm0_18.form
 obtain ⟨Am0_19, cm0_19, rfl, -⟩ := rm0_19.form
 obtain ⟨Am0_20, cm0_20, rfl, -⟩ := wm0_20.form
 refine zu (args := [.pointer (some ⟨bm0, 0, none⟩), .int .i64 p1]) hm Tryz.func10 s10 rfl fun w0 σ hO Q hQ => ?_
 unfold ziG at hF
 have hL := Hp.le.refl τ
 show wpn _ _ a10.body _ _ _
 unfold a10
 dsimp only
 refine za hO [] [] [0, 1] zsN fun j => ?_
 refine zb (za hO [] [(5, zs2 (zdy 0 p1))] [0] zsN fun j => ?_)
 refine zW (zbG (fun (n : Nat) e' σ' => ∃ (A37 : Option Addr) (c38 : Nat) (x39 : List UInt8) (x41 : Int) (x42 : (Nat → Int)) (A43 : Option Addr) (c44 : Nat) (o45 : Ob) (x46 : List Int) (A48 : Option Addr) (c49 : Nat) (x50 : List Int) (A52 : Option Addr) (c53 : Nat) (o54 : Ob) (x55 : List Int) (x57 : UInt8) (x58 x59 : Int) (τ' : Hp), agr [(0, zs3 bm0), (5, zs2 x59)] e' ∧ Obs τ' σ' [zI bm0 (zs9 A37 x39 c38) x41 x42 (zs9 A43 x46 c44) (zs9 A48 x50 c49) (zs9 A52 x55 c53) (x57.toNat : Int) x58, o45, o54] ∧ Hp.le τ τ' ∧ RdT Ty.u8 τ' (zs9 A37 x39 c38) x39 ∧ zd (Ty.int .i64) 2 τ' (zs9 A43 x46 c44) x46 o45 ∧ RdT (Ty.int .i64) τ' (zs9 A48 x50 c49) x50 ∧ zd (Ty.int .i64) 2 τ' (zs9 A52 x55 c53) x55 o54 ∧ zig  n x39 x41 x42 x46 x50 x55 x57 x58 x59 = some rr) big ⟨Am0_0, cm0_0, q0.code, q0.pc, q0.regs, Am0_18, cm0_18, om0_18, q0.words, Am0_19, cm0_19, q0.input, Am0_20, cm0_20, om0_20, q0.out, q0.how, q0.halting, (zdy 0 p1), _, zs1 zsM, hO, hL, (rm0_0.le hL), (wm0_18.le hL), (rm0_19.le hL), (wm0_20.le hL), hF⟩ ?_)
 clear hF hO hL
 rintro n94 e σ ⟨A37, c38, x39, x41, x42, A43, c44, o45, x46, A48, c49, x50, A52, c53, o54, x55, x57, x58, x59, _, hA, hO, hL, r40, w47, r51, w56, hF⟩
 rw [← zD _ _ hA]
 cases n94 with
 | zero => exact nomatch (show none = some rr from hF)
 | succ n94 =>
 replace hF : zjK (zig  n94) x39 x41 x42 x46 x50 x55 x57 x58 x59 = some rr := hF
 unfold zjK at hF
 refine zb (zc hO 3 [] [(10, .bool (decide (x59 > 0)))] [0, 5] zsO fun j => ?_)
 obtain ⟨c95, h96, hF⟩ := zs8 hF
 refine zbN 2 (fun e' σ' => ∃ (τ' : Hp), agr [(14, .bool c95), (0, zs3 bm0), (5, zs2 x59)] e' ∧ Obs τ' σ' [zI bm0 (zs9 A37 x39 c38) x41 x42 (zs9 A43 x46 c44) (zs9 A48 x50 c49) (zs9 A52 x55 c53) (x57.toNat : Int) x58, o45, o54] ∧ Hp.le τ τ' ∧ RdT Ty.u8 τ' (zs9 A37 x39 c38) x39 ∧ zd (Ty.int .i64) 2 τ' (zs9 A43 x46 c44) x46 o45 ∧ RdT (Ty.int .i64) τ' (zs9 A48 x50 c49) x50 ∧ zd (Ty.int .i64) 2 τ' (zs9 A52 x55 c53) x55 o54) ?_ ?_
 ·have hF := h96
  rcases z1 hF with ⟨hb97, hF⟩ | ⟨hb97, hF⟩
  ·refine zK (zs6 hb97) ?_
   refine zc hO 1 [] [(11, zs3 bm0)] [0, 5, 10] zsP fun j => ?_
   obtain ⟨c98, h99, hF⟩ := zs8 hF
   refine zbe (hs := []) (vs := [_, _, _]) hO (zg0 (q0 := (⟨x39, x41, x42, x46, x50, x55, x57, x58⟩ : zh)) r40 w47 r51 w56 h99) rfl fun _ σ _ _ hO h100 h101 => ?_
   have hL := hL.trans h100
   have r40 := r40.le h100
   have w47 := w47.le h100
   have r51 := r51.le h100
   have w56 := w56.le h100
   obtain ⟨rfl, rfl⟩ := h101
   have hO := zs73 hO
   refine zc hO 1 [] [(13, .bool (c98 == 0))] [0, 5, 10] zsP fun j => ?_
   refine zw (zs4 hb97) ?_
   refine ze ?_
   cases hF
   refine zg ?_
   exact ⟨rfl, _, zs1 zsN, hO, hL, r40, w47, r51, w56⟩
  refine zP (zs6 hb97) ?_
  refine zw (zs4 hb97) ?_
  refine ze ?_
  cases hF
  refine zg ?_
  exact ⟨rfl, _, zs1 zsN, hO, hL, r40, w47, r51, w56⟩
 rintro e σ ⟨_, hA, hO, hL, r40, w47, r51, w56⟩
 rw [← zD _ _ hA]
 refine ze (zi hF rfl (fun hF => ?_) fun hF => ?_)
 ·refine zl (zW (zV (zc hO 1 [] [(17, zs3 bm0)] [0, 5] zsO fun j => ?_)))
  obtain ⟨c103, h104, hF⟩ := zs8 hF
  refine zbe (hs := []) (vs := [_, _, _]) hO (zmQ (q0 := (⟨x39, x41, x42, x46, x50, x55, x57, x58⟩ : zh)) r40 w47 r51 w56 h104) rfl fun _ σ _ _ hO h105 h106 => ?_
  have hL := hL.trans h105
  obtain ⟨v107, v111, o114, v116, v120, o123, rfl, rfl, r110, w115, r119, w124⟩ := h106
  obtain ⟨A108, c109, rfl, -⟩ := r110.form
  obtain ⟨A112, c113, rfl, -⟩ := w115.form
  obtain ⟨A117, c118, rfl, -⟩ := r119.form
  obtain ⟨A121, c122, rfl, -⟩ := w124.form
  have hO := zs73 hO
  refine ze (zg (zF (zk (zV (za hO [] [(5, zs2 (IntKind.i64.wrap (x59 - 1)))] [0] zsN fun j => ?_)))))
  refine zg (zk ?_)
  exact ⟨n94, Nat.lt_succ_self _, A108, c109, c103.2.code, c103.2.pc, c103.2.regs, A112, c113, o114, c103.2.words, A117, c118, c103.2.input, A121, c122, o123, c103.2.out, c103.2.how, c103.2.halting, (IntKind.i64.wrap (x59 - 1)), _, zs1 zsM, hO, hL, r110, w115, r119, w124, hF⟩
 refine zbl (zbw (zbD (zk (zc hO 1 [] [(19, zs3 bm0)] [0, 5] zsO fun j => ?_))))
 obtain ⟨c125, h126, hF⟩ := zs8 hF
 refine zbe (hs := []) (vs := [_, _, _]) hO (zg0 (q0 := (⟨x39, x41, x42, x46, x50, x55, x57, x58⟩ : zh)) r40 w47 r51 w56 h126) rfl fun _ σ _ _ hO h127 h128 => ?_
 have hL := hL.trans h127
 have r40 := r40.le h127
 have w47 := w47.le h127
 have r51 := r51.le h127
 have w56 := w56.le h127
 obtain ⟨rfl, rfl⟩ := h128
 have hO := zs73 hO
 refine za hO [] [(4, .int .u8 c125), (5, zs2 x59)] [0] zsO fun j => ?_
 refine zq ?_
 cases hF
 exact hQ _ _ _ _ _ rfl hO hL ⟨_, _, _, _, _, _, rfl, rfl, r40, w47, r51, w56⟩
theorem znO {τ : Hp} {q0 : zh} {bm0 : Nat} {vm0_0 vm0_18 : Value} {om0_18 : Ob} {vm0_19 vm0_20 : Value} {om0_20 : Ob} (rm0_0 : RdT Ty.u8 τ vm0_0 q0.code) (wm0_18 : zd (Ty.int .i64) 2 τ vm0_18 q0.words om0_18) (rm0_19 : RdT (Ty.int .i64) τ vm0_19 q0.input) (wm0_20 : zd (Ty.int .i64) 2 τ vm0_20 q0.out om0_20) {rr : (List Int)} (hF : zdR q0 = some rr) :
  Ctr Tryz.prog 13 #[.pointer (some ⟨bm0, 0, none⟩)] τ [zI bm0 vm0_0 q0.pc q0.regs vm0_18 vm0_19 vm0_20 q0.how.toNat q0.halting, om0_18, om0_20] (fun v τ' vs' => ∃ (v0 : Value) (o0 : Ob), v = v0 ∧ vs' = [o0, zI bm0 vm0_0 q0.pc q0.regs vm0_18 vm0_19 vm0_20 q0.how.toNat q0.halting, om0_18, om0_20] ∧ zd (Ty.int .i64) 2 τ' v0 rr o0) := by
 obtain ⟨Am0_0, cm0_0, rfl, -⟩ := rm0_0.form
 obtain ⟨Am0_18, cm0_18, rfl, -⟩ := wm0_18.form
 obtain ⟨Am0_19, cm0_19, rfl, -⟩ := rm0_19.form
 obtain ⟨Am0_20, cm0_20, rfl, -⟩ := wm0_20.form
 refine zu (args := [.pointer (some ⟨bm0, 0, none⟩)]) hm Tryz.func13 s13 rfl fun w0 σ hO Q hQ => ?_
 unfold zdR at hF
 have hL := Hp.le.refl τ
 show wpn _ _ a13.body _ _ _
 unfold a13
 dsimp only
 refine za hO [] [] [0] zsM fun j => ?_
 refine zb (za hO [] [(4, .bool false)] [0] zsN fun j => ?_)
 refine zbU rfl ?_
 refine zl (zc hO 4 [0] [(8, zs9 Am0_20 q0.out cm0_20)] [0] (And.intro (And.intro rfl rfl) zsN) fun j => ?_)
 obtain ⟨c2, h3, hF⟩ := zs8 hF
 refine zbe (hs := [_, _]) (vs := [_]) hO (Ctr.lendO (zdu .i64) (wm0_20.le hL) fun _ r => zfx r h3) rfl fun _ σ _ _ hO h4 h5 => ?_
 have hL := hL.trans h4
 obtain ⟨v6, o7, rfl, rfl, w8⟩ := h5
 obtain ⟨A9, c10, rfl, -⟩ := w8.form
 have hO := zs74 hO
 have hO := hO.sel [0, 1, 3, 2]
 have hO := zs74 hO
 refine za hO [] [(2, zs9 A9 c2 c10)] [0] zsN fun j => ?_
 refine zq ?_
 cases hF
 have hO := hO.sel [3, 0, 1, 2]
 exact hQ _ _ _ _ _ rfl hO hL ⟨_, _, rfl, rfl, w8⟩
theorem zm7 {τ : Hp} {q0 : zh} {bm0 : Nat} {vm0_0 vm0_18 : Value} {om0_18 : Ob} {vm0_19 vm0_20 : Value} {om0_20 : Ob} (rm0_0 : RdT Ty.u8 τ vm0_0 q0.code) (wm0_18 : zd (Ty.int .i64) 2 τ vm0_18 q0.words om0_18) (rm0_19 : RdT (Ty.int .i64) τ vm0_19 q0.input) (wm0_20 : zd (Ty.int .i64) 2 τ vm0_20 q0.out om0_20) {rr : Int × Bool} (hF : zfz q0 = some rr) :
  Ctr Tryz.prog 25 #[.pointer (some ⟨bm0, 0, none⟩)] τ [zI bm0 vm0_0 q0.pc q0.regs vm0_18 vm0_19 vm0_20 q0.how.toNat q0.halting, om0_18, om0_20] (fun v τ' vs' => v = .tuple #[.int .i64 rr.1, .bool rr.2] ∧ vs' = [zI bm0 vm0_0 q0.pc q0.regs vm0_18 vm0_19 vm0_20 q0.how.toNat q0.halting, om0_18, om0_20]) := by
 obtain ⟨Am0_0, cm0_0, rfl, -⟩ := rm0_0.form
 obtain ⟨Am0_18, cm0_18, rfl, -⟩ := wm0_18.form
 obtain ⟨Am0_19, cm0_19, rfl, -⟩ := rm0_19.form
 obtain ⟨Am0_20, cm0_20, rfl, -⟩ := wm0_20.form
 refine zu (args := [.pointer (some ⟨bm0, 0, none⟩)]) hm Tryz.func25 s25 rfl fun w0 σ hO Q hQ => ?_
 unfold zfz at hF
 have hL := Hp.le.refl τ
 show wpn _ _ a25.body _ _ _
 unfold a25
 dsimp only
 refine za hO [] [] [0] zsM fun j => ?_
 refine zb (zc hO 1 [] [(4, zs3 bm0)] [0] zsN fun j => ?_)
 obtain ⟨c2, h3, hF⟩ := zs8 hF
 refine zbe (hs := []) (vs := [_, _, _]) hO (zg0 (q0 := (⟨q0.code, q0.pc, q0.regs, q0.words, q0.input, q0.out, q0.how, q0.halting⟩ : zh)) (rm0_0.le hL) (wm0_18.le hL) (rm0_19.le hL) (wm0_20.le hL) h3) rfl fun _ σ _ _ hO h4 h5 => ?_
 have hL := hL.trans h4
 obtain ⟨rfl, rfl⟩ := h5
 have hO := zs73 hO
 refine za hO [] [(6, .bool (c2 != 1))] [0] zsN fun j => ?_
 refine zi hF rfl (fun hF => ?_) fun hF => ?_
 ·refine zb (za hO [] [(2, zs2 0), (3, .bool false)] [0] zsO fun j => ?_)
  refine zp ?_
  cases hF
  exact hQ _ _ _ _ _ rfl hO hL ⟨rfl, rfl⟩
 refine zl (za hO [0] [(2, zs2 q0.halting), (3, .bool true)] [0] (And.intro (And.intro rfl rfl) zsO) fun j => ?_)
 refine zq ?_
 cases hF
 exact hQ _ _ _ _ _ rfl hO hL ⟨rfl, rfl⟩
theorem zk7 {τ : Hp}   {rr : Bool} (hF : ze8  = some rr) :
  Ctr Tryz.prog 7 #[] τ [] (fun v τ' vs' => v = .bool rr ∧ vs' = []) := by
 refine zu (args := []) hm Tryz.func7 s7 rfl fun w0 σ hO Q hQ => ?_
 unfold ze8 at hF
 have hL := Hp.le.refl τ
 show wpn _ _ a7.body _ _ _
 unfold a7
 dsimp only
 refine zj hO [] [] (trivial) fun j => ?_
 refine zbv (T := Ty.u8) (l := ([(2 : UInt8), (1 : UInt8), (7 : UInt8), (16 : UInt8), (1 : UInt8), (17 : UInt8), (1 : UInt8)] : List UInt8)) (cs := [.int .u8 2, .int .u8 1, .int .u8 7, .int .u8 16, .int .u8 1, .int .u8 17, .int .u8 1]) hO (by kernel_rfl) ⟨[.int .u8 2], _, rfl, rfl, ⟨[.int .u8 1], _, rfl, rfl, ⟨[.int .u8 7], _, rfl, rfl, ⟨[.int .u8 16], _, rfl, rfl, ⟨[.int .u8 1], _, rfl, rfl, ⟨[.int .u8 17], _, rfl, rfl, ⟨[.int .u8 1], _, rfl, rfl, rfl⟩⟩⟩⟩⟩⟩⟩ rfl (by decide) fun _ σ o3 w4 hO => ?_
 obtain ⟨A1, c2, rfl, -⟩ := w4.form
 have hO := zs71 hO
 refine zj hO [] [(1, zs9 A1 ([(2 : UInt8), (1 : UInt8), (7 : UInt8), (16 : UInt8), (1 : UInt8), (17 : UInt8), (1 : UInt8)] : List UInt8) c2)] zsM fun j => ?_
 refine zZ hO 1 [] [(13, zs9 A1 ([(2 : UInt8), (1 : UInt8), (7 : UInt8), (16 : UInt8), (1 : UInt8), (17 : UInt8), (1 : UInt8)] : List UInt8) c2)] zsM fun j => ?_
 obtain ⟨c5, h6, hF⟩ := zs8 hF
 refine zbe (hs := []) (vs := [_]) hO (Ctr.lendG w4 zkM fun _ lL0 rL0 => zlN rL0 (RdT.nil (Ty.int .i64) _) h6) rfl fun _ σ _ _ hO h7 h8 => ?_
 have hL := hL.trans h7
 have w4 := w4.le h7
 rcases zjv hF with ⟨h10, hF⟩ | ⟨m9, h10, hF⟩
 ·rw [h10] at h8
  obtain ⟨_, rfl, rfl, rfl⟩ := h8
  have hO := hO.sel [0]
  refine zj hO [] [(2, .pointer none), (3, zs2 c5.2)] zsN fun j => ?_
  refine zb (za hO [] [(22, .bool ((c5.2 != 0) || true))] [2] (And.intro (And.intro rfl rfl) (fun _ => zs1 zsM)) fun j => ?_)
  refine zi hF rfl (fun hF => ?_) fun hF => ?_
  ·refine zb (zj hO [] [(0, .bool false)] zsM fun j => ?_)
   refine zp ?_
   cases hF
   have hO := hO.sel []
   exact hQ _ _ _ _ _ rfl hO hL ⟨rfl, rfl⟩
  refine zl (zc hO 1 [] [(24, .pointer none)] [2] zsN fun j => ?_)
  exact nomatch (show none = some _ from hF)
 rw [h10] at h8
 obtain ⟨_, rfl, b12, v13, o16, v18, o21, v23, o26, v28, o31, rfl, rfl, w17, w22, w27, w32⟩ := h8
 obtain ⟨A14, c15, rfl, -⟩ := w17.form
 obtain ⟨A19, c20, rfl, -⟩ := w22.form
 obtain ⟨A24, c25, rfl, -⟩ := w27.form
 obtain ⟨A29, c30, rfl, -⟩ := w32.form
 have hO := zs76 hO
 refine zj hO [] [(2, zs3 b12), (3, zs2 c5.2)] zsN fun j => ?_
 refine zb (za hO [] [(22, .bool ((c5.2 != 0) || false))] [2] (And.intro (And.intro rfl rfl) (fun _ => zs1 zsM)) fun j => ?_)
 refine zi hF rfl (fun hF => ?_) fun hF => ?_
 ·refine zb (zj hO [] [(0, .bool false)] zsM fun j => ?_)
  refine zp ?_
  cases hF
  have hO := hO.sel []
  exact hQ _ _ _ _ _ rfl hO hL ⟨rfl, rfl⟩
 refine zl (zc hO 1 [] [(24, zs3 b12)] [2] zsN fun j => ?_)
 obtain ⟨_, h35, r34, hO⟩ := w17.share hO (i := 2) rfl
 have hL := hL.trans h35
 have w22 := w22.le h35
 have w27 := w27.le h35
 have w32 := w32.le h35
 have hO := zs76 hO
 obtain ⟨_, h37, r36, hO⟩ := w27.share hO (i := 4) rfl
 have hL := hL.trans h37
 have r34 := r34.le h37
 have w22 := w22.le h37
 have w32 := w32.le h37
 have hO := zs76 hO
 obtain ⟨c38, h39, hF⟩ := zs8 hF
 have hO := hO.sel [0, 2, 4, 1, 3, 5]
 refine zbe (hs := [_, _, _]) (vs := [_, _, _]) hO (znG (q0 := (⟨m9.code, m9.pc, m9.regs, m9.words, m9.input, m9.out, m9.how, m9.halting⟩ : zh)) r34 w22 r36 w32 h39) rfl fun _ σ _ _ hO h40 h41 => ?_
 have hL := hL.trans h40
 obtain ⟨v42, v46, o49, v51, v55, o58, rfl, rfl, r45, w50, r54, w59⟩ := h41
 obtain ⟨A43, c44, rfl, -⟩ := r45.form
 obtain ⟨A47, c48, rfl, -⟩ := w50.form
 obtain ⟨A52, c53, rfl, -⟩ := r54.form
 obtain ⟨A56, c57, rfl, -⟩ := w59.form
 have hO := zs76 hO
 refine za hO [] [(4, .int .u8 c38.1), (5, zs2 c38.2.1)] [2] zsO fun j => ?_
 refine zc hO 1 [] [(29, zs3 b12)] [2, 4, 5] zsP fun j => ?_
 obtain ⟨c60, h61, hF⟩ := zs8 hF
 refine zbe (hs := [_, _, _]) (vs := [_, _, _]) hO (znG (q0 := (⟨c38.2.2.code, c38.2.2.pc, c38.2.2.regs, c38.2.2.words, c38.2.2.input, c38.2.2.out, c38.2.2.how, c38.2.2.halting⟩ : zh)) r45 w50 r54 w59 h61) rfl fun _ σ _ _ hO h62 h63 => ?_
 have hL := hL.trans h62
 obtain ⟨v64, v68, o71, v73, v77, o80, rfl, rfl, r67, w72, r76, w81⟩ := h63
 obtain ⟨A65, c66, rfl, -⟩ := r67.form
 obtain ⟨A69, c70, rfl, -⟩ := w72.form
 obtain ⟨A74, c75, rfl, -⟩ := r76.form
 obtain ⟨A78, c79, rfl, -⟩ := w81.form
 have hO := zs76 hO
 refine za hO [] [(6, .int .u8 c60.1), (7, zs2 c60.2.1)] [2, 4, 5] zsQ fun j => ?_
 refine zc hO 1 [] [(34, zs3 b12)] [2, 4, 5, 6, 7] zsR fun j => ?_
 obtain ⟨c82, h83, hF⟩ := zs8 hF
 refine zbe (hs := [_, _, _]) (vs := [_, _, _]) hO (zm7 (q0 := (⟨c60.2.2.code, c60.2.2.pc, c60.2.2.regs, c60.2.2.words, c60.2.2.input, c60.2.2.out, c60.2.2.how, c60.2.2.halting⟩ : zh)) r67 w72 r76 w81 h83) rfl fun _ σ _ _ hO h84 h85 => ?_
 have hL := hL.trans h84
 have r67 := r67.le h84
 have w72 := w72.le h84
 have r76 := r76.le h84
 have w81 := w81.le h84
 obtain ⟨rfl, rfl⟩ := h85
 have hO := zs76 hO
 refine za hO [] [(8, zs2 c82.1), (9, .bool c82.2)] [2, 4, 5, 6, 7] zsS fun j => ?_
 refine zc hO 1 [] [(38, zs3 b12)] [4, 5, 6, 7, 8, 9] zsS fun j => ?_
 obtain ⟨c86, h87, hF⟩ := zs8 hF
 refine zbe (hs := [_, _, _]) (vs := [_, _, _]) hO (znO (q0 := (⟨c60.2.2.code, c60.2.2.pc, c60.2.2.regs, c60.2.2.words, c60.2.2.input, c60.2.2.out, c60.2.2.how, c60.2.2.halting⟩ : zh)) r67 w72 r76 w81 h87) rfl fun _ σ _ _ hO h88 h89 => ?_
 have hL := hL.trans h88
 have r67 := r67.le h88
 have w72 := w72.le h88
 have r76 := r76.le h88
 have w81 := w81.le h88
 obtain ⟨v90, o93, rfl, rfl, w94⟩ := h89
 obtain ⟨A91, c92, rfl, -⟩ := w94.form
 have hO := zs77 hO
 have hO := hO.sel [0, 1, 2, 4, 5, 6, 3]
 have hO := zs77 hO
 refine zj hO [] [(4, .int .u8 c38.1), (5, zs2 c38.2.1), (6, .int .u8 c60.1), (7, zs2 c60.2.1), (8, zs2 c82.1), (9, .bool c82.2), (10, zs9 A91 c86 c92)] zsS fun j => ?_
 refine zc hO 21 [] [(66, .bool (((((((c38.1 == 0) && (c38.2.1 == 0)) && (c60.1 == 1)) && (c60.2.1 == 4)) && c82.2) && (c82.1 == 7)) && ((c86.length : Int) == 1)))] [10] (And.intro (And.intro rfl rfl) (fun _ => And.intro (And.intro rfl rfl) (fun _ => And.intro (And.intro rfl rfl) (fun _ => And.intro (And.intro rfl rfl) (fun _ => And.intro (And.intro rfl rfl) (fun _ => And.intro (And.intro rfl rfl) (fun _ => zs1 zsM))))))) fun j => ?_
 obtain ⟨c95, h96, hF⟩ := zs8 hF
 refine zcg 2 [(71, .bool c95)] (fun Q hQ => ?_) fun j => ?_
 ·have hF := h96
  rcases z1 hF with ⟨hb97, hF⟩ | ⟨hb97, hF⟩
  ·refine zK (zs6 hb97) ?_
   refine zc hO 1 [] [(67, zs9 A91 c86 c92)] [66] zsN fun j => ?_
   obtain ⟨y98, g99, hF⟩ := zs8 hF
   refine zbg (T := (Ty.int .i64)) hO w94 (i := 6) rfl rfl rfl g99 (by decide) fun ziR _ k101 m102 i103 => ?_
   have k104 := k101
   obtain rfl : _ = ([.int .i64 y98] : List Value) := k104
   refine zL rfl m102.fst ?_
   refine zc hO 1 [] [(70, .bool (y98 == 7))] [66] zsN fun j => ?_
   refine zw (zs4 hb97) ?_
   refine ze ?_
   cases hF
   refine zg ?_
   exact hQ _ (zs1 (trivial))
  refine zP (zs6 hb97) ?_
  refine zw (zs4 hb97) ?_
  refine ze ?_
  cases hF
  refine zg ?_
  exact hQ _ (zs1 (trivial))
 refine zj hO [] [(0, .bool c95)] zsM fun j => ?_
 refine zq ?_
 cases hF
 have hO := hO.sel []
 exact hQ _ _ _ _ _ rfl hO hL ⟨rfl, rfl⟩
theorem zev {τ : Hp} {v0 : Value} {p0 : (List UInt8)} (r0 : RdT Ty.u8 τ v0 p0) {rr : (List UInt8)} (hF : zeF p0 = some rr) :
  Ctr Tryz.prog 19 #[v0] τ [] (fun v τ' vs' => ∃ (v0 : Value) (o0 : Ob), v = v0 ∧ vs' = [o0] ∧ zd Ty.u8 5 τ' v0 rr o0) := by
 obtain ⟨A0, c0, rfl, -⟩ := r0.form
 refine zu (args := [.slice A0 p0.length c0]) hm Tryz.func19 s19 rfl fun w0 σ hO Q hQ => ?_
 unfold zeF at hF
 have hL := Hp.le.refl τ
 show wpn _ _ a19.body _ _ _
 unfold a19
 dsimp only
 refine za hO [] [] [0] zsM fun j => ?_
 refine za hO [] [(3, .slice none 0 0)] [0] zsN fun j => ?_
 refine zb (za hO [] [(6, zs9 A0 p0 c0), (7, zs2 (p0.length : Int)), (8, zs2 0)] [3] zsP fun j => ?_)
 refine zW ?_
 have hO := hO.no
 have hO := zs71 hO
 refine zbG (fun (n : Nat) e' σ' => ∃ (A14 : Option Addr) (c15 : Nat) (o16 : Ob) (x17 : List UInt8) (x19 : Int) (τ' : Hp), agr [(3, zs9 A14 x17 c15), (6, zs9 A0 p0 c0), (7, zs2 (p0.length : Int)), (8, zs2 x19)] e' ∧ Obs τ' σ' [o16] ∧ Hp.le τ τ' ∧ zd Ty.u8 5 τ' (zs9 A14 x17 c15) x17 o16 ∧ zfv p0 n x17 x19 = some rr) big ⟨none, 0, none, [], 0, _, zs1 zsO, hO, hL, zd.nil _ _ _, hF⟩ ?_
 clear hF hO hL
 rintro n31 e σ ⟨A14, c15, o16, x17, x19, _, hA, hO, hL, w18, hF⟩
 rw [← zD _ _ hA]
 cases n31 with
 | zero => exact nomatch (show none = some rr from hF)
 | succ n31 =>
 replace hF : ze6 (zfv p0 n31) p0 x17 x19 = some rr := hF
 unfold ze6 at hF
 refine za hO [] [(9, .bool (decide (x19 < (p0.length : Int))))] [3, 6, 7, 8] zsQ fun j => ?_
 refine zi hF rfl (fun hF => ?_) fun hF => ?_
 ·refine zl (zW ?_)
  obtain ⟨y33, g34, hF⟩ := zs8 hF
  refine zbJ (T := Ty.u8) (r0.le hL) hO.base rfl rfl g34 (by decide) fun a35 _ k36 m37 => ?_
  obtain rfl : _ = ([.int .u8 y33.toNat] : List Value) := k36
  refine zL rfl (m37.le hO.base).fst ?_
  refine za hO [] [(5, .int .u8 (y33.toNat : Int))] [3, 6, 7, 8] zsQ fun j => ?_
  refine zV (zc hO 2 [] [(12, zs9 A14 x17 c15), (13, .int .u8 (y33.toNat : Int))] [6, 7, 8] zsQ fun j => ?_)
  obtain ⟨_, hr42, hF⟩ := zs8 hF
  refine zb8 (T := Ty.u8) (y := y33) hO w18 (i := 0) rfl rfl (fun _ => rfl) rfl rfl rfl hr42 (by decide) fun u _ σ o40 w41 hO => ?_
  obtain ⟨A38, c39, rfl, -⟩ := w41.form
  have hO := zs71 hO
  refine za hO [] [(3, zs9 A38 (x17 ++ [y33]) c39)] [6, 7, 8] zsP fun j => ?_
  refine zg (zF (zk (zV (za hO [] [(8, zs2 (IntKind.i64.wrap (x19 + 1)))] [3, 6, 7] zsP fun j => ?_))))
  refine zg (zk ?_)
  exact ⟨n31, Nat.lt_succ_self _, A38, c39, o40, (x17 ++ [y33]), (IntKind.i64.wrap (x19 + 1)), _, zs1 zsO, hO, hL, w41, hF⟩
 refine zbl (zbw (zbD (zk (zj hO [] [(2, zs9 A14 x17 c15)] zsM fun j => ?_))))
 refine zq ?_
 cases hF
 exact hQ _ _ _ _ _ rfl hO hL ⟨_, _, rfl, rfl, w18⟩
theorem zkx {τ : Hp} {p0 : Int}  {rr : ByteArray × Bool} (hF : zbL p0 = some rr) :
  Ctr Tryz.prog 36 #[.int .u8 p0] τ [] (fun v τ' vs' => v = .tuple #[.string rr.1, .bool rr.2] ∧ vs' = []) := by
 refine zu (args := [.int .u8 p0]) hm Tryz.func36 s36 rfl fun w0 σ hO Q hQ => ?_
 unfold zbL at hF
 have hL := Hp.le.refl τ
 show wpn _ _ a36.body _ _ _
 unfold a36
 dsimp only
 refine za hO [] [] [0] zsM fun j => ?_
 refine zbv (T := Ty.str) (l := ([(⟨#[]⟩ : ByteArray), (⟨#[114, 110]⟩ : ByteArray), (⟨#[97]⟩ : ByteArray), (⟨#[111, 97, 116]⟩ : ByteArray), (⟨#[111, 97]⟩ : ByteArray), (⟨#[97, 110]⟩ : ByteArray), (⟨#[97, 110]⟩ : ByteArray), (⟨#[97, 116, 110, 109]⟩ : ByteArray), (⟨#[97, 116, 110, 109]⟩ : ByteArray), (⟨#[106]⟩ : ByteArray), (⟨#[114, 106]⟩ : ByteArray), (⟨#[106]⟩ : ByteArray), (⟨#[]⟩ : ByteArray), (⟨#[110]⟩ : ByteArray), (⟨#[114]⟩ : ByteArray), (⟨#[114]⟩ : ByteArray), (⟨#[114]⟩ : ByteArray), (⟨#[107]⟩ : ByteArray)] : List ByteArray)) (cs := [.string (⟨#[]⟩ : ByteArray), .string (⟨#[114, 110]⟩ : ByteArray), .string (⟨#[97]⟩ : ByteArray), .string (⟨#[111, 97, 116]⟩ : ByteArray), .string (⟨#[111, 97]⟩ : ByteArray), .string (⟨#[97, 110]⟩ : ByteArray), .string (⟨#[97, 110]⟩ : ByteArray), .string (⟨#[97, 116, 110, 109]⟩ : ByteArray), .string (⟨#[97, 116, 110, 109]⟩ : ByteArray), .string (⟨#[106]⟩ : ByteArray), .string (⟨#[114, 106]⟩ : ByteArray), .string (⟨#[106]⟩ : ByteArray), .string (⟨#[]⟩ : ByteArray), .string (⟨#[110]⟩ : ByteArray), .string (⟨#[114]⟩ : ByteArray), .string (⟨#[114]⟩ : ByteArray), .string (⟨#[114]⟩ : ByteArray), .string (⟨#[107]⟩ : ByteArray)]) hO (by kernel_rfl) ⟨[.string (⟨#[]⟩ : ByteArray)], _, rfl, rfl, ⟨[.string (⟨#[114, 110]⟩ : ByteArray)], _, rfl, rfl, ⟨[.string (⟨#[97]⟩ : ByteArray)], _, rfl, rfl, ⟨[.string (⟨#[111, 97, 116]⟩ : ByteArray)], _, rfl, rfl, ⟨[.string (⟨#[111, 97]⟩ : ByteArray)], _, rfl, rfl, ⟨[.string (⟨#[97, 110]⟩ : ByteArray)], _, rfl, rfl, ⟨[.string (⟨#[97, 110]⟩ : ByteArray)], _, rfl, rfl, ⟨[.string (⟨#[97, 116, 110, 109]⟩ : ByteArray)], _, rfl, rfl, ⟨[.string (⟨#[97, 116, 110, 109]⟩ : ByteArray)], _, rfl, rfl, ⟨[.string (⟨#[106]⟩ : ByteArray)], _, rfl, rfl, ⟨[.string (⟨#[114, 106]⟩ : ByteArray)], _, rfl, rfl, ⟨[.string (⟨#[106]⟩ : ByteArray)], _, rfl, rfl, ⟨[.string (⟨#[]⟩ : ByteArray)], _, rfl, rfl, ⟨[.string (⟨#[110]⟩ : ByteArray)], _, rfl, rfl, ⟨[.string (⟨#[114]⟩ : ByteArray)], _, rfl, rfl, ⟨[.string (⟨#[114]⟩ : ByteArray)], _, rfl, rfl, ⟨[.string (⟨#[114]⟩ : ByteArray)], _, rfl, rfl, ⟨[.string (⟨#[107]⟩ : ByteArray)], _, rfl, rfl, rfl⟩⟩⟩⟩⟩⟩⟩⟩⟩⟩⟩⟩⟩⟩⟩⟩⟩⟩ rfl (by decide) fun _ σ o4 w5 hO => ?_
 obtain ⟨A2, c3, rfl, -⟩ := w5.form
 have hO := zs71 hO
 refine za hO [] [(4, zs9 A2 ([(⟨#[]⟩ : ByteArray), (⟨#[114, 110]⟩ : ByteArray), (⟨#[97]⟩ : ByteArray), (⟨#[111, 97, 116]⟩ : ByteArray), (⟨#[111, 97]⟩ : ByteArray), (⟨#[97, 110]⟩ : ByteArray), (⟨#[97, 110]⟩ : ByteArray), (⟨#[97, 116, 110, 109]⟩ : ByteArray), (⟨#[97, 116, 110, 109]⟩ : ByteArray), (⟨#[106]⟩ : ByteArray), (⟨#[114, 106]⟩ : ByteArray), (⟨#[106]⟩ : ByteArray), (⟨#[]⟩ : ByteArray), (⟨#[110]⟩ : ByteArray), (⟨#[114]⟩ : ByteArray), (⟨#[114]⟩ : ByteArray), (⟨#[114]⟩ : ByteArray), (⟨#[107]⟩ : ByteArray)] : List ByteArray) c3)] [0] zsN fun j => ?_
 refine zb (za hO [] [(14, .bool ((decide (p0 < 1)) || (decide ((IntKind.i64.wrap p0) > (([(⟨#[]⟩ : ByteArray), (⟨#[114, 110]⟩ : ByteArray), (⟨#[97]⟩ : ByteArray), (⟨#[111, 97, 116]⟩ : ByteArray), (⟨#[111, 97]⟩ : ByteArray), (⟨#[97, 110]⟩ : ByteArray), (⟨#[97, 110]⟩ : ByteArray), (⟨#[97, 116, 110, 109]⟩ : ByteArray), (⟨#[97, 116, 110, 109]⟩ : ByteArray), (⟨#[106]⟩ : ByteArray), (⟨#[114, 106]⟩ : ByteArray), (⟨#[106]⟩ : ByteArray), (⟨#[]⟩ : ByteArray), (⟨#[110]⟩ : ByteArray), (⟨#[114]⟩ : ByteArray), (⟨#[114]⟩ : ByteArray), (⟨#[114]⟩ : ByteArray), (⟨#[107]⟩ : ByteArray)] : List ByteArray).length : Int)))))] [0, 4] (And.intro (And.intro rfl rfl) (fun _ => zs1 zsN)) fun j => ?_)
 refine zi hF rfl (fun hF => ?_) fun hF => ?_
 ·refine zb (zj hO [] [(2, .string (⟨#[]⟩ : ByteArray)), (3, .bool false)] zsN fun j => ?_)
  refine zp ?_
  cases hF
  have hO := hO.sel []
  exact hQ _ _ _ _ _ rfl hO hL ⟨rfl, rfl⟩
 refine zl (zZ hO 3 [] [(15, zs9 A2 ([(⟨#[]⟩ : ByteArray), (⟨#[114, 110]⟩ : ByteArray), (⟨#[97]⟩ : ByteArray), (⟨#[111, 97, 116]⟩ : ByteArray), (⟨#[111, 97]⟩ : ByteArray), (⟨#[97, 110]⟩ : ByteArray), (⟨#[97, 110]⟩ : ByteArray), (⟨#[97, 116, 110, 109]⟩ : ByteArray), (⟨#[97, 116, 110, 109]⟩ : ByteArray), (⟨#[106]⟩ : ByteArray), (⟨#[114, 106]⟩ : ByteArray), (⟨#[106]⟩ : ByteArray), (⟨#[]⟩ : ByteArray), (⟨#[110]⟩ : ByteArray), (⟨#[114]⟩ : ByteArray), (⟨#[114]⟩ : ByteArray), (⟨#[114]⟩ : ByteArray), (⟨#[107]⟩ : ByteArray)] : List ByteArray) c3), (17, .int .u8 (IntKind.u8.wrap (p0 - 1)))] zsN fun j => ?_)
 obtain ⟨y7, g8, hF⟩ := zs8 hF
 refine zbg (T := Ty.str) hO w5 (i := 0) rfl rfl rfl g8 (by decide) fun a9 _ k10 m11 i12 => ?_
 have k13 := k10
 obtain rfl : _ = ([.string y7] : List Value) := k13
 refine zL rfl m11.fst ?_
 refine zj hO [] [(2, .string y7), (3, .bool true)] zsN fun j => ?_
 refine zq ?_
 cases hF
 have hO := hO.sel []
 exact hQ _ _ _ _ _ rfl hO hL ⟨rfl, rfl⟩
theorem ziY {τ : Hp} {p0 : Int} {p1 : Bool}  {rr : Bool} (hF : zes p0 p1 = some rr) :
  Ctr Tryz.prog 55 #[.int .i64 p0, .bool p1] τ [] (fun v τ' vs' => v = .bool rr ∧ vs' = []) := by
 refine zu (args := [.int .i64 p0, .bool p1]) hm Tryz.func55 s55 rfl fun w0 σ hO Q hQ => ?_
 unfold zes at hF
 have hL := Hp.le.refl τ
 show wpn _ _ a55.body _ _ _
 unfold a55
 dsimp only
 refine za hO [] [] [0, 1] zsN fun j => ?_
 refine zc hO 3 [] [(7, .bool (p0 == 0))] [0, 1] zsO fun j => ?_
 obtain ⟨c3, h4, hF⟩ := zs8 hF
 refine zcg 6 [(17, .bool c3)] (fun Q hQ => ?_) fun j => ?_
 ·have hF := h4
  rcases z1 hF with ⟨hb5, hF⟩ | ⟨hb5, hF⟩
  ·refine zP (zs5 hb5) ?_
   refine zP rfl ?_
   refine zP (zs5 hb5) ?_
   refine zP rfl ?_
   refine zP (zs5 hb5) ?_
   refine zw (zs4 hb5) ?_
   refine ze ?_
   cases hF
   refine zg ?_
   exact hQ _ (zs1 (trivial))
  refine zK (zs5 hb5) ?_
  refine zc hO 2 [] [(9, .bool p1)] [0, 7] zsO fun j => ?_
  rcases z1 hF with ⟨hb6, hF⟩ | ⟨hb6, hF⟩
  ·refine zK (zs6 hb6) ?_
   refine zc hO 2 [] [(11, .bool (decide (p0 > 0)))] [0, 7, 9] zsP fun j => ?_
   refine zK (zs5 hb5) ?_
   refine zw (zs4 hb6) ?_
   refine zc hO 1 [] [(13, .bool (decide (p0 > 0)))] [0, 7] zsO fun j => ?_
   rcases z1 hF with ⟨hb7, hF⟩ | ⟨hb7, hF⟩
   ·refine zK (zs6 hb7) ?_
    refine zc hO 2 [] [(15, .bool (decide (p0 < 16)))] [7, 13] zsO fun j => ?_
    refine zK (zs5 hb5) ?_
    refine zw (zs4 hb7) ?_
    refine zw (zs4 hb5) ?_
    refine ze ?_
    cases hF
    refine zg ?_
    exact hQ _ (zs1 (trivial))
   refine zP (zs6 hb7) ?_
   refine zK (zs5 hb5) ?_
   refine zw (zs4 hb7) ?_
   refine zw (zs4 hb5) ?_
   refine ze ?_
   cases hF
   refine zg ?_
   exact hQ _ (zs1 (trivial))
  refine zP (zs6 hb6) ?_
  refine zK (zs5 hb5) ?_
  refine zw (zs4 hb6) ?_
  refine zc hO 1 [] [(13, .bool false)] [0, 7] zsO fun j => ?_
  rcases z1 hF with ⟨hb8, hF⟩ | ⟨hb8, hF⟩
  ·refine zK (zs6 hb8) ?_
   refine zc hO 2 [] [(15, .bool (decide (p0 < 16)))] [7, 13] zsO fun j => ?_
   refine zK (zs5 hb5) ?_
   refine zw (zs4 hb8) ?_
   refine zw (zs4 hb5) ?_
   refine ze ?_
   cases hF
   refine zg ?_
   exact hQ _ (zs1 (trivial))
  refine zP (zs6 hb8) ?_
  refine zK (zs5 hb5) ?_
  refine zw (zs4 hb8) ?_
  refine zw (zs4 hb5) ?_
  refine ze ?_
  cases hF
  refine zg ?_
  exact hQ _ (zs1 (trivial))
 refine zj hO [] [(4, .bool c3)] zsM fun j => ?_
 refine zq ?_
 cases hF
 exact hQ _ _ _ _ _ rfl hO hL ⟨rfl, rfl⟩
theorem zd4 {τ : Hp} {p0 : ByteArray} {p1 : Int}  {rr : Bool} (hF : zn p0 p1 = some rr) :
  Ctr Tryz.prog 56 #[.string p0, .int .u8 p1] τ [] (fun v τ' vs' => v = .bool rr ∧ vs' = []) := by
 refine zu (args := [.string p0, .int .u8 p1]) hm Tryz.func56 s56 rfl fun w0 σ hO Q hQ => ?_
 unfold zn at hF
 have hL := Hp.le.refl τ
 show wpn _ _ a56.body _ _ _
 unfold a56
 dsimp only
 refine za hO [] [] [0, 1] zsN fun j => ?_
 refine zb (za hO [] [(5, zs2 0)] [0, 1] zsO fun j => ?_)
 refine zW (zbG (fun (n : Nat) e' σ' => ∃ (x7 : Int) (τ' : Hp), agr [(0, .string p0), (1, .int .u8 p1), (5, zs2 x7)] e' ∧ Obs τ' σ' [] ∧ Hp.le τ τ' ∧ zhl p0 p1 n x7 = some rr) big ⟨0, _, zs1 zsN, hO, hL, hF⟩ ?_)
 clear hF hO hL
 rintro n12 e σ ⟨x7, _, hA, hO, hL, hF⟩
 rw [← zD _ _ hA]
 cases n12 with
 | zero => exact nomatch (show none = some rr from hF)
 | succ n12 =>
 replace hF : zhO (zhl p0 p1 n12) p0 p1 x7 = some rr := hF
 unfold zhO at hF
 refine zb (za hO [] [(9, .bool (decide (x7 < (p0.size : Int))))] [0, 1, 5] zsP fun j => ?_)
 refine zi hF rfl (fun hF => ?_) fun hF => ?_
 ·refine zl (zW (zc hO 2 [] [(12, .string p0), (13, zs2 x7)] [0, 1, 5] zsQ fun j => ?_))
  obtain ⟨y14, g15, hF⟩ := zs8 hF
  refine zeL rfl rfl g15 ?_
  refine za hO [] [(16, .bool ((y14.toNat : Int) == p1))] [0, 1, 5] zsP fun j => ?_
  refine z5 (zi hF rfl (fun hF => ?_) fun hF => ?_)
  ·refine zb (zj hO [] [(4, .bool true)] zsM fun j => ?_)
   refine zp (zJ (zB (zB (zJ (zB ?_)))))
   cases hF
   exact hQ _ _ _ _ _ rfl hO hL ⟨rfl, rfl⟩
  refine zl (zg (zF (zk (zV (za hO [] [(5, zs2 (IntKind.i64.wrap (x7 + 1)))] [0, 1] zsO fun j => ?_)))))
  refine zg (zk ?_)
  exact ⟨n12, Nat.lt_succ_self _, (IntKind.i64.wrap (x7 + 1)), _, zs1 zsN, hO, hL, hF⟩
 refine zbl (zbw (zbD (zk (zj hO [] [(4, .bool false)] zsM fun j => ?_))))
 refine zq ?_
 cases hF
 exact hQ _ _ _ _ _ rfl hO hL ⟨rfl, rfl⟩
theorem znq {τ : Hp} {p0 : zf}  {rr : Bool} (hF : zbd p0 = some rr) :
  Ctr Tryz.prog 35 #[.agg #[.int .u8 p0.Kind.toNat, .int .u8 p0.Op.toNat, .int .i64 p0.R, .int .i64 p0.S, .int .i64 p0.T, .int .i64 p0.N, .int .i64 p0.M]] τ [] (fun v τ' vs' => v = .bool rr ∧ vs' = []) := by
 refine zu (args := [.agg #[.int .u8 p0.Kind.toNat, .int .u8 p0.Op.toNat, .int .i64 p0.R, .int .i64 p0.S, .int .i64 p0.T, .int .i64 p0.N, .int .i64 p0.M]]) hm Tryz.func35 s35 rfl fun w0 σ hO Q hQ => ?_
 unfold zbd at hF
 have hL := Hp.le.refl τ
 show wpn _ _ a35.body _ _ _
 unfold a35
 dsimp only
 refine zbq (n := 7) hO rfl rfl fun b2 σ hO => ?_
 have hO := zs71 hO
 refine za hO [] [] [1] zsM fun j => ?_
 refine zc hO 2 [0] [(7, .int .u8 (p0.Kind.toNat : Int))] [1] (And.intro (And.intro rfl rfl) zsN) fun j => ?_
 obtain ⟨c3, h4, hF⟩ := zs8 hF
 refine zo hO (zkx h4) rfl fun _ σ _ _ hO h5 h6 => ?_
 have hL := hL.trans h5
 obtain ⟨rfl, rfl⟩ := h6
 have hO := zs71 hO
 refine za hO [] [(3, .string c3.1), (4, .bool c3.2)] [1] zsO fun j => ?_
 refine zb (z8 (zc hO 3 [] [(13, .bool (!c3.2))] [1, 3] zsO fun j => ?_))
 obtain ⟨c7, h8, hF⟩ := zs8 hF
 refine zbN 4 (fun e' σ' => ∃ (τ' : Hp), agr [(24, .bool c7), (1, zs3 b2), (3, .string c3.1)] e' ∧ Obs τ' σ' [zy b2 (p0.Kind.toNat : Int) (p0.Op.toNat : Int) p0.R p0.S p0.T p0.N p0.M] ∧ Hp.le τ τ') ?_ ?_
 ·have hF := h8
  rcases z1 hF with ⟨hb9, hF⟩ | ⟨hb9, hF⟩
  ·refine zcU (zs5 hb9) ⟨trivial, ⟨trivial, ⟨trivial, ⟨⟨(zc1 (zs5 hb9)), trivial⟩, ⟨trivial, trivial⟩⟩⟩⟩⟩ ?_
   refine zcU rfl ⟨trivial, ⟨⟨(zc1 (zs5 hb9)), trivial⟩, trivial⟩⟩ ?_
   refine zP (zs5 hb9) ?_
   refine zw (zs4 hb9) ?_
   refine ze ?_
   cases hF
   refine zg ?_
   exact ⟨rfl, _, zs1 zsN, hO, hL⟩
  refine zK (zs5 hb9) ?_
  refine zc hO 3 [0] [(14, .pointer (some ⟨b2, 2, none⟩)), (15, zs2 p0.R), (16, .string c3.1)] [1, 3, 13] (And.intro (And.intro rfl rfl) zsR) fun j => ?_
  refine zbx ?_
  obtain ⟨c10, h11, hF⟩ := zs8 hF
  refine zo hO (zd4 h11) rfl fun _ σ _ _ hO h12 h13 => ?_
  have hL := hL.trans h12
  obtain ⟨rfl, rfl⟩ := h13
  have hO := zs71 hO
  refine ze (zby ⟨(zcM rfl (hO.val (i := 0) (off := 2) (agg := false) (n := 1) rfl rfl) rfl), trivial⟩ ?_)
  refine zc hO 1 [] [(18, .bool c10)] [1, 3, 13, 14, 15] zsR fun j => ?_
  rcases z1 hF with ⟨hb14, hF⟩ | ⟨hb14, hF⟩
  ·refine zcU (zs5 hb14) ⟨trivial, ⟨⟨(zcM rfl (hO.val (i := 0) (off := 2) (agg := false) (n := 1) rfl rfl) rfl), trivial⟩, trivial⟩⟩ ?_
   refine zK (zs5 hb9) ?_
   refine zw (zs4 hb14) ?_
   obtain ⟨c15, h16, hF⟩ := zs8 hF
   refine zo hO (ziY h16) rfl fun _ σ _ _ hO h17 h18 => ?_
   have hL := hL.trans h17
   obtain ⟨rfl, rfl⟩ := h18
   have hO := zs71 hO
   refine zc hO 1 [] [(23, .bool (!c15))] [1, 3, 13] zsP fun j => ?_
   refine zw (zs4 hb9) ?_
   refine ze ?_
   cases hF
   refine zg ?_
   exact ⟨rfl, _, zs1 zsN, hO, hL⟩
  refine zK (zs5 hb14) ?_
  refine zc hO 1 [] [(19, .string c3.1)] [1, 3, 13, 14, 15, 18] zsS fun j => ?_
  refine zbx ?_
  obtain ⟨c19, h20, hF⟩ := zs8 hF
  refine zo hO (zd4 h20) rfl fun _ σ _ _ hO h21 h22 => ?_
  have hL := hL.trans h21
  obtain ⟨rfl, rfl⟩ := h22
  have hO := zs71 hO
  refine ze (zby ⟨(zcM rfl (hO.val (i := 0) (off := 2) (agg := false) (n := 1) rfl rfl) rfl), trivial⟩ ?_)
  refine zK (zs5 hb9) ?_
  refine zw (zs4 hb14) ?_
  obtain ⟨c23, h24, hF⟩ := zs8 hF
  refine zo hO (ziY h24) rfl fun _ σ _ _ hO h25 h26 => ?_
  have hL := hL.trans h25
  obtain ⟨rfl, rfl⟩ := h26
  have hO := zs71 hO
  refine zc hO 1 [] [(23, .bool (!c23))] [1, 3, 13] zsP fun j => ?_
  refine zw (zs4 hb9) ?_
  refine ze ?_
  cases hF
  refine zg ?_
  exact ⟨rfl, _, zs1 zsN, hO, hL⟩
 rintro e σ ⟨_, hA, hO, hL⟩
 rw [← zD _ _ hA]
 refine zc hO 1 [] [(25, .bool c7)] [1, 3] zsO fun j => ?_
 obtain ⟨c27, h28, hF⟩ := zs8 hF
 refine zbN 2 (fun e' σ' => ∃ (τ' : Hp), agr [(32, .bool c27), (1, zs3 b2), (3, .string c3.1)] e' ∧ Obs τ' σ' [zy b2 (p0.Kind.toNat : Int) (p0.Op.toNat : Int) p0.R p0.S p0.T p0.N p0.M] ∧ Hp.le τ τ') ?_ ?_
 ·have hF := h28
  rcases z1 hF with ⟨hb29, hF⟩ | ⟨hb29, hF⟩
  ·refine zcU (zs5 hb29) ⟨trivial, ⟨trivial, ⟨trivial, ⟨⟨(zc1 (zs5 hb29)), trivial⟩, ⟨trivial, ⟨trivial, trivial⟩⟩⟩⟩⟩⟩ ?_
   refine zw (zs4 hb29) ?_
   refine ze ?_
   cases hF
   refine zg ?_
   exact ⟨rfl, _, zs1 zsN, hO, hL⟩
  refine zK (zs5 hb29) ?_
  refine zc hO 3 [0] [(26, .pointer (some ⟨b2, 3, none⟩)), (27, zs2 p0.S), (28, .string c3.1)] [1, 3, 25] (And.intro (And.intro rfl rfl) zsR) fun j => ?_
  refine zbx ?_
  obtain ⟨c30, h31, hF⟩ := zs8 hF
  refine zo hO (zd4 h31) rfl fun _ σ _ _ hO h32 h33 => ?_
  have hL := hL.trans h32
  obtain ⟨rfl, rfl⟩ := h33
  have hO := zs71 hO
  refine ze (zby ⟨(zcM rfl (hO.val (i := 0) (off := 3) (agg := false) (n := 1) rfl rfl) rfl), trivial⟩ ?_)
  obtain ⟨c34, h35, hF⟩ := zs8 hF
  refine zo hO (ziY h35) rfl fun _ σ _ _ hO h36 h37 => ?_
  have hL := hL.trans h36
  obtain ⟨rfl, rfl⟩ := h37
  have hO := zs71 hO
  refine zc hO 1 [] [(31, .bool (!c34))] [1, 3, 25] zsP fun j => ?_
  refine zw (zs4 hb29) ?_
  refine ze ?_
  cases hF
  refine zg ?_
  exact ⟨rfl, _, zs1 zsN, hO, hL⟩
 rintro e σ ⟨_, hA, hO, hL⟩
 rw [← zD _ _ hA]
 refine zc hO 1 [] [(33, .bool c27)] [1, 3] zsO fun j => ?_
 obtain ⟨c38, h39, hF⟩ := zs8 hF
 refine zbN 2 (fun e' σ' => ∃ (τ' : Hp), agr [(40, .bool c38), (1, zs3 b2), (3, .string c3.1)] e' ∧ Obs τ' σ' [zy b2 (p0.Kind.toNat : Int) (p0.Op.toNat : Int) p0.R p0.S p0.T p0.N p0.M] ∧ Hp.le τ τ') ?_ ?_
 ·have hF := h39
  rcases z1 hF with ⟨hb40, hF⟩ | ⟨hb40, hF⟩
  ·refine zcU (zs5 hb40) ⟨trivial, ⟨trivial, ⟨trivial, ⟨⟨(zc1 (zs5 hb40)), trivial⟩, ⟨trivial, ⟨trivial, trivial⟩⟩⟩⟩⟩⟩ ?_
   refine zw (zs4 hb40) ?_
   refine ze ?_
   cases hF
   refine zg ?_
   exact ⟨rfl, _, zs1 zsN, hO, hL⟩
  refine zK (zs5 hb40) ?_
  refine zc hO 3 [0] [(34, .pointer (some ⟨b2, 4, none⟩)), (35, zs2 p0.T), (36, .string c3.1)] [1, 3, 33] (And.intro (And.intro rfl rfl) zsR) fun j => ?_
  refine zbx ?_
  obtain ⟨c41, h42, hF⟩ := zs8 hF
  refine zo hO (zd4 h42) rfl fun _ σ _ _ hO h43 h44 => ?_
  have hL := hL.trans h43
  obtain ⟨rfl, rfl⟩ := h44
  have hO := zs71 hO
  refine ze (zby ⟨(zcM rfl (hO.val (i := 0) (off := 4) (agg := false) (n := 1) rfl rfl) rfl), trivial⟩ ?_)
  obtain ⟨c45, h46, hF⟩ := zs8 hF
  refine zo hO (ziY h46) rfl fun _ σ _ _ hO h47 h48 => ?_
  have hL := hL.trans h47
  obtain ⟨rfl, rfl⟩ := h48
  have hO := zs71 hO
  refine zc hO 1 [] [(39, .bool (!c45))] [1, 3, 33] zsP fun j => ?_
  refine zw (zs4 hb40) ?_
  refine ze ?_
  cases hF
  refine zg ?_
  exact ⟨rfl, _, zs1 zsN, hO, hL⟩
 rintro e σ ⟨_, hA, hO, hL⟩
 rw [← zD _ _ hA]
 refine ze (zi hF rfl (fun hF => ?_) fun hF => ?_)
 ·refine zb (zj hO [] [(2, .bool false)] zsM fun j => ?_)
  refine zp ?_
  cases hF
  have hO := hO.sel []
  exact hQ _ _ _ _ _ rfl hO hL ⟨rfl, rfl⟩
 refine zl (zb (zc hO 1 [] [(41, .string c3.1)] [1, 3] zsO fun j => ?_))
 obtain ⟨c50, h51, hF⟩ := zs8 hF
 refine zo hO (zd4 h51) rfl fun _ σ _ _ hO h52 h53 => ?_
 have hL := hL.trans h52
 obtain ⟨rfl, rfl⟩ := h53
 have hO := zs71 hO
 refine zc hO 1 [] [(43, .bool c50)] [1, 3] zsO fun j => ?_
 obtain ⟨c54, h55, hF⟩ := zs8 hF
 refine zcg 4 [(52, .bool c54), (1, zs3 b2), (3, .string c3.1)] (fun Q hQ => ?_) fun j => ?_
 ·have hF := h55
  rcases z1 hF with ⟨hb56, hF⟩ | ⟨hb56, hF⟩
  ·refine zK (zs6 hb56) ?_
   refine zZ hO 4 [0] [(1, zs3 b2), (3, .string c3.1), (43, .bool c50), (47, .bool (decide (p0.M < 1)))] (And.intro (And.intro rfl rfl) zsP) fun j => ?_
   rcases z1 hF with ⟨hb57, hF⟩ | ⟨hb57, hF⟩
   ·refine zP (zs5 hb57) ?_
    refine zK (zs6 hb56) ?_
    refine zw (zs4 hb57) ?_
    refine zw (zs4 hb56) ?_
    refine ze ?_
    cases hF
    refine zg ?_
    exact hQ _ zsO
   refine zK (zs5 hb57) ?_
   refine zc hO 3 [0] [(50, .bool (decide (p0.M > 65536)))] [1, 3, 43, 47] (And.intro (And.intro rfl rfl) zsQ) fun j => ?_
   refine zK (zs6 hb56) ?_
   refine zw (zs4 hb57) ?_
   refine zw (zs4 hb56) ?_
   refine ze ?_
   cases hF
   refine zg ?_
   exact hQ _ zsO
  refine zP (zs6 hb56) ?_
  refine zP rfl ?_
  refine zP (zs6 hb56) ?_
  refine zw (zs4 hb56) ?_
  refine ze ?_
  cases hF
  refine zg ?_
  exact hQ _ zsO
 refine zZ hO 1 [] [(1, zs3 b2), (3, .string c3.1), (53, .bool c54)] zsO fun j => ?_
 obtain ⟨c58, h59, hF⟩ := zs8 hF
 refine zbN 4 (fun e' σ' => ∃ (τ' : Hp), agr [(62, .bool c58), (1, zs3 b2), (3, .string c3.1)] e' ∧ Obs τ' σ' [zy b2 (p0.Kind.toNat : Int) (p0.Op.toNat : Int) p0.R p0.S p0.T p0.N p0.M] ∧ Hp.le τ τ') ?_ ?_
 ·have hF := h59
  rcases z1 hF with ⟨hb60, hF⟩ | ⟨hb60, hF⟩
  ·refine zP (zs5 hb60) ?_
   refine zP rfl ?_
   refine zP (zs5 hb60) ?_
   refine zw (zs4 hb60) ?_
   refine ze ?_
   cases hF
   refine zg ?_
   exact ⟨rfl, _, zs1 zsN, hO, hL⟩
  refine zK (zs5 hb60) ?_
  refine zc hO 1 [] [(54, .string c3.1)] [1, 3, 53] zsP fun j => ?_
  obtain ⟨c61, h62, hF⟩ := zs8 hF
  refine zo hO (zd4 h62) rfl fun _ σ _ _ hO h63 h64 => ?_
  have hL := hL.trans h63
  obtain ⟨rfl, rfl⟩ := h64
  have hO := zs71 hO
  refine zc hO 2 [] [(57, .bool (!c61))] [1, 3, 53] zsP fun j => ?_
  rcases z1 hF with ⟨hb65, hF⟩ | ⟨hb65, hF⟩
  ·refine zK (zs6 hb65) ?_
   refine zc hO 3 [0] [(60, .bool (p0.M != 0))] [1, 3, 53, 57] (And.intro (And.intro rfl rfl) zsQ) fun j => ?_
   refine zK (zs5 hb60) ?_
   refine zw (zs4 hb65) ?_
   refine zw (zs4 hb60) ?_
   refine ze ?_
   cases hF
   refine zg ?_
   exact ⟨rfl, _, zs1 zsN, hO, hL⟩
  refine zP (zs6 hb65) ?_
  refine zK (zs5 hb60) ?_
  refine zw (zs4 hb65) ?_
  refine zw (zs4 hb60) ?_
  refine ze ?_
  cases hF
  refine zg ?_
  exact ⟨rfl, _, zs1 zsN, hO, hL⟩
 rintro e σ ⟨_, hA, hO, hL⟩
 rw [← zD _ _ hA]
 refine ze (zi hF rfl (fun hF => ?_) fun hF => ?_)
 ·refine zb (zj hO [] [(2, .bool false)] zsM fun j => ?_)
  refine zp ?_
  cases hF
  have hO := hO.sel []
  exact hQ _ _ _ _ _ rfl hO hL ⟨rfl, rfl⟩
 refine zl (zef (fun e' σ' => ∃ (τ' : Hp), agr [(1, zs3 b2), (3, .string c3.1)] e' ∧ Obs τ' σ' [zy b2 (p0.Kind.toNat : Int) (p0.Op.toNat : Int) p0.R p0.S p0.T p0.N p0.M] ∧ Hp.le τ τ' ∧ zbT p0 c3 = some rr) ?_ ?_)
 ·refine za hO [0] [(63, .bool ((p0.Kind.toNat : Int) == 4))] [1, 3] (And.intro (And.intro rfl rfl) zsO) fun j => ?_
  refine z5 (zi hF rfl (fun hF => ?_) fun hF => ?_)
  ·refine zb (za hO [0, 0] [(74, .bool ((decide ((p0.Op.toNat : Int) < 1)) || (decide ((p0.Op.toNat : Int) > 13))))] [1, 3] (And.intro (And.intro rfl rfl) (And.intro (And.intro rfl rfl) (And.intro (And.intro rfl rfl) (fun _ => zs1 zsN)))) fun j => ?_)
   refine zi hF rfl (fun hF => ?_) fun hF => ?_
   ·refine zb (zj hO [] [(2, .bool false)] zsM fun j => ?_)
    refine zp (zJ (zB ?_))
    cases hF
    have hO := hO.sel []
    exact hQ _ _ _ _ _ rfl hO hL ⟨rfl, rfl⟩
   refine zl (zg (zF (zk ?_)))
   exact ⟨_, zs1 zsM, hO, hL, hF⟩
  refine zb (za hO [0] [(75, .bool ((p0.Kind.toNat : Int) == 5))] [1, 3] (And.intro (And.intro rfl rfl) zsO) fun j => ?_)
  refine zi hF rfl (fun hF => ?_) fun hF => ?_
  ·refine zb (za hO [0, 0] [(86, .bool (((p0.Op.toNat : Int) != 14) && ((p0.Op.toNat : Int) != 15)))] [1, 3] (And.intro (And.intro rfl rfl) (And.intro (And.intro rfl rfl) (And.intro (And.intro rfl rfl) (fun _ => zs1 zsN)))) fun j => ?_)
   refine zi hF rfl (fun hF => ?_) fun hF => ?_
   ·refine zb (zj hO [] [(2, .bool false)] zsM fun j => ?_)
    refine zp (zJ (zB ?_))
    cases hF
    have hO := hO.sel []
    exact hQ _ _ _ _ _ rfl hO hL ⟨rfl, rfl⟩
   refine zl (zg (zF (zk ?_)))
   exact ⟨_, zs1 zsM, hO, hL, hF⟩
  refine zb (za hO [0] [(87, .bool ((p0.Op.toNat : Int) != 0))] [1, 3] (And.intro (And.intro rfl rfl) zsO) fun j => ?_)
  refine zi hF rfl (fun hF => ?_) fun hF => ?_
  ·refine zb (zj hO [] [(2, .bool false)] zsM fun j => ?_)
   refine zp (zJ (zB ?_))
   cases hF
   have hO := hO.sel []
   exact hQ _ _ _ _ _ rfl hO hL ⟨rfl, rfl⟩
  refine zl (zg (zF (zk ?_)))
  exact ⟨_, zs1 zsM, hO, hL, hF⟩
 rintro e σ ⟨_, hA, hO, hL, hF⟩
 rw [← zD _ _ hA]
 unfold zbT at hF
 refine zW (za hO [0] [(91, .bool ((p0.Kind.toNat : Int) == 2))] [1, 3] (And.intro (And.intro rfl rfl) zsO) fun j => ?_)
 refine z5 (zi hF rfl (fun hF => ?_) fun hF => ?_)
 ·refine zb (zj hO [] [(2, .bool true)] zsM fun j => ?_)
  refine zp (zJ (zB ?_))
  cases hF
  have hO := hO.sel []
  exact hQ _ _ _ _ _ rfl hO hL ⟨rfl, rfl⟩
 refine zb (zc hO 1 [] [(96, .string c3.1)] [1, 3] zsO fun j => ?_)
 obtain ⟨c73, h74, hF⟩ := zs8 hF
 refine zo hO (zd4 h74) rfl fun _ σ _ _ hO h75 h76 => ?_
 have hL := hL.trans h75
 obtain ⟨rfl, rfl⟩ := h76
 have hO := zs71 hO
 refine za hO [] [(95, .bool c73)] [1, 3] zsO fun j => ?_
 refine zi hF rfl (fun hF => ?_) fun hF => ?_
 ·refine zb (zj hO [0, 0] [(2, .bool ((decide (p0.N ≥ (-65536))) && (decide (p0.N ≤ 65536))))] (And.intro (And.intro rfl rfl) (And.intro (And.intro rfl rfl) (And.intro (And.intro rfl rfl) (fun _ => zs1 trivial)))) fun j => ?_)
  refine zp (zJ (zB ?_))
  cases hF
  have hO := hO.sel []
  exact hQ _ _ _ _ _ rfl hO hL ⟨rfl, rfl⟩
 refine zb (zc hO 1 [] [(107, .string c3.1)] [1, 3] zsO fun j => ?_)
 obtain ⟨c78, h79, hF⟩ := zs8 hF
 refine zo hO (zd4 h79) rfl fun _ σ _ _ hO h80 h81 => ?_
 have hL := hL.trans h80
 obtain ⟨rfl, rfl⟩ := h81
 have hO := zs71 hO
 refine za hO [] [(106, .bool c78)] [1, 3] zsO fun j => ?_
 refine zi hF rfl (fun hF => ?_) fun hF => ?_
 ·refine zb (zj hO [0, 0] [(2, .bool ((decide (p0.N ≥ 0)) && (decide (p0.N < 16777216))))] (And.intro (And.intro rfl rfl) (And.intro (And.intro rfl rfl) (And.intro (And.intro rfl rfl) (fun _ => zs1 trivial)))) fun j => ?_)
  refine zp (zJ (zB ?_))
  cases hF
  have hO := hO.sel []
  exact hQ _ _ _ _ _ rfl hO hL ⟨rfl, rfl⟩
 refine zb (zc hO 1 [] [(118, .string c3.1)] [1] zsN fun j => ?_)
 obtain ⟨c83, h84, hF⟩ := zs8 hF
 refine zo hO (zd4 h84) rfl fun _ σ _ _ hO h85 h86 => ?_
 have hL := hL.trans h85
 obtain ⟨rfl, rfl⟩ := h86
 have hO := zs71 hO
 refine za hO [] [(117, .bool c83)] [1] zsN fun j => ?_
 refine zi hF rfl (fun hF => ?_) fun hF => ?_
 ·refine zb (zj hO [0, 0] [(2, .bool ((decide (p0.N ≥ 2)) && (decide (p0.N ≤ 4))))] (And.intro (And.intro rfl rfl) (And.intro (And.intro rfl rfl) (And.intro (And.intro rfl rfl) (fun _ => zs1 trivial)))) fun j => ?_)
  refine zp (zJ (zB ?_))
  cases hF
  have hO := hO.sel []
  exact hQ _ _ _ _ _ rfl hO hL ⟨rfl, rfl⟩
 refine zl (zg (zF (zk (zj hO [0] [(2, .bool (p0.N == 0))] (And.intro (And.intro rfl rfl) zsM) fun j => ?_))))
 refine zq ?_
 cases hF
 have hO := hO.sel []
 exact hQ _ _ _ _ _ rfl hO hL ⟨rfl, rfl⟩
theorem zrZ {τ : Hp} {p0 p1 : Int}  {rr : Int × Bool} (hF : zhp p0 p1 = some rr) :
  Ctr Tryz.prog 37 #[.int .i64 p0, .int .i64 p1] τ [] (fun v τ' vs' => v = .tuple #[.int .u8 rr.1, .bool rr.2] ∧ vs' = []) := by
 refine zu (args := [.int .i64 p0, .int .i64 p1]) hm Tryz.func37 s37 rfl fun w0 σ hO Q hQ => ?_
 unfold zhp at hF
 have hL := Hp.le.refl τ
 show wpn _ _ a37.body _ _ _
 unfold a37
 dsimp only
 refine za hO [] [] [0, 1] zsN fun j => ?_
 refine zb (za hO [] [(6, zs2 0)] [0, 1] zsO fun j => ?_)
 refine zW (zbG (fun (n : Nat) e' σ' => ∃ (x5 : Int) (τ' : Hp), agr [(0, zs2 p0), (1, zs2 p1), (6, zs2 x5)] e' ∧ Obs τ' σ' [] ∧ Hp.le τ τ' ∧ zgD p0 p1 n x5 = some rr) big ⟨0, _, zs1 zsN, hO, hL, hF⟩ ?_)
 clear hF hO hL
 rintro n8 e σ ⟨x5, _, hA, hO, hL, hF⟩
 rw [← zD _ _ hA]
 cases n8 with
 | zero => exact nomatch (show none = some rr from hF)
 | succ n8 =>
 replace hF : zgV (zgD p0 p1 n8) p0 p1 x5 = some rr := hF
 unfold zgV at hF
 refine zb (za hO [] [(8, .bool (decide (x5 < 256)))] [0, 1, 6] zsP fun j => ?_)
 refine zi hF rfl (fun hF => ?_) fun hF => ?_
 ·refine zl (zW (za hO [] [(20, .bool (((IntKind.i64.wrap (Int.tdiv x5 16)) == p0) && ((Int.tmod x5 16) == p1)))] [0, 1, 6] (And.intro (And.intro rfl rfl) (fun _ => zs1 zsO)) fun j => ?_))
  refine z5 (zi hF rfl (fun hF => ?_) fun hF => ?_)
  ·refine zb (zj hO [] [(4, .int .u8 (IntKind.u8.wrap x5)), (5, .bool true)] zsN fun j => ?_)
   refine zp (zJ (zB (zB (zJ (zB ?_)))))
   cases hF
   exact hQ _ _ _ _ _ rfl hO hL ⟨rfl, rfl⟩
  refine zl (zg (zF (zk (zV (za hO [] [(6, zs2 (IntKind.i64.wrap (x5 + 1)))] [0, 1] zsO fun j => ?_)))))
  refine zg (zk ?_)
  exact ⟨n8, Nat.lt_succ_self _, (IntKind.i64.wrap (x5 + 1)), _, zs1 zsN, hO, hL, hF⟩
 refine zbl (zbw (zbD (zk (zj hO [] [(4, .int .u8 0), (5, .bool false)] zsN fun j => ?_))))
 refine zq ?_
 cases hF
 exact hQ _ _ _ _ _ rfl hO hL ⟨rfl, rfl⟩
theorem zoy {τ : Hp} {p0 p1 : Int}  {rr : Bool} (hF : zgn p0 p1 = some rr) :
  Ctr Tryz.prog 57 #[.int .i64 p0, .int .i64 p1] τ [] (fun v τ' vs' => v = .bool rr ∧ vs' = []) := by
 refine zu (args := [.int .i64 p0, .int .i64 p1]) hm Tryz.func57 s57 rfl fun w0 σ hO Q hQ => ?_
 unfold zgn at hF
 have hL := Hp.le.refl τ
 show wpn _ _ a57.body _ _ _
 unfold a57
 dsimp only
 refine za hO [] [] [0, 1] zsN fun j => ?_
 refine zb (za hO [] [(8, .bool (decide ((IntKind.i64.wrap ((IntKind.i64.wrap (7 * p1)) - 1)) ≥ 63)))] [0, 1] zsO fun j => ?_)
 refine zi hF rfl (fun hF => ?_) fun hF => ?_
 ·refine zb (zj hO [] [(4, .bool true)] zsM fun j => ?_)
  refine zp ?_
  cases hF
  exact hQ _ _ _ _ _ rfl hO hL ⟨rfl, rfl⟩
 refine zl (zc hO 5 [] [(9, zs2 p0), (13, .int .u64 (IntKind.u64.wrap (IntKind.i64.wrap ((IntKind.i64.wrap (7 * p1)) - 1))))] [0, 1] zsP fun j => ?_)
 obtain ⟨y4, g5, hF⟩ := zs8 hF
 refine zc7 (zfy g5) ?_
 refine zc hO 3 [] [(17, .bool (decide (p0 ≥ (IntKind.i64.wrap (0 - y4)))))] [0, 1] zsO fun j => ?_
 obtain ⟨c6, h7, hF⟩ := zs8 hF
 refine zcg 2 [(25, .bool c6)] (fun Q hQ => ?_) fun j => ?_
 ·have hF := h7
  rcases z1 hF with ⟨hb8, hF⟩ | ⟨hb8, hF⟩
  ·refine zK (zs6 hb8) ?_
   refine zc hO 5 [] [(18, zs2 p0), (22, .int .u64 (IntKind.u64.wrap (IntKind.i64.wrap ((IntKind.i64.wrap (7 * p1)) - 1))))] [17] zsO fun j => ?_
   obtain ⟨y9, g10, hF⟩ := zs8 hF
   refine zc7 (zfy g10) ?_
   refine zc hO 1 [] [(24, .bool (decide (p0 < y9)))] [17] zsN fun j => ?_
   refine zw (zs4 hb8) ?_
   refine ze ?_
   cases hF
   refine zg ?_
   exact hQ _ (zs1 (trivial))
  refine zP (zs6 hb8) ?_
  refine zw (zs4 hb8) ?_
  refine ze ?_
  cases hF
  refine zg ?_
  exact hQ _ (zs1 (trivial))
 refine zj hO [] [(4, .bool c6)] zsM fun j => ?_
 refine zq ?_
 cases hF
 exact hQ _ _ _ _ _ rfl hO hL ⟨rfl, rfl⟩
theorem zln {τ : Hp} {v0 : Value} {p0 : (List UInt8)} {p1 : Int} {p2 : Bool} {p3 : Int} (r0 : RdT Ty.u8 τ v0 p0) {rr : (List UInt8)} (hF : zgi p0 p1 p2 p3 = some rr) :
  Ctr Tryz.prog 58 #[v0, .int .u64 p1, .bool p2, .int .i64 p3] τ [] (fun v τ' vs' => ∃ (v0 : Value) (o0 : Ob), v = v0 ∧ vs' = [o0] ∧ zd Ty.u8 5 τ' v0 rr o0) := by
 obtain ⟨A0, c0, rfl, -⟩ := r0.form
 refine zu (args := [.slice A0 p0.length c0, .int .u64 p1, .bool p2, .int .i64 p3]) hm Tryz.func58 s58 rfl fun w0 σ hO Q hQ => ?_
 unfold zgi at hF
 have hL := Hp.le.refl τ
 show wpn _ _ a58.body _ _ _
 unfold a58
 dsimp only
 refine za hO [] [] [0, 1, 2, 3] zsP fun j => ?_
 refine zc hO 1 [] [(12, zs9 A0 p0 c0)] [1, 2, 3] zsP fun j => ?_
 obtain ⟨c5, h6, hF⟩ := zs8 hF
 refine zo hO (zev (r0.le hL) h6) rfl fun _ σ _ _ hO h7 h8 => ?_
 have hL := hL.trans h7
 obtain ⟨v9, o12, rfl, rfl, w13⟩ := h8
 obtain ⟨A10, c11, rfl, -⟩ := w13.form
 have hO := zs71 hO
 refine za hO [] [(9, zs9 A10 c5 c11)] [1, 2, 3] zsP fun j => ?_
 refine zb (za hO [] [(10, zs2 0)] [1, 2, 3, 9] zsQ fun j => ?_)
 refine zW (zbG (fun (n : Nat) e' σ' => ∃ (x41 : Int) (A42 : Option Addr) (c43 : Nat) (o44 : Ob) (x45 : List UInt8) (x47 : Int) (τ' : Hp), agr [(1, .int .u64 x41), (2, .bool p2), (3, zs2 p3), (9, zs9 A42 x45 c43), (10, zs2 x47)] e' ∧ Obs τ' σ' [o44] ∧ Hp.le τ τ' ∧ zd Ty.u8 5 τ' (zs9 A42 x45 c43) x45 o44 ∧ zen p2 p3 n x41 x45 x47 = some rr) big ⟨p1, A10, c11, o12, c5, 0, _, zs1 zsP, hO, hL, w13, hF⟩ ?_)
 clear hF hO hL
 rintro n70 e σ ⟨x41, A42, c43, o44, x45, x47, _, hA, hO, hL, w46, hF⟩
 rw [← zD _ _ hA]
 cases n70 with
 | zero => exact nomatch (show none = some rr from hF)
 | succ n70 =>
 replace hF : zhr (zen p2 p3 n70) p2 p3 x41 x45 x47 = some rr := hF
 unfold zhr at hF
 refine zb (za hO [] [(16, .bool (decide (x47 < p3)))] [1, 2, 3, 9, 10] zsR fun j => ?_)
 refine zi hF rfl (fun hF => ?_) fun hF => ?_
 ·refine zl (zW (za hO [] [(11, .int .u64 (Int.tmod x41 128))] [1, 2, 3, 9, 10] zsR fun j => ?_))
  refine za hO [] [(1, .int .u64 (IntKind.u64.wrap (Int.tdiv x41 128)))] [2, 3, 9, 10, 11] zsR fun j => ?_
  refine zb (za hO [] [(23, .bool p2)] [1, 2, 3, 9, 10, 11] zsS fun j => ?_)
  refine zbK (fun e' σ' => ∃ (x73 : Int) (A74 : Option Addr) (c75 : Nat) (o76 : Ob) (x77 : List UInt8) (τ' : Hp), agr [(1, .int .u64 x73), (2, .bool p2), (3, zs2 p3), (9, zs9 A74 x77 c75), (10, zs2 x47), (11, .int .u64 (Int.tmod x41 128))] e' ∧ Obs τ' σ' [o76] ∧ Hp.le τ τ' ∧ zd Ty.u8 5 τ' (zs9 A74 x77 c75) x77 o76 ∧ zhA (zen p2 p3 n70) p3 x41 x47 x73 x77 = some rr) ?_ ?_
  ·refine z5 (zi hF rfl (fun hF => ?_) fun hF => ?_)
   ·refine za hO [] [(1, .int .u64 (orI .u64 (IntKind.u64.wrap (Int.tdiv x41 128)) 18302628885633695744))] [2, 3, 9, 10, 11] zsR fun j => ?_
    refine zg (zk ?_)
    exact ⟨(orI .u64 (IntKind.u64.wrap (Int.tdiv x41 128)) 18302628885633695744), A42, c43, o44, x45, _, zs1 zsQ, hO, hL, w46, hF⟩
   refine zl (zg (zk ?_))
   exact ⟨(IntKind.u64.wrap (Int.tdiv x41 128)), A42, c43, o44, x45, _, zs1 zsQ, hO, hL, w46, hF⟩
  rintro e σ ⟨x73, A74, c75, o76, x77, _, hA, hO, hL, w78, hF⟩
  rw [← zD _ _ hA]
  unfold zhA at hF
  refine zb (za hO [] [(29, .bool (decide (x47 < (IntKind.i64.wrap (p3 - 1)))))] [1, 2, 3, 9, 10, 11] zsS fun j => ?_)
  refine zi hF rfl (fun hF => ?_) fun hF => ?_
  ·refine za hO [] [(11, .int .u64 (IntKind.u64.wrap ((Int.tmod x41 128) + 128)))] [1, 2, 3, 9, 10] zsR fun j => ?_
   refine zV (zc hO 3 [] [(32, zs9 A74 x77 c75), (34, .int .u8 (IntKind.u8.wrap (IntKind.u64.wrap ((Int.tmod x41 128) + 128))))] [1, 2, 3, 10] zsR fun j => ?_)
   obtain ⟨z80, hz80, hF⟩ := zs8 hF
   obtain ⟨_, hr85, hF⟩ := zs8 hF
   refine zb8 (T := Ty.u8) (y := z80) hO w78 (i := 0) rfl rfl (fun _ => rfl) rfl (u8R hz80) rfl hr85 (by decide) fun u _ σ o83 w84 hO => ?_
   obtain ⟨A81, c82, rfl, -⟩ := w84.form
   have hO := zs71 hO
   refine za hO [] [(9, zs9 A81 (x77 ++ [z80]) c82)] [1, 2, 3, 10] zsQ fun j => ?_
   refine zg (zF (zk (zV (za hO [] [(10, zs2 (IntKind.i64.wrap (x47 + 1)))] [1, 2, 3, 9] zsQ fun j => ?_))))
   refine zg (zk ?_)
   exact ⟨n70, Nat.lt_succ_self _, x73, A81, c82, o83, (x77 ++ [z80]), (IntKind.i64.wrap (x47 + 1)), _, zs1 zsP, hO, hL, w84, hF⟩
  refine zl (zV (zc hO 3 [] [(32, zs9 A74 x77 c75), (34, .int .u8 (IntKind.u8.wrap (Int.tmod x41 128)))] [1, 2, 3, 10] zsR fun j => ?_))
  obtain ⟨z86, hz86, hF⟩ := zs8 hF
  obtain ⟨_, hr91, hF⟩ := zs8 hF
  refine zb8 (T := Ty.u8) (y := z86) hO w78 (i := 0) rfl rfl (fun _ => rfl) rfl (u8R hz86) rfl hr91 (by decide) fun u _ σ o89 w90 hO => ?_
  obtain ⟨A87, c88, rfl, -⟩ := w90.form
  have hO := zs71 hO
  refine za hO [] [(9, zs9 A87 (x77 ++ [z86]) c88)] [1, 2, 3, 10] zsQ fun j => ?_
  refine zg (zF (zk (zV (za hO [] [(10, zs2 (IntKind.i64.wrap (x47 + 1)))] [1, 2, 3, 9] zsQ fun j => ?_))))
  refine zg (zk ?_)
  exact ⟨n70, Nat.lt_succ_self _, x73, A87, c88, o89, (x77 ++ [z86]), (IntKind.i64.wrap (x47 + 1)), _, zs1 zsP, hO, hL, w90, hF⟩
 refine zbl (zbw (zbD (zk (zj hO [] [(8, zs9 A42 x45 c43)] zsM fun j => ?_))))
 refine zq ?_
 cases hF
 exact hQ _ _ _ _ _ rfl hO hL ⟨_, _, rfl, rfl, w46⟩
theorem zmY {τ : Hp} {v0 : Value} {p0 : (List UInt8)} {p1 : Int} (r0 : RdT Ty.u8 τ v0 p0) {rr : (List UInt8)} (hF : zfi p0 p1 = some rr) :
  Ctr Tryz.prog 38 #[v0, .int .i64 p1] τ [] (fun v τ' vs' => ∃ (v0 : Value) (o0 : Ob), v = v0 ∧ vs' = [o0] ∧ zd Ty.u8 5 τ' v0 rr o0) := by
 obtain ⟨A0, c0, rfl, -⟩ := r0.form
 refine zu (args := [.slice A0 p0.length c0, .int .i64 p1]) hm Tryz.func38 s38 rfl fun w0 σ hO Q hQ => ?_
 unfold zfi at hF
 have hL := Hp.le.refl τ
 show wpn _ _ a38.body _ _ _
 unfold a38
 dsimp only
 refine za hO [] [] [0, 1] zsN fun j => ?_
 refine za hO [] [(5, zs2 1)] [0, 1] zsO fun j => ?_
 refine zW (zbG (fun (n : Nat) e' σ' => ∃ (x17 : Int) (τ' : Hp), agr [(0, zs9 A0 p0 c0), (1, zs2 p1), (5, zs2 x17)] e' ∧ Obs τ' σ' [] ∧ Hp.le τ τ' ∧ zhh p0 p1 n x17 = some rr) big ⟨1, _, zs1 zsN, hO, hL, hF⟩ ?_)
 clear hF hO hL
 rintro n32 e σ ⟨x17, _, hA, hO, hL, hF⟩
 rw [← zD _ _ hA]
 cases n32 with
 | zero => exact nomatch (show none = some rr from hF)
 | succ n32 =>
 replace hF : zhn (zhh p0 p1 n32) p0 p1 x17 = some rr := hF
 unfold zhn at hF
 refine zb (zc hO 2 [] [(6, zs2 p1), (7, zs2 x17)] [0, 1, 5] zsQ fun j => ?_)
 obtain ⟨c33, h34, hF⟩ := zs8 hF
 refine zo hO (zoy h34) rfl fun _ σ _ _ hO h35 h36 => ?_
 have hL := hL.trans h35
 obtain ⟨rfl, rfl⟩ := h36
 have hO : Obs _ _ [] := hO
 refine za hO [] [(9, .bool (!c33))] [0, 1, 5] zsP fun j => ?_
 refine zi hF rfl (fun hF => ?_) fun hF => ?_
 ·refine zl (zcY (zW (zV (za hO [] [(5, zs2 (IntKind.i64.wrap (x17 + 1)))] [0, 1] zsO fun j => ?_))))
  refine zg (zF (zk (zg (zk ?_))))
  exact ⟨n32, Nat.lt_succ_self _, (IntKind.i64.wrap (x17 + 1)), _, zs1 zsN, hO, hL, hF⟩
 refine zbl (zbw (zbD (zk (zZ hO 6 [] [(12, zs9 A0 p0 c0), (14, .int .u64 (IntKind.u64.wrap p1)), (16, .bool (decide (p1 < 0))), (17, zs2 x17)] zsP fun j => ?_))))
 obtain ⟨c38, h39, hF⟩ := zs8 hF
 refine zo hO (zln (r0.le hL) h39) rfl fun _ σ _ _ hO h40 h41 => ?_
 have hL := hL.trans h40
 obtain ⟨v42, o45, rfl, rfl, w46⟩ := h41
 obtain ⟨A43, c44, rfl, -⟩ := w46.form
 have hO := zs71 hO
 refine zj hO [] [(4, zs9 A43 c38 c44)] zsM fun j => ?_
 refine zq ?_
 cases hF
 exact hQ _ _ _ _ _ rfl hO hL ⟨_, _, rfl, rfl, w46⟩
theorem zqk {τ : Hp} {p0 p1 : Int}  {rr : Bool} (hF : zhR p0 p1 = some rr) :
  Ctr Tryz.prog 59 #[.int .u64 p0, .int .i64 p1] τ [] (fun v τ' vs' => v = .bool rr ∧ vs' = []) := by
 refine zu (args := [.int .u64 p0, .int .i64 p1]) hm Tryz.func59 s59 rfl fun w0 σ hO Q hQ => ?_
 unfold zhR at hF
 have hL := Hp.le.refl τ
 show wpn _ _ a59.body _ _ _
 unfold a59
 dsimp only
 refine za hO [] [] [0, 1] zsN fun j => ?_
 refine zc hO 4 [] [(8, .bool (decide ((IntKind.i64.wrap (7 * p1)) ≥ 64)))] [0, 1] zsO fun j => ?_
 obtain ⟨c3, h4, hF⟩ := zs8 hF
 refine zcg 2 [(15, .bool c3)] (fun Q hQ => ?_) fun j => ?_
 ·have hF := h4
  rcases z1 hF with ⟨hb5, hF⟩ | ⟨hb5, hF⟩
  ·refine zP (zs5 hb5) ?_
   refine zw (zs4 hb5) ?_
   refine ze ?_
   cases hF
   refine zg ?_
   exact hQ _ (zs1 (trivial))
  refine zK (zs5 hb5) ?_
  refine zc hO 4 [] [(9, .int .u64 p0), (12, .int .u64 (IntKind.u64.wrap (IntKind.i64.wrap (7 * p1))))] [8] zsO fun j => ?_
  obtain ⟨y6, g7, hF⟩ := zs8 hF
  refine zc7 (zfy g7) ?_
  refine zc hO 1 [] [(14, .bool (decide (p0 < y6)))] [8] zsN fun j => ?_
  refine zw (zs4 hb5) ?_
  refine ze ?_
  cases hF
  refine zg ?_
  exact hQ _ (zs1 (trivial))
 refine zj hO [] [(4, .bool c3)] zsM fun j => ?_
 refine zq ?_
 cases hF
 exact hQ _ _ _ _ _ rfl hO hL ⟨rfl, rfl⟩
theorem zm5 {τ : Hp} {v0 : Value} {p0 : (List UInt8)} {p1 : Int} (r0 : RdT Ty.u8 τ v0 p0) {rr : (List UInt8)} (hF : zfS p0 p1 = some rr) :
  Ctr Tryz.prog 39 #[v0, .int .u64 p1] τ [] (fun v τ' vs' => ∃ (v0 : Value) (o0 : Ob), v = v0 ∧ vs' = [o0] ∧ zd Ty.u8 5 τ' v0 rr o0) := by
 obtain ⟨A0, c0, rfl, -⟩ := r0.form
 refine zu (args := [.slice A0 p0.length c0, .int .u64 p1]) hm Tryz.func39 s39 rfl fun w0 σ hO Q hQ => ?_
 unfold zfS at hF
 have hL := Hp.le.refl τ
 show wpn _ _ a39.body _ _ _
 unfold a39
 dsimp only
 refine za hO [] [] [0, 1] zsN fun j => ?_
 refine za hO [] [(5, zs2 1)] [0, 1] zsO fun j => ?_
 refine zW (zbG (fun (n : Nat) e' σ' => ∃ (x17 : Int) (τ' : Hp), agr [(0, zs9 A0 p0 c0), (1, .int .u64 p1), (5, zs2 x17)] e' ∧ Obs τ' σ' [] ∧ Hp.le τ τ' ∧ zhY p0 p1 n x17 = some rr) big ⟨1, _, zs1 zsN, hO, hL, hF⟩ ?_)
 clear hF hO hL
 rintro n32 e σ ⟨x17, _, hA, hO, hL, hF⟩
 rw [← zD _ _ hA]
 cases n32 with
 | zero => exact nomatch (show none = some rr from hF)
 | succ n32 =>
 replace hF : zgu (zhY p0 p1 n32) p0 p1 x17 = some rr := hF
 unfold zgu at hF
 refine zb (zc hO 2 [] [(6, .int .u64 p1), (7, zs2 x17)] [0, 1, 5] zsQ fun j => ?_)
 obtain ⟨c33, h34, hF⟩ := zs8 hF
 refine zo hO (zqk h34) rfl fun _ σ _ _ hO h35 h36 => ?_
 have hL := hL.trans h35
 obtain ⟨rfl, rfl⟩ := h36
 have hO : Obs _ _ [] := hO
 refine za hO [] [(9, .bool (!c33))] [0, 1, 5] zsP fun j => ?_
 refine zi hF rfl (fun hF => ?_) fun hF => ?_
 ·refine zl (zcY (zW (zV (za hO [] [(5, zs2 (IntKind.i64.wrap (x17 + 1)))] [0, 1] zsO fun j => ?_))))
  refine zg (zF (zk (zg (zk ?_))))
  exact ⟨n32, Nat.lt_succ_self _, (IntKind.i64.wrap (x17 + 1)), _, zs1 zsN, hO, hL, hF⟩
 refine zbl (zbw (zbD (zk (zZ hO 3 [] [(12, zs9 A0 p0 c0), (13, .int .u64 p1), (14, zs2 x17)] zsO fun j => ?_))))
 obtain ⟨c38, h39, hF⟩ := zs8 hF
 refine zo hO (zln (r0.le hL) h39) rfl fun _ σ _ _ hO h40 h41 => ?_
 have hL := hL.trans h40
 obtain ⟨v42, o45, rfl, rfl, w46⟩ := h41
 obtain ⟨A43, c44, rfl, -⟩ := w46.form
 have hO := zs71 hO
 refine zj hO [] [(4, zs9 A43 c38 c44)] zsM fun j => ?_
 refine zq ?_
 cases hF
 exact hQ _ _ _ _ _ rfl hO hL ⟨_, _, rfl, rfl, w46⟩
theorem zoZ {τ : Hp} {v0 : Value} {p0 : (List UInt8)} {p1 : Int} (r0 : RdT Ty.u8 τ v0 p0) {rr : (List UInt8) × Int} (hF : zhJ p0 p1 = some rr) :
  Ctr Tryz.prog 40 #[v0, .int .i64 p1] τ [] (fun v τ' vs' => ∃ (v0 : Value) (o0 : Ob), v = .tuple #[v0, .int .i64 rr.2] ∧ vs' = [o0] ∧ zd Ty.u8 5 τ' v0 rr.1 o0) := by
 obtain ⟨A0, c0, rfl, -⟩ := r0.form
 refine zu (args := [.slice A0 p0.length c0, .int .i64 p1]) hm Tryz.func40 s40 rfl fun w0 σ hO Q hQ => ?_
 unfold zhJ at hF
 have hL := Hp.le.refl τ
 show wpn _ _ a40.body _ _ _
 unfold a40
 dsimp only
 refine za hO [] [] [0, 1] zsN fun j => ?_
 refine zb (za hO [] [(11, .bool ((decide (p1 < 0)) || (decide (p1 ≥ 16777216))))] [0, 1] (And.intro (And.intro rfl rfl) (fun _ => zs1 zsN)) fun j => ?_)
 refine zi hF rfl (fun hF => ?_) fun hF => ?_
 ·refine zb (zj hO [] [(4, .slice none 0 0), (5, zs2 1)] zsN fun j => ?_)
  refine zp ?_
  have hO := hO.no
  have hO := zs71 hO
  cases hF
  exact hQ _ _ _ _ _ rfl hO hL ⟨_, _, rfl, rfl, (zd.nil _ _ _)⟩
 refine zl (zbv (T := Ty.u8) (l := ([] : List UInt8)) (cs := []) hO rfl rfl rfl (by decide) fun _ σ o6 w7 hO => ?_)
 obtain ⟨A4, c5, rfl, -⟩ := w7.form
 have hO := zs71 hO
 refine zc hO 1 [] [(13, zs9 A0 p0 c0)] [1, 12] zsO fun j => ?_
 obtain ⟨_, hr12, hF⟩ := zs8 hF
 refine zdt (T := Ty.u8) hO w7 (i := 0) rfl rfl rfl (r0.le hL) hr12 (by decide) fun _ σ o10 w11 hO => ?_
 obtain ⟨A8, c9, rfl, -⟩ := w11.form
 have hO := zs71 hO
 refine zc hO 10 [] [(17, .int .u8 (IntKind.u8.wrap (IntKind.i64.wrap (Int.tdiv p1 65536)))), (21, .int .u8 (IntKind.u8.wrap (Int.tmod (IntKind.i64.wrap (Int.tdiv p1 256)) 256))), (24, .int .u8 (IntKind.u8.wrap (Int.tmod p1 256)))] [14] zsP fun j => ?_
 obtain ⟨z13, hz13, hF⟩ := zs8 hF
 obtain ⟨z14, hz14, hF⟩ := zs8 hF
 obtain ⟨z15, hz15, hF⟩ := zs8 hF
 refine zbv (T := Ty.u8) (l := ([z13, z14, z15] : List UInt8)) (cs := [.int .u8 (IntKind.u8.wrap (IntKind.i64.wrap (Int.tdiv p1 65536))), .int .u8 (IntKind.u8.wrap (Int.tmod (IntKind.i64.wrap (Int.tdiv p1 256)) 256)), .int .u8 (IntKind.u8.wrap (Int.tmod p1 256))]) hO rfl ⟨[.int .u8 (IntKind.u8.wrap (IntKind.i64.wrap (Int.tdiv p1 65536)))], _, rfl, (u8R hz13), ⟨[.int .u8 (IntKind.u8.wrap (Int.tmod (IntKind.i64.wrap (Int.tdiv p1 256)) 256))], _, rfl, (u8R hz14), ⟨[.int .u8 (IntKind.u8.wrap (Int.tmod p1 256))], _, rfl, (u8R hz15), rfl⟩⟩⟩ rfl (by decide) fun _ σ o18 w19 hO => ?_
 obtain ⟨A16, c17, rfl, -⟩ := w19.form
 have hO := zs72 hO
 obtain ⟨_, hr24, hF⟩ := zs8 hF
 refine zgk (T := Ty.u8) zl3 hO w11 (i := 0) rfl rfl rfl (w19.rd hO (i := 1) rfl) hr24 (by decide) fun _ σ o22 w23 hO => ?_
 obtain ⟨A20, c21, rfl, -⟩ := w23.form
 have hO := zs72 hO
 refine zj hO [] [(4, zs9 A20 ((([] : List UInt8) ++ p0) ++ ([z13, z14, z15] : List UInt8)) c21), (5, zs2 0)] zsN fun j => ?_
 refine zq ?_
 cases hF
 have hO := hO.sel [0]
 exact hQ _ _ _ _ _ rfl hO hL ⟨_, _, rfl, rfl, w23⟩
theorem zmd {τ : Hp} {v0 : Value} {p0 : (List UInt8)} {p1 : zf} (r0 : RdT Ty.u8 τ v0 p0) {rr : (List UInt8)} (hF : ze9 p0 p1 = some rr) :
  Ctr Tryz.prog 26 #[v0, .agg #[.int .u8 p1.Kind.toNat, .int .u8 p1.Op.toNat, .int .i64 p1.R, .int .i64 p1.S, .int .i64 p1.T, .int .i64 p1.N, .int .i64 p1.M]] τ [] (fun v τ' vs' => ∃ (v0 : Value) (o0 : Ob), v = v0 ∧ vs' = [o0] ∧ zd Ty.u8 5 τ' v0 rr o0) := by
 obtain ⟨A0, c0, rfl, -⟩ := r0.form
 refine zu (args := [.slice A0 p0.length c0, .agg #[.int .u8 p1.Kind.toNat, .int .u8 p1.Op.toNat, .int .i64 p1.R, .int .i64 p1.S, .int .i64 p1.T, .int .i64 p1.N, .int .i64 p1.M]]) hm Tryz.func26 s26 rfl fun w0 σ hO Q hQ => ?_
 unfold ze9 at hF
 have hL := Hp.le.refl τ
 show wpn _ _ a26.body _ _ _
 unfold a26
 dsimp only
 refine zbq (n := 7) hO rfl rfl fun b3 σ hO => ?_
 have hO := zs71 hO
 refine za hO [] [] [0, 3] zsN fun j => ?_
 refine zc hO 1 [] [(11, zs9 A0 p0 c0)] [3] zsN fun j => ?_
 obtain ⟨c4, h5, hF⟩ := zs8 hF
 refine zo hO (zev (r0.le hL) h5) rfl fun _ σ _ _ hO h6 h7 => ?_
 have hL := hL.trans h6
 obtain ⟨v8, o11, rfl, rfl, w12⟩ := h7
 obtain ⟨A9, c10, rfl, -⟩ := w12.form
 have hO := zs72 hO
 refine za hO [] [(5, zs9 A9 c4 c10)] [3] zsN fun j => ?_
 refine zb (zc hO 1 [0] [(13, .agg #[(.int .u8 (p1.Kind.toNat : Int)), (.int .u8 (p1.Op.toNat : Int)), (.int .i64 p1.R), (.int .i64 p1.S), (.int .i64 p1.T), (.int .i64 p1.N), (.int .i64 p1.M)])] [3, 5] (And.intro (And.intro rfl rfl) zsO) fun j => ?_)
 obtain ⟨c13, h14, hF⟩ := zs8 hF
 refine zo hO (znq (p0 := (⟨p1.Kind, p1.Op, p1.R, p1.S, p1.T, p1.N, p1.M⟩ : zf)) h14) rfl fun _ σ _ _ hO h15 h16 => ?_
 have hL := hL.trans h15
 have w12 := w12.le h15
 obtain ⟨rfl, rfl⟩ := h16
 have hO := zs72 hO
 refine za hO [] [(15, .bool (!c13))] [3, 5] zsO fun j => ?_
 refine zi hF rfl (fun hF => ?_) fun hF => ?_
 ·refine zb (zj hO [] [(4, zs9 A9 c4 c10)] zsM fun j => ?_)
  refine zp ?_
  cases hF
  have hO := hO.sel [1]
  exact hQ _ _ _ _ _ rfl hO hL ⟨_, _, rfl, rfl, w12⟩
 refine zl (zc hO 3 [0] [(17, zs9 A9 c4 c10), (19, .int .u8 (p1.Kind.toNat : Int))] [3] (And.intro (And.intro rfl rfl) zsO) fun j => ?_)
 obtain ⟨_, hr22, hF⟩ := zs8 hF
 refine zb8 (T := Ty.u8) (y := p1.Kind) hO w12 (i := 1) rfl rfl (fun _ => rfl) rfl rfl rfl hr22 (by decide) fun u _ σ o20 w21 hO => ?_
 obtain ⟨A18, c19, rfl, -⟩ := w21.form
 have hO := zs72 hO
 refine za hO [] [(5, zs9 A18 (c4 ++ [p1.Kind]) c19)] [3] zsN fun j => ?_
 refine zc hO 2 [0] [(24, .int .u8 (p1.Kind.toNat : Int))] [3, 5] (And.intro (And.intro rfl rfl) zsO) fun j => ?_
 obtain ⟨c23, h24, hF⟩ := zs8 hF
 refine zo hO (zkx h24) rfl fun _ σ _ _ hO h25 h26 => ?_
 have hL := hL.trans h25
 have w21 := w21.le h25
 obtain ⟨rfl, rfl⟩ := h26
 have hO := zs72 hO
 refine zj hO [] [(3, zs3 b3), (5, zs9 A18 (c4 ++ [p1.Kind]) c19), (6, .string c23.1)] zsO fun j => ?_
 refine zb (za hO [] [(8, zs2 0)] [3, 5, 6] zsP fun j => ?_)
 refine zW (zbG (fun (n : Nat) e' σ' => ∃ (A348 : Option Addr) (c349 : Nat) (o350 : Ob) (x351 : List UInt8) (x353 : Int) (τ' : Hp), agr [(3, zs3 b3), (5, zs9 A348 x351 c349), (6, .string c23.1), (8, zs2 x353)] e' ∧ Obs τ' σ' [zy b3 (p1.Kind.toNat : Int) (p1.Op.toNat : Int) p1.R p1.S p1.T p1.N p1.M, o350] ∧ Hp.le τ τ' ∧ zd Ty.u8 5 τ' (zs9 A348 x351 c349) x351 o350 ∧ zew p1 c23 n x351 x353 = some rr) big ⟨A18, c19, o20, (c4 ++ [p1.Kind]), 0, _, zs1 zsO, hO, hL, w21, hF⟩ ?_)
 clear hF hO hL
 rintro n670 e σ ⟨A348, c349, o350, x351, x353, _, hA, hO, hL, w352, hF⟩
 rw [← zD _ _ hA]
 cases n670 with
 | zero => exact nomatch (show none = some rr from hF)
 | succ n670 =>
 replace hF : zhX (zew p1 c23 n670) p1 c23 x351 x353 = some rr := hF
 unfold zhX at hF
 refine zb (za hO [] [(31, .bool (decide (x353 < (c23.1.size : Int))))] [3, 5, 6, 8] zsQ fun j => ?_)
 refine zi hF rfl (fun hF => ?_) fun hF => ?_
 ·refine zl (zef (fun e' σ' => ∃ (A827 : Option Addr) (c828 : Nat) (o829 : Ob) (x830 : List UInt8) (τ' : Hp), agr [(3, zs3 b3), (5, zs9 A827 x830 c828), (6, .string c23.1), (8, zs2 x353)] e' ∧ Obs τ' σ' [zy b3 (p1.Kind.toNat : Int) (p1.Op.toNat : Int) p1.R p1.S p1.T p1.N p1.M, o829] ∧ Hp.le τ τ' ∧ zd Ty.u8 5 τ' (zs9 A827 x830 c828) x830 o829 ∧ ziJ (zew p1 c23 n670) x353 x830 = some rr) ?_ ?_)
  ·refine zc hO 2 [] [(34, .string c23.1), (35, zs2 x353)] [3, 5, 6, 8] zsR fun j => ?_
   obtain ⟨y832, g833, hF⟩ := zs8 hF
   refine zeL rfl rfl g833 ?_
   refine ze (zcY (zef (fun e' σ' => ∃ (A908 : Option Addr) (c909 : Nat) (o910 : Ob) (x911 : List UInt8) (τ' : Hp), agr [(3, zs3 b3), (5, zs9 A908 x911 c909), (6, .string c23.1), (8, zs2 x353)] e' ∧ Obs τ' σ' [zy b3 (p1.Kind.toNat : Int) (p1.Op.toNat : Int) p1.R p1.S p1.T p1.N p1.M, o910] ∧ Hp.le τ τ' ∧ zd Ty.u8 5 τ' (zs9 A908 x911 c909) x911 o910 ∧ zdd (zew p1 c23 n670) x353 x911 = some rr) ?_ ?_))
   ·refine za hO [] [(37, .bool ((y832.toNat : Int) == 111))] [3, 5, 6, 8, 36] zsR fun j => ?_
    refine z5 (zi hF rfl (fun hF => ?_) fun hF => ?_)
    ·refine zc hO 3 [0] [(39, zs9 A348 x351 c349), (41, .int .u8 (p1.Op.toNat : Int))] [3, 6, 8] (And.intro (And.intro rfl rfl) zsQ) fun j => ?_
     obtain ⟨_, hr918, hF⟩ := zs8 hF
     refine zb8 (T := Ty.u8) (y := p1.Op) hO w352 (i := 1) rfl rfl (fun _ => rfl) rfl rfl rfl hr918 (by decide) fun u _ σ o916 w917 hO => ?_
     obtain ⟨A914, c915, rfl, -⟩ := w917.form
     have hO := zs72 hO
     refine za hO [] [(5, zs9 A914 (x351 ++ [p1.Op]) c915)] [3, 6, 8] zsP fun j => ?_
     refine zg (zF (zk ?_))
     exact ⟨A914, c915, o916, (x351 ++ [p1.Op]), _, zs1 zsO, hO, hL, w917, hF⟩
    refine zb (za hO [] [(44, .bool ((y832.toNat : Int) == 114))] [3, 5, 6, 8, 36] zsR fun j => ?_)
    refine zi hF rfl (fun hF => ?_) fun hF => ?_
    ·refine zc hO 4 [0] [(46, zs9 A348 x351 c349), (49, .int .u8 (IntKind.u8.wrap p1.R))] [3, 6, 8] (And.intro (And.intro rfl rfl) zsQ) fun j => ?_
     obtain ⟨z920, hz920, hF⟩ := zs8 hF
     obtain ⟨_, hr925, hF⟩ := zs8 hF
     refine zb8 (T := Ty.u8) (y := z920) hO w352 (i := 1) rfl rfl (fun _ => rfl) rfl (u8R hz920) rfl hr925 (by decide) fun u _ σ o923 w924 hO => ?_
     obtain ⟨A921, c922, rfl, -⟩ := w924.form
     have hO := zs72 hO
     refine za hO [] [(5, zs9 A921 (x351 ++ [z920]) c922)] [3, 6, 8] zsP fun j => ?_
     refine zg (zF (zk ?_))
     exact ⟨A921, c922, o923, (x351 ++ [z920]), _, zs1 zsO, hO, hL, w924, hF⟩
    refine zb (za hO [] [(52, .bool ((y832.toNat : Int) == 97))] [3, 5, 6, 8, 36] zsR fun j => ?_)
    refine zi hF rfl (fun hF => ?_) fun hF => ?_
    ·refine zb (zc hO 4 [0, 0] [(56, zs2 p1.R), (58, zs2 p1.S)] [3, 5, 6, 8] (And.intro (And.intro rfl rfl) (And.intro (And.intro rfl rfl) zsR)) fun j => ?_)
     obtain ⟨c927, h928, hF⟩ := zs8 hF
     refine zo hO (zrZ h928) rfl fun _ σ _ _ hO h929 h930 => ?_
     have hL := hL.trans h929
     have w352 := w352.le h929
     obtain ⟨rfl, rfl⟩ := h930
     have hO := zs72 hO
     refine za hO [] [(9, .int .u8 c927.1)] [3, 5, 6, 8] zsQ fun j => ?_
     refine zc hO 2 [] [(62, zs9 A348 x351 c349), (63, .int .u8 c927.1)] [3, 6, 8] zsQ fun j => ?_
     obtain ⟨z931, hz931, hF⟩ := zs8 hF
     obtain ⟨_, hr936, hF⟩ := zs8 hF
     refine zb8 (T := Ty.u8) (y := z931) hO w352 (i := 1) rfl rfl (fun _ => rfl) rfl (u8R hz931) rfl hr936 (by decide) fun u _ σ o934 w935 hO => ?_
     obtain ⟨A932, c933, rfl, -⟩ := w935.form
     have hO := zs72 hO
     refine zj hO [] [(3, zs3 b3), (5, zs9 A932 (x351 ++ [z931]) c933), (6, .string c23.1), (8, zs2 x353)] zsP fun j => ?_
     refine zg (zF (zk ?_))
     exact ⟨A932, c933, o934, (x351 ++ [z931]), _, zs1 zsO, hO, hL, w935, hF⟩
    refine zb (za hO [] [(66, .bool ((y832.toNat : Int) == 116))] [3, 5, 6, 8, 36] zsR fun j => ?_)
    refine zi hF rfl (fun hF => ?_) fun hF => ?_
    ·refine zc hO 4 [0] [(68, zs9 A348 x351 c349), (71, .int .u8 (IntKind.u8.wrap p1.T))] [3, 6, 8] (And.intro (And.intro rfl rfl) zsQ) fun j => ?_
     obtain ⟨z938, hz938, hF⟩ := zs8 hF
     obtain ⟨_, hr943, hF⟩ := zs8 hF
     refine zb8 (T := Ty.u8) (y := z938) hO w352 (i := 1) rfl rfl (fun _ => rfl) rfl (u8R hz938) rfl hr943 (by decide) fun u _ σ o941 w942 hO => ?_
     obtain ⟨A939, c940, rfl, -⟩ := w942.form
     have hO := zs72 hO
     refine za hO [] [(5, zs9 A939 (x351 ++ [z938]) c940)] [3, 6, 8] zsP fun j => ?_
     refine zg (zF (zk ?_))
     exact ⟨A939, c940, o941, (x351 ++ [z938]), _, zs1 zsO, hO, hL, w942, hF⟩
    refine zb (za hO [] [(74, .bool ((y832.toNat : Int) == 110))] [3, 5, 6, 8, 36] zsR fun j => ?_)
    refine zi hF rfl (fun hF => ?_) fun hF => ?_
    ·refine zc hO 3 [0] [(76, zs9 A348 x351 c349), (78, zs2 p1.N)] [3, 6, 8] (And.intro (And.intro rfl rfl) zsQ) fun j => ?_
     obtain ⟨_, h946, r945, hO⟩ := w352.share hO (i := 1) rfl
     have hL := hL.trans h946
     have hO := zs72 hO
     obtain ⟨c947, h948, hF⟩ := zs8 hF
     refine zo hO (zmY r945 h948) rfl fun _ σ _ _ hO h949 h950 => ?_
     have hL := hL.trans h949
     have r945 := r945.le h949
     obtain ⟨v951, o954, rfl, rfl, w955⟩ := h950
     obtain ⟨A952, c953, rfl, -⟩ := w955.form
     have hO := zs73 hO
     refine zj hO [] [(3, zs3 b3), (5, zs9 A952 c947 c953), (6, .string c23.1), (8, zs2 x353)] zsP fun j => ?_
     refine zg (zF (zk ?_))
     have hO := hO.sel [0, 2]
     exact ⟨A952, c953, o954, c947, _, zs1 zsO, hO, hL, w955, hF⟩
    refine zb (za hO [] [(80, .bool ((y832.toNat : Int) == 109))] [3, 5, 6, 8, 36] zsR fun j => ?_)
    refine zi hF rfl (fun hF => ?_) fun hF => ?_
    ·refine zZ hO 4 [0] [(3, zs3 b3), (6, .string c23.1), (8, zs2 x353), (82, zs9 A348 x351 c349), (85, .int .u64 (IntKind.u64.wrap p1.M))] (And.intro (And.intro rfl rfl) zsQ) fun j => ?_
     obtain ⟨_, h958, r957, hO⟩ := w352.share hO (i := 1) rfl
     have hL := hL.trans h958
     have hO := zs72 hO
     obtain ⟨c959, h960, hF⟩ := zs8 hF
     refine zo hO (zm5 r957 h960) rfl fun _ σ _ _ hO h961 h962 => ?_
     have hL := hL.trans h961
     have r957 := r957.le h961
     obtain ⟨v963, o966, rfl, rfl, w967⟩ := h962
     obtain ⟨A964, c965, rfl, -⟩ := w967.form
     have hO := zs73 hO
     refine za hO [] [(5, zs9 A964 c959 c965)] [3, 6, 8] zsP fun j => ?_
     refine zg (zF (zk ?_))
     have hO := hO.sel [0, 2]
     exact ⟨A964, c965, o966, c959, _, zs1 zsO, hO, hL, w967, hF⟩
    refine zb (zj hO [] [(3, zs3 b3), (5, zs9 A348 x351 c349), (6, .string c23.1), (8, zs2 x353), (36, .int .u8 (y832.toNat : Int)), (87, .bool ((y832.toNat : Int) == 106))] zsR fun j => ?_)
    refine zi hF rfl (fun hF => ?_) fun hF => ?_
    ·refine zc hO 3 [0] [(90, zs9 A348 x351 c349), (92, zs2 p1.N)] [3, 6, 8] (And.intro (And.intro rfl rfl) zsQ) fun j => ?_
     obtain ⟨_, h970, r969, hO⟩ := w352.share hO (i := 1) rfl
     have hL := hL.trans h970
     have hO := zs72 hO
     obtain ⟨c971, h972, hF⟩ := zs8 hF
     refine zo hO (zoZ r969 h972) rfl fun _ σ _ _ hO h973 h974 => ?_
     have hL := hL.trans h973
     have r969 := r969.le h973
     obtain ⟨v975, o978, rfl, rfl, w979⟩ := h974
     obtain ⟨A976, c977, rfl, -⟩ := w979.form
     have hO := zs73 hO
     refine za hO [] [(5, zs9 A976 c971.1 c977)] [3, 6, 8] zsP fun j => ?_
     refine zg (zF (zk ?_))
     have hO := hO.sel [0, 2]
     exact ⟨A976, c977, o978, c971.1, _, zs1 zsO, hO, hL, w979, hF⟩
    refine zb (za hO [] [(96, .bool ((y832.toNat : Int) == 107))] [3, 5, 6, 8] zsQ fun j => ?_)
    refine zi hF rfl (fun hF => ?_) fun hF => ?_
    ·refine zc hO 4 [0] [(98, zs9 A348 x351 c349), (101, .int .u8 (IntKind.u8.wrap p1.N))] [3, 6, 8] (And.intro (And.intro rfl rfl) zsQ) fun j => ?_
     obtain ⟨z981, hz981, hF⟩ := zs8 hF
     obtain ⟨_, hr986, hF⟩ := zs8 hF
     refine zb8 (T := Ty.u8) (y := z981) hO w352 (i := 1) rfl rfl (fun _ => rfl) rfl (u8R hz981) rfl hr986 (by decide) fun u _ σ o984 w985 hO => ?_
     obtain ⟨A982, c983, rfl, -⟩ := w985.form
     have hO := zs72 hO
     refine za hO [] [(5, zs9 A982 (x351 ++ [z981]) c983)] [3, 6, 8] zsP fun j => ?_
     refine zg (zF (zk ?_))
     exact ⟨A982, c983, o984, (x351 ++ [z981]), _, zs1 zsO, hO, hL, w985, hF⟩
    refine zl (zg (zF (zk ?_)))
    exact ⟨A348, c349, o350, x351, _, zs1 zsO, hO, hL, w352, hF⟩
   rintro e σ ⟨A908, c909, o910, x911, _, hA, hO, hL, w912, hF⟩
   rw [← zD _ _ hA]
   unfold zdd at hF
   refine zg (zF (zk ?_))
   exact ⟨A908, c909, o910, x911, _, zs1 zsO, hO, hL, w912, hF⟩
  rintro e σ ⟨A827, c828, o829, x830, _, hA, hO, hL, w831, hF⟩
  rw [← zD _ _ hA]
  unfold ziJ at hF
  refine zV (za hO [] [(8, zs2 (IntKind.i64.wrap (x353 + 1)))] [3, 5, 6] zsP fun j => ?_)
  refine zg (zk ?_)
  exact ⟨n670, Nat.lt_succ_self _, A827, c828, o829, x830, (IntKind.i64.wrap (x353 + 1)), _, zs1 zsO, hO, hL, w831, hF⟩
 refine zbl (zbw (zbD (zk (zj hO [] [(4, zs9 A348 x351 c349)] zsM fun j => ?_))))
 refine zq ?_
 cases hF
 have hO := hO.sel [1]
 exact hQ _ _ _ _ _ rfl hO hL ⟨_, _, rfl, rfl, w352⟩
theorem zqx {τ : Hp} {p0 : zbs} {v0_0 v0_1 v0_4 : Value} (r0_0 : RdT zfs τ v0_0 p0.Code) (r0_1 : RdT Ty.u8 τ v0_1 p0.Bytes) (r0_4 : RdT (Ty.int .i64) τ v0_4 p0.Input) {rr : (List UInt8)} (hF : zf7 p0 = some rr) :
  Ctr Tryz.prog 8 #[.agg #[v0_0, v0_1, .int .i64 p0.Start, .int .i64 p0.Words, v0_4, .int .i64 p0.Fuel]] τ [] (fun v τ' vs' => ∃ (v0 : Value) (o0 : Ob), v = v0 ∧ vs' = [o0] ∧ zd Ty.u8 5 τ' v0 rr o0) := by
 obtain ⟨A0_0, c0_0, rfl, -⟩ := r0_0.form
 obtain ⟨A0_1, c0_1, rfl, -⟩ := r0_1.form
 obtain ⟨A0_4, c0_4, rfl, -⟩ := r0_4.form
 refine zu (args := [.agg #[(zs9 A0_0 p0.Code c0_0), (zs9 A0_1 p0.Bytes c0_1), .int .i64 p0.Start, .int .i64 p0.Words, (zs9 A0_4 p0.Input c0_4), .int .i64 p0.Fuel]]) hm Tryz.func8 s8 rfl fun w0 σ hO Q hQ => ?_
 unfold zf7 at hF
 have hL := Hp.le.refl τ
 show wpn _ _ a8.body _ _ _
 unfold a8
 dsimp only
 refine zbq (n := 6) hO rfl rfl fun b2 σ hO => ?_
 have hO := zs71 hO
 refine za hO [] [] [1] zsM fun j => ?_
 refine zbv (T := Ty.u8) (l := ([] : List UInt8)) (cs := []) hO rfl rfl rfl (by decide) fun _ σ o5 w6 hO => ?_
 obtain ⟨A3, c4, rfl, -⟩ := w6.form
 have hO := zs72 hO
 refine zc hO 2 [0] [(7, zs9 A0_1 p0.Bytes c0_1)] [1, 5] (And.intro (And.intro rfl rfl) zsO) fun j => ?_
 obtain ⟨_, hr11, hF⟩ := zs8 hF
 refine zdt (T := Ty.u8) hO w6 (i := 1) rfl rfl rfl (r0_1.le hL) hr11 (by decide) fun _ σ o9 w10 hO => ?_
 obtain ⟨A7, c8, rfl, -⟩ := w10.form
 have hO := zs72 hO
 refine za hO [] [(3, zs9 A7 (([] : List UInt8) ++ p0.Bytes) c8)] [1] zsN fun j => ?_
 refine zb (za hO [] [(4, zs2 0)] [1, 3] zsO fun j => ?_)
 refine zW (zbG (fun (n : Nat) e' σ' => ∃ (A28 : Option Addr) (c29 : Nat) (o30 : Ob) (x31 : List UInt8) (x33 : Int) (τ' : Hp), agr [(1, zs3 b2), (3, zs9 A28 x31 c29), (4, zs2 x33)] e' ∧ Obs τ' σ' [zdv b2 (zs9 A0_0 p0.Code c0_0) (zs9 A0_1 p0.Bytes c0_1) p0.Start p0.Words (zs9 A0_4 p0.Input c0_4) p0.Fuel, o30] ∧ Hp.le τ τ' ∧ zd Ty.u8 5 τ' (zs9 A28 x31 c29) x31 o30 ∧ zg3 p0 n x31 x33 = some rr) big ⟨A7, c8, o9, (([] : List UInt8) ++ p0.Bytes), 0, _, zs1 zsN, hO, hL, w10, hF⟩ ?_)
 clear hF hO hL
 rintro n49 e σ ⟨A28, c29, o30, x31, x33, _, hA, hO, hL, w32, hF⟩
 rw [← zD _ _ hA]
 cases n49 with
 | zero => exact nomatch (show none = some rr from hF)
 | succ n49 =>
 replace hF : zgM (zg3 p0 n49) p0 x31 x33 = some rr := hF
 unfold zgM at hF
 refine zb (za hO [0] [(13, .bool (decide (x33 < (p0.Code.length : Int))))] [1, 3, 4] (And.intro (And.intro rfl rfl) zsP) fun j => ?_)
 refine zi hF rfl (fun hF => ?_) fun hF => ?_
 ·refine zl (zW (zV (zc hO 4 [0] [(16, zs9 A28 x31 c29), (18, zs9 A0_0 p0.Code c0_0), (19, zs2 x33)] [1, 4] (And.intro (And.intro rfl rfl) zsQ) fun j => ?_)))
  obtain ⟨y51, g52, hF⟩ := zs8 hF
  refine zbJ (T := zfs) (r0_0.le hL) hO.base rfl rfl g52 (by decide) fun a53 _ k54 m55 => ?_
  obtain rfl : _ = ([.int .u8 y51.Kind.toNat, .int .u8 y51.Op.toNat, .int .i64 y51.R, .int .i64 y51.S, .int .i64 y51.T, .int .i64 y51.N, .int .i64 y51.M] : List Value) := k54
  refine zL rfl ((m55.le hO.base).all rfl) ?_
  obtain ⟨c56, h57, hF⟩ := zs8 hF
  refine zbe (hs := [_]) (vs := [_]) hO (Ctr.lendG w32 (fun _ _ _ _ ⟨v1, o1, h1, h2, f1⟩ => ⟨v1, o1, h1, h2, f1.flat zjG⟩) fun _ lL0 rL0 => zmd (p1 := (⟨y51.Kind, y51.Op, y51.R, y51.S, y51.T, y51.N, y51.M⟩ : zf)) rL0 h57) rfl fun _ σ _ _ hO h58 h59 => ?_
  have hL := hL.trans h58
  have w32 := w32.le h58
  have m55 := m55.le h58
  obtain ⟨_, rfl, v60, o63, rfl, rfl, w64⟩ := h59
  obtain ⟨A61, c62, rfl, -⟩ := w64.form
  have hO := zs73 hO
  refine za hO [] [(3, zs9 A61 c56 c62)] [1, 4] zsO fun j => ?_
  refine zg (zF (zk (zV (za hO [] [(4, zs2 (IntKind.i64.wrap (x33 + 1)))] [1, 3] zsO fun j => ?_))))
  refine zg (zk ?_)
  have hO := hO.sel [0, 2]
  exact ⟨n49, Nat.lt_succ_self _, A61, c62, o63, c56, (IntKind.i64.wrap (x33 + 1)), _, zs1 zsN, hO, hL, w64, hF⟩
 refine zbl (zbw (zbD (zk (zj hO [] [(2, zs9 A28 x31 c29)] zsM fun j => ?_))))
 refine zq ?_
 cases hF
 have hO := hO.sel [1]
 exact hQ _ _ _ _ _ rfl hO hL ⟨_, _, rfl, rfl, w32⟩
theorem zsq {τ : Hp} {q0 : zh} {bm0 : Nat} {vm0_0 vm0_18 : Value} {om0_18 : Ob} {vm0_19 vm0_20 : Value} {om0_20 : Ob} (rm0_0 : RdT Ty.u8 τ vm0_0 q0.code) (wm0_18 : zd (Ty.int .i64) 2 τ vm0_18 q0.words om0_18) (rm0_19 : RdT (Ty.int .i64) τ vm0_19 q0.input) (wm0_20 : zd (Ty.int .i64) 2 τ vm0_20 q0.out om0_20) {rr : (List Int)} (hF : zem q0 = some rr) :
  Ctr Tryz.prog 11 #[.pointer (some ⟨bm0, 0, none⟩)] τ [zI bm0 vm0_0 q0.pc q0.regs vm0_18 vm0_19 vm0_20 q0.how.toNat q0.halting, om0_18, om0_20] (fun v τ' vs' => ∃ (v0 : Value) (o0 : Ob), v = v0 ∧ vs' = [o0, zI bm0 vm0_0 q0.pc q0.regs vm0_18 vm0_19 vm0_20 q0.how.toNat q0.halting, om0_18, om0_20] ∧ zd (Ty.int .i64) 2 τ' v0 rr o0) := by
 obtain ⟨Am0_0, cm0_0, rfl, -⟩ := rm0_0.form
 obtain ⟨Am0_18, cm0_18, rfl, -⟩ := wm0_18.form
 obtain ⟨Am0_19, cm0_19, rfl, -⟩ := rm0_19.form
 obtain ⟨Am0_20, cm0_20, rfl, -⟩ := wm0_20.form
 refine zu (args := [.pointer (some ⟨bm0, 0, none⟩)]) hm Tryz.func11 s11 rfl fun w0 σ hO Q hQ => ?_
 unfold zem at hF
 have hL := Hp.le.refl τ
 show wpn _ _ a11.body _ _ _
 unfold a11
 dsimp only
 refine za hO [] [] [0] zsM fun j => ?_
 refine zb (za hO [] [(4, .bool false)] [0] zsN fun j => ?_)
 refine zbU rfl ?_
 refine zl (zc hO 4 [0] [(8, zs9 Am0_18 q0.words cm0_18)] [0] (And.intro (And.intro rfl rfl) zsN) fun j => ?_)
 obtain ⟨c2, h3, hF⟩ := zs8 hF
 have hO := hO.sel [0, 2, 1]
 refine zbe (hs := [_, _]) (vs := [_]) hO (Ctr.lendO (zdu .i64) (wm0_18.le hL) fun _ r => zfx r h3) rfl fun _ σ _ _ hO h4 h5 => ?_
 have hL := hL.trans h4
 obtain ⟨v6, o7, rfl, rfl, w8⟩ := h5
 obtain ⟨A9, c10, rfl, -⟩ := w8.form
 have hO := zs74 hO
 have hO := hO.sel [0, 3, 1, 2]
 have hO := zs74 hO
 refine za hO [] [(2, zs9 A9 c2 c10)] [0] zsN fun j => ?_
 refine zq ?_
 cases hF
 have hO := hO.sel [3, 0, 1, 2]
 exact hQ _ _ _ _ _ rfl hO hL ⟨_, _, rfl, rfl, w8⟩
theorem zlq {τ : Hp} {q0 : zh} {bm0 : Nat} {vm0_0 vm0_18 : Value} {om0_18 : Ob} {vm0_19 vm0_20 : Value} {om0_20 : Ob} (rm0_0 : RdT Ty.u8 τ vm0_0 q0.code) (wm0_18 : zd (Ty.int .i64) 2 τ vm0_18 q0.words om0_18) (rm0_19 : RdT (Ty.int .i64) τ vm0_19 q0.input) (wm0_20 : zd (Ty.int .i64) 2 τ vm0_20 q0.out om0_20) {rr : (List Int)} (hF : zd5 q0 = some rr) :
  Ctr Tryz.prog 12 #[.pointer (some ⟨bm0, 0, none⟩)] τ [zI bm0 vm0_0 q0.pc q0.regs vm0_18 vm0_19 vm0_20 q0.how.toNat q0.halting, om0_18, om0_20] (fun v τ' vs' => ∃ (v0 : Value) (o0 : Ob), v = v0 ∧ vs' = [o0, zI bm0 vm0_0 q0.pc q0.regs vm0_18 vm0_19 vm0_20 q0.how.toNat q0.halting, om0_18, om0_20] ∧ zd (Ty.int .i64) 2 τ' v0 rr o0) := by
 obtain ⟨Am0_0, cm0_0, rfl, -⟩ := rm0_0.form
 obtain ⟨Am0_18, cm0_18, rfl, -⟩ := wm0_18.form
 obtain ⟨Am0_19, cm0_19, rfl, -⟩ := rm0_19.form
 obtain ⟨Am0_20, cm0_20, rfl, -⟩ := wm0_20.form
 refine zu (args := [.pointer (some ⟨bm0, 0, none⟩)]) hm Tryz.func12 s12 rfl fun w0 σ hO Q hQ => ?_
 unfold zd5 at hF
 have hL := Hp.le.refl τ
 show wpn _ _ a12.body _ _ _
 unfold a12
 dsimp only
 refine za hO [] [] [0] zsM fun j => ?_
 refine zb (za hO [] [(4, .bool false)] [0] zsN fun j => ?_)
 refine zbU rfl ?_
 refine zl (zc hO 3 [] [(7, .pointer (some ⟨bm0, 2, none⟩))] [0] zsN fun j => ?_)
 refine zqM rfl ?_
 obtain ⟨c2, h3, hF⟩ := zs8 hF
 have hO := hO.sel [1, 2, 0]
 refine zbe (hs := [_, _]) (vs := [_]) hO (Ctr.lend (zdu .i64) (RdT.seg (g := q0.regs) (n := 16) (pre := [_, _]) (post := [_, _, _, _, _]) (Nat.le_refl _)) fun _ r => zfx r h3) rfl fun _ σ _ _ hO h4 h5 => ?_
 have hL := hL.trans h4
 obtain ⟨v6, o7, rfl, rfl, w8⟩ := h5
 obtain ⟨A9, c10, rfl, -⟩ := w8.form
 have hO := zs74 hO
 have hO := hO.sel [3, 0, 1, 2]
 have hO := zs74 hO
 refine za hO [] [(2, zs9 A9 c2 c10)] [0] zsN fun j => ?_
 refine zq ?_
 cases hF
 have hO := hO.sel [3, 0, 1, 2]
 exact hQ _ _ _ _ _ rfl hO hL ⟨_, _, rfl, rfl, w8⟩
theorem zly {τ : Hp} {q0 : zh} {bm0 : Nat} {vm0_0 vm0_18 : Value} {om0_18 : Ob} {vm0_19 vm0_20 : Value} {om0_20 : Ob} (rm0_0 : RdT Ty.u8 τ vm0_0 q0.code) (wm0_18 : zd (Ty.int .i64) 2 τ vm0_18 q0.words om0_18) (rm0_19 : RdT (Ty.int .i64) τ vm0_19 q0.input) (wm0_20 : zd (Ty.int .i64) 2 τ vm0_20 q0.out om0_20) {rr : Int} (hF : zfO q0 = some rr) :
  Ctr Tryz.prog 14 #[.pointer (some ⟨bm0, 0, none⟩)] τ [zI bm0 vm0_0 q0.pc q0.regs vm0_18 vm0_19 vm0_20 q0.how.toNat q0.halting, om0_18, om0_20] (fun v τ' vs' => v = .int .i64 rr ∧ vs' = [zI bm0 vm0_0 q0.pc q0.regs vm0_18 vm0_19 vm0_20 q0.how.toNat q0.halting, om0_18, om0_20]) := by
 obtain ⟨Am0_0, cm0_0, rfl, -⟩ := rm0_0.form
 obtain ⟨Am0_18, cm0_18, rfl, -⟩ := wm0_18.form
 obtain ⟨Am0_19, cm0_19, rfl, -⟩ := rm0_19.form
 obtain ⟨Am0_20, cm0_20, rfl, -⟩ := wm0_20.form
 refine zu (args := [.pointer (some ⟨bm0, 0, none⟩)]) hm Tryz.func14 s14 rfl fun w0 σ hO Q hQ => ?_
 unfold zfO at hF
 have hL := Hp.le.refl τ
 show wpn _ _ a14.body _ _ _
 unfold a14
 dsimp only
 refine za hO [] [] [0] zsM fun j => ?_
 refine zb (za hO [] [(4, .bool false)] [0] zsN fun j => ?_)
 refine zbU rfl ?_
 refine zl (za hO [0] [(2, zs2 q0.pc)] [0] (And.intro (And.intro rfl rfl) zsN) fun j => ?_)
 refine zq ?_
 cases hF
 exact hQ _ _ _ _ _ rfl hO hL ⟨rfl, rfl⟩
theorem zqE {τ : Hp} {q0 : zh} {bm0 : Nat} {vm0_0 vm0_18 : Value} {om0_18 : Ob} {vm0_19 vm0_20 : Value} {om0_20 : Ob} (rm0_0 : RdT Ty.u8 τ vm0_0 q0.code) (wm0_18 : zd (Ty.int .i64) 2 τ vm0_18 q0.words om0_18) (rm0_19 : RdT (Ty.int .i64) τ vm0_19 q0.input) (wm0_20 : zd (Ty.int .i64) 2 τ vm0_20 q0.out om0_20) {rr : Int} (hF : zif q0 = some rr) :
  Ctr Tryz.prog 15 #[.pointer (some ⟨bm0, 0, none⟩)] τ [zI bm0 vm0_0 q0.pc q0.regs vm0_18 vm0_19 vm0_20 q0.how.toNat q0.halting, om0_18, om0_20] (fun v τ' vs' => v = .int .i64 rr ∧ vs' = [zI bm0 vm0_0 q0.pc q0.regs vm0_18 vm0_19 vm0_20 q0.how.toNat q0.halting, om0_18, om0_20]) := by
 obtain ⟨Am0_0, cm0_0, rfl, -⟩ := rm0_0.form
 obtain ⟨Am0_18, cm0_18, rfl, -⟩ := wm0_18.form
 obtain ⟨Am0_19, cm0_19, rfl, -⟩ := rm0_19.form
 obtain ⟨Am0_20, cm0_20, rfl, -⟩ := wm0_20.form
 refine zu (args := [.pointer (some ⟨bm0, 0, none⟩)]) hm Tryz.func15 s15 rfl fun w0 σ hO Q hQ => ?_
 unfold zif at hF
 have hL := Hp.le.refl τ
 show wpn _ _ a15.body _ _ _
 unfold a15
 dsimp only
 refine za hO [] [] [0] zsM fun j => ?_
 refine zb (za hO [] [(4, .bool false)] [0] zsN fun j => ?_)
 refine zbU rfl ?_
 refine zl (za hO [0] [(2, zs2 (q0.input.length : Int))] [0] (And.intro (And.intro rfl rfl) zsN) fun j => ?_)
 refine zq ?_
 cases hF
 exact hQ _ _ _ _ _ rfl hO hL ⟨rfl, rfl⟩
theorem ziB {τ : Hp} {v0 : Value} {p0 : (List Int)} {v1 : Value} {p1 : (List Int)} (r0 : RdT (Ty.int .i64) τ v0 p0) (r1 : RdT (Ty.int .i64) τ v1 p1) {rr : Bool} (hF : zdk p0 p1 = some rr) :
  Ctr Tryz.prog 16 #[v0, v1] τ [] (fun v τ' vs' => v = .bool rr ∧ vs' = []) := by
 obtain ⟨A0, c0, rfl, -⟩ := r0.form
 obtain ⟨A1, c1, rfl, -⟩ := r1.form
 refine zu (args := [.slice A0 p0.length c0, .slice A1 p1.length c1]) hm Tryz.func16 s16 rfl fun w0 σ hO Q hQ => ?_
 unfold zdk at hF
 have hL := Hp.le.refl τ
 show wpn _ _ a16.body _ _ _
 unfold a16
 dsimp only
 refine za hO [] [] [0, 1] zsN fun j => ?_
 refine zb (za hO [] [(10, .bool ((p0.length : Int) != (p1.length : Int)))] [0, 1] zsO fun j => ?_)
 refine zi hF rfl (fun hF => ?_) fun hF => ?_
 ·refine zb (zj hO [] [(4, .bool false)] zsM fun j => ?_)
  refine zp ?_
  cases hF
  exact hQ _ _ _ _ _ rfl hO hL ⟨rfl, rfl⟩
 refine zl (zb (za hO [] [(5, zs2 0)] [0, 1] zsO fun j => ?_))
 refine zW (zbG (fun (n : Nat) e' σ' => ∃ (x16 : Int) (τ' : Hp), agr [(0, zs9 A0 p0 c0), (1, zs9 A1 p1 c1), (5, zs2 x16)] e' ∧ Obs τ' σ' [] ∧ Hp.le τ τ' ∧ zh8 p0 p1 n x16 = some rr) big ⟨0, _, zs1 zsN, hO, hL, hF⟩ ?_)
 clear hF hO hL
 rintro n29 e σ ⟨x16, _, hA, hO, hL, hF⟩
 rw [← zD _ _ hA]
 cases n29 with
 | zero => exact nomatch (show none = some rr from hF)
 | succ n29 =>
 replace hF : zho (zh8 p0 p1 n29) p0 p1 x16 = some rr := hF
 unfold zho at hF
 refine zb (za hO [] [(14, .bool (decide (x16 < (p0.length : Int))))] [0, 1, 5] zsP fun j => ?_)
 refine zi hF rfl (fun hF => ?_) fun hF => ?_
 ·refine zl (zW (z8 (zc hO 2 [] [(17, zs9 A0 p0 c0), (18, zs2 x16)] [0, 1, 5] zsQ fun j => ?_)))
  obtain ⟨y31, g32, hF⟩ := zs8 hF
  refine zbJ (T := (Ty.int .i64)) (r0.le hL) hO.base rfl rfl g32 (by decide) fun a33 _ k34 m35 => ?_
  obtain rfl : _ = ([.int .i64 y31] : List Value) := k34
  refine zL rfl (m35.le hO.base).fst ?_
  refine zc hO 2 [] [(21, zs9 A1 p1 c1), (22, zs2 x16)] [0, 1, 5, 20] zsR fun j => ?_
  obtain ⟨y36, g37, hF⟩ := zs8 hF
  refine zbJ (T := (Ty.int .i64)) (r1.le hL) hO.base rfl rfl g37 (by decide) fun a38 _ k39 m40 => ?_
  obtain rfl : _ = ([.int .i64 y36] : List Value) := k39
  refine zL rfl (m40.le hO.base).fst ?_
  refine za hO [] [(25, .bool (y31 != y36))] [0, 1, 5] zsP fun j => ?_
  refine z5 (zi hF rfl (fun hF => ?_) fun hF => ?_)
  ·refine zb (zj hO [] [(4, .bool false)] zsM fun j => ?_)
   refine zp (zJ (zB (zB (zJ (zB ?_)))))
   cases hF
   exact hQ _ _ _ _ _ rfl hO hL ⟨rfl, rfl⟩
  refine zl (zg (zF (zk (zV (za hO [] [(5, zs2 (IntKind.i64.wrap (x16 + 1)))] [0, 1] zsO fun j => ?_)))))
  refine zg (zk ?_)
  exact ⟨n29, Nat.lt_succ_self _, (IntKind.i64.wrap (x16 + 1)), _, zs1 zsN, hO, hL, hF⟩
 refine zbl (zbw (zbD (zk (zj hO [] [(4, .bool true)] zsM fun j => ?_))))
 refine zq ?_
 cases hF
 exact hQ _ _ _ _ _ rfl hO hL ⟨rfl, rfl⟩
end Go.Proofs.YtgkllgoelpfdkaaGreat
