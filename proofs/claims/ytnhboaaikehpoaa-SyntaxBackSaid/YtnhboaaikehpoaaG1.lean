import Derived.Test.YtnhboaaikehpoaaG0
namespace Go.Proofs.Ytnhboaaikehpoaa
open Go.Ab Go.RowKit
set_option linter.unusedVariables false
set_option linter.unusedSimpArgs false
set_option maxRecDepth 10000
set_option maxHeartbeats 1000000
theorem zlZ {τ : Hp} {q0 : zf} {g : Nat} {z B : Value} {h : Ob} {E : Value} {o : Ob} (G : RdT zm τ z q0.cursor.tokens) (M : ze zs 71 τ B q0.prog.Structs h) (U : ze zr 50 τ E q0.prog.Funcs o) {rr : Bool} (hF : zfk q0 = some rr) :
  Ctr Try.prog 96 #[.pointer (some ⟨g, 0, none⟩)] τ [zE g z q0.cursor.at_ B E, h, o] (fun v τ' vs' => v = .bool rr ∧ vs' = [zE g z q0.cursor.at_ B E, h, o]) := by
 obtain ⟨t, w, rfl, -⟩ := G.form
 obtain ⟨X, Y, rfl, -⟩ := M.form
 obtain ⟨Z, b0, rfl, -⟩ := U.form
 refine zbl (args := [.pointer (some ⟨g, 0, none⟩)]) hm Try.func96 s96 rfl fun w0 σ hO Q hQ => ?_
 unfold zfk at hF
 have hL := Hp.le.refl τ
 show wpn _ _ a96.body _ _ _
 unfold a96
 dsimp only
 refine zd hO [] [] [0] ztK fun j => ?_
 refine zb9 (za hO 12 [0, 0] [(7, zt1 g), (8, zt7 t q0.cursor.tokens w), (12, .pointer (some ⟨g, 1, none⟩)), (13, zt0 q0.cursor.at_), (15, .agg #[(zt7 t q0.cursor.tokens w), (.int .i64 (IntKind.i64.wrap (q0.cursor.at_ + 1)))])] [0] (And.intro (And.intro rfl rfl) (And.intro (And.intro rfl rfl) ztP)) fun j => ?_)
 refine zcj (zbC hO fun b2 σ hO => ?_)
 have hO := zt54 hO
 refine zc (zcg ⟨(zb1 rfl (hO.val (i := 0) (off := 1) (agg := false) (n := 1) rfl rfl) rfl), (zb1 rfl (hO.val (i := 0) (off := 0) (agg := false) (n := 1) rfl rfl) rfl), trivial⟩ ?_)
 refine zx hO (i := 3) rfl (off := 0) rfl rfl rfl rfl (Nat.le_of_ble_eq_true rfl) rfl fun σ hO => ?_
 have hO := zt54 hO
 refine zc (za hO 3 [] [(18, zt1 g)] [0, 3] ztM fun j => ?_)
 obtain ⟨c3, h4, hF⟩ := zt6 hF
 have hO := hO.sel [3, 0, 1, 2]
 refine zz (hs := [_]) hO (zdS (G.le hL) (M.le hL) (U.le hL) (RdT.nil Ty.str _) h4) rfl fun _ σ _ _ hO h5 h6 => ?_
 have hL := hL.trans h5
 obtain ⟨rfl, rfl⟩ := h6
 have hO := zt54 hO
 have hO := hO.sel [1, 2, 3, 0]
 have hO := zt54 hO
 refine za hO 1 [] [(20, .bool c3)] [0, 3] ztM fun j => ?_
 obtain ⟨c7, h8, hF⟩ := zt6 hF
 refine zb2 2 (fun e' σ' => ∃ (τ' : Hp), agr [(23, .bool c7), (0, zt1 g)] e' ∧ Obs τ' σ' [zE g (zt7 t q0.cursor.tokens w) q0.cursor.at_ (zt7 X q0.prog.Structs Y) (zt7 Z q0.prog.Funcs b0), h, o, some (b2, ⟨[zt7 t q0.cursor.tokens w, .int .i64 (IntKind.i64.wrap (q0.cursor.at_ + 1))], 58, 2, true⟩)] ∧ Hp.le τ τ') ?_ ?_
 ·have hF := h8
  rcases z1 hF with ⟨I, hF⟩ | ⟨I, hF⟩
  ·refine zF (zt4 I) ?_
   refine zt (T := Ty.str) (l := ([zs5] : List ByteArray)) (cs := [.string zs5]) hO rfl ⟨[.string zs5], _, rfl, rfl, rfl⟩ rfl (by decide) fun _ σ c5 b4 hO => ?_
   have hO := zt55 hO
   obtain ⟨_, b5, V, hO⟩ := b4.share hO (i := 4) rfl
   have hL := hL.trans b5
   have hO := zt55 hO
   obtain ⟨c6, b6, hF⟩ := zt6 hF
   have hO := hO.sel [0, 1, 2, 4, 3]
   refine zz (hs := [_, _, _, _]) hO (zqU (q0 := (⟨q0.cursor.tokens, (IntKind.i64.wrap (q0.cursor.at_ + 1))⟩ : zbe)) (G.le hL) V b6) rfl fun _ σ _ _ hO b1 b7 => ?_
   have hL := hL.trans b1
   have V := V.le b1
   obtain ⟨rfl, rfl⟩ := b7
   have hO := zt55 hO
   have hO := hO.sel [0, 1, 2, 4, 3]
   have hO := zt55 hO
   refine zp (zt2 I) ?_
   refine zc ?_
   cases hF
   refine zg ?_
   have hO := hO.sel [0, 1, 2, 3]
   exact ⟨rfl, _, ztZ ztK, hO, hL⟩
  refine zI (zt4 I) ?_
  refine zp (zt2 I) ?_
  refine zc ?_
  cases hF
  refine zg ?_
  exact ⟨rfl, _, ztZ ztK, hO, hL⟩
 rintro e σ ⟨_, hA, hO, hL⟩
 rw [← zM _ _ hA]
 refine zd hO [] [(2, .bool c7)] [0] ztL fun j => ?_
 refine z9 ?_
 cases hF
 have hO := hO.sel [0, 1, 2]
 exact hQ _ _ _ _ _ rfl hO hL ⟨rfl, rfl⟩
theorem ziH {τ : Hp} {q0 : zf} {w : Nat} {d7 d8 : Value} {d9 : Ob} {f0 : Value} {f1 : Ob} (f2 : RdT zm τ d7 q0.cursor.tokens) (f3 : ze zs 71 τ d8 q0.prog.Structs d9) (f4 : ze zr 50 τ f0 q0.prog.Funcs f1) {rr : Except (Value × zf) ((List zb) × zf)} (hF : zgu q0 = some rr) :
  zbK Try.prog 97 #[.pointer (some ⟨w, 0, none⟩)] τ [zE w d7 q0.cursor.at_ d8 f0, d9, f1] (fun v τ' vs' => match (generalizing := false) rr with | .ok rr => ∃ (v0 : Value) (o0 : Ob) (V X : Value) (Y : Ob) (Z : Value) (b0 : Ob), v = v0 ∧ vs' = [o0, zE w V rr.2.cursor.at_ X Z, Y, b0] ∧ ze zu 55 τ' v0 rr.1 o0 ∧ RdT zm τ' V rr.2.cursor.tokens ∧ ze zs 71 τ' X rr.2.prog.Structs Y ∧ ze zr 50 τ' Z rr.2.prog.Funcs b0 | .error _ => False) (fun ch τ' vs' => match (generalizing := false) rr with | .ok _ => False | .error ee => ∃ (V X : Value) (Y : Ob) (Z : Value) (b0 : Ob), ch = [{ v := ee.1, recovered := false }] ∧ vs' = [zE w V ee.2.cursor.at_ X Z, Y, b0] ∧ RdT zm τ' V ee.2.cursor.tokens ∧ ze zs 71 τ' X ee.2.prog.Structs Y ∧ ze zr 50 τ' Z ee.2.prog.Funcs b0) := by
 refine zcA (args := [.pointer (some ⟨w, 0, none⟩)]) hm Try.func97 s97 rfl fun w0 σ hP hO Q hQ => ?_
 unfold zgu at hF
 have hL := Hp.le.refl τ
 show wpn _ _ a97.body _ _ _
 unfold a97
 dsimp only
 refine zd hO [] [] [0] ztK fun j => ?_
 refine za hO 3 [] [(6, zt1 w)] [0] ztL fun j => ?_
 refine zt (T := Ty.str) (l := ([zs5] : List ByteArray)) (cs := [.string zs5]) hO rfl ⟨[.string zs5], _, rfl, rfl, rfl⟩ rfl (by decide) fun _ σ o4 w5 hO => ?_
 have hO := zt54 hO
 obtain ⟨_, h7, r6, hO⟩ := w5.share hO (i := 3) rfl
 have hL := hL.trans h7
 have hO := zt54 hO
 have hO := hO.sel [3, 0, 1, 2]
 rcases zX hF with ⟨u3, n0, hF⟩ | ⟨c8, h9, hF⟩
 ·refine zY (hs := [_]) hO (zbB (f2.le hL) (f3.le hL) (f4.le hL) r6 n0) ztI rfl fun _ σ _ _ hO i1 n1 => ?_
  have hL := hL.trans i1
  have r6 := r6.le i1
  obtain ⟨u4, u5, u6, u7, u9, rfl, rfl, n2, n3, n4⟩ := n1
  have hO := zt54 hO
  cases hF
  have hO := hO.sel [1, 2, 3]
  exact hP _ _ _ _ hO hL ⟨_, _, _, _, _, rfl, rfl, n2, n3, n4⟩
 refine zW (hs := [_]) hO (zbB (f2.le hL) (f3.le hL) (f4.le hL) r6 h9) ztI rfl fun _ σ _ _ hO i2 n5 => ?_
 have hL := hL.trans i2
 have r6 := r6.le i2
 obtain ⟨v1, v2, v3, v4, v5, rfl, rfl, f7, f8, f9⟩ := n5
 have hO := zt54 hO
 refine zc (zi (za hO 3 [] [(11, zt1 w)] [0] ztL fun j => ?_))
 refine zt (T := Ty.str) (l := ([zs4] : List ByteArray)) (cs := [.string zs4]) hO rfl ⟨[.string zs4], _, rfl, rfl, rfl⟩ rfl (by decide) fun _ σ v6 n6 hO => ?_
 have hO := zt55 hO
 obtain ⟨_, f5, g0, hO⟩ := n6.share hO (i := 4) rfl
 have hL := hL.trans f5
 have f7 := f7.le f5
 have f8 := f8.le f5
 have f9 := f9.le f5
 have hO := zt55 hO
 obtain ⟨v7, n7, hF⟩ := zt6 hF
 have hO := hO.sel [0, 4, 1, 2, 3]
 refine zz (hs := [_, _]) hO (zb0 f7 f8 f9 g0 n7) rfl fun _ σ _ _ hO i3 n8 => ?_
 have hL := hL.trans i3
 have g0 := g0.le i3
 obtain ⟨v8, v9, w2, w3, w4, rfl, rfl, g1, g2, g3⟩ := n8
 have hO := zt55 hO
 refine zc (zn hF rfl (fun hF => ?_) fun hF => ?_)
 ·refine zi (zd hO [] [(2, .slice none 0 0)] [0] ztL fun j => ?_)
  refine zbi ?_
  have hO := hO.no
  have hO := zt56 hO
  cases hF
  have hO := hO.sel [5, 2, 3, 4]
  refine (hQ _ _ _ _ _ rfl hO hL ?_).1
  exact ⟨_, _, _, _, _, _, _, rfl, rfl, (ze.nil _ _ _), g1, g2, g3⟩
 refine zA (za hO 1 [] [(14, zt1 w)] [0] ztL fun j => ?_)
 rcases zX hF with ⟨w6, n9, hF⟩ | ⟨g, o1, hF⟩
 ·refine zY (hs := [_, _]) hO (zb4 g1 g2 g3 n9) ztI rfl fun _ σ _ _ hO o2 o3 => ?_
  have hL := hL.trans o2
  obtain ⟨w7, w8, w9, x0, x1, rfl, rfl, o5, o6, o7⟩ := o3
  have hO := zt55 hO
  cases hF
  have hO := hO.sel [2, 3, 4]
  exact hP _ _ _ _ hO hL ⟨_, _, _, _, _, rfl, rfl, o5, o6, o7⟩
 refine zW (hs := [_, _]) hO (zb4 g1 g2 g3 o1) ztI rfl fun _ σ _ _ hO o8 o9 => ?_
 have hL := hL.trans o8
 obtain ⟨x2, x3, x4, i8, p7, i9, rfl, rfl, i4, i5, g4, g5⟩ := o9
 obtain ⟨i6, i7, rfl, -⟩ := i4.form
 obtain ⟨p2, p3, rfl, -⟩ := i5.form
 obtain ⟨j0, j1, rfl, -⟩ := g4.form
 obtain ⟨j2, j3, rfl, -⟩ := g5.form
 have hO := zt55 hO
 refine zt (T := zu) (l := ([(⟨g.1.Kind, g.1.Num, g.1.Name, g.1.Field, g.1.Op, g.1.Kids⟩ : zb)] : List zb)) (cs := [.int .u8 (g.1.Kind.toNat : Int), .int .i64 g.1.Num, .string g.1.Name, .string g.1.Field, .string g.1.Op, zt7 i6 g.1.Kids i7]) hO rfl ⟨[.int .u8 (g.1.Kind.toNat : Int), .int .i64 g.1.Num, .string g.1.Name, .string g.1.Field, .string g.1.Op, zt7 i6 g.1.Kids i7], _, rfl, (zb8 ⟨_, rfl, i4⟩), rfl⟩ rfl (by decide) fun _ σ j4 g6 hO => ?_
 obtain ⟨g7, g8, rfl, -⟩ := g6.form
 have hO := zt56 hO
 refine zd hO [] [(3, zt7 g7 ([(⟨g.1.Kind, g.1.Num, g.1.Name, g.1.Field, g.1.Op, g.1.Kids⟩ : zb)] : List zb) g8)] [0] ztL fun j => ?_
 refine zH ?_
 have hO := hO.sel [2, 3, 4, 5]
 refine zbo (fun (n : Nat) e' σ' => ∃ (b7 : Option Addr) (b8 : Nat) (z : List zl) (b1 : Int) (b9 : Option Addr) (c0 : Nat) (c1 : Ob) (B : List zq) (c2 : Option Addr) (c3 : Nat) (c4 : Ob) (E : List zo) (b2 : Option Addr) (b3 : Nat) (c5 : Ob) (t : List zb) (τ' : Hp), agr [(0, zt1 w), (3, zt7 b2 t b3)] e' ∧ Obs τ' σ' [zE w (zt7 b7 z b8) b1 (zt7 b9 B c0) (zt7 c2 E c3), c1, c4, c5] ∧ Hp.le τ τ' ∧ RdT zm τ' (zt7 b7 z b8) z ∧ ze zs 71 τ' (zt7 b9 B c0) B c1 ∧ ze zr 50 τ' (zt7 c2 E c3) E c4 ∧ ze zu 55 τ' (zt7 b2 t b3) t c5 ∧ zf4  n z b1 B E t = some rr) big ⟨p2, p3, g.2.cursor.tokens, g.2.cursor.at_, j0, j1, i8, g.2.prog.Structs, j2, j3, i9, g.2.prog.Funcs, g7, g8, j4, ([(⟨g.1.Kind, g.1.Num, g.1.Name, g.1.Field, g.1.Op, g.1.Kids⟩ : zb)] : List zb), _, ztZ ztK, hO, hL, i5, g4, g5, g6, hF⟩ ?_
 clear hF hO hL
 rintro b6 e σ ⟨b7, b8, z, b1, b9, c0, c1, B, c2, c3, c4, E, b2, b3, c5, t, _, hA, hO, hL, c6, c7, c9, o, hF⟩
 rw [← zM _ _ hA]
 cases b6 with
 | zero => exact nomatch (show none = some rr from hF)
 | succ b6 =>
 replace hF : ziw (zf4  b6) z b1 B E t = some rr := hF
 unfold ziw at hF
 refine zi (za hO 3 [] [(19, zt1 w)] [0, 3] ztM fun j => ?_)
 refine zt (T := Ty.str) (l := ([ztt] : List ByteArray)) (cs := [.string ztt]) hO rfl ⟨[.string ztt], _, rfl, rfl, rfl⟩ rfl (by decide) fun _ σ p8 j5 hO => ?_
 have hO := zt55 hO
 obtain ⟨_, b4, d0, hO⟩ := j5.share hO (i := 4) rfl
 have hL := hL.trans b4
 have o := o.le b4
 have c6 := c6.le b4
 have c7 := c7.le b4
 have c9 := c9.le b4
 have hO := zt55 hO
 obtain ⟨p9, j6, hF⟩ := zt6 hF
 have hO := hO.sel [3, 4, 0, 1, 2]
 refine zz (hs := [_, _]) hO (zb0 (q0 := (⟨(⟨z, b1⟩ : zbe), (⟨B, E⟩ : zB)⟩ : zf)) c6 c7 c9 d0 j6) rfl fun _ σ _ _ hO d4 j7 => ?_
 have hL := hL.trans d4
 have o := o.le d4
 have d0 := d0.le d4
 obtain ⟨q2, q3, q4, q5, q6, rfl, rfl, G, I, M⟩ := j7
 have hO := zt55 hO
 refine zc (zn hF rfl (fun hF => ?_) fun hF => ?_)
 ·refine zA (zbU (zH (z3 (za hO 2 [] [(22, zt7 b2 t b3), (23, zt1 w)] [0] ztM fun j => ?_))))
  rcases zX hF with ⟨q7, j8, hF⟩ | ⟨h, j9, hF⟩
  ·refine zY (hs := [_, _]) hO (zb4 G I M j8) ztI rfl fun _ σ _ _ hO g9 k0 => ?_
   have hL := hL.trans g9
   have o := o.le g9
   obtain ⟨q8, q9, r0, r1, r2, rfl, rfl, k1, h0, k4⟩ := k0
   obtain ⟨r3, r4, rfl, -⟩ := h0.form
   have hO := zt55 hO
   cases hF
   have hO := hO.sel [2, 3, 4]
   exact hP _ _ _ _ hO hL ⟨_, _, _, _, _, rfl, rfl, k1, h0, k4⟩
  refine zW (hs := [_, _]) hO (zb4 G I M j9) ztI rfl fun _ σ _ _ hO h1 k5 => ?_
  have hL := hL.trans h1
  have o := o.le h1
  obtain ⟨r5, r7, r8, k6, r9, k7, rfl, rfl, k8, h2, h3, h4⟩ := k5
  obtain ⟨l0, l1, rfl, -⟩ := h2.form
  obtain ⟨l2, l3, rfl, -⟩ := h3.form
  obtain ⟨l4, l5, rfl, -⟩ := h4.form
  have hO := zt55 hO
  obtain ⟨_, i0, hF⟩ := zt6 hF
  refine zjg (T := zu) (y := (⟨h.1.Kind, h.1.Num, h.1.Name, h.1.Field, h.1.Op, h.1.Kids⟩ : zb)) hO o (i := 0) rfl rfl (fun _ => rfl) rfl (zb8 ⟨_, rfl, k8⟩) rfl i0 (by decide) fun u _ σ l6 h5 hO => ?_
  obtain ⟨h6, h8, rfl, -⟩ := h5.form
  have hO := zt55 hO
  refine zd hO [] [(3, zt7 h6 (t ++ [(⟨h.1.Kind, h.1.Num, h.1.Name, h.1.Field, h.1.Op, h.1.Kids⟩ : zb)]) h8)] [0] ztL fun j => ?_
  refine zg (zC (zj (zg (zj ?_))))
  have hO := hO.sel [2, 3, 4, 0]
  exact ⟨b6, Nat.lt_succ_self _, l0, l1, h.2.cursor.tokens, h.2.cursor.at_, l2, l3, k6, h.2.prog.Structs, l4, l5, k7, h.2.prog.Funcs, h6, h8, l6, (t ++ [(⟨h.1.Kind, h.1.Num, h.1.Name, h.1.Field, h.1.Op, h.1.Kids⟩ : zb)]), _, ztZ ztK, hO, hL, h2, h3, h4, h5, hF⟩
 refine zbs (zbp (zbr (zj (za hO 3 [] [(29, zt1 w)] [0, 3] ztM fun j => ?_))))
 refine zt (T := Ty.str) (l := ([zs4] : List ByteArray)) (cs := [.string zs4]) hO rfl ⟨[.string zs4], _, rfl, rfl, rfl⟩ rfl (by decide) fun _ σ t0 l7 hO => ?_
 have hO := zt56 hO
 obtain ⟨_, b5, U, hO⟩ := l7.share hO (i := 5) rfl
 have hL := hL.trans b5
 have o := o.le b5
 have G := G.le b5
 have I := I.le b5
 have M := M.le b5
 have hO := zt56 hO
 have hO := hO.sel [0, 1, 5, 2, 3, 4]
 rcases zX hF with ⟨t1, l8, hF⟩ | ⟨t2, l9, hF⟩
 ·refine zY (hs := [_, _, _]) hO (zbB G I M U l8) ztI rfl fun _ σ _ _ hO d5 m0 => ?_
  have hL := hL.trans d5
  have o := o.le d5
  have U := U.le d5
  obtain ⟨t3, t4, t5, t6, t7, rfl, rfl, m1, m2, m3⟩ := m0
  have hO := zt56 hO
  cases hF
  have hO := hO.sel [3, 4, 5]
  exact hP _ _ _ _ hO hL ⟨_, _, _, _, _, rfl, rfl, m1, m2, m3⟩
 refine zW (hs := [_, _, _]) hO (zbB G I M U l9) ztI rfl fun _ σ _ _ hO d6 m4 => ?_
 have hL := hL.trans d6
 have o := o.le d6
 have U := U.le d6
 obtain ⟨t8, t9, u0, u1, u2, rfl, rfl, m5, m6, m7⟩ := m4
 have hO := zt56 hO
 refine zc (zd hO [] [(2, zt7 b2 t b3)] [0] ztL fun j => ?_)
 refine z9 ?_
 cases hF
 have hO := hO.sel [0, 3, 4, 5]
 refine (hQ _ _ _ _ _ rfl hO hL ?_).1
 exact ⟨_, _, _, _, _, _, _, rfl, rfl, o, m5, m6, m7⟩
theorem zno {τ : Hp} {q0 : zf} {w : Nat} {c1 c2 : Value} {c3 : Ob} {c4 : Value} {c5 : Ob} {q1 : zh} {h : Nat} {c6 c7 b5 : Value} (f2 : RdT zm τ c1 q0.cursor.tokens) (f3 : ze zs 71 τ c2 q0.prog.Structs c3) (f4 : ze zr 50 τ c4 q0.prog.Funcs c5) (G : RdT zu τ c6 q1.Kids) (t : RdT zy τ c7 q1.Body) (o : RdT zy τ b5 q1.Else) {rr : Except (Value × zf × zh) (zf × zh)} (hF : zh3 q0 q1 = some rr) :
  zbK Try.prog 99 #[.pointer (some ⟨w, 0, none⟩), .pointer (some ⟨h, 0, none⟩)] τ [zE w c1 q0.cursor.at_ c2 c4, c3, c5, zby h q1.Kind.toNat q1.Line q1.Name q1.Field q1.Call q1.Type_.Kind.toNat q1.Type_.N q1.Type_.Name c6 c7 b5] (fun v τ' vs' => match (generalizing := false) rr with | .ok rr => ∃ (M U : Value) (V : Ob) (X : Value) (Y : Ob) (Z b0 I : Value), v = .tuple #[] ∧ vs' = [zE w M rr.1.cursor.at_ U X, V, Y, zby h rr.2.Kind.toNat rr.2.Line rr.2.Name rr.2.Field rr.2.Call rr.2.Type_.Kind.toNat rr.2.Type_.N rr.2.Type_.Name Z b0 I] ∧ RdT zm τ' M rr.1.cursor.tokens ∧ ze zs 71 τ' U rr.1.prog.Structs V ∧ ze zr 50 τ' X rr.1.prog.Funcs Y ∧ RdT zu τ' Z rr.2.Kids ∧ RdT zy τ' b0 rr.2.Body ∧ RdT zy τ' I rr.2.Else | .error _ => False) (fun ch τ' vs' => match (generalizing := false) rr with | .ok _ => False | .error ee => ∃ (M U : Value) (V : Ob) (X : Value) (Y : Ob) (Z b0 I : Value), ch = [{ v := ee.1, recovered := false }] ∧ vs' = [zE w M ee.2.1.cursor.at_ U X, V, Y, zby h ee.2.2.Kind.toNat ee.2.2.Line ee.2.2.Name ee.2.2.Field ee.2.2.Call ee.2.2.Type_.Kind.toNat ee.2.2.Type_.N ee.2.2.Type_.Name Z b0 I] ∧ RdT zm τ' M ee.2.1.cursor.tokens ∧ ze zs 71 τ' U ee.2.1.prog.Structs V ∧ ze zr 50 τ' X ee.2.1.prog.Funcs Y ∧ RdT zu τ' Z ee.2.2.Kids ∧ RdT zy τ' b0 ee.2.2.Body ∧ RdT zy τ' I ee.2.2.Else) := by
 refine zcA (args := [.pointer (some ⟨w, 0, none⟩), .pointer (some ⟨h, 0, none⟩)]) hm Try.func99 s99 rfl fun w0 σ hP hO Q hQ => ?_
 unfold zh3 at hF
 have hL := Hp.le.refl τ
 show wpn _ _ a99.body _ _ _
 unfold a99
 dsimp only
 refine zbU (zH (za hO 3 [] [(16, zt1 w)] [0, 1] ztM fun j => ?_))
 refine zt (T := Ty.str) (l := ([ztd] : List ByteArray)) (cs := [.string ztd]) hO rfl ⟨[.string ztd], _, rfl, rfl, rfl⟩ rfl (by decide) fun _ σ o5 w6 hO => ?_
 have hO := zt55 hO
 obtain ⟨_, h8, r7, hO⟩ := w6.share hO (i := 4) rfl
 have hL := hL.trans h8
 have hO := zt55 hO
 obtain ⟨c9, i4, hF⟩ := zt6 hF
 have hO := hO.sel [3, 4, 0, 1, 2]
 refine zz (hs := [_, _]) hO (zb0 (f2.le hL) (f3.le hL) (f4.le hL) r7 i4) rfl fun _ σ _ _ hO f5 i5 => ?_
 have hL := hL.trans f5
 have r7 := r7.le f5
 obtain ⟨o9, p2, p3, p4, p5, rfl, rfl, z, B, E⟩ := i5
 have hO := zt55 hO
 refine zd hO [] [(13, .bool c9.1)] [0, 1] ztM fun j => ?_
 refine zbm (zn hF rfl (fun hF => ?_) fun hF => ?_)
 ·refine zi (za hO 3 [] [(21, zt1 w)] [0, 1] ztM fun j => ?_)
  refine zt (T := Ty.str) (l := ([zs5, zs4] : List ByteArray)) (cs := [.string zs5, .string zs4]) hO rfl ⟨[.string zs5], _, rfl, rfl, ⟨[.string zs4], _, rfl, rfl, rfl⟩⟩ rfl (by decide) fun _ σ p6 i6 hO => ?_
  have hO := zt56 hO
  obtain ⟨_, c8, b1, hO⟩ := i6.share hO (i := 5) rfl
  have hL := hL.trans c8
  have z := z.le c8
  have B := B.le c8
  have E := E.le c8
  have hO := zt56 hO
  have hO := hO.sel [0, 1, 5, 2, 3, 4]
  rcases zX hF with ⟨p7, i7, hF⟩ | ⟨p8, i8, hF⟩
  ·refine zY (hs := [_, _, _]) hO (zbB z B E b1 i7) ztI rfl fun _ σ _ _ hO f6 i9 => ?_
   have hL := hL.trans f6
   have b1 := b1.le f6
   obtain ⟨p9, q2, q3, q4, q5, rfl, rfl, j0, j1, j2⟩ := i9
   have hO := zt56 hO
   cases hF
   have hO := hO.sel [3, 4, 5, 0]
   exact hP _ _ _ _ hO hL ⟨_, _, _, _, _, _, _, _, rfl, rfl, j0, j1, j2, (G.le hL), (t.le hL), (o.le hL)⟩
  refine zW (hs := [_, _, _]) hO (zbB z B E b1 i8) ztI rfl fun _ σ _ _ hO f7 j3 => ?_
  have hL := hL.trans f7
  have b1 := b1.le f7
  obtain ⟨q6, q7, q8, q9, r0, rfl, rfl, f8, j4, j5⟩ := j3
  obtain ⟨r1, r2, rfl, -⟩ := f8.form
  have hO := zt56 hO
  refine zc (za hO 3 [] [(26, zt1 h)] [0, 1] ztM fun j => ?_)
  refine zx hO (i := 0) rfl (off := 0) rfl rfl rfl rfl (Nat.le_of_ble_eq_true rfl) rfl fun σ hO => ?_
  have hO := zt56 hO
  refine zc (zg (zC (zj (zg ?_))))
  cases hF
  have hO := hO.sel [3, 4, 5, 0]
  refine (hQ _ _ _ _ _ rfl hO hL ?_).2
  exact ⟨_, _, _, _, _, _, _, _, rfl, rfl, f8, j4, j5, (G.le hL), (t.le hL), (o.le hL)⟩
 refine zi (za hO 1 [] [(28, zt1 w)] [0, 1] ztM fun j => ?_)
 obtain ⟨j6, j7, hF⟩ := zt6 hF
 refine zz (hs := [_, _]) hO (zlZ z B E j7) rfl fun _ σ _ _ hO d0 j8 => ?_
 have hL := hL.trans d0
 have z := z.le d0
 have B := B.le d0
 have E := E.le d0
 obtain ⟨rfl, rfl⟩ := j8
 have hO := zt55 hO
 refine zd hO [] [(27, .bool j6)] [0, 1] ztM fun j => ?_
 refine zn hF rfl (fun hF => ?_) fun hF => ?_
 ·refine zi (za hO 5 [] [(30, zt1 h), (31, zt1 h), (34, zt1 w)] [0, 1] ztO fun j => ?_)
  rcases zX hF with ⟨r3, j9, hF⟩ | ⟨r4, k0, hF⟩
  ·refine zY (hs := [_, _]) hO (zbV z B E j9) ztI rfl fun _ σ _ _ hO k1 k4 => ?_
   have hL := hL.trans k1
   obtain ⟨r5, r6, r8, r9, t0, rfl, rfl, k5, k6, k7⟩ := k4
   have hO := zt55 hO
   cases hF
   have hO := hO.sel [2, 3, 4, 0]
   exact hP _ _ _ _ hO hL ⟨_, _, _, _, _, _, _, _, rfl, rfl, k5, k6, k7, (G.le hL), (t.le hL), (o.le hL)⟩
  refine zW (hs := [_, _]) hO (zbV z B E k0) ztI rfl fun _ σ _ _ hO k8 l0 => ?_
  have hL := hL.trans k8
  obtain ⟨t1, l4, l5, l6, l7, rfl, rfl, d4, d5, d6⟩ := l0
  have hO := zt55 hO
  refine za hO 2 [] [(37, zt1 h)] [0, 1, 31, 35] ztO fun j => ?_
  refine zx hO (i := 0) rfl (off := 0) rfl rfl rfl rfl (Nat.le_of_ble_eq_true rfl) rfl fun σ hO => ?_
  have hO := zt55 hO
  refine za hO 2 [] [(39, .pointer (some ⟨h, 4, none⟩))] [0, 1, 35] ztN fun j => ?_
  refine zx hO (i := 0) rfl (off := 4) rfl rfl rfl rfl (Nat.le_of_ble_eq_true rfl) rfl fun σ hO => ?_
  have hO := zt55 hO
  refine zc (za hO 2 [] [(40, zt1 h), (41, zt1 w)] [0, 1] ztN fun j => ?_)
  rcases zX hF with ⟨l8, g0, hF⟩ | ⟨g1, g2, hF⟩
  ·refine zY (hs := [_, _]) hO (ziH d4 d5 d6 g0) ztI rfl fun _ σ _ _ hO g3 g4 => ?_
   have hL := hL.trans g3
   obtain ⟨l9, m0, m1, m2, m3, rfl, rfl, g5, g6, g7⟩ := g4
   have hO := zt55 hO
   cases hF
   have hO := hO.sel [2, 3, 4, 0]
   exact hP _ _ _ _ hO hL ⟨_, _, _, _, _, _, _, _, rfl, rfl, g5, g6, g7, (G.le hL), (t.le hL), (o.le hL)⟩
  refine zW (hs := [_, _]) hO (ziH d4 d5 d6 g2) ztI rfl fun _ σ _ _ hO g8 g9 => ?_
  have hL := hL.trans g8
  obtain ⟨m4, m5, m6, m7, m8, m9, n0, rfl, rfl, d7, b6, b7, b8⟩ := g9
  obtain ⟨h0, h1, rfl, -⟩ := d7.form
  have hO := zt56 hO
  refine zbk hO 2 [] [(0, zt1 w), (1, zt1 h), (42, zt7 h0 g1.1 h1), (44, .pointer (some ⟨h, 8, none⟩))] ztN fun j => ?_
  refine zx hO (i := 0) rfl (off := 8) rfl rfl rfl rfl (Nat.le_of_ble_eq_true rfl) rfl fun σ hO => ?_
  have hO := zt56 hO
  refine zc (zg (zC (zj (zg ?_))))
  obtain ⟨_, b2, h2, hO⟩ := d7.share hO (i := 2) rfl
  have hL := hL.trans b2
  have b6 := b6.le b2
  have b7 := b7.le b2
  have b8 := b8.le b2
  have hO := zt56 hO
  cases hF
  have hO := hO.sel [3, 4, 5, 0]
  refine (hQ _ _ _ _ _ rfl hO hL ?_).2
  exact ⟨_, _, _, _, _, _, _, _, rfl, rfl, b6, b7, b8, h2, (t.le hL), (o.le hL)⟩
 refine za hO 3 [] [(4, zt1 h), (5, zt1 h), (6, zt1 w)] [0, 1] ztO fun j => ?_
 rcases zX hF with ⟨n1, h3, hF⟩ | ⟨g, h4, hF⟩
 ·refine zY (hs := [_, _]) hO (zb4 z B E h3) ztI rfl fun _ σ _ _ hO h5 h6 => ?_
  have hL := hL.trans h5
  obtain ⟨n2, n3, n4, n5, n6, rfl, rfl, h7, h9, i0⟩ := h6
  have hO := zt55 hO
  cases hF
  have hO := hO.sel [2, 3, 4, 0]
  exact hP _ _ _ _ hO hL ⟨_, _, _, _, _, _, _, _, rfl, rfl, h7, h9, i0, (G.le hL), (t.le hL), (o.le hL)⟩
 refine zW (hs := [_, _]) hO (zb4 z B E h4) ztI rfl fun _ σ _ _ hO i1 i2 => ?_
 have hL := hL.trans i1
 obtain ⟨n7, n8, n9, o0, o1, o2, rfl, rfl, d8, b9, c0, b3⟩ := i2
 obtain ⟨d9, f0, rfl, -⟩ := d8.form
 obtain ⟨o3, o4, rfl, -⟩ := b3.form
 have hO := zt55 hO
 refine zt (T := zu) (l := ([(⟨g.1.Kind, g.1.Num, g.1.Name, g.1.Field, g.1.Op, g.1.Kids⟩ : zb)] : List zb)) (cs := [.int .u8 (g.1.Kind.toNat : Int), .int .i64 g.1.Num, .string g.1.Name, .string g.1.Field, .string g.1.Op, zt7 d9 g.1.Kids f0]) hO rfl ⟨[.int .u8 (g.1.Kind.toNat : Int), .int .i64 g.1.Num, .string g.1.Name, .string g.1.Field, .string g.1.Op, zt7 d9 g.1.Kids f0], _, rfl, (zb8 ⟨_, rfl, d8⟩), rfl⟩ rfl (by decide) fun _ σ o6 f1 hO => ?_
 obtain ⟨o7, o8, rfl, -⟩ := f1.form
 have hO := zt56 hO
 refine za hO 2 [] [(10, zt1 h)] [0, 1, 5, 8] ztO fun j => ?_
 refine zx hO (i := 0) rfl (off := 0) rfl rfl rfl rfl (Nat.le_of_ble_eq_true rfl) rfl fun σ hO => ?_
 have hO := zt56 hO
 refine za hO 2 [] [(12, .pointer (some ⟨h, 8, none⟩))] [0, 1, 8] ztN fun j => ?_
 refine zx hO (i := 0) rfl (off := 8) rfl rfl rfl rfl (Nat.le_of_ble_eq_true rfl) rfl fun σ hO => ?_
 have hO := zt56 hO
 refine zc (zg (zC (zj (zg ?_))))
 obtain ⟨_, b4, i3, hO⟩ := f1.share hO (i := 5) rfl
 have hL := hL.trans b4
 have b9 := b9.le b4
 have c0 := c0.le b4
 have b3 := b3.le b4
 have hO := zt56 hO
 cases hF
 have hO := hO.sel [2, 3, 4, 0]
 refine (hQ _ _ _ _ _ rfl hO hL ?_).2
 exact ⟨_, _, _, _, _, _, _, _, rfl, rfl, b9, c0, b3, i3, (t.le hL), (o.le hL)⟩
theorem zlQ {τ : Hp} {q0 : zf} {V : Nat} {k4 k5 : Value} {k6 : Ob} {k7 : Value} {k8 : Ob} {q1 : zh} {t : Nat} {l0 l1 i3 : Value} (c2 : RdT zm τ k4 q0.cursor.tokens) (c4 : ze zs 71 τ k5 q0.prog.Structs k6) (c5 : ze zr 50 τ k7 q0.prog.Funcs k8) (Y : RdT zu τ l0 q1.Kids) (w : RdT zy τ l1 q1.Body) (o : RdT zy τ i3 q1.Else) {rr : Except (Value × zf × zh) (zf × zh)} (hF : zgU q0 q1 = some rr) :
  zbK Try.prog 94 #[.pointer (some ⟨V, 0, none⟩), .pointer (some ⟨t, 0, none⟩)] τ [zE V k4 q0.cursor.at_ k5 k7, k6, k8, zby t q1.Kind.toNat q1.Line q1.Name q1.Field q1.Call q1.Type_.Kind.toNat q1.Type_.N q1.Type_.Name l0 l1 i3] (fun v τ' vs' => match (generalizing := false) rr with | .ok rr => ∃ (d8 d9 : Value) (f0 : Ob) (f1 : Value) (f2 : Ob) (f3 f4 c6 : Value), v = .tuple #[] ∧ vs' = [zE V d8 rr.1.cursor.at_ d9 f1, f0, f2, zby t rr.2.Kind.toNat rr.2.Line rr.2.Name rr.2.Field rr.2.Call rr.2.Type_.Kind.toNat rr.2.Type_.N rr.2.Type_.Name f3 f4 c6] ∧ RdT zm τ' d8 rr.1.cursor.tokens ∧ ze zs 71 τ' d9 rr.1.prog.Structs f0 ∧ ze zr 50 τ' f1 rr.1.prog.Funcs f2 ∧ RdT zu τ' f3 rr.2.Kids ∧ RdT zy τ' f4 rr.2.Body ∧ RdT zy τ' c6 rr.2.Else | .error _ => False) (fun ch τ' vs' => match (generalizing := false) rr with | .ok _ => False | .error ee => ∃ (d8 d9 : Value) (f0 : Ob) (f1 : Value) (f2 : Ob) (f3 f4 c6 : Value), ch = [{ v := ee.1, recovered := false }] ∧ vs' = [zE V d8 ee.2.1.cursor.at_ d9 f1, f0, f2, zby t ee.2.2.Kind.toNat ee.2.2.Line ee.2.2.Name ee.2.2.Field ee.2.2.Call ee.2.2.Type_.Kind.toNat ee.2.2.Type_.N ee.2.2.Type_.Name f3 f4 c6] ∧ RdT zm τ' d8 ee.2.1.cursor.tokens ∧ ze zs 71 τ' d9 ee.2.1.prog.Structs f0 ∧ ze zr 50 τ' f1 ee.2.1.prog.Funcs f2 ∧ RdT zu τ' f3 ee.2.2.Kids ∧ RdT zy τ' f4 ee.2.2.Body ∧ RdT zy τ' c6 ee.2.2.Else) := by
 refine zcA (args := [.pointer (some ⟨V, 0, none⟩), .pointer (some ⟨t, 0, none⟩)]) hm Try.func94 s94 rfl fun w0 σ hP hO Q hQ => ?_
 unfold zgU at hF
 have hL := Hp.le.refl τ
 show wpn _ _ a94.body _ _ _
 unfold a94
 dsimp only
 refine zi (za hO 1 [] [(4, zt1 V)] [0, 1] ztM fun j => ?_)
 obtain ⟨c3, h4, hF⟩ := zt6 hF
 have hO := hO.sel [3, 0, 1, 2]
 refine zz (hs := [_]) hO (zlZ (c2.le hL) (c4.le hL) (c5.le hL) h4) rfl fun _ σ _ _ hO h5 h6 => ?_
 have hL := hL.trans h5
 obtain ⟨rfl, rfl⟩ := h6
 have hO := zt54 hO
 have hO := hO.sel [1, 2, 3, 0]
 have hO := zt54 hO
 refine zc (zn hF rfl (fun hF => ?_) fun hF => ?_)
 ·refine zi (za hO 5 [] [(6, zt1 t), (7, zt1 t), (10, zt1 V)] [0, 1] ztO fun j => ?_)
  have hO := hO.sel [3, 0, 1, 2]
  rcases zX hF with ⟨R3, C4, hF⟩ | ⟨c8, h9, hF⟩
  ·refine zY (hs := [_]) hO (zbV (c2.le hL) (c4.le hL) (c5.le hL) C4) ztI rfl fun _ σ _ _ hO C5 C6 => ?_
   have hL := hL.trans C5
   obtain ⟨R4, R5, R6, R7, R8, rfl, rfl, C7, C8, C9⟩ := C6
   have hO := zt54 hO
   cases hF
   have hO := hO.sel [1, 2, 3, 0]
   exact hP _ _ _ _ hO hL ⟨_, _, _, _, _, _, _, _, rfl, rfl, C7, C8, C9, (Y.le hL), (w.le hL), (o.le hL)⟩
  refine zW (hs := [_]) hO (zbV (c2.le hL) (c4.le hL) (c5.le hL) h9) ztI rfl fun _ σ _ _ hO D0 D1 => ?_
  have hL := hL.trans D0
  obtain ⟨R9, S0, S1, S2, S3, rfl, rfl, n6, n7, n8⟩ := D1
  have hO := zt54 hO
  refine za hO 2 [] [(13, zt1 t)] [0, 1, 7, 11] ztO fun j => ?_
  refine zx hO (i := 0) rfl (off := 0) rfl rfl rfl rfl (Nat.le_of_ble_eq_true rfl) rfl fun σ hO => ?_
  have hO := zt54 hO
  refine za hO 2 [] [(15, .pointer (some ⟨t, 4, none⟩))] [0, 1, 11] ztN fun j => ?_
  refine zx hO (i := 0) rfl (off := 4) rfl rfl rfl rfl (Nat.le_of_ble_eq_true rfl) rfl fun σ hO => ?_
  have hO := zt54 hO
  refine zc (zi (za hO 2 [] [(16, zt1 t), (17, zt1 V)] [0, 1] ztN fun j => ?_))
  rcases zX hF with ⟨S4, D2, hF⟩ | ⟨S5, D3, hF⟩
  ·refine zY (hs := [_]) hO (ziH n6 n7 n8 D2) ztI rfl fun _ σ _ _ hO D4 D5 => ?_
   have hL := hL.trans D4
   obtain ⟨S6, S7, S8, S9, T1, rfl, rfl, D6, n9, o0⟩ := D5
   obtain ⟨T2, T3, rfl, -⟩ := n9.form
   obtain ⟨T4, T5, rfl, -⟩ := o0.form
   have hO := zt54 hO
   cases hF
   have hO := hO.sel [1, 2, 3, 0]
   exact hP _ _ _ _ hO hL ⟨_, _, _, _, _, _, _, _, rfl, rfl, D6, n9, o0, (Y.le hL), (w.le hL), (o.le hL)⟩
  refine zW (hs := [_]) hO (ziH n6 n7 n8 D3) ztI rfl fun _ σ _ _ hO D7 D8 => ?_
  have hL := hL.trans D7
  obtain ⟨T6, T7, T8, T9, U0, U1, U2, rfl, rfl, o1, l2, l3, l4⟩ := D8
  obtain ⟨U3, U4, rfl, -⟩ := o1.form
  obtain ⟨U5, U6, rfl, -⟩ := l2.form
  obtain ⟨U7, U8, rfl, -⟩ := l3.form
  obtain ⟨U9, V0, rfl, -⟩ := l4.form
  have hO := zt55 hO
  refine za hO 2 [] [(20, .pointer (some ⟨t, 8, none⟩))] [0, 1, 18] ztN fun j => ?_
  refine zx hO (i := 0) rfl (off := 8) rfl rfl rfl rfl (Nat.le_of_ble_eq_true rfl) rfl fun σ hO => ?_
  have hO := zt55 hO
  refine zc (zbi ?_)
  obtain ⟨_, l5, D9, hO⟩ := o1.share hO (i := 1) rfl
  have hL := hL.trans l5
  have l2 := l2.le l5
  have l3 := l3.le l5
  have l4 := l4.le l5
  have hO := zt55 hO
  cases hF
  have hO := hO.sel [2, 3, 4, 0]
  refine (hQ _ _ _ _ _ rfl hO hL ?_).1
  exact ⟨_, _, _, _, _, _, _, _, rfl, rfl, l2, l3, l4, D9, (w.le hL), (o.le hL)⟩
 refine zA (za hO 4 [] [(21, zt1 t), (24, zt1 V)] [0, 1] ztN fun j => ?_)
 have hO := hO.sel [3, 0, 1, 2]
 rcases zX hF with ⟨V1, E1, hF⟩ | ⟨o2, E2, hF⟩
 ·refine zY (hs := [_]) hO (zbV (c2.le hL) (c4.le hL) (c5.le hL) E1) ztI rfl fun _ σ _ _ hO E3 E4 => ?_
  have hL := hL.trans E3
  obtain ⟨V2, V3, F2, F3, F4, rfl, rfl, E5, o3, o4⟩ := E4
  have hO := zt54 hO
  cases hF
  have hO := hO.sel [1, 2, 3, 0]
  exact hP _ _ _ _ hO hL ⟨_, _, _, _, _, _, _, _, rfl, rfl, E5, o3, o4, (Y.le hL), (w.le hL), (o.le hL)⟩
 refine zW (hs := [_]) hO (zbV (c2.le hL) (c4.le hL) (c5.le hL) E2) ztI rfl fun _ σ _ _ hO E6 E7 => ?_
 have hL := hL.trans E6
 obtain ⟨F5, F6, F7, F8, F9, rfl, rfl, b1, b2, b3⟩ := E7
 have hO := zt54 hO
 refine za hO 2 [] [(27, .pointer (some ⟨t, 2, none⟩))] [0, 1, 25] ztN fun j => ?_
 refine zx hO (i := 0) rfl (off := 2) rfl rfl rfl rfl (Nat.le_of_ble_eq_true rfl) rfl fun σ hO => ?_
 have hO := zt54 hO
 refine zc (zbU (zH (za hO 3 [] [(39, zt1 V)] [0, 1] ztM fun j => ?_)))
 refine zt (T := Ty.str) (l := ([ztb] : List ByteArray)) (cs := [.string ztb]) hO rfl ⟨[.string ztb], _, rfl, rfl, rfl⟩ rfl (by decide) fun _ σ G0 o5 hO => ?_
 have hO := zt55 hO
 obtain ⟨_, g1, i4, hO⟩ := o5.share hO (i := 4) rfl
 have hL := hL.trans g1
 have b1 := b1.le g1
 have b2 := b2.le g1
 have b3 := b3.le g1
 have hO := zt55 hO
 obtain ⟨o6, o7, hF⟩ := zt6 hF
 have hO := hO.sel [0, 4, 1, 2, 3]
 refine zz (hs := [_, _]) hO (zdS b1 b2 b3 i4 o7) rfl fun _ σ _ _ hO f5 o8 => ?_
 have hL := hL.trans f5
 have i4 := i4.le f5
 have b1 := b1.le f5
 have b2 := b2.le f5
 have b3 := b3.le f5
 obtain ⟨rfl, rfl⟩ := o8
 have hO := zt55 hO
 have hO := hO.sel [0, 2, 3, 4, 1]
 have hO := zt55 hO
 refine zd hO [] [(36, .bool o6)] [0, 1] ztM fun j => ?_
 refine zbm (zn hF rfl (fun hF => ?_) fun hF => ?_)
 ·refine zi (za hO 3 [] [(42, zt1 t), (43, zt1 t), (44, zt1 V)] [0, 1] ztO fun j => ?_)
  have hO := hO.sel [0, 4, 1, 2, 3]
  rcases zX hF with ⟨G1, o9, hF⟩ | ⟨g, p2, hF⟩
  ·refine zY (hs := [_, _]) hO (znT b1 b2 b3 o9) ztI rfl fun _ σ _ _ hO p3 p4 => ?_
   have hL := hL.trans p3
   obtain ⟨G2, G3, G4, G5, G6, rfl, rfl, p5, p6, p7⟩ := p4
   have hO := zt55 hO
   cases hF
   have hO := hO.sel [2, 3, 4, 0]
   exact hP _ _ _ _ hO hL ⟨_, _, _, _, _, _, _, _, rfl, rfl, p5, p6, p7, (Y.le hL), (w.le hL), (o.le hL)⟩
  refine zW (hs := [_, _]) hO (znT b1 b2 b3 p2) ztI rfl fun _ σ _ _ hO p8 p9 => ?_
  have hL := hL.trans p8
  obtain ⟨G7, G8, G9, H0, H1, H2, rfl, rfl, l6, g2, g3, g4⟩ := p9
  obtain ⟨l7, l8, rfl, -⟩ := l6.form
  have hO := zt55 hO
  refine zt (T := zu) (l := ([(⟨g.1.Kind, g.1.Num, g.1.Name, g.1.Field, g.1.Op, g.1.Kids⟩ : zb)] : List zb)) (cs := [.int .u8 (g.1.Kind.toNat : Int), .int .i64 g.1.Num, .string g.1.Name, .string g.1.Field, .string g.1.Op, zt7 l7 g.1.Kids l8]) hO rfl ⟨[.int .u8 (g.1.Kind.toNat : Int), .int .i64 g.1.Num, .string g.1.Name, .string g.1.Field, .string g.1.Op, zt7 l7 g.1.Kids l8], _, rfl, (zb8 ⟨_, rfl, l6⟩), rfl⟩ rfl (by decide) fun _ σ H3 z hO => ?_
  obtain ⟨q2, q3, rfl, -⟩ := z.form
  have hO := zt56 hO
  refine za hO 2 [] [(48, zt1 t)] [0, 1, 43, 46] ztO fun j => ?_
  refine zx hO (i := 0) rfl (off := 0) rfl rfl rfl rfl (Nat.le_of_ble_eq_true rfl) rfl fun σ hO => ?_
  have hO := zt56 hO
  refine za hO 2 [] [(50, .pointer (some ⟨t, 8, none⟩))] [0, 1, 46] ztN fun j => ?_
  refine zx hO (i := 0) rfl (off := 8) rfl rfl rfl rfl (Nat.le_of_ble_eq_true rfl) rfl fun σ hO => ?_
  have hO := zt56 hO
  refine zc (zi (zbk hO 3 [] [(0, zt1 V), (1, zt1 t), (53, zt1 V)] ztM fun j => ?_))
  refine zt (T := Ty.str) (l := ([zs8] : List ByteArray)) (cs := [.string zs8]) hO rfl ⟨[.string zs8], _, rfl, rfl, rfl⟩ rfl (by decide) fun _ σ H4 q4 hO => ?_
  have hO := zt57 hO
  obtain ⟨_, f6, b9, hO⟩ := q4.share hO (i := 6) rfl
  have hL := hL.trans f6
  have z := z.le f6
  have g2 := g2.le f6
  have g3 := g3.le f6
  have g4 := g4.le f6
  have hO := zt57 hO
  have hO := hO.sel [0, 1, 5, 6, 2, 3, 4]
  rcases zX hF with ⟨H5, q5, hF⟩ | ⟨H6, q6, hF⟩
  ·refine zY (hs := [_, _, _, _]) hO (zbB g2 g3 g4 b9 q5) ztI rfl fun _ σ _ _ hO i5 q7 => ?_
   have hL := hL.trans i5
   have b9 := b9.le i5
   have z := z.le i5
   obtain ⟨H7, H8, H9, I0, I1, rfl, rfl, i6, i7, i8⟩ := q7
   have hO := zt57 hO
   obtain ⟨_, f7, q8, hO⟩ := z.share hO (i := 2) rfl
   have hL := hL.trans f7
   have b9 := b9.le f7
   have i6 := i6.le f7
   have i7 := i7.le f7
   have i8 := i8.le f7
   have hO := zt57 hO
   cases hF
   have hO := hO.sel [4, 5, 6, 0]
   exact hP _ _ _ _ hO hL ⟨_, _, _, _, _, _, _, _, rfl, rfl, i6, i7, i8, q8, (w.le hL), (o.le hL)⟩
  refine zW (hs := [_, _, _, _]) hO (zbB g2 g3 g4 b9 q6) ztI rfl fun _ σ _ _ hO i9 q9 => ?_
  have hL := hL.trans i9
  have b9 := b9.le i9
  have z := z.le i9
  obtain ⟨I2, I3, I4, I5, I6, rfl, rfl, g5, g6, g7⟩ := q9
  have hO := zt57 hO
  refine zc (zde (zd hO [] [(56, zt1 t)] [0, 1] ztM fun j => ?_))
  refine zde (zd hO [] [(57, zt1 t)] [0, 1, 56] ztN fun j => ?_)
  refine zde (zd hO [] [(58, .pointer (some ⟨t, 8, none⟩))] [0, 1, 56] ztN fun j => ?_)
  refine zde (zd hO [0] [(59, zt7 q2 ([(⟨g.1.Kind, g.1.Num, g.1.Name, g.1.Field, g.1.Op, g.1.Kids⟩ : zb)] : List zb) q3)] [0, 1, 56, 58] (And.intro (And.intro rfl rfl) ztO) fun j => ?_)
  refine zde (zd hO [] [(60, zt1 V)] [0, 1, 56, 58, 59] ztP fun j => ?_)
  refine zde (zd hO [] [(62, zt0 (([(⟨g.1.Kind, g.1.Num, g.1.Name, g.1.Field, g.1.Op, g.1.Kids⟩ : zb)] : List zb).length : Int))] [0, 1, 56, 58, 59, 60] ztQ fun j => ?_)
  refine zln ?_ ?_
  ·refine zc1 (zcj ?_)
   rcases zX hF with ⟨r0, j0, hF⟩ | ⟨h, j1, hF⟩
   ·refine zY (hs := [_, _, _, _]) hO (zb4 g5 g6 g7 j0) ztI rfl fun _ σ _ _ hO c7 j2 => ?_
    have hL := hL.trans c7
    have z := z.le c7
    obtain ⟨r1, r2, r3, r4, r5, rfl, rfl, b5, b6, b7⟩ := j2
    obtain ⟨r6, r7, rfl, -⟩ := b5.form
    obtain ⟨r8, r9, rfl, -⟩ := b6.form
    obtain ⟨t0, t1, rfl, -⟩ := b7.form
    have hO := zt57 hO
    obtain ⟨_, b4, j3, hO⟩ := z.share hO (i := 2) rfl
    have hL := hL.trans b4
    have b5 := b5.le b4
    have b6 := b6.le b4
    have b7 := b7.le b4
    have hO := zt57 hO
    cases hF
    have hO := hO.sel [4, 5, 6, 0]
    exact hP _ _ _ _ hO hL ⟨_, _, _, _, _, _, _, _, rfl, rfl, b5, b6, b7, j3, (w.le hL), (o.le hL)⟩
   refine zW (hs := [_, _, _, _]) hO (zb4 g5 g6 g7 j1) ztI rfl fun _ σ _ _ hO c9 j4 => ?_
   have hL := hL.trans c9
   have z := z.le c9
   obtain ⟨t2, t3, t4, t5, t6, t7, rfl, rfl, E, G, I, M⟩ := j4
   obtain ⟨f8, f9, rfl, -⟩ := E.form
   obtain ⟨t8, t9, rfl, -⟩ := G.form
   obtain ⟨u0, u1, rfl, -⟩ := I.form
   obtain ⟨u2, u3, rfl, -⟩ := M.form
   have hO := zt57 hO
   refine zc (zcg ⟨(zb1 rfl (hO.val (i := 0) (off := 8) (agg := false) (n := 1) rfl rfl) rfl), trivial⟩ ?_)
   refine zc (zc1 (zcj (zt (T := zu) (l := ([(⟨(0 : UInt8), 0, zs3, zs3, zs3, []⟩ : zb)] : List zb)) (cs := [.int .u8 0, .int .i64 0, .string zs3, .string zs3, .string zs3, .slice none 0 0]) hO rfl ⟨[.int .u8 0, .int .i64 0, .string zs3, .string zs3, .string zs3, .slice none 0 0], _, rfl, (zb8 ⟨_, rfl, RdT.nil _ _⟩), rfl⟩ rfl (by decide) fun _ σ u4 Z hO => ?_)))
   obtain ⟨u5, u6, rfl, -⟩ := Z.form
   have hO := zt58 hO
   refine zc (zcg ⟨(zb1 rfl (hO.val (i := 0) (off := 8) (agg := false) (n := 1) rfl rfl) rfl), trivial⟩ ?_)
   refine zc (zc1 ?_)
   obtain ⟨_, X, j5, hO⟩ := Z.share hO (i := 7) rfl
   have hL := hL.trans X
   have z := z.le X
   have E := E.le X
   have G := G.le X
   have I := I.le X
   have M := M.le X
   have hO := zt58 hO
   obtain ⟨_, g8, hF⟩ := zt6 hF
   refine ziO (T := zu) hO z (i := 2) rfl rfl rfl j5 g8 (by decide) fun _ σ u7 b8 hO => ?_
   obtain ⟨u9, v0, rfl, -⟩ := b8.form
   have hO := zt58 hO
   refine zc (zde ?_)
   obtain ⟨v1, c0, hF⟩ := zt6 hF
   refine zd5 (T := zu) hO b8 (i := 2) rfl rfl rfl c0 (by decide) fun a277 _ j6 v2 g0 => ?_
   have j7 := j6
   obtain ⟨v3, rfl, j8⟩ := zbH j7
   obtain ⟨v4, v5, rfl, -⟩ := j8.form
   refine zc (zde (zd hO [] [(66, zt1 t)] [0, 1, 61, 64, 65] ztP fun j => ?_))
   refine zde (zd hO [] [(67, .pointer (some ⟨t, 8, none⟩))] [0, 1, 61, 64, 65] ztP fun j => ?_)
   refine zln ?_ ?_
   ·refine zc1 (ziV (T := zu) (z' := (⟨h.1.Kind, h.1.Num, h.1.Name, h.1.Field, h.1.Op, h.1.Kids⟩ : zb)) (vs := [.int .u8 (h.1.Kind.toNat : Int), .int .i64 h.1.Num, .string h.1.Name, .string h.1.Field, .string h.1.Op, .slice f8 h.1.Kids.length f9]) hO b8 (i := 2) rfl rfl g0 c0 rfl rfl (zb8 ⟨_, rfl, E⟩) fun σ j9 b0 hO => ?_)
    have hO := zt58 hO
    refine zc (zc1 (zx hO (i := 0) rfl (off := 8) rfl rfl rfl rfl (Nat.le_of_ble_eq_true rfl) rfl fun σ hO => ?_))
    have hO := zt58 hO
    refine zc (zi5 (zg (zC (zj (zg ?_)))))
    have k0 : (([(⟨g.1.Kind, g.1.Num, g.1.Name, g.1.Field, g.1.Op, g.1.Kids⟩ : zb)] : List zb) ++ ([(⟨(0 : UInt8), 0, zs3, zs3, zs3, []⟩ : zb)] : List zb)).length = ((([(⟨g.1.Kind, g.1.Num, g.1.Name, g.1.Field, g.1.Op, g.1.Kids⟩ : zb)] : List zb) ++ ([(⟨(0 : UInt8), 0, zs3, zs3, zs3, []⟩ : zb)] : List zb)).set (Int.toNat (([(⟨g.1.Kind, g.1.Num, g.1.Name, g.1.Field, g.1.Op, g.1.Kids⟩ : zb)] : List zb).length : Int)) (⟨h.1.Kind, h.1.Num, h.1.Name, h.1.Field, h.1.Op, h.1.Kids⟩ : zb)).length := b0.len
    obtain ⟨_, B, c1, hO⟩ := b0.share hO (i := 2) rfl
    have hL := hL.trans B
    have E := E.le B
    have G := G.le B
    have I := I.le B
    have M := M.le B
    have hO := zt58 hO
    cases hF
    have hO := hO.sel [4, 5, 6, 0]
    refine (hQ _ _ _ _ _ rfl hO hL ?_).2
    exact ⟨_, _, _, _, _, _, _, _, rfl, rfl, G, I, M, c1, (w.le hL), (o.le hL)⟩
   refine zc1 (zx hO (i := 0) rfl (off := 8) rfl rfl rfl rfl (Nat.le_of_ble_eq_true rfl) rfl fun σ hO => ?_)
   have hO := zt58 hO
   refine zc (zc1 (ziV (T := zu) (z' := (⟨h.1.Kind, h.1.Num, h.1.Name, h.1.Field, h.1.Op, h.1.Kids⟩ : zb)) (vs := [.int .u8 (h.1.Kind.toNat : Int), .int .i64 h.1.Num, .string h.1.Name, .string h.1.Field, .string h.1.Op, .slice f8 h.1.Kids.length f9]) hO b8 (i := 2) rfl rfl g0 c0 rfl rfl (zb8 ⟨_, rfl, E⟩) fun σ j9 b0 hO => ?_))
   have hO := zt58 hO
   refine zc (zi5 (zg (zC (zj (zg ?_)))))
   have k0 : (([(⟨g.1.Kind, g.1.Num, g.1.Name, g.1.Field, g.1.Op, g.1.Kids⟩ : zb)] : List zb) ++ ([(⟨(0 : UInt8), 0, zs3, zs3, zs3, []⟩ : zb)] : List zb)).length = ((([(⟨g.1.Kind, g.1.Num, g.1.Name, g.1.Field, g.1.Op, g.1.Kids⟩ : zb)] : List zb) ++ ([(⟨(0 : UInt8), 0, zs3, zs3, zs3, []⟩ : zb)] : List zb)).set (Int.toNat (([(⟨g.1.Kind, g.1.Num, g.1.Name, g.1.Field, g.1.Op, g.1.Kids⟩ : zb)] : List zb).length : Int)) (⟨h.1.Kind, h.1.Num, h.1.Name, h.1.Field, h.1.Op, h.1.Kids⟩ : zb)).length := b0.len
   obtain ⟨_, B, c1, hO⟩ := b0.share hO (i := 2) rfl
   have hL := hL.trans B
   have E := E.le B
   have G := G.le B
   have I := I.le B
   have M := M.le B
   have hO := zt58 hO
   cases hF
   have hO := hO.sel [4, 5, 6, 0]
   refine (hQ _ _ _ _ _ rfl hO hL ?_).2
   exact ⟨_, _, _, _, _, _, _, _, rfl, rfl, G, I, M, c1, (w.le hL), (o.le hL)⟩
  refine zc1 (zcj (zt (T := zu) (l := ([(⟨(0 : UInt8), 0, zs3, zs3, zs3, []⟩ : zb)] : List zb)) (cs := [.int .u8 0, .int .i64 0, .string zs3, .string zs3, .string zs3, .slice none 0 0]) hO rfl ⟨[.int .u8 0, .int .i64 0, .string zs3, .string zs3, .string zs3, .slice none 0 0], _, rfl, (zb8 ⟨_, rfl, RdT.nil _ _⟩), rfl⟩ rfl (by decide) fun _ σ u4 Z hO => ?_))
  obtain ⟨u5, u6, rfl, -⟩ := Z.form
  have hO := zt58 hO
  refine zc (zcg ⟨(zb1 rfl (hO.val (i := 0) (off := 8) (agg := false) (n := 1) rfl rfl) rfl), trivial⟩ ?_)
  refine zc (zc1 (zcj ?_))
  have hO := hO.sel [0, 1, 2, 3, 7, 4, 5, 6]
  rcases zX hF with ⟨r0, j0, hF⟩ | ⟨h, j1, hF⟩
  ·refine zY (hs := [_, _, _, _, _]) hO (zb4 g5 g6 g7 j0) ztI rfl fun _ σ _ _ hO c7 j2 => ?_
   have hL := hL.trans c7
   have z := z.le c7
   have Z := Z.le c7
   obtain ⟨r1, r2, r3, r4, r5, rfl, rfl, b5, b6, b7⟩ := j2
   obtain ⟨r6, r7, rfl, -⟩ := b5.form
   obtain ⟨r8, r9, rfl, -⟩ := b6.form
   obtain ⟨t0, t1, rfl, -⟩ := b7.form
   have hO := zt58 hO
   obtain ⟨_, b4, j3, hO⟩ := z.share hO (i := 2) rfl
   have hL := hL.trans b4
   have Z := Z.le b4
   have b5 := b5.le b4
   have b6 := b6.le b4
   have b7 := b7.le b4
   have hO := zt58 hO
   cases hF
   have hO := hO.sel [5, 6, 7, 0]
   exact hP _ _ _ _ hO hL ⟨_, _, _, _, _, _, _, _, rfl, rfl, b5, b6, b7, j3, (w.le hL), (o.le hL)⟩
  refine zW (hs := [_, _, _, _, _]) hO (zb4 g5 g6 g7 j1) ztI rfl fun _ σ _ _ hO c9 j4 => ?_
  have hL := hL.trans c9
  have z := z.le c9
  have Z := Z.le c9
  obtain ⟨t2, t3, t4, t5, t6, t7, rfl, rfl, E, G, I, M⟩ := j4
  obtain ⟨f8, f9, rfl, -⟩ := E.form
  obtain ⟨t8, t9, rfl, -⟩ := G.form
  obtain ⟨u0, u1, rfl, -⟩ := I.form
  obtain ⟨u2, u3, rfl, -⟩ := M.form
  have hO := zt58 hO
  refine zc (zcg ⟨(zb1 rfl (hO.val (i := 0) (off := 8) (agg := false) (n := 1) rfl rfl) rfl), trivial⟩ ?_)
  refine zc (zc1 ?_)
  obtain ⟨_, X, j5, hO⟩ := Z.share hO (i := 4) rfl
  have hL := hL.trans X
  have z := z.le X
  have E := E.le X
  have G := G.le X
  have I := I.le X
  have M := M.le X
  have hO := zt58 hO
  obtain ⟨_, g8, hF⟩ := zt6 hF
  refine ziO (T := zu) hO z (i := 2) rfl rfl rfl j5 g8 (by decide) fun _ σ u7 b8 hO => ?_
  obtain ⟨u9, v0, rfl, -⟩ := b8.form
  have hO := zt58 hO
  refine zc (zde ?_)
  obtain ⟨v1, c0, hF⟩ := zt6 hF
  refine zd5 (T := zu) hO b8 (i := 2) rfl rfl rfl c0 (by decide) fun a277 _ j6 v2 g0 => ?_
  have j7 := j6
  obtain ⟨v3, rfl, j8⟩ := zbH j7
  obtain ⟨v4, v5, rfl, -⟩ := j8.form
  refine zc (zde (zd hO [] [(66, zt1 t)] [0, 1, 61, 64, 65] ztP fun j => ?_))
  refine zde (zd hO [] [(67, .pointer (some ⟨t, 8, none⟩))] [0, 1, 61, 64, 65] ztP fun j => ?_)
  refine zln ?_ ?_
  ·refine zc1 (ziV (T := zu) (z' := (⟨h.1.Kind, h.1.Num, h.1.Name, h.1.Field, h.1.Op, h.1.Kids⟩ : zb)) (vs := [.int .u8 (h.1.Kind.toNat : Int), .int .i64 h.1.Num, .string h.1.Name, .string h.1.Field, .string h.1.Op, .slice f8 h.1.Kids.length f9]) hO b8 (i := 2) rfl rfl g0 c0 rfl rfl (zb8 ⟨_, rfl, E⟩) fun σ j9 b0 hO => ?_)
   have hO := zt58 hO
   refine zc (zc1 (zx hO (i := 0) rfl (off := 8) rfl rfl rfl rfl (Nat.le_of_ble_eq_true rfl) rfl fun σ hO => ?_))
   have hO := zt58 hO
   refine zc (zi5 (zg (zC (zj (zg ?_)))))
   have k0 : (([(⟨g.1.Kind, g.1.Num, g.1.Name, g.1.Field, g.1.Op, g.1.Kids⟩ : zb)] : List zb) ++ ([(⟨(0 : UInt8), 0, zs3, zs3, zs3, []⟩ : zb)] : List zb)).length = ((([(⟨g.1.Kind, g.1.Num, g.1.Name, g.1.Field, g.1.Op, g.1.Kids⟩ : zb)] : List zb) ++ ([(⟨(0 : UInt8), 0, zs3, zs3, zs3, []⟩ : zb)] : List zb)).set (Int.toNat (([(⟨g.1.Kind, g.1.Num, g.1.Name, g.1.Field, g.1.Op, g.1.Kids⟩ : zb)] : List zb).length : Int)) (⟨h.1.Kind, h.1.Num, h.1.Name, h.1.Field, h.1.Op, h.1.Kids⟩ : zb)).length := b0.len
   obtain ⟨_, B, c1, hO⟩ := b0.share hO (i := 2) rfl
   have hL := hL.trans B
   have E := E.le B
   have G := G.le B
   have I := I.le B
   have M := M.le B
   have hO := zt58 hO
   cases hF
   have hO := hO.sel [5, 6, 7, 0]
   refine (hQ _ _ _ _ _ rfl hO hL ?_).2
   exact ⟨_, _, _, _, _, _, _, _, rfl, rfl, G, I, M, c1, (w.le hL), (o.le hL)⟩
  refine zc1 (zx hO (i := 0) rfl (off := 8) rfl rfl rfl rfl (Nat.le_of_ble_eq_true rfl) rfl fun σ hO => ?_)
  have hO := zt58 hO
  refine zc (zc1 (ziV (T := zu) (z' := (⟨h.1.Kind, h.1.Num, h.1.Name, h.1.Field, h.1.Op, h.1.Kids⟩ : zb)) (vs := [.int .u8 (h.1.Kind.toNat : Int), .int .i64 h.1.Num, .string h.1.Name, .string h.1.Field, .string h.1.Op, .slice f8 h.1.Kids.length f9]) hO b8 (i := 2) rfl rfl g0 c0 rfl rfl (zb8 ⟨_, rfl, E⟩) fun σ j9 b0 hO => ?_))
  have hO := zt58 hO
  refine zc (zi5 (zg (zC (zj (zg ?_)))))
  have k0 : (([(⟨g.1.Kind, g.1.Num, g.1.Name, g.1.Field, g.1.Op, g.1.Kids⟩ : zb)] : List zb) ++ ([(⟨(0 : UInt8), 0, zs3, zs3, zs3, []⟩ : zb)] : List zb)).length = ((([(⟨g.1.Kind, g.1.Num, g.1.Name, g.1.Field, g.1.Op, g.1.Kids⟩ : zb)] : List zb) ++ ([(⟨(0 : UInt8), 0, zs3, zs3, zs3, []⟩ : zb)] : List zb)).set (Int.toNat (([(⟨g.1.Kind, g.1.Num, g.1.Name, g.1.Field, g.1.Op, g.1.Kids⟩ : zb)] : List zb).length : Int)) (⟨h.1.Kind, h.1.Num, h.1.Name, h.1.Field, h.1.Op, h.1.Kids⟩ : zb)).length := b0.len
  obtain ⟨_, B, c1, hO⟩ := b0.share hO (i := 2) rfl
  have hL := hL.trans B
  have E := E.le B
  have G := G.le B
  have I := I.le B
  have M := M.le B
  have hO := zt58 hO
  cases hF
  have hO := hO.sel [5, 6, 7, 0]
  refine (hQ _ _ _ _ _ rfl hO hL ?_).2
  exact ⟨_, _, _, _, _, _, _, _, rfl, rfl, G, I, M, c1, (w.le hL), (o.le hL)⟩
 refine zi (za hO 3 [] [(71, zt1 V)] [0, 1] ztM fun j => ?_)
 refine zt (T := Ty.str) (l := ([ztv] : List ByteArray)) (cs := [.string ztv]) hO rfl ⟨[.string ztv], _, rfl, rfl, rfl⟩ rfl (by decide) fun _ σ I7 v6 hO => ?_
 have hO := zt56 hO
 obtain ⟨_, g9, k1, hO⟩ := v6.share hO (i := 5) rfl
 have hL := hL.trans g9
 have b1 := b1.le g9
 have b2 := b2.le g9
 have b3 := b3.le g9
 have hO := zt56 hO
 obtain ⟨v7, v8, hF⟩ := zt6 hF
 have hO := hO.sel [0, 4, 5, 1, 2, 3]
 refine zz (hs := [_, _, _]) hO (zb0 b1 b2 b3 k1 v8) rfl fun _ σ _ _ hO l9 v9 => ?_
 have hL := hL.trans l9
 have k1 := k1.le l9
 obtain ⟨I8, I9, J0, J1, J2, rfl, rfl, d0, d4, d5⟩ := v9
 have hO := zt56 hO
 refine zd hO [] [(68, .bool v7.1)] [0, 1] ztM fun j => ?_
 refine zn hF rfl (fun hF => ?_) fun hF => ?_
 ·refine zi (za hO 5 [] [(74, zt1 t), (75, zt1 t), (78, zt1 V)] [0, 1] ztO fun j => ?_)
  rcases zX hF with ⟨J3, w2, hF⟩ | ⟨w3, w4, hF⟩
  ·refine zY (hs := [_, _, _]) hO (zbV d0 d4 d5 w2) ztI rfl fun _ σ _ _ hO w5 w6 => ?_
   have hL := hL.trans w5
   obtain ⟨J4, J5, J6, J7, J8, rfl, rfl, w7, w8, w9⟩ := w6
   have hO := zt56 hO
   cases hF
   have hO := hO.sel [3, 4, 5, 0]
   exact hP _ _ _ _ hO hL ⟨_, _, _, _, _, _, _, _, rfl, rfl, w7, w8, w9, (Y.le hL), (w.le hL), (o.le hL)⟩
  refine zW (hs := [_, _, _]) hO (zbV d0 d4 d5 w4) ztI rfl fun _ σ _ _ hO x0 x1 => ?_
  have hL := hL.trans x0
  obtain ⟨J9, K0, K1, K2, K3, rfl, rfl, h0, h1, h2⟩ := x1
  have hO := zt56 hO
  refine zbk hO 2 [] [(0, zt1 V), (1, zt1 t), (75, zt1 t), (79, .string w3.1), (81, zt1 t)] ztO fun j => ?_
  refine zx hO (i := 0) rfl (off := 0) rfl rfl rfl rfl (Nat.le_of_ble_eq_true rfl) rfl fun σ hO => ?_
  have hO := zt56 hO
  refine za hO 2 [] [(83, .pointer (some ⟨t, 3, none⟩))] [0, 1, 79] ztN fun j => ?_
  refine zx hO (i := 0) rfl (off := 3) rfl rfl rfl rfl (Nat.le_of_ble_eq_true rfl) rfl fun σ hO => ?_
  have hO := zt56 hO
  refine zc (zi (za hO 3 [] [(86, zt1 V)] [0, 1] ztM fun j => ?_))
  refine zt (T := Ty.str) (l := ([zs8] : List ByteArray)) (cs := [.string zs8]) hO rfl ⟨[.string zs8], _, rfl, rfl, rfl⟩ rfl (by decide) fun _ σ K4 x2 hO => ?_
  have hO := zt57 hO
  obtain ⟨_, h3, d6, hO⟩ := x2.share hO (i := 6) rfl
  have hL := hL.trans h3
  have h0 := h0.le h3
  have h1 := h1.le h3
  have h2 := h2.le h3
  have hO := zt57 hO
  have hO := hO.sel [0, 1, 2, 6, 3, 4, 5]
  rcases zX hF with ⟨K5, x3, hF⟩ | ⟨K6, x4, hF⟩
  ·refine zY (hs := [_, _, _, _]) hO (zbB h0 h1 h2 d6 x3) ztI rfl fun _ σ _ _ hO m0 x5 => ?_
   have hL := hL.trans m0
   have d6 := d6.le m0
   obtain ⟨K7, K8, K9, L0, L1, rfl, rfl, x6, x7, x8⟩ := x5
   have hO := zt57 hO
   cases hF
   have hO := hO.sel [4, 5, 6, 0]
   exact hP _ _ _ _ hO hL ⟨_, _, _, _, _, _, _, _, rfl, rfl, x6, x7, x8, (Y.le hL), (w.le hL), (o.le hL)⟩
  refine zW (hs := [_, _, _, _]) hO (zbB h0 h1 h2 d6 x4) ztI rfl fun _ σ _ _ hO m1 x9 => ?_
  have hL := hL.trans m1
  have d6 := d6.le m1
  obtain ⟨L2, L3, L4, L5, L6, rfl, rfl, m2, m3, m4⟩ := x9
  have hO := zt57 hO
  refine zc (za hO 2 [] [(89, zt1 t), (90, zt1 V)] [0, 1] ztN fun j => ?_)
  rcases zX hF with ⟨L7, y0, hF⟩ | ⟨U, y1, hF⟩
  ·refine zY (hs := [_, _, _, _]) hO (zb4 m2 m3 m4 y0) ztI rfl fun _ σ _ _ hO y2 y3 => ?_
   have hL := hL.trans y2
   obtain ⟨L8, L9, M0, M1, M2, rfl, rfl, y4, m5, m6⟩ := y3
   obtain ⟨M3, M4, rfl, -⟩ := m5.form
   obtain ⟨M5, M6, rfl, -⟩ := m6.form
   have hO := zt57 hO
   cases hF
   have hO := hO.sel [4, 5, 6, 0]
   exact hP _ _ _ _ hO hL ⟨_, _, _, _, _, _, _, _, rfl, rfl, y4, m5, m6, (Y.le hL), (w.le hL), (o.le hL)⟩
  refine zW (hs := [_, _, _, _]) hO (zb4 m2 m3 m4 y1) ztI rfl fun _ σ _ _ hO y5 y6 => ?_
  have hL := hL.trans y5
  obtain ⟨M7, M8, M9, N0, N1, N2, rfl, rfl, m7, h7, h8, i0⟩ := y6
  obtain ⟨m8, m9, rfl, -⟩ := m7.form
  obtain ⟨N3, N4, rfl, -⟩ := h7.form
  obtain ⟨N5, N6, rfl, -⟩ := h8.form
  obtain ⟨N7, N8, rfl, -⟩ := i0.form
  have hO := zt57 hO
  refine zt (T := zu) (l := ([(⟨U.1.Kind, U.1.Num, U.1.Name, U.1.Field, U.1.Op, U.1.Kids⟩ : zb)] : List zb)) (cs := [.int .u8 (U.1.Kind.toNat : Int), .int .i64 U.1.Num, .string U.1.Name, .string U.1.Field, .string U.1.Op, zt7 m8 U.1.Kids m9]) hO rfl ⟨[.int .u8 (U.1.Kind.toNat : Int), .int .i64 U.1.Num, .string U.1.Name, .string U.1.Field, .string U.1.Op, zt7 m8 U.1.Kids m9], _, rfl, (zb8 ⟨_, rfl, m7⟩), rfl⟩ rfl (by decide) fun _ σ N9 n0 hO => ?_
  obtain ⟨O0, O1, rfl, -⟩ := n0.form
  have hO := zt58 hO
  refine za hO 2 [] [(94, .pointer (some ⟨t, 8, none⟩))] [0, 1, 92] ztN fun j => ?_
  refine zx hO (i := 0) rfl (off := 8) rfl rfl rfl rfl (Nat.le_of_ble_eq_true rfl) rfl fun σ hO => ?_
  have hO := zt58 hO
  refine zc (zg (zC (zj (zg ?_))))
  obtain ⟨_, i1, y7, hO⟩ := n0.share hO (i := 7) rfl
  have hL := hL.trans i1
  have h7 := h7.le i1
  have h8 := h8.le i1
  have i0 := i0.le i1
  have hO := zt58 hO
  cases hF
  have hO := hO.sel [4, 5, 6, 0]
  refine (hQ _ _ _ _ _ rfl hO hL ?_).2
  exact ⟨_, _, _, _, _, _, _, _, rfl, rfl, h7, h8, i0, y7, (w.le hL), (o.le hL)⟩
 refine zi (za hO 3 [] [(30, zt1 V)] [0, 1] ztM fun j => ?_)
 refine zt (T := Ty.str) (l := ([zs8] : List ByteArray)) (cs := [.string zs8]) hO rfl ⟨[.string zs8], _, rfl, rfl, rfl⟩ rfl (by decide) fun _ σ O2 y8 hO => ?_
 have hO := zt57 hO
 obtain ⟨_, i2, d7, hO⟩ := y8.share hO (i := 6) rfl
 have hL := hL.trans i2
 have d0 := d0.le i2
 have d4 := d4.le i2
 have d5 := d5.le i2
 have hO := zt57 hO
 have hO := hO.sel [0, 1, 2, 6, 3, 4, 5]
 rcases zX hF with ⟨O3, y9, hF⟩ | ⟨O4, A0, hF⟩
 ·refine zY (hs := [_, _, _, _]) hO (zbB d0 d4 d5 d7 y9) ztI rfl fun _ σ _ _ hO n1 A1 => ?_
  have hL := hL.trans n1
  have d7 := d7.le n1
  obtain ⟨O5, O6, O7, O8, O9, rfl, rfl, A2, A3, A4⟩ := A1
  have hO := zt57 hO
  cases hF
  have hO := hO.sel [4, 5, 6, 0]
  exact hP _ _ _ _ hO hL ⟨_, _, _, _, _, _, _, _, rfl, rfl, A2, A3, A4, (Y.le hL), (w.le hL), (o.le hL)⟩
 refine zW (hs := [_, _, _, _]) hO (zbB d0 d4 d5 d7 A0) ztI rfl fun _ σ _ _ hO n2 A5 => ?_
 have hL := hL.trans n2
 have d7 := d7.le n2
 obtain ⟨P0, P1, P2, P3, P4, rfl, rfl, n3, n4, n5⟩ := A5
 have hO := zt57 hO
 refine zc (zbk hO 2 [] [(0, zt1 V), (1, zt1 t), (33, zt1 V), (34, zt1 t)] ztN fun j => ?_)
 have hO := hO.sel [1, 2, 3, 4, 5, 6, 0]
 rcases zX hF with ⟨P5, A6, hF⟩ | ⟨P6, A7, hF⟩
 ·refine zY (hs := [_, _, _]) hO (zno (q1 := (⟨q1.Kind, q1.Line, o2.1, q1.Field, q1.Call, (⟨q1.Type_.Kind, q1.Type_.N, q1.Type_.Name⟩ : zR), q1.Kids, q1.Body, q1.Else⟩ : zh)) n3 n4 n5 (Y.le hL) (w.le hL) (o.le hL) A6) ztI rfl fun _ σ _ _ hO A8 A9 => ?_
  have hL := hL.trans A8
  obtain ⟨P7, P8, P9, Q0, Q1, Q2, Q3, Q4, rfl, rfl, B0, B1, B2, B3, B4, B5⟩ := A9
  have hO := zt57 hO
  cases hF
  have hO := hO.sel [3, 4, 5, 6]
  exact hP _ _ _ _ hO hL ⟨_, _, _, _, _, _, _, _, rfl, rfl, B0, B1, B2, B3, B4, B5⟩
 refine zW (hs := [_, _, _]) hO (zno (q1 := (⟨q1.Kind, q1.Line, o2.1, q1.Field, q1.Call, (⟨q1.Type_.Kind, q1.Type_.N, q1.Type_.Name⟩ : zR), q1.Kids, q1.Body, q1.Else⟩ : zh)) n3 n4 n5 (Y.le hL) (w.le hL) (o.le hL) A7) ztI rfl fun _ σ _ _ hO B6 B7 => ?_
 have hL := hL.trans B6
 obtain ⟨Q5, Q6, Q7, Q8, Q9, R0, R1, R2, rfl, rfl, B8, B9, C0, C1, C2, C3⟩ := B7
 have hO := zt57 hO
 refine zc (zg (zC (zj (zg ?_))))
 cases hF
 have hO := hO.sel [3, 4, 5, 6]
 refine (hQ _ _ _ _ _ rfl hO hL ?_).2
 exact ⟨_, _, _, _, _, _, _, _, rfl, rfl, B8, B9, C0, C1, C2, C3⟩
theorem znu {τ : Hp} {q0 : zf} {o : Nat} {b1 b2 : Value} {b3 : Ob} {b4 : Value} {b5 : Ob} {q1 : zh} {V : Nat} {m0 m1 i5 : Value} (g1 : RdT zm τ b1 q0.cursor.tokens) (g2 : ze zs 71 τ b2 q0.prog.Structs b3) (g3 : ze zr 50 τ b4 q0.prog.Funcs b5) (X : RdT zu τ m0 q1.Kids) (I : RdT zy τ m1 q1.Body) (t : RdT zy τ i5 q1.Else) {rr : Except (Value × zf × zh) (zf × zh)} (hF : zhZ q0 q1 = some rr) :
  zbK Try.prog 84 #[.pointer (some ⟨o, 0, none⟩), .pointer (some ⟨V, 0, none⟩)] τ [zE o b1 q0.cursor.at_ b2 b4, b3, b5, zby V q1.Kind.toNat q1.Line q1.Name q1.Field q1.Call q1.Type_.Kind.toNat q1.Type_.N q1.Type_.Name m0 m1 i5] (fun v τ' vs' => match (generalizing := false) rr with | .ok rr => ∃ (w z : Value) (B : Ob) (E : Value) (G : Ob) (d4 d5 c8 : Value), v = .tuple #[] ∧ vs' = [zE o w rr.1.cursor.at_ z E, B, G, zby V rr.2.Kind.toNat rr.2.Line rr.2.Name rr.2.Field rr.2.Call rr.2.Type_.Kind.toNat rr.2.Type_.N rr.2.Type_.Name d4 d5 c8] ∧ RdT zm τ' w rr.1.cursor.tokens ∧ ze zs 71 τ' z rr.1.prog.Structs B ∧ ze zr 50 τ' E rr.1.prog.Funcs G ∧ RdT zu τ' d4 rr.2.Kids ∧ RdT zy τ' d5 rr.2.Body ∧ RdT zy τ' c8 rr.2.Else | .error _ => False) (fun ch τ' vs' => match (generalizing := false) rr with | .ok _ => False | .error ee => ∃ (w z : Value) (B : Ob) (E : Value) (G : Ob) (d4 d5 c8 : Value), ch = [{ v := ee.1, recovered := false }] ∧ vs' = [zE o w ee.2.1.cursor.at_ z E, B, G, zby V ee.2.2.Kind.toNat ee.2.2.Line ee.2.2.Name ee.2.2.Field ee.2.2.Call ee.2.2.Type_.Kind.toNat ee.2.2.Type_.N ee.2.2.Type_.Name d4 d5 c8] ∧ RdT zm τ' w ee.2.1.cursor.tokens ∧ ze zs 71 τ' z ee.2.1.prog.Structs B ∧ ze zr 50 τ' E ee.2.1.prog.Funcs G ∧ RdT zu τ' d4 ee.2.2.Kids ∧ RdT zy τ' d5 ee.2.2.Body ∧ RdT zy τ' c8 ee.2.2.Else) := by
 obtain ⟨p5, p6, rfl, -⟩ := X.form
 obtain ⟨g4, g5, rfl, -⟩ := I.form
 obtain ⟨d6, d7, rfl, -⟩ := t.form
 refine zcA (args := [.pointer (some ⟨o, 0, none⟩), .pointer (some ⟨V, 0, none⟩)]) hm Try.func84 s84 rfl fun w0 σ hP hO Q hQ => ?_
 unfold zhZ at hF
 have hL := Hp.le.refl τ
 show wpn _ _ a84.body _ _ _
 unfold a84
 dsimp only
 refine zfo (fun e' σ' => ∃ (i6 : Option Addr) (i7 : Nat) (c1 : List zl) (d8 : Int) (i8 : Option Addr) (i9 : Nat) (j0 : Ob) (c2 : List zq) (j1 : Option Addr) (j2 : Nat) (j3 : Ob) (c3 : List zo) (j4 : UInt8) (j5 : Int) (j6 j7 j8 : ByteArray) (j9 : UInt8) (k0 : Int) (k1 : ByteArray) (k4 : Option Addr) (k5 : Nat) (d9 : List zb) (k6 : Option Addr) (k7 : Nat) (f0 : List zh) (k8 : Option Addr) (l0 : Nat) (f1 : List zh) (τ' : Hp), agr [(0, zt1 o), (1, zt1 V)] e' ∧ Obs τ' σ' [zE o (zt7 i6 c1 i7) d8 (zt7 i8 c2 i9) (zt7 j1 c3 j2), j0, j3, zby V (j4.toNat : Int) j5 j6 j7 j8 (j9.toNat : Int) k0 k1 (zt7 k4 d9 k5) (zt7 k6 f0 k7) (zt7 k8 f1 l0)] ∧ Hp.le τ τ' ∧ RdT zm τ' (zt7 i6 c1 i7) c1 ∧ ze zs 71 τ' (zt7 i8 c2 i9) c2 j0 ∧ ze zr 50 τ' (zt7 j1 c3 j2) c3 j3 ∧ RdT zu τ' (zt7 k4 d9 k5) d9 ∧ RdT zy τ' (zt7 k6 f0 k7) f0 ∧ RdT zy τ' (zt7 k8 f1 l0) f1 ∧ zey c1 d8 c2 c3 j4 j5 j6 j7 j8 j9 k0 k1 d9 f0 f1 = some rr) ?_ ?_
 ·refine za hO 3 [] [(10, zt1 o)] [0, 1] ztM fun j => ?_
  refine zt (T := Ty.str) (l := ([ztn] : List ByteArray)) (cs := [.string ztn]) hO rfl ⟨[.string ztn], _, rfl, rfl, rfl⟩ rfl (by decide) fun _ σ G7 p7 hO => ?_
  have hO := zt55 hO
  obtain ⟨_, p8, l1, hO⟩ := p7.share hO (i := 4) rfl
  have hL := hL.trans p8
  have hO := zt55 hO
  obtain ⟨p9, q2, hF⟩ := zt6 hF
  have hO := hO.sel [3, 4, 0, 1, 2]
  refine zz (hs := [_, _]) hO (zb0 (g1.le hL) (g2.le hL) (g3.le hL) l1 q2) rfl fun _ σ _ _ hO m3 q3 => ?_
  have hL := hL.trans m3
  have l1 := l1.le m3
  obtain ⟨G8, G9, H0, H1, H2, rfl, rfl, f2, f3, f4⟩ := q3
  have hO := zt55 hO
  refine zd hO [] [(7, .bool p9.1)] [0, 1] ztM fun j => ?_
  refine zbm (zn hF rfl (fun hF => ?_) fun hF => ?_)
  ·refine za hO 2 [] [(13, zt1 o), (14, zt1 V)] [0, 1] ztN fun j => ?_
   have hO := hO.sel [1, 2, 3, 4, 0]
   rcases zX hF with ⟨H3, q4, hF⟩ | ⟨M, q5, hF⟩
   ·refine zY (hs := [_]) hO (zm6 f2 f3 f4 (X.le hL) (I.le hL) (t.le hL) q4) ztI rfl fun _ σ _ _ hO q6 q7 => ?_
    have hL := hL.trans q6
    obtain ⟨H4, H5, H6, H7, H8, H9, I0, I1, rfl, rfl, q8, q9, r0, r1, r2, r3⟩ := q7
    have hO := zt55 hO
    cases hF
    have hO := hO.sel [1, 2, 3, 4]
    exact hP _ _ _ _ hO hL ⟨_, _, _, _, _, _, _, _, rfl, rfl, q8, q9, r0, r1, r2, r3⟩
   refine zW (hs := [_]) hO (zm6 f2 f3 f4 (X.le hL) (I.le hL) (t.le hL) q5) ztI rfl fun _ σ _ _ hO r4 r5 => ?_
   have hL := hL.trans r4
   obtain ⟨I2, I3, r6, I4, r7, I5, I6, I7, rfl, rfl, m4, m5, m6, m7, m8, m9⟩ := r5
   obtain ⟨r8, r9, rfl, -⟩ := m4.form
   obtain ⟨t0, t1, rfl, -⟩ := m5.form
   obtain ⟨t2, t3, rfl, -⟩ := m6.form
   obtain ⟨t4, t5, rfl, -⟩ := m7.form
   obtain ⟨t6, t7, rfl, -⟩ := m8.form
   obtain ⟨t8, t9, rfl, -⟩ := m9.form
   have hO := zt55 hO
   refine zc (zg (zC (zj ?_)))
   have hO := hO.sel [1, 2, 3, 4]
   exact ⟨r8, r9, M.1.cursor.tokens, M.1.cursor.at_, t0, t1, r6, M.1.prog.Structs, t2, t3, r7, M.1.prog.Funcs, M.2.Kind, M.2.Line, M.2.Name, M.2.Field, M.2.Call, M.2.Type_.Kind, M.2.Type_.N, M.2.Type_.Name, t4, t5, M.2.Kids, t6, t7, M.2.Body, t8, t9, M.2.Else, _, ztZ ztK, hO, hL, m4, m5, m6, m7, m8, m9, hF⟩
  refine zi (za hO 3 [] [(19, zt1 o)] [0, 1] ztM fun j => ?_)
  refine zt (T := Ty.str) (l := ([ztg] : List ByteArray)) (cs := [.string ztg]) hO rfl ⟨[.string ztg], _, rfl, rfl, rfl⟩ rfl (by decide) fun _ σ I8 u0 hO => ?_
  have hO := zt56 hO
  obtain ⟨_, g6, l2, hO⟩ := u0.share hO (i := 5) rfl
  have hL := hL.trans g6
  have f2 := f2.le g6
  have f3 := f3.le g6
  have f4 := f4.le g6
  have hO := zt56 hO
  obtain ⟨u1, u2, hF⟩ := zt6 hF
  have hO := hO.sel [0, 1, 5, 2, 3, 4]
  refine zz (hs := [_, _, _]) hO (zb0 f2 f3 f4 l2 u2) rfl fun _ σ _ _ hO n0 u3 => ?_
  have hL := hL.trans n0
  have l2 := l2.le n0
  obtain ⟨I9, J0, J1, J2, J3, rfl, rfl, c4, c5, c6⟩ := u3
  have hO := zt56 hO
  refine zd hO [] [(16, .bool u1.1)] [0, 1] ztM fun j => ?_
  refine zn hF rfl (fun hF => ?_) fun hF => ?_
  ·refine zi (za hO 3 [] [(24, zt1 o)] [0, 1] ztM fun j => ?_)
   refine zt (T := Ty.str) (l := ([zs5] : List ByteArray)) (cs := [.string zs5]) hO rfl ⟨[.string zs5], _, rfl, rfl, rfl⟩ rfl (by decide) fun _ σ J4 u4 hO => ?_
   have hO := zt57 hO
   obtain ⟨_, g7, c9, hO⟩ := u4.share hO (i := 6) rfl
   have hL := hL.trans g7
   have c4 := c4.le g7
   have c5 := c5.le g7
   have c6 := c6.le g7
   have hO := zt57 hO
   have hO := hO.sel [0, 1, 2, 6, 3, 4, 5]
   rcases zX hF with ⟨J5, u5, hF⟩ | ⟨J6, u6, hF⟩
   ·refine zY (hs := [_, _, _, _]) hO (zbB c4 c5 c6 c9 u5) ztI rfl fun _ σ _ _ hO n1 u7 => ?_
    have hL := hL.trans n1
    have c9 := c9.le n1
    obtain ⟨J7, J8, J9, K0, K1, rfl, rfl, u9, v1, v2⟩ := u7
    have hO := zt57 hO
    cases hF
    have hO := hO.sel [4, 5, 6, 0]
    exact hP _ _ _ _ hO hL ⟨_, _, _, _, _, _, _, _, rfl, rfl, u9, v1, v2, (X.le hL), (I.le hL), (t.le hL)⟩
   refine zW (hs := [_, _, _, _]) hO (zbB c4 c5 c6 c9 u6) ztI rfl fun _ σ _ _ hO n2 v3 => ?_
   have hL := hL.trans n2
   have c9 := c9.le n2
   obtain ⟨K2, K3, K4, K5, K6, rfl, rfl, n3, n4, n5⟩ := v3
   have hO := zt57 hO
   refine zc (zi (za hO 3 [] [(27, zt1 V), (28, zt1 V), (29, zt1 o)] [0, 1] ztO fun j => ?_))
   rcases zX hF with ⟨K7, v4, hF⟩ | ⟨h, v5, hF⟩
   ·refine zY (hs := [_, _, _, _]) hO (zb4 n3 n4 n5 v4) ztI rfl fun _ σ _ _ hO v6 v7 => ?_
    have hL := hL.trans v6
    obtain ⟨K8, K9, L0, L1, L2, rfl, rfl, v8, v9, w2⟩ := v7
    have hO := zt57 hO
    cases hF
    have hO := hO.sel [4, 5, 6, 0]
    exact hP _ _ _ _ hO hL ⟨_, _, _, _, _, _, _, _, rfl, rfl, v8, v9, w2, (X.le hL), (I.le hL), (t.le hL)⟩
   refine zW (hs := [_, _, _, _]) hO (zb4 n3 n4 n5 v5) ztI rfl fun _ σ _ _ hO w3 w4 => ?_
   have hL := hL.trans w3
   obtain ⟨L3, L4, L5, L6, L7, L8, rfl, rfl, n6, g8, g9, h0⟩ := w4
   obtain ⟨n7, n8, rfl, -⟩ := n6.form
   have hO := zt57 hO
   refine zt (T := zu) (l := ([(⟨h.1.Kind, h.1.Num, h.1.Name, h.1.Field, h.1.Op, h.1.Kids⟩ : zb)] : List zb)) (cs := [.int .u8 (h.1.Kind.toNat : Int), .int .i64 h.1.Num, .string h.1.Name, .string h.1.Field, .string h.1.Op, zt7 n7 h.1.Kids n8]) hO rfl ⟨[.int .u8 (h.1.Kind.toNat : Int), .int .i64 h.1.Num, .string h.1.Name, .string h.1.Field, .string h.1.Op, zt7 n7 h.1.Kids n8], _, rfl, (zb8 ⟨_, rfl, n6⟩), rfl⟩ rfl (by decide) fun _ σ L9 b6 hO => ?_
   obtain ⟨w5, w6, rfl, -⟩ := b6.form
   have hO := zt58 hO
   refine za hO 2 [] [(33, zt1 V)] [0, 1, 28, 31] ztO fun j => ?_
   refine zx hO (i := 0) rfl (off := 0) rfl rfl rfl rfl (Nat.le_of_ble_eq_true rfl) rfl fun σ hO => ?_
   have hO := zt58 hO
   refine za hO 2 [] [(35, .pointer (some ⟨V, 8, none⟩))] [0, 1, 31] ztN fun j => ?_
   refine zx hO (i := 0) rfl (off := 8) rfl rfl rfl rfl (Nat.le_of_ble_eq_true rfl) rfl fun σ hO => ?_
   have hO := zt58 hO
   refine zc (zbk hO 3 [] [(0, zt1 o), (1, zt1 V), (38, zt1 o)] ztM fun j => ?_)
   refine zt (T := Ty.str) (l := ([zs4] : List ByteArray)) (cs := [.string zs4]) hO rfl ⟨[.string zs4], _, rfl, rfl, rfl⟩ rfl (by decide) fun _ σ M0 w7 hO => ?_
   have hO := zt59 hO
   obtain ⟨_, f5, b7, hO⟩ := w7.share hO (i := 8) rfl
   have hL := hL.trans f5
   have b6 := b6.le f5
   have g8 := g8.le f5
   have g9 := g9.le f5
   have h0 := h0.le f5
   have hO := zt59 hO
   have hO := hO.sel [0, 1, 2, 3, 7, 8, 4, 5, 6]
   rcases zX hF with ⟨M1, w8, hF⟩ | ⟨h1, w9, hF⟩
   ·refine zY (hs := [_, _, _, _, _, _]) hO (zbB g8 g9 h0 b7 w8) ztI rfl fun _ σ _ _ hO l3 x0 => ?_
    have hL := hL.trans l3
    have b7 := b7.le l3
    have b6 := b6.le l3
    obtain ⟨M2, M3, M4, M5, M6, rfl, rfl, l4, l5, l6⟩ := x0
    have hO := zt59 hO
    obtain ⟨_, f6, x1, hO⟩ := b6.share hO (i := 4) rfl
    have hL := hL.trans f6
    have b7 := b7.le f6
    have l4 := l4.le f6
    have l5 := l5.le f6
    have l6 := l6.le f6
    have hO := zt59 hO
    cases hF
    have hO := hO.sel [6, 7, 8, 0]
    exact hP _ _ _ _ hO hL ⟨_, _, _, _, _, _, _, _, rfl, rfl, l4, l5, l6, x1, (I.le hL), (t.le hL)⟩
   refine zW (hs := [_, _, _, _, _, _]) hO (zbB g8 g9 h0 b7 w9) ztI rfl fun _ σ _ _ hO l7 x2 => ?_
   have hL := hL.trans l7
   have b7 := b7.le l7
   have b6 := b6.le l7
   obtain ⟨M7, M8, x3, M9, x4, rfl, rfl, h2, h3, h4⟩ := x2
   obtain ⟨x5, x6, rfl, -⟩ := h2.form
   obtain ⟨x7, x8, rfl, -⟩ := h3.form
   obtain ⟨x9, y0, rfl, -⟩ := h4.form
   have hO := zt59 hO
   refine zc (zg (zC (zj ?_)))
   obtain ⟨_, h5, y1, hO⟩ := b6.share hO (i := 4) rfl
   have hL := hL.trans h5
   have h2 := h2.le h5
   have h3 := h3.le h5
   have h4 := h4.le h5
   have hO := zt59 hO
   have hO := hO.sel [6, 7, 8, 0]
   exact ⟨x5, x6, h1.cursor.tokens, h1.cursor.at_, x7, x8, x3, h1.prog.Structs, x9, y0, x4, h1.prog.Funcs, (8 : UInt8), q1.Line, q1.Name, q1.Field, q1.Call, q1.Type_.Kind, q1.Type_.N, q1.Type_.Name, w5, w6, ([(⟨h.1.Kind, h.1.Num, h.1.Name, h.1.Field, h.1.Op, h.1.Kids⟩ : zb)] : List zb), g4, g5, q1.Body, d6, d7, q1.Else, _, ztZ ztK, hO, hL, h2, h3, h4, y1, (I.le hL), (t.le hL), hF⟩
  refine zi (za hO 3 [] [(44, zt1 o)] [0, 1] ztM fun j => ?_)
  refine zt (T := Ty.str) (l := ([zs9] : List ByteArray)) (cs := [.string zs9]) hO rfl ⟨[.string zs9], _, rfl, rfl, rfl⟩ rfl (by decide) fun _ σ N0 y2 hO => ?_
  have hO := zt57 hO
  obtain ⟨_, h6, l8, hO⟩ := y2.share hO (i := 6) rfl
  have hL := hL.trans h6
  have c4 := c4.le h6
  have c5 := c5.le h6
  have c6 := c6.le h6
  have hO := zt57 hO
  obtain ⟨f7, y3, hF⟩ := zt6 hF
  have hO := hO.sel [0, 1, 2, 6, 3, 4, 5]
  refine zz (hs := [_, _, _, _]) hO (zb0 c4 c5 c6 l8 y3) rfl fun _ σ _ _ hO n9 y4 => ?_
  have hL := hL.trans n9
  have l8 := l8.le n9
  obtain ⟨N1, N2, y5, N3, y6, rfl, rfl, Y, Z, b0⟩ := y4
  obtain ⟨y7, y8, rfl, -⟩ := Y.form
  obtain ⟨y9, A0, rfl, -⟩ := Z.form
  obtain ⟨A1, A2, rfl, -⟩ := b0.form
  have hO := zt57 hO
  refine zd hO [] [(41, .bool f7.1)] [0, 1] ztM fun j => ?_
  refine zn hF rfl (fun hF => ?_) fun hF => ?_
  ·refine zi (za hO 3 [] [(49, zt1 V)] [0, 1] ztM fun j => ?_)
   refine zx hO (i := 0) rfl (off := 0) rfl rfl rfl rfl (Nat.le_of_ble_eq_true rfl) rfl fun σ hO => ?_
   have hO := zt57 hO
   refine zc (zi (za hO 3 [] [(52, zt1 o)] [0, 1] ztM fun j => ?_))
   refine zt (T := Ty.str) (l := ([zta] : List ByteArray)) (cs := [.string zta]) hO rfl ⟨[.string zta], _, rfl, rfl, rfl⟩ rfl (by decide) fun _ σ N4 A3 hO => ?_
   have hO := zt58 hO
   obtain ⟨_, h7, l9, hO⟩ := A3.share hO (i := 7) rfl
   have hL := hL.trans h7
   have Y := Y.le h7
   have Z := Z.le h7
   have b0 := b0.le h7
   have hO := zt58 hO
   obtain ⟨A4, A5, hF⟩ := zt6 hF
   have hO := hO.sel [0, 1, 2, 3, 7, 4, 5, 6]
   refine zz (hs := [_, _, _, _, _]) hO (zdS Y Z b0 l9 A5) rfl fun _ σ _ _ hO f8 A6 => ?_
   have hL := hL.trans f8
   have l9 := l9.le f8
   have Y := Y.le f8
   have Z := Z.le f8
   have b0 := b0.le f8
   obtain ⟨rfl, rfl⟩ := A6
   have hO := zt58 hO
   have hO := hO.sel [0, 1, 2, 3, 5, 6, 7, 4]
   have hO := zt58 hO
   refine zU hO [] [(0, zt1 o), (1, zt1 V), (55, .bool (!A4))] ztM fun j => ?_
   refine zn hF rfl (fun hF => ?_) fun hF => ?_
   ·refine za hO 2 [] [(56, zt1 V), (57, zt1 o)] [0, 1] ztN fun j => ?_
    have hO := hO.sel [0, 1, 2, 3, 7, 4, 5, 6]
    rcases zX hF with ⟨N5, A7, hF⟩ | ⟨g, A8, hF⟩
    ·refine zY (hs := [_, _, _, _, _]) hO (zb4 Y Z b0 A7) ztI rfl fun _ σ _ _ hO A9 B0 => ?_
     have hL := hL.trans A9
     obtain ⟨N6, N7, N8, N9, O0, rfl, rfl, B1, B2, B3⟩ := B0
     have hO := zt58 hO
     cases hF
     have hO := hO.sel [5, 6, 7, 0]
     exact hP _ _ _ _ hO hL ⟨_, _, _, _, _, _, _, _, rfl, rfl, B1, B2, B3, (X.le hL), (I.le hL), (t.le hL)⟩
    refine zW (hs := [_, _, _, _, _]) hO (zb4 Y Z b0 A8) ztI rfl fun _ σ _ _ hO B4 B5 => ?_
    have hL := hL.trans B4
    obtain ⟨O1, O2, O3, B6, O4, B7, rfl, rfl, o1, h8, h9, i0⟩ := B5
    obtain ⟨o2, o3, rfl, -⟩ := o1.form
    obtain ⟨B8, B9, rfl, -⟩ := h8.form
    obtain ⟨C0, C1, rfl, -⟩ := h9.form
    obtain ⟨C2, C3, rfl, -⟩ := i0.form
    have hO := zt58 hO
    refine zt (T := zu) (l := ([(⟨g.1.Kind, g.1.Num, g.1.Name, g.1.Field, g.1.Op, g.1.Kids⟩ : zb)] : List zb)) (cs := [.int .u8 (g.1.Kind.toNat : Int), .int .i64 g.1.Num, .string g.1.Name, .string g.1.Field, .string g.1.Op, zt7 o2 g.1.Kids o3]) hO rfl ⟨[.int .u8 (g.1.Kind.toNat : Int), .int .i64 g.1.Num, .string g.1.Name, .string g.1.Field, .string g.1.Op, zt7 o2 g.1.Kids o3], _, rfl, (zb8 ⟨_, rfl, o1⟩), rfl⟩ rfl (by decide) fun _ σ O5 o4 hO => ?_
    obtain ⟨C4, C5, rfl, -⟩ := o4.form
    have hO := zt59 hO
    refine za hO 2 [] [(61, .pointer (some ⟨V, 8, none⟩))] [0, 1, 59] ztN fun j => ?_
    refine zx hO (i := 0) rfl (off := 8) rfl rfl rfl rfl (Nat.le_of_ble_eq_true rfl) rfl fun σ hO => ?_
    have hO := zt59 hO
    refine zc (zg (zC (zj ?_)))
    obtain ⟨_, i1, C6, hO⟩ := o4.share hO (i := 8) rfl
    have hL := hL.trans i1
    have h8 := h8.le i1
    have h9 := h9.le i1
    have i0 := i0.le i1
    have hO := zt59 hO
    have hO := hO.sel [5, 6, 7, 0]
    exact ⟨B8, B9, g.2.cursor.tokens, g.2.cursor.at_, C0, C1, B6, g.2.prog.Structs, C2, C3, B7, g.2.prog.Funcs, (10 : UInt8), q1.Line, q1.Name, q1.Field, q1.Call, q1.Type_.Kind, q1.Type_.N, q1.Type_.Name, C4, C5, ([(⟨g.1.Kind, g.1.Num, g.1.Name, g.1.Field, g.1.Op, g.1.Kids⟩ : zb)] : List zb), g4, g5, q1.Body, d6, d7, q1.Else, _, ztZ ztK, hO, hL, h8, h9, i0, C6, (I.le hL), (t.le hL), hF⟩
   refine zA (zg (zC (zj ?_)))
   have hO := hO.sel [4, 5, 6, 0]
   exact ⟨y7, y8, f7.2.cursor.tokens, f7.2.cursor.at_, y9, A0, y5, f7.2.prog.Structs, A1, A2, y6, f7.2.prog.Funcs, (10 : UInt8), q1.Line, q1.Name, q1.Field, q1.Call, q1.Type_.Kind, q1.Type_.N, q1.Type_.Name, p5, p6, q1.Kids, g4, g5, q1.Body, d6, d7, q1.Else, _, ztZ ztK, hO, hL, Y, Z, b0, (X.le hL), (I.le hL), (t.le hL), hF⟩
  refine za hO 2 [] [(4, zt1 o), (5, zt1 V)] [0, 1] ztN fun j => ?_
  have hO := hO.sel [1, 2, 3, 4, 5, 6, 0]
  rcases zX hF with ⟨O6, C7, hF⟩ | ⟨U, C8, hF⟩
  ·refine zY (hs := [_, _, _]) hO (zlQ Y Z b0 (X.le hL) (I.le hL) (t.le hL) C7) ztI rfl fun _ σ _ _ hO C9 D0 => ?_
   have hL := hL.trans C9
   obtain ⟨O7, O8, O9, P0, P1, P2, P3, P4, rfl, rfl, D1, D2, D3, D4, D5, D6⟩ := D0
   have hO := zt57 hO
   cases hF
   have hO := hO.sel [3, 4, 5, 6]
   exact hP _ _ _ _ hO hL ⟨_, _, _, _, _, _, _, _, rfl, rfl, D1, D2, D3, D4, D5, D6⟩
  refine zW (hs := [_, _, _]) hO (zlQ Y Z b0 (X.le hL) (I.le hL) (t.le hL) C8) ztI rfl fun _ σ _ _ hO D7 D8 => ?_
  have hL := hL.trans D7
  obtain ⟨P5, P6, D9, P7, E1, P8, P9, Q0, rfl, rfl, o5, o6, o7, o8, o9, p2⟩ := D8
  obtain ⟨E2, E3, rfl, -⟩ := o5.form
  obtain ⟨E4, E5, rfl, -⟩ := o6.form
  obtain ⟨E6, E7, rfl, -⟩ := o7.form
  obtain ⟨E8, E9, rfl, -⟩ := o8.form
  obtain ⟨F0, F1, rfl, -⟩ := o9.form
  obtain ⟨F2, F3, rfl, -⟩ := p2.form
  have hO := zt57 hO
  refine zc (zg (zC (zj ?_)))
  have hO := hO.sel [3, 4, 5, 6]
  exact ⟨E2, E3, U.1.cursor.tokens, U.1.cursor.at_, E4, E5, D9, U.1.prog.Structs, E6, E7, E1, U.1.prog.Funcs, U.2.Kind, U.2.Line, U.2.Name, U.2.Field, U.2.Call, U.2.Type_.Kind, U.2.Type_.N, U.2.Type_.Name, E8, E9, U.2.Kids, F0, F1, U.2.Body, F2, F3, U.2.Else, _, ztZ ztK, hO, hL, o5, o6, o7, o8, o9, p2, hF⟩
 rintro e σ ⟨i6, i7, c1, d8, i8, i9, j0, c2, j1, j2, j3, c3, j4, j5, j6, j7, j8, j9, k0, k1, k4, k5, d9, k6, k7, f0, k8, l0, f1, _, hA, hO, hL, i2, i3, i4, b8, b9, c0, hF⟩
 rw [← zM _ _ hA]
 unfold zey at hF
 refine z3 (za hO 3 [] [(64, zt1 o)] [0, 1] ztM fun j => ?_)
 refine zt (T := Ty.str) (l := ([zta] : List ByteArray)) (cs := [.string zta]) hO rfl ⟨[.string zta], _, rfl, rfl, rfl⟩ rfl (by decide) fun _ σ Q1 F4 hO => ?_
 have hO := zt55 hO
 obtain ⟨_, c7, d0, hO⟩ := F4.share hO (i := 4) rfl
 have hL := hL.trans c7
 have i2 := i2.le c7
 have i3 := i3.le c7
 have i4 := i4.le c7
 have b8 := b8.le c7
 have b9 := b9.le c7
 have c0 := c0.le c7
 have hO := zt55 hO
 have hO := hO.sel [3, 4, 0, 1, 2]
 rcases zX hF with ⟨Q2, F5, hF⟩ | ⟨Q3, F6, hF⟩
 ·refine zY (hs := [_, _]) hO (zbB (q0 := (⟨(⟨c1, d8⟩ : zbe), (⟨c2, c3⟩ : zB)⟩ : zf)) i2 i3 i4 d0 F5) ztI rfl fun _ σ _ _ hO f9 F7 => ?_
  have hL := hL.trans f9
  have d0 := d0.le f9
  have b8 := b8.le f9
  have b9 := b9.le f9
  have c0 := c0.le f9
  obtain ⟨Q4, Q5, Q6, Q7, Q8, rfl, rfl, F8, F9, G0⟩ := F7
  have hO := zt55 hO
  cases hF
  have hO := hO.sel [2, 3, 4, 0]
  exact hP _ _ _ _ hO hL ⟨_, _, _, _, _, _, _, _, rfl, rfl, F8, F9, G0, b8, b9, c0⟩
 refine zW (hs := [_, _]) hO (zbB (q0 := (⟨(⟨c1, d8⟩ : zbe), (⟨c2, c3⟩ : zB)⟩ : zf)) i2 i3 i4 d0 F6) ztI rfl fun _ σ _ _ hO g0 G1 => ?_
 have hL := hL.trans g0
 have d0 := d0.le g0
 have b8 := b8.le g0
 have b9 := b9.le g0
 have c0 := c0.le g0
 obtain ⟨Q9, R0, R1, R2, R3, rfl, rfl, G2, G3, G4⟩ := G1
 have hO := zt55 hO
 refine zc (zg ?_)
 cases hF
 have hO := hO.sel [2, 3, 4, 0]
 refine (hQ _ _ _ _ _ rfl hO hL ?_).2
 exact ⟨_, _, _, _, _, _, _, _, rfl, rfl, G2, G3, G4, b8, b9, c0⟩
def zk9 (gn : Nat) : Prop := ∀ {τ : Hp} {q0 : zf} {o : Nat} {b1 b2 : Value} {b3 : Ob} {b4 : Value} {b5 : Ob} (g1 : RdT zm τ b1 q0.cursor.tokens) (g2 : ze zs 71 τ b2 q0.prog.Structs b3) (g3 : ze zr 50 τ b4 q0.prog.Funcs b5) {rr : Except (Value × zf) ((List zh) × zf)} (hF : ((zcc gn).1) q0 = some rr), zbK Try.prog 69 #[.pointer (some ⟨o, 0, none⟩)] τ [zE o b1 q0.cursor.at_ b2 b4, b3, b5] (fun v τ' vs' => match (generalizing := false) rr with | .ok rr => ∃ (v0 : Value) (o0 : Ob) (w z : Value) (B : Ob) (E : Value) (G : Ob), v = v0 ∧ vs' = [o0, zE o w rr.2.cursor.at_ z E, B, G] ∧ ze zy 53 τ' v0 rr.1 o0 ∧ RdT zm τ' w rr.2.cursor.tokens ∧ ze zs 71 τ' z rr.2.prog.Structs B ∧ ze zr 50 τ' E rr.2.prog.Funcs G | .error _ => False) (fun ch τ' vs' => match (generalizing := false) rr with | .ok _ => False | .error ee => ∃ (w z : Value) (B : Ob) (E : Value) (G : Ob), ch = [{ v := ee.1, recovered := false }] ∧ vs' = [zE o w ee.2.cursor.at_ z E, B, G] ∧ RdT zm τ' w ee.2.cursor.tokens ∧ ze zs 71 τ' z ee.2.prog.Structs B ∧ ze zr 50 τ' E ee.2.prog.Funcs G)
def zlb (gn : Nat) : Prop := ∀ {τ : Hp} {q0 : zf} {o : Nat} {b1 b2 : Value} {b3 : Ob} {b4 : Value} {b5 : Ob} (g1 : RdT zm τ b1 q0.cursor.tokens) (g2 : ze zs 71 τ b2 q0.prog.Structs b3) (g3 : ze zr 50 τ b4 q0.prog.Funcs b5) {rr : Except (Value × zf) (zh × zf)} (hF : ((zcc gn).2) q0 = some rr), zbK Try.prog 78 #[.pointer (some ⟨o, 0, none⟩)] τ [zE o b1 q0.cursor.at_ b2 b4, b3, b5] (fun v τ' vs' => match (generalizing := false) rr with | .ok rr => ∃ (p3 p4 m2 w z : Value) (B : Ob) (E : Value) (G : Ob), v = .agg #[.int .u8 rr.1.Kind.toNat, .int .i64 rr.1.Line, .string rr.1.Name, .string rr.1.Field, .string rr.1.Call, .int .u8 rr.1.Type_.Kind.toNat, .int .i64 rr.1.Type_.N, .string rr.1.Type_.Name, p3, p4, m2] ∧ vs' = [zE o w rr.2.cursor.at_ z E, B, G] ∧ RdT zu τ' p3 rr.1.Kids ∧ RdT zy τ' p4 rr.1.Body ∧ RdT zy τ' m2 rr.1.Else ∧ RdT zm τ' w rr.2.cursor.tokens ∧ ze zs 71 τ' z rr.2.prog.Structs B ∧ ze zr 50 τ' E rr.2.prog.Funcs G | .error _ => False) (fun ch τ' vs' => match (generalizing := false) rr with | .ok _ => False | .error ee => ∃ (w z : Value) (B : Ob) (E : Value) (G : Ob), ch = [{ v := ee.1, recovered := false }] ∧ vs' = [zE o w ee.2.cursor.at_ z E, B, G] ∧ RdT zm τ' w ee.2.cursor.tokens ∧ ze zs 71 τ' z ee.2.prog.Structs B ∧ ze zr 50 τ' E ee.2.prog.Funcs G)
theorem zqE {gn : Nat} (ih_syntax_parser_block : zk9 gn) (ih_syntax_parser_stmt : zlb gn) {τ : Hp} {q0 : zf} {t : Nat} {c9 d0 : Value} {d4 : Ob} {d5 : Value} {d6 : Ob} (d7 : RdT zm τ c9 q0.cursor.tokens) (d8 : ze zs 71 τ d0 q0.prog.Structs d4) (d9 : ze zr 50 τ d5 q0.prog.Funcs d6) {rr : Except (Value × zf) ((List zh) × zf)} (hF : zhb ((zcc gn).1) ((zcc gn).2) q0 = some rr) :
  zbK Try.prog 69 #[.pointer (some ⟨t, 0, none⟩)] τ [zE t c9 q0.cursor.at_ d0 d5, d4, d6] (fun v τ' vs' => match (generalizing := false) rr with | .ok rr => ∃ (v0 : Value) (o0 : Ob) (E G : Value) (I : Ob) (M : Value) (U : Ob), v = v0 ∧ vs' = [o0, zE t E rr.2.cursor.at_ G M, I, U] ∧ ze zy 53 τ' v0 rr.1 o0 ∧ RdT zm τ' E rr.2.cursor.tokens ∧ ze zs 71 τ' G rr.2.prog.Structs I ∧ ze zr 50 τ' M rr.2.prog.Funcs U | .error _ => False) (fun ch τ' vs' => match (generalizing := false) rr with | .ok _ => False | .error ee => ∃ (E G : Value) (I : Ob) (M : Value) (U : Ob), ch = [{ v := ee.1, recovered := false }] ∧ vs' = [zE t E ee.2.cursor.at_ G M, I, U] ∧ RdT zm τ' E ee.2.cursor.tokens ∧ ze zs 71 τ' G ee.2.prog.Structs I ∧ ze zr 50 τ' M ee.2.prog.Funcs U) := by
 refine zcA (args := [.pointer (some ⟨t, 0, none⟩)]) hm Try.func69 s69 rfl fun w0 σ hP hO Q hQ => ?_
 unfold zhb at hF
 have hL := Hp.le.refl τ
 show wpn _ _ a69.body _ _ _
 unfold a69
 dsimp only
 refine zd hO [] [] [0] ztK fun j => ?_
 refine za hO 3 [] [(6, zt1 t)] [0] ztL fun j => ?_
 refine zt (T := Ty.str) (l := ([ztm] : List ByteArray)) (cs := [.string ztm]) hO rfl ⟨[.string ztm], _, rfl, rfl, rfl⟩ rfl (by decide) fun _ σ o4 w5 hO => ?_
 have hO := zt54 hO
 obtain ⟨_, h7, r6, hO⟩ := w5.share hO (i := 3) rfl
 have hL := hL.trans h7
 have hO := zt54 hO
 have hO := hO.sel [3, 0, 1, 2]
 rcases zX hF with ⟨n1, j3, hF⟩ | ⟨c8, h9, hF⟩
 ·refine zY (hs := [_]) hO (zbB (d7.le hL) (d8.le hL) (d9.le hL) r6 j3) ztI rfl fun _ σ _ _ hO g1 j4 => ?_
  have hL := hL.trans g1
  have r6 := r6.le g1
  obtain ⟨n2, n3, n4, n5, n6, rfl, rfl, j5, j6, j7⟩ := j4
  have hO := zt54 hO
  cases hF
  have hO := hO.sel [1, 2, 3]
  exact hP _ _ _ _ hO hL ⟨_, _, _, _, _, rfl, rfl, j5, j6, j7⟩
 refine zW (hs := [_]) hO (zbB (d7.le hL) (d8.le hL) (d9.le hL) r6 h9) ztI rfl fun _ σ _ _ hO g2 j8 => ?_
 have hL := hL.trans g2
 have r6 := r6.le g2
 obtain ⟨n7, n8, j9, n9, k0, rfl, rfl, g3, g4, g5⟩ := j8
 obtain ⟨k1, k4, rfl, -⟩ := g3.form
 obtain ⟨k5, k6, rfl, -⟩ := g4.form
 obtain ⟨k7, k8, rfl, -⟩ := g5.form
 have hO := zt54 hO
 refine zc (zd hO [] [(3, .slice none 0 0)] [0] ztL fun j => ?_)
 refine zH ?_
 have hO := hO.no
 have hO := zt55 hO
 have hO := hO.sel [1, 2, 3, 4]
 refine zbo (fun (n : Nat) e' σ' => ∃ (b1 : Option Addr) (b2 : Nat) (w : List zl) (V : Int) (b3 : Option Addr) (b4 : Nat) (b5 : Ob) (z : List zq) (b6 : Option Addr) (b7 : Nat) (b8 : Ob) (B : List zo) (X : Option Addr) (Y : Nat) (b9 : Ob) (h : List zh) (τ' : Hp), agr [(0, zt1 t), (3, zt7 X h Y)] e' ∧ Obs τ' σ' [zE t (zt7 b1 w b2) V (zt7 b3 z b4) (zt7 b6 B b7), b5, b8, b9] ∧ Hp.le τ τ' ∧ RdT zm τ' (zt7 b1 w b2) w ∧ ze zs 71 τ' (zt7 b3 z b4) z b5 ∧ ze zr 50 τ' (zt7 b6 B b7) B b8 ∧ ze zy 53 τ' (zt7 X h Y) h b9 ∧ zfS (zcc gn).2 n w V z B h = some rr) big ⟨k1, k4, c8.cursor.tokens, c8.cursor.at_, k5, k6, j9, c8.prog.Structs, k7, k8, k0, c8.prog.Funcs, none, 0, none, [], _, ztZ ztK, hO, hL, g3, g4, g5, ze.nil _ _ _, hF⟩ ?_
 clear hF hO hL
 rintro b0 e σ ⟨b1, b2, w, V, b3, b4, b5, z, b6, b7, b8, B, X, Y, b9, h, _, hA, hO, hL, c0, c1, c2, o, hF⟩
 rw [← zM _ _ hA]
 cases b0 with
 | zero => exact nomatch (show none = some rr from hF)
 | succ b0 =>
 replace hF : zio (zfS (zcc gn).2 b0) (zcc gn).2 w V z B h = some rr := hF
 unfold zio at hF
 refine zi (za hO 3 [] [(11, zt1 t)] [0, 3] ztM fun j => ?_)
 refine zt (T := Ty.str) (l := ([ztw] : List ByteArray)) (cs := [.string ztw]) hO rfl ⟨[.string ztw], _, rfl, rfl, rfl⟩ rfl (by decide) fun _ σ l3 g6 hO => ?_
 have hO := zt55 hO
 obtain ⟨_, Z, c3, hO⟩ := g6.share hO (i := 4) rfl
 have hL := hL.trans Z
 have o := o.le Z
 have c0 := c0.le Z
 have c1 := c1.le Z
 have c2 := c2.le Z
 have hO := zt55 hO
 obtain ⟨g7, g8, hF⟩ := zt6 hF
 have hO := hO.sel [3, 4, 0, 1, 2]
 refine zz (hs := [_, _]) hO (zb0 (q0 := (⟨(⟨w, V⟩ : zbe), (⟨z, B⟩ : zB)⟩ : zf)) c0 c1 c2 c3 g8) rfl fun _ σ _ _ hO c4 g9 => ?_
 have hL := hL.trans c4
 have o := o.le c4
 have c3 := c3.le c4
 obtain ⟨l4, l5, l6, l7, l8, rfl, rfl, c5, c6, c7⟩ := g9
 have hO := zt55 hO
 refine zd hO [] [(14, .bool (!g7.1))] [0, 3] ztM fun j => ?_
 refine zn hF rfl (fun hF => ?_) fun hF => ?_
 ·refine zA (zbU (zH (z3 (za hO 2 [] [(15, zt7 X h Y), (16, zt1 t)] [0] ztM fun j => ?_))))
  rcases zX hF with ⟨l9, h0, hF⟩ | ⟨g, h1, hF⟩
  ·refine zY (hs := [_, _]) hO (ih_syntax_parser_stmt c5 c6 c7 h0) ztI rfl fun _ σ _ _ hO f1 h2 => ?_
   have hL := hL.trans f1
   have o := o.le f1
   obtain ⟨m0, m1, m2, m3, m4, rfl, rfl, h3, h4, h5⟩ := h2
   have hO := zt55 hO
   cases hF
   have hO := hO.sel [2, 3, 4]
   exact hP _ _ _ _ hO hL ⟨_, _, _, _, _, rfl, rfl, h3, h4, h5⟩
  refine zW (hs := [_, _]) hO (ih_syntax_parser_stmt c5 c6 c7 h1) ztI rfl fun _ σ _ _ hO f2 h6 => ?_
  have hL := hL.trans f2
  have o := o.le f2
  obtain ⟨m5, m6, m7, m8, m9, h8, n0, i0, rfl, rfl, i1, i2, i3, f3, f4, f5⟩ := h6
  obtain ⟨i4, i5, rfl, -⟩ := f3.form
  obtain ⟨i6, i7, rfl, -⟩ := f4.form
  obtain ⟨i8, i9, rfl, -⟩ := f5.form
  have hO := zt55 hO
  obtain ⟨_, g0, hF⟩ := zt6 hF
  refine zl5 (T := zy) (y := (⟨g.1.Kind, g.1.Line, g.1.Name, g.1.Field, g.1.Call, (⟨g.1.Type_.Kind, g.1.Type_.N, g.1.Type_.Name⟩ : zR), g.1.Kids, g.1.Body, g.1.Else⟩ : zh)) hO o (i := 0) rfl rfl (fun _ => rfl) rfl (zjK ⟨_, _, _, rfl, i1, i2, i3⟩) rfl g0 (by decide) fun u _ σ j0 f6 hO => ?_
  obtain ⟨f7, f8, rfl, -⟩ := f6.form
  have hO := zt55 hO
  refine zd hO [] [(3, zt7 f7 (h ++ [(⟨g.1.Kind, g.1.Line, g.1.Name, g.1.Field, g.1.Call, (⟨g.1.Type_.Kind, g.1.Type_.N, g.1.Type_.Name⟩ : zR), g.1.Kids, g.1.Body, g.1.Else⟩ : zh)]) f8)] [0] ztL fun j => ?_
  refine zg (zC (zj (zg (zj ?_))))
  have hO := hO.sel [2, 3, 4, 0]
  exact ⟨b0, Nat.lt_succ_self _, i4, i5, g.2.cursor.tokens, g.2.cursor.at_, i6, i7, h8, g.2.prog.Structs, i8, i9, i0, g.2.prog.Funcs, f7, f8, j0, (h ++ [(⟨g.1.Kind, g.1.Line, g.1.Name, g.1.Field, g.1.Call, (⟨g.1.Type_.Kind, g.1.Type_.N, g.1.Type_.Name⟩ : zR), g.1.Kids, g.1.Body, g.1.Else⟩ : zh)]), _, ztZ ztK, hO, hL, f3, f4, f5, f6, hF⟩
 refine zbs (zbp (zbr (zj (zd hO [] [(2, zt7 X h Y)] [0] ztL fun j => ?_))))
 refine z9 ?_
 cases hF
 have hO := hO.sel [0, 2, 3, 4]
 refine (hQ _ _ _ _ _ rfl hO hL ?_).1
 exact ⟨_, _, _, _, _, _, _, rfl, rfl, o, c5, c6, c7⟩
theorem zl7 {τ : Hp} {q0 : zf} {z : Nat} {g h : Value} {o : Ob} {t : Value} {w : Ob} (B : RdT zm τ g q0.cursor.tokens) (M : ze zs 71 τ h q0.prog.Structs o) (U : ze zr 50 τ t q0.prog.Funcs w) {rr : Int} (hF : zeM q0 = some rr) :
  Ctr Try.prog 66 #[.pointer (some ⟨z, 0, none⟩)] τ [zE z g q0.cursor.at_ h t, o, w] (fun v τ' vs' => v = .int .i64 rr ∧ vs' = [zE z g q0.cursor.at_ h t, o, w]) := by
 obtain ⟨G, I, rfl, -⟩ := B.form
 refine zbl (args := [.pointer (some ⟨z, 0, none⟩)]) hm Try.func66 s66 rfl fun w0 σ hO Q hQ => ?_
 unfold zeM at hF
 have hL := Hp.le.refl τ
 show wpn _ _ a66.body _ _ _
 unfold a66
 dsimp only
 refine zd hO [] [] [0] ztK fun j => ?_
 refine zi (zb9 (zd hO [0, 0] [(12, .bool (decide (q0.cursor.at_ < (q0.cursor.tokens.length : Int))))] [0] (And.intro (And.intro rfl rfl) (And.intro (And.intro rfl rfl) ztL)) fun j => ?_))
 refine zn hF rfl (fun hF => ?_) fun hF => ?_
 ·refine zi (zb9 (za hO 8 [0, 0] [(16, zt7 G q0.cursor.tokens I), (20, zt0 q0.cursor.at_)] [0] (And.intro (And.intro rfl rfl) (And.intro (And.intro rfl rfl) ztM)) fun j => ?_))
  obtain ⟨E, V, hF⟩ := zt6 hF
  refine zN (T := zm) (B.le hL) hO.base rfl rfl V (by decide) fun a5 _ X Y => ?_
  obtain rfl : _ = ([.int .u8 E.Kind.toNat, .string E.Text, .int .i64 E.Num, .int .i64 E.Line] : List Value) := X
  refine za hO 1 [] [(22, .pointer (some (a5.add 3)))] [0] ztL fun j => ?_
  refine zG rfl ((Y.le hO.base).one 3 rfl) ?_
  refine zd hO [] [(2, zt0 E.Line)] [0] ztL fun j => ?_
  refine zbi ?_
  cases hF
  exact hQ _ _ _ _ _ rfl hO hL ⟨rfl, rfl⟩
 refine zA (zd hO [] [(2, zt0 0)] [0] ztL fun j => ?_)
 refine z9 ?_
 cases hF
 exact hQ _ _ _ _ _ rfl hO hL ⟨rfl, rfl⟩
theorem zra {gn : Nat} (ih_syntax_parser_block : zk9 gn) (ih_syntax_parser_stmt : zlb gn) {τ : Hp} {q0 : zf} {z : Nat} {k0 k1 : Value} {k4 : Ob} {k5 : Value} {k6 : Ob} (k7 : RdT zm τ k0 q0.cursor.tokens) (k8 : ze zs 71 τ k1 q0.prog.Structs k4) (l0 : ze zr 50 τ k5 q0.prog.Funcs k6) {rr : Except (Value × zf) (zh × zf)} (hF : zic ((zcc gn).1) ((zcc gn).2) q0 = some rr) :
  zbK Try.prog 78 #[.pointer (some ⟨z, 0, none⟩)] τ [zE z k0 q0.cursor.at_ k1 k5, k4, k6] (fun v τ' vs' => match (generalizing := false) rr with | .ok rr => ∃ (l3 l4 l1 c0 c1 : Value) (c2 : Ob) (c4 : Value) (c5 : Ob), v = .agg #[.int .u8 rr.1.Kind.toNat, .int .i64 rr.1.Line, .string rr.1.Name, .string rr.1.Field, .string rr.1.Call, .int .u8 rr.1.Type_.Kind.toNat, .int .i64 rr.1.Type_.N, .string rr.1.Type_.Name, l3, l4, l1] ∧ vs' = [zE z c0 rr.2.cursor.at_ c1 c4, c2, c5] ∧ RdT zu τ' l3 rr.1.Kids ∧ RdT zy τ' l4 rr.1.Body ∧ RdT zy τ' l1 rr.1.Else ∧ RdT zm τ' c0 rr.2.cursor.tokens ∧ ze zs 71 τ' c1 rr.2.prog.Structs c2 ∧ ze zr 50 τ' c4 rr.2.prog.Funcs c5 | .error _ => False) (fun ch τ' vs' => match (generalizing := false) rr with | .ok _ => False | .error ee => ∃ (c0 c1 : Value) (c2 : Ob) (c4 : Value) (c5 : Ob), ch = [{ v := ee.1, recovered := false }] ∧ vs' = [zE z c0 ee.2.cursor.at_ c1 c4, c2, c5] ∧ RdT zm τ' c0 ee.2.cursor.tokens ∧ ze zs 71 τ' c1 ee.2.prog.Structs c2 ∧ ze zr 50 τ' c4 ee.2.prog.Funcs c5) := by
 refine zcA (args := [.pointer (some ⟨z, 0, none⟩)]) hm Try.func78 s78 rfl fun w0 σ hP hO Q hQ => ?_
 unfold zic at hF
 have hL := Hp.le.refl τ
 show wpn _ _ a78.body _ _ _
 unfold a78
 dsimp only
 refine zbC hO fun b2 σ hO => ?_
 have hO := zt54 hO
 refine zc (za hO 3 [] [(6, zt1 z)] [0, 2] ztM fun j => ?_)
 obtain ⟨c3, h4, hF⟩ := zt6 hF
 have hO := hO.sel [3, 0, 1, 2]
 refine zz (hs := [_]) hO (zl7 (k7.le hL) (k8.le hL) (l0.le hL) h4) rfl fun _ σ _ _ hO h5 h6 => ?_
 have hL := hL.trans h5
 obtain ⟨rfl, rfl⟩ := h6
 have hO := zt54 hO
 have hO := hO.sel [1, 2, 3, 0]
 have hO := zt54 hO
 refine za hO 1 [] [(8, .agg #[(.int .u8 0), (.int .i64 c3), (.string zs3), (.string zs3), (.string zs3), (.int .u8 0), (.int .i64 0), (.string zs3), (.slice none 0 0), (.slice none 0 0), (.slice none 0 0)])] [0, 2] ztM fun j => ?_
 refine zbC hO fun b7 σ hO => ?_
 have hO := zt55 hO
 refine zx hO (i := 4) rfl (off := 0) rfl rfl rfl rfl (Nat.le_of_ble_eq_true rfl) rfl fun σ hO => ?_
 have hO := zt55 hO
 refine zc (zfo (fun e' σ' => ∃ (h7 : Option Addr) (h8 : Nat) (c7 : List zl) (h9 : Int) (i0 : Option Addr) (i1 : Nat) (i2 : Ob) (c8 : List zq) (i3 : Option Addr) (i4 : Nat) (i5 : Ob) (c9 : List zo) (f3 : UInt8) (f4 : Int) (f5 f6 f7 : ByteArray) (f8 : UInt8) (f9 : Int) (g0 : ByteArray) (g1 : Option Addr) (g2 : Nat) (V : List zb) (g3 : Option Addr) (g4 : Nat) (X : List zh) (g5 : Option Addr) (g6 : Nat) (Y : List zh) (τ' : Hp), agr [(0, zt1 z), (2, zt1 b2), (3, zt1 b7)] e' ∧ Obs τ' σ' [zE z (zt7 h7 c7 h8) h9 (zt7 i0 c8 i1) (zt7 i3 c9 i4), i2, i5, zby b2 0 0 zs3 zs3 zs3 0 0 zs3 (.slice none 0 0) (.slice none 0 0) (.slice none 0 0), zby b7 (f3.toNat : Int) f4 f5 f6 f7 (f8.toNat : Int) f9 g0 (zt7 g1 V g2) (zt7 g3 X g4) (zt7 g5 Y g6)] ∧ Hp.le τ τ' ∧ RdT zm τ' (zt7 h7 c7 h8) c7 ∧ ze zs 71 τ' (zt7 i0 c8 i1) c8 i2 ∧ ze zr 50 τ' (zt7 i3 c9 i4) c9 i5 ∧ RdT zu τ' (zt7 g1 V g2) V ∧ RdT zy τ' (zt7 g3 X g4) X ∧ RdT zy τ' (zt7 g5 Y g6) Y ∧ zfD c7 h9 c8 c9 f3 f4 f5 f6 f7 f8 f9 g0 V X Y = some rr) ?_ ?_)
 ·refine za hO 3 [] [(14, zt1 z)] [0, 2, 3] ztN fun j => ?_
  refine zt (T := Ty.str) (l := ([ztE] : List ByteArray)) (cs := [.string ztE]) hO rfl ⟨[.string ztE], _, rfl, rfl, rfl⟩ rfl (by decide) fun _ σ C6 o4 hO => ?_
  have hO := zt56 hO
  obtain ⟨_, o5, i6, hO⟩ := o4.share hO (i := 5) rfl
  have hL := hL.trans o5
  have hO := zt56 hO
  obtain ⟨o6, o7, hF⟩ := zt6 hF
  have hO := hO.sel [3, 4, 5, 0, 1, 2]
  refine zz (hs := [_, _, _]) hO (zb0 (k7.le hL) (k8.le hL) (l0.le hL) i6 o7) rfl fun _ σ _ _ hO l5 o8 => ?_
  have hL := hL.trans l5
  have i6 := i6.le l5
  obtain ⟨C7, C8, C9, D0, D1, rfl, rfl, d0, d4, d5⟩ := o8
  have hO := zt56 hO
  refine zd hO [] [(11, .bool o6.1)] [0, 2, 3] ztN fun j => ?_
  refine zbm (zn hF rfl (fun hF => ?_) fun hF => ?_)
  ·refine zi (za hO 1 [] [(17, zt1 z)] [0, 2, 3] ztN fun j => ?_)
   rcases zX hF with ⟨D2, o9, hF⟩ | ⟨g, p2, hF⟩
   ·refine zY (hs := [_, _, _]) hO (zb4 d0 d4 d5 o9) ztI rfl fun _ σ _ _ hO p3 p4 => ?_
    have hL := hL.trans p3
    obtain ⟨D3, D4, D5, D6, D7, rfl, rfl, p5, p6, p7⟩ := p4
    have hO := zt56 hO
    cases hF
    have hO := hO.sel [3, 4, 5]
    exact hP _ _ _ _ hO hL ⟨_, _, _, _, _, rfl, rfl, p5, p6, p7⟩
   refine zW (hs := [_, _, _]) hO (zb4 d0 d4 d5 p2) ztI rfl fun _ σ _ _ hO p8 p9 => ?_
   have hL := hL.trans p8
   obtain ⟨D8, D9, E1, E2, E3, E4, rfl, rfl, l6, l7, l8, l9⟩ := p9
   obtain ⟨m0, m1, rfl, -⟩ := l6.form
   have hO := zt56 hO
   refine zt (T := zu) (l := ([(⟨g.1.Kind, g.1.Num, g.1.Name, g.1.Field, g.1.Op, g.1.Kids⟩ : zb)] : List zb)) (cs := [.int .u8 (g.1.Kind.toNat : Int), .int .i64 g.1.Num, .string g.1.Name, .string g.1.Field, .string g.1.Op, zt7 m0 g.1.Kids m1]) hO rfl ⟨[.int .u8 (g.1.Kind.toNat : Int), .int .i64 g.1.Num, .string g.1.Name, .string g.1.Field, .string g.1.Op, zt7 m0 g.1.Kids m1], _, rfl, (zb8 ⟨_, rfl, l6⟩), rfl⟩ rfl (by decide) fun _ σ E5 o hO => ?_
   obtain ⟨m2, m3, rfl, -⟩ := o.form
   have hO := zt57 hO
   refine za hO 1 [] [(20, zt1 b7)] [0, 2, 3, 19] ztO fun j => ?_
   refine zx hO (i := 1) rfl (off := 0) rfl rfl rfl rfl (Nat.le_of_ble_eq_true rfl) rfl fun σ hO => ?_
   have hO := zt57 hO
   refine za hO 1 [] [(21, .pointer (some ⟨b7, 8, none⟩))] [0, 2, 3, 19] ztO fun j => ?_
   refine zx hO (i := 1) rfl (off := 8) rfl rfl rfl rfl (Nat.le_of_ble_eq_true rfl) rfl fun σ hO => ?_
   have hO := zt57 hO
   refine zc (zi (za hO 1 [] [(22, zt1 z)] [0, 2, 3] ztN fun j => ?_))
   have hO := hO.sel [0, 1, 2, 6, 3, 4, 5]
   rcases zX hF with ⟨E6, q2, hF⟩ | ⟨i7, q3, hF⟩
   ·refine zY (hs := [_, _, _, _]) hO (ih_syntax_parser_block l7 l8 l9 q2) ztI rfl fun _ σ _ _ hO m4 q4 => ?_
    have hL := hL.trans m4
    have o := o.le m4
    obtain ⟨E7, E8, E9, F0, F1, rfl, rfl, q5, q6, q7⟩ := q4
    have hO := zt57 hO
    cases hF
    have hO := hO.sel [4, 5, 6]
    exact hP _ _ _ _ hO hL ⟨_, _, _, _, _, rfl, rfl, q5, q6, q7⟩
   refine zW (hs := [_, _, _, _]) hO (ih_syntax_parser_block l7 l8 l9 q3) ztI rfl fun _ σ _ _ hO m5 q8 => ?_
   have hL := hL.trans m5
   have o := o.le m5
   obtain ⟨F2, F3, F4, F5, F6, F7, F8, rfl, rfl, t, i8, i9, j0⟩ := q8
   obtain ⟨j1, j2, rfl, -⟩ := t.form
   have hO := zt58 hO
   refine zbk hO 1 [] [(0, zt1 z), (2, zt1 b2), (3, zt1 b7), (23, zt7 j1 i7.1 j2), (24, .pointer (some ⟨b7, 9, none⟩))] ztO fun j => ?_
   refine zx hO (i := 1) rfl (off := 9) rfl rfl rfl rfl (Nat.le_of_ble_eq_true rfl) rfl fun σ hO => ?_
   have hO := zt58 hO
   refine zc (zi (za hO 3 [] [(27, zt1 z)] [0, 2, 3] ztN fun j => ?_))
   refine zt (T := Ty.str) (l := ([zth] : List ByteArray)) (cs := [.string zth]) hO rfl ⟨[.string zth], _, rfl, rfl, rfl⟩ rfl (by decide) fun _ σ F9 q9 hO => ?_
   have hO := zt59 hO
   obtain ⟨_, Z, j3, hO⟩ := q9.share hO (i := 8) rfl
   have hL := hL.trans Z
   have o := o.le Z
   have t := t.le Z
   have i8 := i8.le Z
   have i9 := i9.le Z
   have j0 := j0.le Z
   have hO := zt59 hO
   obtain ⟨g7, r0, hF⟩ := zt6 hF
   have hO := hO.sel [0, 1, 2, 3, 4, 8, 5, 6, 7]
   refine zz (hs := [_, _, _, _, _, _]) hO (zb0 i8 i9 j0 j3 r0) rfl fun _ σ _ _ hO g8 r1 => ?_
   have hL := hL.trans g8
   have j3 := j3.le g8
   have o := o.le g8
   have t := t.le g8
   obtain ⟨G0, G1, r2, G2, r3, rfl, rfl, B, E, G⟩ := r1
   obtain ⟨r4, r5, rfl, -⟩ := B.form
   obtain ⟨r6, r7, rfl, -⟩ := E.form
   obtain ⟨r8, r9, rfl, -⟩ := G.form
   have hO := zt59 hO
   refine zc (zn hF rfl (fun hF => ?_) fun hF => ?_)
   ·refine za hO 1 [] [(30, zt1 z)] [0, 2, 3] ztN fun j => ?_
    rcases zX hF with ⟨G3, t0, hF⟩ | ⟨d6, t1, hF⟩
    ·refine zY (hs := [_, _, _, _, _, _]) hO (ih_syntax_parser_block B E G t0) ztI rfl fun _ σ _ _ hO j4 t2 => ?_
     have hL := hL.trans j4
     have o := o.le j4
     have t := t.le j4
     obtain ⟨G4, G5, G6, G7, G8, rfl, rfl, t3, t4, t5⟩ := t2
     have hO := zt59 hO
     cases hF
     have hO := hO.sel [6, 7, 8]
     exact hP _ _ _ _ hO hL ⟨_, _, _, _, _, rfl, rfl, t3, t4, t5⟩
    refine zW (hs := [_, _, _, _, _, _]) hO (ih_syntax_parser_block B E G t1) ztI rfl fun _ σ _ _ hO j5 t6 => ?_
    have hL := hL.trans j5
    have o := o.le j5
    have t := t.le j5
    obtain ⟨G9, H0, H1, H2, t7, H3, t8, rfl, rfl, b0, I, M, U⟩ := t6
    obtain ⟨t9, u0, rfl, -⟩ := b0.form
    obtain ⟨u1, u2, rfl, -⟩ := I.form
    obtain ⟨u3, u4, rfl, -⟩ := M.form
    obtain ⟨u5, u6, rfl, -⟩ := U.form
    have hO := zt510 hO
    refine za hO 1 [] [(32, .pointer (some ⟨b7, 10, none⟩))] [0, 2, 3, 31] ztO fun j => ?_
    refine zx hO (i := 1) rfl (off := 10) rfl rfl rfl rfl (Nat.le_of_ble_eq_true rfl) rfl fun σ hO => ?_
    have hO := zt510 hO
    refine zc (zg (zC (zj ?_)))
    obtain ⟨_, b1, d7, hO⟩ := o.share hO (i := 3) rfl
    have hL := hL.trans b1
    have t := t.le b1
    have b0 := b0.le b1
    have I := I.le b1
    have M := M.le b1
    have U := U.le b1
    have hO := zt510 hO
    obtain ⟨_, b3, j6, hO⟩ := t.share hO (i := 4) rfl
    have hL := hL.trans b3
    have d7 := d7.le b3
    have b0 := b0.le b3
    have I := I.le b3
    have M := M.le b3
    have U := U.le b3
    have hO := zt510 hO
    obtain ⟨_, b4, u7, hO⟩ := b0.share hO (i := 6) rfl
    have hL := hL.trans b4
    have d7 := d7.le b4
    have j6 := j6.le b4
    have I := I.le b4
    have M := M.le b4
    have U := U.le b4
    have hO := zt510 hO
    have hO := hO.sel [7, 8, 9, 0, 1]
    exact ⟨u1, u2, d6.2.cursor.tokens, d6.2.cursor.at_, u3, u4, t7, d6.2.prog.Structs, u5, u6, t8, d6.2.prog.Funcs, (6 : UInt8), c3, zs3, zs3, zs3, (0 : UInt8), 0, zs3, m2, m3, ([(⟨g.1.Kind, g.1.Num, g.1.Name, g.1.Field, g.1.Op, g.1.Kids⟩ : zb)] : List zb), j1, j2, i7.1, t9, u0, d6.1, _, ztZ ztL, hO, hL, I, M, U, d7, j6, u7, hF⟩
   refine zA (zg (zC (zj ?_)))
   obtain ⟨_, d8, j7, hO⟩ := o.share hO (i := 3) rfl
   have hL := hL.trans d8
   have t := t.le d8
   have B := B.le d8
   have E := E.le d8
   have G := G.le d8
   have hO := zt59 hO
   obtain ⟨_, d9, u9, hO⟩ := t.share hO (i := 4) rfl
   have hL := hL.trans d9
   have j7 := j7.le d9
   have B := B.le d9
   have E := E.le d9
   have G := G.le d9
   have hO := zt59 hO
   have hO := hO.sel [6, 7, 8, 0, 1]
   exact ⟨r4, r5, g7.2.cursor.tokens, g7.2.cursor.at_, r6, r7, r2, g7.2.prog.Structs, r8, r9, r3, g7.2.prog.Funcs, (6 : UInt8), c3, zs3, zs3, zs3, (0 : UInt8), 0, zs3, m2, m3, ([(⟨g.1.Kind, g.1.Num, g.1.Name, g.1.Field, g.1.Op, g.1.Kids⟩ : zb)] : List zb), j1, j2, i7.1, none, 0, [], _, ztZ ztL, hO, hL, B, E, G, j7, u9, RdT.nil _ _, hF⟩
  refine zi (za hO 3 [] [(36, zt1 z)] [0, 2, 3] ztN fun j => ?_)
  refine zt (T := Ty.str) (l := ([ztx] : List ByteArray)) (cs := [.string ztx]) hO rfl ⟨[.string ztx], _, rfl, rfl, rfl⟩ rfl (by decide) fun _ σ H4 v0 hO => ?_
  have hO := zt57 hO
  obtain ⟨_, g9, j8, hO⟩ := v0.share hO (i := 6) rfl
  have hL := hL.trans g9
  have d0 := d0.le g9
  have d4 := d4.le g9
  have d5 := d5.le g9
  have hO := zt57 hO
  obtain ⟨v1, v2, hF⟩ := zt6 hF
  have hO := hO.sel [0, 1, 2, 6, 3, 4, 5]
  refine zz (hs := [_, _, _, _]) hO (zb0 d0 d4 d5 j8 v2) rfl fun _ σ _ _ hO m6 v3 => ?_
  have hL := hL.trans m6
  have j8 := j8.le m6
  obtain ⟨H5, H6, H7, H8, H9, rfl, rfl, h0, h1, h2⟩ := v3
  have hO := zt57 hO
  refine zd hO [] [(33, .bool v1.1)] [0, 2, 3] ztN fun j => ?_
  refine zn hF rfl (fun hF => ?_) fun hF => ?_
  ·refine zi (za hO 1 [] [(39, zt1 z)] [0, 2, 3] ztN fun j => ?_)
   rcases zX hF with ⟨I0, v4, hF⟩ | ⟨h, v5, hF⟩
   ·refine zY (hs := [_, _, _, _]) hO (zb4 h0 h1 h2 v4) ztI rfl fun _ σ _ _ hO v6 v7 => ?_
    have hL := hL.trans v6
    obtain ⟨I1, I2, I3, I4, I5, rfl, rfl, v8, v9, w2⟩ := v7
    have hO := zt57 hO
    cases hF
    have hO := hO.sel [4, 5, 6]
    exact hP _ _ _ _ hO hL ⟨_, _, _, _, _, rfl, rfl, v8, v9, w2⟩
   refine zW (hs := [_, _, _, _]) hO (zb4 h0 h1 h2 v5) ztI rfl fun _ σ _ _ hO w3 w4 => ?_
   have hL := hL.trans w3
   obtain ⟨I6, I7, I8, I9, J0, J1, rfl, rfl, m7, m8, m9, n0⟩ := w4
   obtain ⟨n1, n2, rfl, -⟩ := m7.form
   have hO := zt57 hO
   refine zt (T := zu) (l := ([(⟨h.1.Kind, h.1.Num, h.1.Name, h.1.Field, h.1.Op, h.1.Kids⟩ : zb)] : List zb)) (cs := [.int .u8 (h.1.Kind.toNat : Int), .int .i64 h.1.Num, .string h.1.Name, .string h.1.Field, .string h.1.Op, zt7 n1 h.1.Kids n2]) hO rfl ⟨[.int .u8 (h.1.Kind.toNat : Int), .int .i64 h.1.Num, .string h.1.Name, .string h.1.Field, .string h.1.Op, zt7 n1 h.1.Kids n2], _, rfl, (zb8 ⟨_, rfl, m7⟩), rfl⟩ rfl (by decide) fun _ σ J2 b5 hO => ?_
   obtain ⟨n3, n4, rfl, -⟩ := b5.form
   have hO := zt58 hO
   refine za hO 1 [] [(42, zt1 b7)] [0, 2, 3, 41] ztO fun j => ?_
   refine zx hO (i := 1) rfl (off := 0) rfl rfl rfl rfl (Nat.le_of_ble_eq_true rfl) rfl fun σ hO => ?_
   have hO := zt58 hO
   refine zbk hO 1 [] [(0, zt1 z), (2, zt1 b2), (3, zt1 b7), (41, zt7 n3 ([(⟨h.1.Kind, h.1.Num, h.1.Name, h.1.Field, h.1.Op, h.1.Kids⟩ : zb)] : List zb) n4), (43, .pointer (some ⟨b7, 8, none⟩))] ztO fun j => ?_
   refine zx hO (i := 1) rfl (off := 8) rfl rfl rfl rfl (Nat.le_of_ble_eq_true rfl) rfl fun σ hO => ?_
   have hO := zt58 hO
   refine zc (za hO 1 [] [(44, zt1 z)] [0, 2, 3] ztN fun j => ?_)
   have hO := hO.sel [0, 1, 2, 3, 7, 4, 5, 6]
   rcases zX hF with ⟨J3, w5, hF⟩ | ⟨f0, w6, hF⟩
   ·refine zY (hs := [_, _, _, _, _]) hO (ih_syntax_parser_block m8 m9 n0 w5) ztI rfl fun _ σ _ _ hO n5 w7 => ?_
    have hL := hL.trans n5
    have b5 := b5.le n5
    obtain ⟨J4, J5, J6, J7, J8, rfl, rfl, w8, w9, x0⟩ := w7
    have hO := zt58 hO
    cases hF
    have hO := hO.sel [5, 6, 7]
    exact hP _ _ _ _ hO hL ⟨_, _, _, _, _, rfl, rfl, w8, w9, x0⟩
   refine zW (hs := [_, _, _, _, _]) hO (ih_syntax_parser_block m8 m9 n0 w6) ztI rfl fun _ σ _ _ hO n6 x1 => ?_
   have hL := hL.trans n6
   have b5 := b5.le n6
   obtain ⟨J9, K0, K1, K2, x2, K3, x3, rfl, rfl, h3, b6, b8, b9⟩ := x1
   obtain ⟨x4, x5, rfl, -⟩ := h3.form
   obtain ⟨x6, x7, rfl, -⟩ := b6.form
   obtain ⟨x8, x9, rfl, -⟩ := b8.form
   obtain ⟨y0, y1, rfl, -⟩ := b9.form
   have hO := zt59 hO
   refine za hO 1 [] [(46, .pointer (some ⟨b7, 9, none⟩))] [0, 2, 3, 45] ztO fun j => ?_
   refine zx hO (i := 1) rfl (off := 9) rfl rfl rfl rfl (Nat.le_of_ble_eq_true rfl) rfl fun σ hO => ?_
   have hO := zt59 hO
   refine zc (zg (zC (zj ?_)))
   obtain ⟨_, f1, j9, hO⟩ := b5.share hO (i := 4) rfl
   have hL := hL.trans f1
   have h3 := h3.le f1
   have b6 := b6.le f1
   have b8 := b8.le f1
   have b9 := b9.le f1
   have hO := zt59 hO
   obtain ⟨_, f2, y2, hO⟩ := h3.share hO (i := 5) rfl
   have hL := hL.trans f2
   have j9 := j9.le f2
   have b6 := b6.le f2
   have b8 := b8.le f2
   have b9 := b9.le f2
   have hO := zt59 hO
   have hO := hO.sel [6, 7, 8, 0, 1]
   exact ⟨x6, x7, f0.2.cursor.tokens, f0.2.cursor.at_, x8, x9, x2, f0.2.prog.Structs, y0, y1, x3, f0.2.prog.Funcs, (7 : UInt8), c3, zs3, zs3, zs3, (0 : UInt8), 0, zs3, n3, n4, ([(⟨h.1.Kind, h.1.Num, h.1.Name, h.1.Field, h.1.Op, h.1.Kids⟩ : zb)] : List zb), x4, x5, f0.1, none, 0, [], _, ztZ ztL, hO, hL, b6, b8, b9, j9, y2, RdT.nil _ _, hF⟩
  refine za hO 1 [] [(9, zt1 z)] [0, 2, 3] ztN fun j => ?_
  have hO := hO.sel [0, 2, 3, 4, 5, 6, 1]
  rcases zX hF with ⟨K4, y3, hF⟩ | ⟨w, y4, hF⟩
  ·refine zY (hs := [_, _, _]) hO (znu (q1 := (⟨(0 : UInt8), c3, zs3, zs3, zs3, (⟨(0 : UInt8), 0, zs3⟩ : zR), [], [], []⟩ : zh)) h0 h1 h2 (RdT.nil zu _) (RdT.nil zy _) (RdT.nil zy _) y3) ztI rfl fun _ σ _ _ hO y5 y6 => ?_
   have hL := hL.trans y5
   obtain ⟨K5, K6, K7, K8, K9, L0, L1, L2, rfl, rfl, y7, y8, y9, L3, L4, L5⟩ := y6
   have hO := zt57 hO
   cases hF
   have hO := hO.sel [3, 4, 5]
   exact hP _ _ _ _ hO hL ⟨_, _, _, _, _, rfl, rfl, y7, y8, y9⟩
  refine zW (hs := [_, _, _]) hO (znu (q1 := (⟨(0 : UInt8), c3, zs3, zs3, zs3, (⟨(0 : UInt8), 0, zs3⟩ : zR), [], [], []⟩ : zh)) h0 h1 h2 (RdT.nil zu _) (RdT.nil zy _) (RdT.nil zy _) y4) ztI rfl fun _ σ _ _ hO A0 A1 => ?_
  have hL := hL.trans A0
  obtain ⟨L6, L7, A2, L8, A3, L9, M0, M1, rfl, rfl, n7, n8, n9, o0, o1, o2⟩ := A1
  obtain ⟨A4, A5, rfl, -⟩ := n7.form
  obtain ⟨A6, A7, rfl, -⟩ := n8.form
  obtain ⟨A8, A9, rfl, -⟩ := n9.form
  obtain ⟨B0, B1, rfl, -⟩ := o0.form
  obtain ⟨B2, B3, rfl, -⟩ := o1.form
  obtain ⟨B4, B5, rfl, -⟩ := o2.form
  have hO := zt57 hO
  refine zc (zg (zC (zj ?_)))
  have hO := hO.sel [3, 4, 5, 0, 6]
  exact ⟨A4, A5, w.1.cursor.tokens, w.1.cursor.at_, A6, A7, A2, w.1.prog.Structs, A8, A9, A3, w.1.prog.Funcs, w.2.Kind, w.2.Line, w.2.Name, w.2.Field, w.2.Call, w.2.Type_.Kind, w.2.Type_.N, w.2.Type_.Name, B0, B1, w.2.Kids, B2, B3, w.2.Body, B4, B5, w.2.Else, _, ztZ ztL, hO, hL, n7, n8, n9, o0, o1, o2, hF⟩
 rintro e σ ⟨h7, h8, c7, h9, i0, i1, i2, c8, i3, i4, i5, c9, f3, f4, f5, f6, f7, f8, f9, g0, g1, g2, V, g3, g4, X, g5, g6, Y, _, hA, hO, hL, B6, B7, B8, B9, C0, C1, hF⟩
 rw [← zM _ _ hA]
 unfold zfD at hF
 refine za hO 1 [4] [(47, .agg #[(.int .u8 (f3.toNat : Int)), (.int .i64 f4), (.string f5), (.string f6), (.string f7), (.int .u8 (f8.toNat : Int)), (.int .i64 f9), (.string g0), (zt7 g1 V g2), (zt7 g3 X g4), (zt7 g5 Y g6)])] [0, 2] (And.intro (And.intro rfl rfl) ztM) fun j => ?_
 refine zx hO (i := 3) rfl (off := 0) rfl rfl rfl rfl (Nat.le_of_ble_eq_true rfl) rfl fun σ hO => ?_
 have hO := zt55 hO
 refine zc (z9 ?_)
 cases hF
 have C2 := hO.val (i := 3) rfl (off := 0) (agg := true) (n := 11) rfl
 have hO := hO.sel [0, 1, 2]
 refine (hQ _ _ _ _ _ (zbE rfl (C2) rfl) hO hL ?_).1
 exact ⟨_, _, _, _, _, _, _, _, rfl, rfl, B9, C0, C1, B6, B7, B8⟩
theorem zq5 (n : Nat) : zk9 n ∧ zlb n := by
 induction n with
 | zero =>
  refine ⟨?_, ?_⟩
  ·intro τ q0 E t v w z B g h o rr hF; exact nomatch (show none = some rr from hF)
  ·intro τ q0 E t v w z B g h o rr hF; exact nomatch (show none = some rr from hF)
 | succ n ih =>
  obtain ⟨G, I⟩ := ih
  refine ⟨?_, ?_⟩
  ·intro τ q0 E t v w z B g h o rr hF; exact zqE G I g h o hF
  ·intro τ q0 E t v w z B g h o rr hF; exact zra G I g h o hF
theorem znc : ∀ {τ : Hp} {q0 : zf} {z : Nat} {B E : Value} {G : Ob} {I : Value} {M : Ob} (X : RdT zm τ B q0.cursor.tokens) (Y : ze zs 71 τ E q0.prog.Structs G) (Z : ze zr 50 τ I q0.prog.Funcs M) {rr : Except (Value × zf) ((List zh) × zf)} (hF : zjQ q0 = some rr), zbK Try.prog 69 #[.pointer (some ⟨z, 0, none⟩)] τ [zE z B q0.cursor.at_ E I, G, M] (fun v τ' vs' => match (generalizing := false) rr with | .ok rr => ∃ (U : Value) (V : Ob) (g h : Value) (o : Ob) (t : Value) (w : Ob), v = U ∧ vs' = [V, zE z g rr.2.cursor.at_ h t, o, w] ∧ ze zy 53 τ' U rr.1 V ∧ RdT zm τ' g rr.2.cursor.tokens ∧ ze zs 71 τ' h rr.2.prog.Structs o ∧ ze zr 50 τ' t rr.2.prog.Funcs w | .error _ => False) (fun ch τ' vs' => match (generalizing := false) rr with | .ok _ => False | .error ee => ∃ (g h : Value) (o : Ob) (t : Value) (w : Ob), ch = [{ v := ee.1, recovered := false }] ∧ vs' = [zE z g ee.2.cursor.at_ h t, o, w] ∧ RdT zm τ' g ee.2.cursor.tokens ∧ ze zs 71 τ' h ee.2.prog.Structs o ∧ ze zr 50 τ' t ee.2.prog.Funcs w) := (zq5 big).1
end Go.Proofs.Ytnhboaaikehpoaa
