import Derived.Test.YtnhboaaikehpoaaG1
namespace Go.Proofs.Ytnhboaaikehpoaa
open Go.Ab Go.RowKit
set_option linter.unusedVariables false
set_option linter.unusedSimpArgs false
set_option maxRecDepth 10000
set_option maxHeartbeats 1000000
theorem znq {τ : Hp} {q0 : zf} {o : Nat} {k0 k1 : Value} {k4 : Ob} {k5 : Value} {k6 : Ob} (f6 : RdT zm τ k0 q0.cursor.tokens) (f7 : ze zs 71 τ k1 q0.prog.Structs k4) (f8 : ze zr 50 τ k5 q0.prog.Funcs k6) {rr : Except (Value × zf) (zf)} (hF : zg8 q0 = some rr) :
  zbK Try.prog 40 #[.pointer (some ⟨o, 0, none⟩)] τ [zE o k0 q0.cursor.at_ k1 k5, k4, k6] (fun v τ' vs' => match (generalizing := false) rr with | .ok rr => ∃ (I M : Value) (U : Ob) (V : Value) (X : Ob), v = .tuple #[] ∧ vs' = [zE o I rr.cursor.at_ M V, U, X] ∧ RdT zm τ' I rr.cursor.tokens ∧ ze zs 71 τ' M rr.prog.Structs U ∧ ze zr 50 τ' V rr.prog.Funcs X | .error _ => False) (fun ch τ' vs' => match (generalizing := false) rr with | .ok _ => False | .error ee => ∃ (I M : Value) (U : Ob) (V : Value) (X : Ob), ch = [{ v := ee.1, recovered := false }] ∧ vs' = [zE o I ee.2.cursor.at_ M V, U, X] ∧ RdT zm τ' I ee.2.cursor.tokens ∧ ze zs 71 τ' M ee.2.prog.Structs U ∧ ze zr 50 τ' V ee.2.prog.Funcs X) := by
 refine zcA (args := [.pointer (some ⟨o, 0, none⟩)]) hm Try.func40 s40 rfl fun w0 σ hP hO Q hQ => ?_
 unfold zg8 at hF
 have hL := Hp.le.refl τ
 show wpn _ _ a40.body _ _ _
 unfold a40
 dsimp only
 refine za hO 3 [] [(5, zt1 o)] [0] ztL fun j => ?_
 obtain ⟨c2, h3, hF⟩ := zt6 hF
 refine zz (hs := []) hO (zl7 (f6.le hL) (f7.le hL) (f8.le hL) h3) rfl fun _ σ _ _ hO h4 h5 => ?_
 have hL := hL.trans h4
 obtain ⟨rfl, rfl⟩ := h5
 have hO := zt53 hO
 refine za hO 1 [] [(7, .agg #[(.string zs3), (.int .i64 c2), (.slice none 0 0), (.int .u8 0), (.int .i64 0), (.string zs3), (.slice none 0 0)])] [0] ztL fun j => ?_
 refine zbC hO fun b6 σ hO => ?_
 have hO := zt54 hO
 refine zx hO (i := 3) rfl (off := 0) rfl rfl rfl rfl (Nat.le_of_ble_eq_true rfl) rfl fun σ hO => ?_
 have hO := zt54 hO
 refine zc (za hO 3 [] [(10, zt1 o)] [0, 2] ztM fun j => ?_)
 refine zt (T := Ty.str) (l := ([ztc] : List ByteArray)) (cs := [.string ztc]) hO rfl ⟨[.string ztc], _, rfl, rfl, rfl⟩ rfl (by decide) fun _ σ o9 A7 hO => ?_
 have hO := zt55 hO
 obtain ⟨_, A8, f4, hO⟩ := A7.share hO (i := 4) rfl
 have hL := hL.trans A8
 have hO := zt55 hO
 have hO := hO.sel [3, 4, 0, 1, 2]
 rcases zX hF with ⟨L4, A9, hF⟩ | ⟨L5, B0, hF⟩
 ·refine zY (hs := [_, _]) hO (zco (f6.le hL) (f7.le hL) (f8.le hL) f4 A9) ztI rfl fun _ σ _ _ hO t2 B1 => ?_
  have hL := hL.trans t2
  have f4 := f4.le t2
  obtain ⟨L6, L7, L8, L9, M0, rfl, rfl, B2, B3, B4⟩ := B1
  have hO := zt55 hO
  cases hF
  have hO := hO.sel [2, 3, 4]
  exact hP _ _ _ _ hO hL ⟨_, _, _, _, _, rfl, rfl, B2, B3, B4⟩
 refine zW (hs := [_, _]) hO (zco (f6.le hL) (f7.le hL) (f8.le hL) f4 B0) ztI rfl fun _ σ _ _ hO t3 B5 => ?_
 have hL := hL.trans t3
 have f4 := f4.le t3
 obtain ⟨M1, M2, M3, M4, M5, rfl, rfl, t4, t5, t6⟩ := B5
 have hO := zt55 hO
 refine zc (za hO 3 [] [(15, zt1 o)] [0, 2] ztM fun j => ?_)
 rcases zX hF with ⟨M6, B6, hF⟩ | ⟨b3, B7, hF⟩
 ·refine zY (hs := [_, _]) hO (zbV t4 t5 t6 B6) ztI rfl fun _ σ _ _ hO B8 B9 => ?_
  have hL := hL.trans B8
  obtain ⟨M7, M8, M9, N0, N1, rfl, rfl, C0, C1, C2⟩ := B9
  have hO := zt55 hO
  cases hF
  have hO := hO.sel [2, 3, 4]
  exact hP _ _ _ _ hO hL ⟨_, _, _, _, _, rfl, rfl, C0, C1, C2⟩
 refine zW (hs := [_, _]) hO (zbV t4 t5 t6 B7) ztI rfl fun _ σ _ _ hO C3 C4 => ?_
 have hL := hL.trans C3
 obtain ⟨N2, N3, N4, N5, N6, rfl, rfl, k7, k8, l0⟩ := C4
 have hO := zt55 hO
 refine za hO 1 [] [(17, zt1 b6)] [0, 2, 16] ztN fun j => ?_
 refine zx hO (i := 0) rfl (off := 0) rfl rfl rfl rfl (Nat.le_of_ble_eq_true rfl) rfl fun σ hO => ?_
 have hO := zt55 hO
 refine zc (za hO 3 [] [(20, zt1 o)] [0, 2] ztM fun j => ?_)
 refine zt (T := Ty.str) (l := ([zs5] : List ByteArray)) (cs := [.string zs5]) hO rfl ⟨[.string zs5], _, rfl, rfl, rfl⟩ rfl (by decide) fun _ σ N7 C5 hO => ?_
 have hO := zt56 hO
 obtain ⟨_, l1, f5, hO⟩ := C5.share hO (i := 5) rfl
 have hL := hL.trans l1
 have k7 := k7.le l1
 have k8 := k8.le l1
 have l0 := l0.le l1
 have hO := zt56 hO
 have hO := hO.sel [0, 1, 5, 2, 3, 4]
 rcases zX hF with ⟨N8, C6, hF⟩ | ⟨N9, C7, hF⟩
 ·refine zY (hs := [_, _, _]) hO (zbB k7 k8 l0 f5 C6) ztI rfl fun _ σ _ _ hO t7 C8 => ?_
  have hL := hL.trans t7
  have f5 := f5.le t7
  obtain ⟨O0, F9, G0, G1, G2, rfl, rfl, t9, u0, u1⟩ := C8
  have hO := zt56 hO
  cases hF
  have hO := hO.sel [3, 4, 5]
  exact hP _ _ _ _ hO hL ⟨_, _, _, _, _, rfl, rfl, t9, u0, u1⟩
 refine zW (hs := [_, _, _]) hO (zbB k7 k8 l0 f5 C7) ztI rfl fun _ σ _ _ hO t8 C9 => ?_
 have hL := hL.trans t8
 have f5 := f5.le t8
 obtain ⟨G3, G4, G5, G6, G7, rfl, rfl, g8, g9, h0⟩ := C9
 have hO := zt56 hO
 refine zc (zi (za hO 3 [] [(25, zt1 o)] [0, 2] ztM fun j => ?_))
 refine zt (T := Ty.str) (l := ([zs4] : List ByteArray)) (cs := [.string zs4]) hO rfl ⟨[.string zs4], _, rfl, rfl, rfl⟩ rfl (by decide) fun _ σ G8 u2 hO => ?_
 have hO := zt57 hO
 obtain ⟨_, f9, h1, hO⟩ := u2.share hO (i := 6) rfl
 have hL := hL.trans f9
 have g8 := g8.le f9
 have g9 := g9.le f9
 have h0 := h0.le f9
 have hO := zt57 hO
 obtain ⟨d4, u3, hF⟩ := zt6 hF
 have hO := hO.sel [0, 1, 2, 6, 3, 4, 5]
 refine zz (hs := [_, _, _, _]) hO (zb0 g8 g9 h0 h1 u3) rfl fun _ σ _ _ hO m1 u4 => ?_
 have hL := hL.trans m1
 have h1 := h1.le m1
 obtain ⟨G9, H0, u5, H1, u6, rfl, rfl, g0, g1, g2⟩ := u4
 obtain ⟨u7, u9, rfl, -⟩ := g0.form
 obtain ⟨v0, v1, rfl, -⟩ := g1.form
 obtain ⟨v2, v3, rfl, -⟩ := g2.form
 have hO := zt57 hO
 refine zd hO [] [(28, .bool (!d4.1))] [0, 2] ztM fun j => ?_
 refine zcO (fun e' σ' => ∃ (h2 : Option Addr) (h6 : Nat) (b4 : List zl) (d5 : Int) (h7 : Option Addr) (h8 : Nat) (h9 : Ob) (b5 : List zq) (i0 : Option Addr) (i1 : Nat) (i2 : Ob) (b7 : List zo) (c5 : Option Addr) (c6 : Nat) (i3 : Ob) (B : List zbu) (τ' : Hp), agr [(0, zt1 o), (2, zt1 b6)] e' ∧ Obs τ' σ' [zE o (zt7 h2 b4 h6) d5 (zt7 h7 b5 h8) (zt7 i0 b7 i1), h9, i2, zed b6 b3.1 c2 (zt7 c5 B c6) 0 0 zs3 (.slice none 0 0), i3] ∧ Hp.le τ τ' ∧ RdT zm τ' (zt7 h2 b4 h6) b4 ∧ ze zs 71 τ' (zt7 h7 b5 h8) b5 h9 ∧ ze zr 50 τ' (zt7 i0 b7 i1) b7 i2 ∧ ze zbY 77 τ' (zt7 c5 B c6) B i3 ∧ zgo c2 b3 b4 d5 b5 b7 B = some rr) ?_ ?_
 ·refine zbm (zn hF rfl (fun hF => ?_) fun hF => ?_)
  ·refine zi (zb9 (zbk hO 3 [0] [(0, zt1 o), (2, zt1 b6), (29, .pointer (some ⟨b6, 2, none⟩)), (30, .slice none 0 0), (31, zt1 o)] (And.intro (And.intro rfl rfl) ztO) fun j => ?_))
   refine zcj ?_
   rcases zX hF with ⟨H2, v4, hF⟩ | ⟨h, v5, hF⟩
   ·refine zY (hs := [_, _, _, _]) hO (zjj g0 g1 g2 v4) ztI rfl fun _ σ _ _ hO v6 v7 => ?_
    have hL := hL.trans v6
    obtain ⟨H3, H4, H5, H6, H7, rfl, rfl, v8, v9, w2⟩ := v7
    have hO := zt57 hO
    cases hF
    have hO := hO.sel [4, 5, 6]
    exact hP _ _ _ _ hO hL ⟨_, _, _, _, _, rfl, rfl, v8, v9, w2⟩
   refine zW (hs := [_, _, _, _]) hO (zjj g0 g1 g2 v5) ztI rfl fun _ σ _ _ hO w3 w4 => ?_
   have hL := hL.trans w3
   obtain ⟨H8, H9, w5, I0, w6, rfl, rfl, m2, m3, m4⟩ := w4
   obtain ⟨w7, w8, rfl, -⟩ := m2.form
   obtain ⟨w9, x0, rfl, -⟩ := m3.form
   obtain ⟨x1, x2, rfl, -⟩ := m4.form
   have hO := zt57 hO
   refine zc (zcg ⟨(zb1 rfl (hO.val (i := 0) (off := 2) (agg := false) (n := 1) rfl rfl) rfl), trivial⟩ ?_)
   refine zcj (zt (T := zbY) (l := ([(⟨h.1.Name, (⟨h.1.Type_.Kind, h.1.Type_.N, h.1.Type_.Name⟩ : zR)⟩ : zbu)] : List zbu)) (cs := [.string h.1.Name, .int .u8 (h.1.Type_.Kind.toNat : Int), .int .i64 h.1.Type_.N, .string h.1.Type_.Name]) hO rfl ⟨[.string h.1.Name, .int .u8 (h.1.Type_.Kind.toNat : Int), .int .i64 h.1.Type_.N, .string h.1.Type_.Name], _, rfl, rfl, rfl⟩ rfl (by decide) fun _ σ I1 x3 hO => ?_)
   have hO := zt58 hO
   refine zc (zcg ⟨(zb1 rfl (hO.val (i := 0) (off := 2) (agg := false) (n := 1) rfl rfl) rfl), trivial⟩ ?_)
   have hO := hO.no
   have hO := zt59 hO
   have x4 := ze.nil0 (T := zbY) (ty := 77) hO
   obtain ⟨_, n9, hF⟩ := zt6 hF
   refine zho (T := zbY) znr hO x4 (i := 8) rfl rfl rfl (x3.rd hO (i := 7) rfl) n9 (by decide) fun _ σ x5 m5 hO => ?_
   obtain ⟨x6, x7, rfl, -⟩ := m5.form
   have hO := zt59 hO
   refine za hO 1 [] [(35, .pointer (some ⟨b6, 2, none⟩))] [0, 2, 34] ztN fun j => ?_
   refine zx hO (i := 0) rfl (off := 2) rfl rfl rfl rfl (Nat.le_of_ble_eq_true rfl) rfl fun σ hO => ?_
   have hO := zt59 hO
   refine zc (zi (zH ?_))
   have hO := hO.sel [4, 5, 6, 0, 8]
   refine zbo (fun (n : Nat) e' σ' => ∃ (i4 : Option Addr) (i5 : Nat) (b8 : List zl) (d6 : Int) (i6 : Option Addr) (i7 : Nat) (i8 : Ob) (b9 : List zq) (i9 : Option Addr) (j0 : Nat) (j1 : Ob) (c0 : List zo) (d7 : Option Addr) (d8 : Nat) (g3 : Ob) (E : List zbu) (τ' : Hp), agr [(0, zt1 o), (2, zt1 b6)] e' ∧ Obs τ' σ' [zE o (zt7 i4 b8 i5) d6 (zt7 i6 b9 i7) (zt7 i9 c0 j0), i8, j1, zed b6 b3.1 c2 (zt7 d7 E d8) 0 0 zs3 (.slice none 0 0), g3] ∧ Hp.le τ τ' ∧ RdT zm τ' (zt7 i4 b8 i5) b8 ∧ ze zs 71 τ' (zt7 i6 b9 i7) b9 i8 ∧ ze zr 50 τ' (zt7 i9 c0 j0) c0 j1 ∧ ze zbY 77 τ' (zt7 d7 E d8) E g3 ∧ zf2 c2 b3 n b8 d6 b9 c0 E = some rr) big ⟨w7, w8, h.2.cursor.tokens, h.2.cursor.at_, w9, x0, w5, h.2.prog.Structs, x1, x2, w6, h.2.prog.Funcs, x6, x7, x5, (([] : List zbu) ++ ([(⟨h.1.Name, (⟨h.1.Type_.Kind, h.1.Type_.N, h.1.Type_.Name⟩ : zR)⟩ : zbu)] : List zbu)), _, ztZ ztK, hO, hL, m2, m3, m4, m5, hF⟩ ?_
   clear hF hO hL
   rintro g4 e σ ⟨i4, i5, b8, d6, i6, i7, i8, b9, i9, j0, j1, c0, d7, d8, g3, E, _, hA, hO, hL, j2, j3, j4, w, hF⟩
   rw [← zM _ _ hA]
   cases g4 with
   | zero => exact nomatch (show none = some rr from hF)
   | succ g4 =>
   replace hF : zhq (zf2 c2 b3 g4) c2 b3 b8 d6 b9 c0 E = some rr := hF
   unfold zhq at hF
   refine zi (za hO 3 [] [(38, zt1 o)] [0, 2] ztM fun j => ?_)
   refine zt (T := Ty.str) (l := ([ztt] : List ByteArray)) (cs := [.string ztt]) hO rfl ⟨[.string ztt], _, rfl, rfl, rfl⟩ rfl (by decide) fun _ σ I2 x8 hO => ?_
   have hO := zt56 hO
   obtain ⟨_, d9, j5, hO⟩ := x8.share hO (i := 5) rfl
   have hL := hL.trans d9
   have j2 := j2.le d9
   have j3 := j3.le d9
   have j4 := j4.le d9
   have w := w.le d9
   have hO := zt56 hO
   obtain ⟨I3, x9, hF⟩ := zt6 hF
   have hO := hO.sel [3, 4, 5, 0, 1, 2]
   refine zz (hs := [_, _, _]) hO (zb0 (q0 := (⟨(⟨b8, d6⟩ : zbe), (⟨b9, c0⟩ : zB)⟩ : zf)) j2 j3 j4 j5 x9) rfl fun _ σ _ _ hO j6 o0 => ?_
   have hL := hL.trans j6
   have j5 := j5.le j6
   have w := w.le j6
   obtain ⟨D0, D1, D2, D3, D4, rfl, rfl, Z, b0, b1⟩ := o0
   have hO := zt56 hO
   refine zc (zn hF rfl (fun hF => ?_) fun hF => ?_)
   ·refine zA (zbU (zH (zfO (za hO 3 [0] [(41, .pointer (some ⟨b6, 2, none⟩)), (42, zt7 d7 E d8), (43, zt1 o)] [0, 2] (And.intro (And.intro rfl rfl) ztO) fun j => ?_))))
    refine zcj ?_
    rcases zX hF with ⟨D5, o1, hF⟩ | ⟨g, o2, hF⟩
    ·refine zY (hs := [_, _, _]) hO (zjj Z b0 b1 o1) ztI rfl fun _ σ _ _ hO l2 o3 => ?_
     have hL := hL.trans l2
     have w := w.le l2
     obtain ⟨D6, D7, D8, D9, E1, rfl, rfl, o4, o5, o6⟩ := o3
     have hO := zt56 hO
     cases hF
     have hO := hO.sel [3, 4, 5]
     exact hP _ _ _ _ hO hL ⟨_, _, _, _, _, rfl, rfl, o4, o5, o6⟩
    refine zW (hs := [_, _, _]) hO (zjj Z b0 b1 o2) ztI rfl fun _ σ _ _ hO l3 o7 => ?_
    have hL := hL.trans l3
    have w := w.le l3
    obtain ⟨E2, E3, o8, E4, p2, rfl, rfl, l4, l5, l6⟩ := o7
    obtain ⟨p3, p4, rfl, -⟩ := l4.form
    obtain ⟨p5, p6, rfl, -⟩ := l5.form
    obtain ⟨p7, p8, rfl, -⟩ := l6.form
    have hO := zt56 hO
    refine zc (zcg ⟨(zb1 rfl (hO.val (i := 0) (off := 2) (agg := false) (n := 1) rfl rfl) rfl), trivial⟩ ?_)
    refine zcj (zt (T := zbY) (l := ([(⟨g.1.Name, (⟨g.1.Type_.Kind, g.1.Type_.N, g.1.Type_.Name⟩ : zR)⟩ : zbu)] : List zbu)) (cs := [.string g.1.Name, .int .u8 (g.1.Type_.Kind.toNat : Int), .int .i64 g.1.Type_.N, .string g.1.Type_.Name]) hO rfl ⟨[.string g.1.Name, .int .u8 (g.1.Type_.Kind.toNat : Int), .int .i64 g.1.Type_.N, .string g.1.Type_.Name], _, rfl, rfl, rfl⟩ rfl (by decide) fun _ σ E5 p9 hO => ?_)
    have hO := zt57 hO
    refine zc (zcg ⟨(zb1 rfl (hO.val (i := 0) (off := 2) (agg := false) (n := 1) rfl rfl) rfl), trivial⟩ ?_)
    obtain ⟨_, m6, hF⟩ := zt6 hF
    refine zho (T := zbY) znr hO w (i := 1) rfl rfl rfl (p9.rd hO (i := 6) rfl) m6 (by decide) fun _ σ q2 l7 hO => ?_
    obtain ⟨q3, q4, rfl, -⟩ := l7.form
    have hO := zt57 hO
    refine za hO 1 [] [(47, .pointer (some ⟨b6, 2, none⟩))] [0, 2, 46] ztN fun j => ?_
    refine zx hO (i := 0) rfl (off := 2) rfl rfl rfl rfl (Nat.le_of_ble_eq_true rfl) rfl fun σ hO => ?_
    have hO := zt57 hO
    refine zc (zg (zC (zj (zg (zj ?_)))))
    have hO := hO.sel [3, 4, 5, 0, 1]
    exact ⟨g4, Nat.lt_succ_self _, p3, p4, g.2.cursor.tokens, g.2.cursor.at_, p5, p6, o8, g.2.prog.Structs, p7, p8, p2, g.2.prog.Funcs, q3, q4, q2, (E ++ ([(⟨g.1.Name, (⟨g.1.Type_.Kind, g.1.Type_.N, g.1.Type_.Name⟩ : zR)⟩ : zbu)] : List zbu)), _, ztZ ztK, hO, hL, l4, l5, l6, l7, hF⟩
   refine zbs (zbp (zbr (zj (za hO 3 [] [(50, zt1 o)] [0, 2] ztM fun j => ?_))))
   refine zt (T := Ty.str) (l := ([zs4] : List ByteArray)) (cs := [.string zs4]) hO rfl ⟨[.string zs4], _, rfl, rfl, rfl⟩ rfl (by decide) fun _ σ E6 q5 hO => ?_
   have hO := zt57 hO
   obtain ⟨_, c4, b2, hO⟩ := q5.share hO (i := 6) rfl
   have hL := hL.trans c4
   have w := w.le c4
   have Z := Z.le c4
   have b0 := b0.le c4
   have b1 := b1.le c4
   have hO := zt57 hO
   have hO := hO.sel [0, 1, 2, 6, 3, 4, 5]
   rcases zX hF with ⟨E7, q6, hF⟩ | ⟨c9, q7, hF⟩
   ·refine zY (hs := [_, _, _, _]) hO (zbB Z b0 b1 b2 q6) ztI rfl fun _ σ _ _ hO g5 q8 => ?_
    have hL := hL.trans g5
    have b2 := b2.le g5
    have w := w.le g5
    obtain ⟨E8, E9, F0, F1, F2, rfl, rfl, q9, r0, r1⟩ := q8
    have hO := zt57 hO
    cases hF
    have hO := hO.sel [4, 5, 6]
    exact hP _ _ _ _ hO hL ⟨_, _, _, _, _, rfl, rfl, q9, r0, r1⟩
   refine zW (hs := [_, _, _, _]) hO (zbB Z b0 b1 b2 q7) ztI rfl fun _ σ _ _ hO g6 r2 => ?_
   have hL := hL.trans g6
   have b2 := b2.le g6
   have w := w.le g6
   obtain ⟨F3, F4, r3, F5, r4, rfl, rfl, l8, l9, m0⟩ := r2
   obtain ⟨r5, r6, rfl, -⟩ := l8.form
   obtain ⟨r7, r8, rfl, -⟩ := l9.form
   obtain ⟨r9, t0, rfl, -⟩ := m0.form
   have hO := zt57 hO
   refine zc (zg (zj ?_))
   have hO := hO.sel [4, 5, 6, 0, 1]
   exact ⟨r5, r6, c9.cursor.tokens, c9.cursor.at_, r7, r8, r3, c9.prog.Structs, r9, t0, r4, c9.prog.Funcs, d7, d8, g3, E, _, ztZ ztK, hO, hL, l8, l9, m0, w, hF⟩
  refine zA (zg (zj ?_))
  have hO := hO.no
  have hO := zt58 hO
  have hO := hO.sel [4, 5, 6, 0, 7]
  exact ⟨u7, u9, d4.2.cursor.tokens, d4.2.cursor.at_, v0, v1, u5, d4.2.prog.Structs, v2, v3, u6, d4.2.prog.Funcs, none, 0, none, [], _, ztZ ztK, hO, hL, g0, g1, g2, ze.nil _ _ _, hF⟩
 rintro e σ ⟨h2, h6, b4, d5, h7, h8, h9, b5, i0, i1, i2, b7, c5, c6, i3, B, _, hA, hO, hL, m7, m8, m9, G, hF⟩
 rw [← zM _ _ hA]
 unfold zgo at hF
 refine za hO 1 [] [(53, zt1 o)] [0, 2] ztM fun j => ?_
 have hO := hO.sel [3, 4, 0, 1, 2]
 rcases zX hF with ⟨I4, y0, hF⟩ | ⟨z, y1, hF⟩
 ·refine zY (hs := [_, _]) hO (zfN (q0 := (⟨(⟨b4, d5⟩ : zbe), (⟨b5, b7⟩ : zB)⟩ : zf)) m7 m8 m9 y0) ztI rfl fun _ σ _ _ hO n0 y2 => ?_
  have hL := hL.trans n0
  have G := G.le n0
  obtain ⟨I5, I6, I7, I8, I9, rfl, rfl, y3, y4, y5⟩ := y2
  have hO := zt55 hO
  cases hF
  have hO := hO.sel [2, 3, 4]
  exact hP _ _ _ _ hO hL ⟨_, _, _, _, _, rfl, rfl, y3, y4, y5⟩
 refine zW (hs := [_, _]) hO (zfN (q0 := (⟨(⟨b4, d5⟩ : zbe), (⟨b5, b7⟩ : zB)⟩ : zf)) m7 m8 m9 y1) ztI rfl fun _ σ _ _ hO n1 y6 => ?_
 have hL := hL.trans n1
 have G := G.le n1
 obtain ⟨J0, J1, J2, J3, J4, rfl, rfl, n2, n3, n4⟩ := y6
 have hO := zt55 hO
 refine za hO 1 [] [(55, .pointer (some ⟨b6, 3, none⟩))] [0, 2, 54] ztN fun j => ?_
 refine zx hO (i := 0) rfl (off := 3) rfl rfl rfl rfl (Nat.le_of_ble_eq_true rfl) rfl fun σ hO => ?_
 have hO := zt55 hO
 refine zc (za hO 1 [] [(56, zt1 o)] [0, 2] ztM fun j => ?_)
 rcases zX hF with ⟨J5, y7, hF⟩ | ⟨f0, y8, hF⟩
 ·refine zY (hs := [_, _]) hO (znc n2 n3 n4 y7) ztI rfl fun _ σ _ _ hO n5 y9 => ?_
  have hL := hL.trans n5
  have G := G.le n5
  obtain ⟨J6, J7, J8, J9, K0, rfl, rfl, A0, A1, A2⟩ := y9
  have hO := zt55 hO
  cases hF
  have hO := hO.sel [2, 3, 4]
  exact hP _ _ _ _ hO hL ⟨_, _, _, _, _, rfl, rfl, A0, A1, A2⟩
 refine zW (hs := [_, _]) hO (znc n2 n3 n4 y8) ztI rfl fun _ σ _ _ hO n6 A3 => ?_
 have hL := hL.trans n6
 have G := G.le n6
 obtain ⟨K1, K2, K3, K4, K5, K6, K7, rfl, rfl, g7, c1, c3, Y⟩ := A3
 obtain ⟨j7, j8, rfl, -⟩ := g7.form
 obtain ⟨A4, A5, rfl, -⟩ := Y.form
 have hO := zt56 hO
 refine za hO 1 [] [(58, .pointer (some ⟨b6, 6, none⟩))] [0, 2, 57] ztN fun j => ?_
 refine zx hO (i := 0) rfl (off := 6) rfl rfl rfl rfl (Nat.le_of_ble_eq_true rfl) rfl fun σ hO => ?_
 have hO := zt56 hO
 refine zc (zfO (za hO 7 [3, 0] [(59, zt1 o), (63, .pointer (some ⟨o, 3, none⟩)), (64, zt7 A4 f0.2.prog.Funcs A5), (65, .agg #[(.string b3.1), (.int .i64 c2), (zt7 c5 B c6), (.int .u8 (z.1.Kind.toNat : Int)), (.int .i64 z.1.N), (.string z.1.Name), (zt7 j7 f0.1 j8)])] [0] (And.intro (And.intro rfl rfl) (And.intro (And.intro rfl rfl) ztO)) fun j => ?_))
 refine zcj ?_
 obtain ⟨_, f1, f2, hO⟩ := G.share hO (i := 1) rfl
 have hL := hL.trans f1
 have Y := Y.le f1
 have g7 := g7.le f1
 have c1 := c1.le f1
 have c3 := c3.le f1
 have hO := zt56 hO
 obtain ⟨_, f3, j9, hO⟩ := g7.share hO (i := 2) rfl
 have hL := hL.trans f3
 have Y := Y.le f3
 have f2 := f2.le f3
 have c1 := c1.le f3
 have c3 := c3.le f3
 have hO := zt56 hO
 refine zt (T := zr) (l := ([(⟨b3.1, c2, B, (⟨z.1.Kind, z.1.N, z.1.Name⟩ : zR), f0.1⟩ : zo)] : List zo)) (cs := [.string b3.1, .int .i64 c2, zt7 c5 B c6, .int .u8 (z.1.Kind.toNat : Int), .int .i64 z.1.N, .string z.1.Name, zt7 j7 f0.1 j8]) hO rfl ⟨[.string b3.1, .int .i64 c2, zt7 c5 B c6, .int .u8 (z.1.Kind.toNat : Int), .int .i64 z.1.N, .string z.1.Name, zt7 j7 f0.1 j8], _, rfl, ⟨_, _, rfl, f2, j9⟩, rfl⟩ rfl (by decide) fun _ σ K8 n7 hO => ?_
 obtain ⟨K9, L0, rfl, -⟩ := n7.form
 have hO := zt57 hO
 refine zc (zcg ⟨(zb1 rfl (hO.val (i := 3) (off := 3) (agg := false) (n := 1) rfl rfl) rfl), trivial⟩ ?_)
 obtain ⟨_, c7, A6, hO⟩ := n7.share hO (i := 6) rfl
 have hL := hL.trans c7
 have Y := Y.le c7
 have f2 := f2.le c7
 have j9 := j9.le c7
 have c1 := c1.le c7
 have c3 := c3.le c7
 have hO := zt57 hO
 obtain ⟨_, t1, hF⟩ := zt6 hF
 refine ziO (T := zr) hO Y (i := 5) rfl rfl rfl A6 t1 (by decide) fun _ σ L1 n8 hO => ?_
 obtain ⟨L2, L3, rfl, -⟩ := n8.form
 have hO := zt57 hO
 refine za hO 3 [] [(70, .pointer (some ⟨o, 3, none⟩))] [0, 67] ztM fun j => ?_
 refine zx hO (i := 3) rfl (off := 3) rfl rfl rfl rfl (Nat.le_of_ble_eq_true rfl) rfl fun σ hO => ?_
 have hO := zt57 hO
 refine zc (zg ?_)
 cases hF
 have hO := hO.sel [3, 4, 5]
 refine (hQ _ _ _ _ _ rfl hO hL ?_).2
 exact ⟨_, _, _, _, _, rfl, rfl, c1, c3, n8⟩
abbrev znW (o bmf0 : Nat) (rr : Except (Value × zf × Bool) (zf × Bool)) : List PanicEntry → Hp → List Ob → Prop := fun ch τ' vs' => match (generalizing := false) rr with | .ok _ => False | .error ee => ∃ (I M : Value) (U : Ob) (V : Value) (X : Ob), ch = [{ v := ee.1, recovered := false }] ∧ vs' = [zE o I ee.2.1.cursor.at_ M V, U, X, some (bmf0, ⟨[.bool ee.2.2], 4, 1, true⟩)] ∧ RdT zm τ' I ee.2.1.cursor.tokens ∧ ze zs 71 τ' M ee.2.1.prog.Structs U ∧ ze zr 50 τ' V ee.2.1.prog.Funcs X
def zkC : zbA := (.seq (.block 0 (.loop (.seq (.seq (.par [.s ⟨(some 4), .mv (.t 0), []⟩,
 .s ⟨(some 5), .nilchk (.t 4), []⟩,
 .s ⟨(some 6), .faddr 0 (.t 5), []⟩,
 .s ⟨(some 7), .faddr 1 (.t 6), []⟩,
 .s ⟨(some 8), .load false 1 (.t 7), []⟩,
 .s ⟨(some 9), .mv (.t 0), []⟩,
 .s ⟨(some 10), .nilchk (.t 9), []⟩,
 .s ⟨(some 11), .faddr 0 (.t 10), []⟩,
 .s ⟨(some 12), .faddr 0 (.t 11), []⟩,
 .s ⟨(some 13), .load false 1 (.t 12), []⟩,
 .s ⟨(some 14), .lenL (.t 13), []⟩,
 .s ⟨(some 15), .bin .lss (.t 8) (.t 14), []⟩])
(.cond (.t 15) .skip
(.exit 0)))
(.block 1 (.seq (.reg [.s ⟨(some 16), .mv (.t 0), []⟩,
 .s ⟨(some 17), .nilchk (.t 16), []⟩,
 .s ⟨(some 18), .faddr 0 (.t 17), []⟩,
 .s ⟨(some 19), .bslice 9 1 [(.string zs3)] [(0, 1, (.c (.string zte)))], []⟩,
 .s ⟨(some 20), .call 38 [(.t 18), (.c (.int .u8 3)), (.t 19)], []⟩])
(.cond (.t 20) (.reg [.s ⟨(some 21), .mv (.t 0), []⟩,
 .s ⟨(some 22), .call 39 [(.t 21)], []⟩])
(.reg [.s ⟨(some 23), .mv (.t 0), []⟩,
 .s ⟨(some 24), .call 40 [(.t 23)], []⟩])))))))
(.seq (.reg [.s ⟨none, .store 1 (.t 2) (.c (.bool true)), []⟩])
.ret))
theorem znb {τ : Hp} {q0 : zf} {w : Nat} {c2 c3 : Value} {G : Ob} {c4 : Value} {I : Ob} {E : Bool} {bmf0 : Nat} (c5 : RdT zm τ c2 q0.cursor.tokens) (c6 : ze zs 71 τ c3 q0.prog.Structs G) (c7 : ze zr 50 τ c4 q0.prog.Funcs I) {w0 : Base} {σ : Hp} {Q : Exit → Env → Hp → Prop} {e0 : Env} {rr : Except (Value × zf × Bool) (zf × Bool)} (hF : zhj q0 E = some rr) (hP : ∀ ch σ' τ' vs', Obs τ' σ' vs' → Hp.le τ τ' → (znW w bmf0 rr) ch τ' vs' → w0.pan ch σ') (hO : Obs τ σ [zE w c2 q0.cursor.at_ c3 c4, G, I, some (bmf0, ⟨[.bool E], 4, 1, true⟩)]) (hQ : ∀ e σ' rs τ' vs', resvs e σ' [] = some rs → Obs τ' σ' vs' → Hp.le τ τ' → (fun v τ' vs' => match (generalizing := false) rr with | .ok rr => ∃ (c8 c9 : Value) (d0 : Ob) (d4 : Value) (d5 : Ob), v = .tuple #[] ∧ vs' = [zE w c8 rr.1.cursor.at_ c9 d4, d0, d5, some (bmf0, ⟨[.bool rr.2], 4, 1, true⟩)] ∧ RdT zm τ' c8 rr.1.cursor.tokens ∧ ze zs 71 τ' c9 rr.1.prog.Structs d0 ∧ ze zr 50 τ' d4 rr.1.prog.Funcs d5 | .error _ => False) (zcI rs) τ' vs' → Q .ret e σ' ∧ Q .normal e σ') : wpn Try.prog w0 zkC Q (sets [(0, .pointer (some ⟨w, 0, none⟩)), (2, .pointer (some ⟨bmf0, 0, none⟩))] e0) σ := by
 obtain ⟨f3, f4, rfl, -⟩ := c5.form
 obtain ⟨f5, f6, rfl, -⟩ := c6.form
 obtain ⟨f7, f8, rfl, -⟩ := c7.form
 unfold zkC
 unfold zhj at hF
 have hL := Hp.le.refl τ
 refine zH (zbo (fun (n : Nat) e' σ' => ∃ (b3 : Option Addr) (b4 : Nat) (g : List zl) (z : Int) (b5 : Option Addr) (b6 : Nat) (b7 : Ob) (h : List zq) (b8 : Option Addr) (b9 : Nat) (c0 : Ob) (o : List zo) (τ' : Hp), agr [(0, zt1 w), (2, zt1 bmf0)] e' ∧ Obs τ' σ' [zE w (zt7 b3 g b4) z (zt7 b5 h b6) (zt7 b8 o b9), b7, c0, some (bmf0, ⟨[.bool E], 4, 1, true⟩)] ∧ Hp.le τ τ' ∧ RdT zm τ' (zt7 b3 g b4) g ∧ ze zs 71 τ' (zt7 b5 h b6) h b7 ∧ ze zr 50 τ' (zt7 b8 o b9) o c0 ∧ zek E n g z h o = some rr) big ⟨f3, f4, q0.cursor.tokens, q0.cursor.at_, f5, f6, G, q0.prog.Structs, f7, f8, I, q0.prog.Funcs, _, ztZ ztK, hO, hL, (c5.le hL), (c6.le hL), (c7.le hL), hF⟩ ?_)
 clear hF hO hL
 rintro B e σ ⟨b3, b4, g, z, b5, b6, b7, h, b8, b9, c0, o, _, hA, hO, hL, M, U, V, hF⟩
 rw [← zM _ _ hA]
 cases B with
 | zero => exact nomatch (show none = some rr from hF)
 | succ B =>
 replace hF : zfl (zek E B) E g z h o = some rr := hF
 unfold zfl at hF
 refine zi (zb9 (zd hO [0, 0] [(15, .bool (decide (z < (g.length : Int))))] [0, 2] (And.intro (And.intro rfl rfl) (And.intro (And.intro rfl rfl) ztM)) fun j => ?_))
 refine zn hF rfl (fun hF => ?_) fun hF => ?_
 ·refine zA (zbU (zH (za hO 3 [] [(18, zt1 w)] [0, 2] ztM fun j => ?_)))
  refine zt (T := Ty.str) (l := ([zte] : List ByteArray)) (cs := [.string zte]) hO rfl ⟨[.string zte], _, rfl, rfl, rfl⟩ rfl (by decide) fun _ σ j7 f9 hO => ?_
  have hO := zt55 hO
  obtain ⟨_, X, c1, hO⟩ := f9.share hO (i := 4) rfl
  have hL := hL.trans X
  have M := M.le X
  have U := U.le X
  have V := V.le X
  have hO := zt55 hO
  obtain ⟨j8, g0, hF⟩ := zt6 hF
  have hO := hO.sel [3, 4, 0, 1, 2]
  refine zz (hs := [_, _]) hO (zb0 (q0 := (⟨(⟨g, z⟩ : zbe), (⟨h, o⟩ : zB)⟩ : zf)) M U V c1 g0) rfl fun _ σ _ _ hO d6 g1 => ?_
  have hL := hL.trans d6
  have c1 := c1.le d6
  obtain ⟨j9, k0, k1, k4, k5, rfl, rfl, Y, Z, b0⟩ := g1
  have hO := zt55 hO
  refine zc (zbm (zn hF rfl (fun hF => ?_) fun hF => ?_))
  ·refine za hO 1 [] [(21, zt1 w)] [0, 2] ztM fun j => ?_
   rcases zX hF with ⟨k6, g2, hF⟩ | ⟨b1, g3, hF⟩
   ·refine zY (hs := [_, _]) hO (znD Y Z b0 g2) ztI rfl fun _ σ _ _ hO g4 g5 => ?_
    have hL := hL.trans g4
    obtain ⟨k7, k8, l0, l1, l2, rfl, rfl, g6, g7, g8⟩ := g5
    have hO := zt55 hO
    cases hF
    have hO := hO.sel [2, 3, 4, 0]
    exact hP _ _ _ _ hO hL ⟨_, _, _, _, _, rfl, rfl, g6, g7, g8⟩
   refine zW (hs := [_, _]) hO (znD Y Z b0 g3) ztI rfl fun _ σ _ _ hO g9 h0 => ?_
   have hL := hL.trans g9
   obtain ⟨l3, l4, h1, l5, h2, rfl, rfl, d7, d8, d9⟩ := h0
   obtain ⟨h3, h4, rfl, -⟩ := d7.form
   obtain ⟨h5, h6, rfl, -⟩ := d8.form
   obtain ⟨h7, h8, rfl, -⟩ := d9.form
   have hO := zt55 hO
   refine zc (zg (zC (zj (zg (zj ?_)))))
   have hO := hO.sel [2, 3, 4, 0]
   exact ⟨B, Nat.lt_succ_self _, h3, h4, b1.cursor.tokens, b1.cursor.at_, h5, h6, h1, b1.prog.Structs, h7, h8, h2, b1.prog.Funcs, _, ztZ ztK, hO, hL, d7, d8, d9, hF⟩
  refine za hO 1 [] [(23, zt1 w)] [0, 2] ztM fun j => ?_
  rcases zX hF with ⟨l6, h9, hF⟩ | ⟨b2, i0, hF⟩
  ·refine zY (hs := [_, _]) hO (znq Y Z b0 h9) ztI rfl fun _ σ _ _ hO i1 i2 => ?_
   have hL := hL.trans i1
   obtain ⟨l7, l8, l9, m0, m1, rfl, rfl, i3, i4, i5⟩ := i2
   have hO := zt55 hO
   cases hF
   have hO := hO.sel [2, 3, 4, 0]
   exact hP _ _ _ _ hO hL ⟨_, _, _, _, _, rfl, rfl, i3, i4, i5⟩
  refine zW (hs := [_, _]) hO (znq Y Z b0 i0) ztI rfl fun _ σ _ _ hO i6 i7 => ?_
  have hL := hL.trans i6
  obtain ⟨m2, m3, i8, m4, i9, rfl, rfl, f0, f1, f2⟩ := i7
  obtain ⟨j0, j1, rfl, -⟩ := f0.form
  obtain ⟨j2, j3, rfl, -⟩ := f1.form
  obtain ⟨j4, j5, rfl, -⟩ := f2.form
  have hO := zt55 hO
  refine zc (zg (zC (zj (zg (zj ?_)))))
  have hO := hO.sel [2, 3, 4, 0]
  exact ⟨B, Nat.lt_succ_self _, j0, j1, b2.cursor.tokens, b2.cursor.at_, j2, j3, i8, b2.prog.Structs, j4, j5, i9, b2.prog.Funcs, _, ztZ ztK, hO, hL, f0, f1, f2, hF⟩
 refine zbs (zbp (zbr (zj (zx hO (i := 3) rfl (off := 0) rfl rfl rfl rfl (Nat.le_of_ble_eq_true rfl) rfl fun σ hO => ?_))))
 have hO := zt54 hO
 refine zc (z9 ?_)
 cases hF
 refine (hQ _ _ _ _ _ rfl hO hL ?_).1
 exact ⟨_, _, _, _, _, rfl, rfl, M, U, V⟩
def zh4 : zbA := (.block 0 (.seq (.reg [.s ⟨(some 6), .inil false (.t 4), []⟩])
(.cond (.t 6) (.reg [.s ⟨(some 1), .mv (.t 4), []⟩])
(.seq (.reg [.s ⟨(some 7), .tas 92 ((.agg #[])) (.t 4), []⟩,
 .s ⟨(some 8), .ext 1 (.t 7), []⟩,
 .s ⟨(some 9), .ext 0 (.t 7), []⟩])
(.cond (.t 8) (.seq (.reg [.s ⟨(some 2), .alloc 92 [], []⟩,
 .s ⟨none, .store 0 (.t 2) (.t 9), []⟩])
(.reg [.s ⟨none, .store 1 (.t 0) (.c (.bool false)), []⟩]))
(.seq (.reg [.s ⟨(some 3), .mv (.t 4), []⟩])
(.reg [.s ⟨(some 5), .mv (.t 3), []⟩,
 .s ⟨none, .pan (.t 5), []⟩])))))))
def a37 : zjB := ⟨10, 4, 4, zh4⟩
theorem s37 : zkD Try.prog Try.f37 = some a37.fn := by kernel_rfl
def a18 : zhD := ⟨25, [.c 2 false 1], (.pre (.reg [.s ⟨(some 2), .alloc 4 [(.bool false)], []⟩])
(.dfr 3 37 [(.t 2)] zkC))⟩
theorem s18 : zi4 Try.prog [0, 1, 2] Try.f18 = some a18.fn := by kernel_rfl
theorem zpP {v : Value} (h : zh7 v = true) : v = .iface 92 (.agg #[]) := by
 unfold zh7 at h
 split at h
 ·rename_i t cs
  simp only [Bool.and_eq_true, decide_eq_true_eq] at h
  obtain ⟨rfl, h⟩ := h
  rw [Array.eq_empty_of_size_eq_zero h]
 ·cases h
theorem zpH {τ : Hp} {q0 : zf} {g : Nat} {t w : Value} {B : Ob} {E : Value} {G : Ob} (I : RdT zm τ t q0.cursor.tokens) (M : ze zs 71 τ w q0.prog.Structs B) (U : ze zr 50 τ E q0.prog.Funcs G) {rr : Bool × zf} (hF : ziF q0 = some rr) :
  Ctr Try.prog 18 #[.pointer (some ⟨g, 0, none⟩)] τ [zE g t q0.cursor.at_ w E, B, G] (fun v τ' vs' => ∃ (V X : Value) (Y : Ob) (Z : Value) (b0 : Ob), v = .bool rr.1 ∧ vs' = [zE g V rr.2.cursor.at_ X Z, Y, b0] ∧ RdT zm τ' V rr.2.cursor.tokens ∧ ze zs 71 τ' X rr.2.prog.Structs Y ∧ ze zr 50 τ' Z rr.2.prog.Funcs b0) := by
 refine zoh (J := [0, 1, 2]) (af := a18) (args := [.pointer (some ⟨g, 0, none⟩)]) hm Try.func18 s18 rfl fun w0 σ hO Q hQ => ?_
 unfold ziF at hF
 have hL := Hp.le.refl τ
 show zeW _ _ _ a18.body _ _ _
 unfold a18
 dsimp only [zeW]
 refine z3 (zbC hO fun o σ hO => ?_)
 have hO := zt54 hO
 refine zc (zg ?_)
 dsimp only [thn]
 cases hB : zhj q0 false with
 | none => rw [hB] at hF; cases hF
 | some r =>
  rw [hB] at hF
  cases r with
  | ok c =>
   replace hF : some (c.2, c.1) = some rr := hF
   cases hF
   refine ⟨fun _ _ => False, fun _ _ _ h => h.elim, ?_⟩
   refine (congrArg (fun z => wpn _ _ _ _ z _) (zM [(0, zt1 g), (2, zt1 o)] _ ⟨rfl, rfl, trivial⟩)).mp ?_
   refine znb I M U hB (fun _ _ _ _ _ _ h => h.elim) hO fun e σ' rs τ' vs' _ hO' hle hK => ?_
   obtain ⟨u0, u2, y2, u3, y3, _, rfl, f0, f2, f3⟩ := hK
   have b1 := hO'.val (i := 3) rfl (off := 0) (agg := false) (n := 1) rfl
   have b8 := hO'.sel [0, 1, 2]
   have key : e 2 = .pointer (some ⟨o, 0, none⟩) → zeD Try.prog w0 37 #[.pointer (some ⟨o, 0, none⟩)] .returning σ' fun u' σ'' => settle u' = .returning ∧ Q .ret e σ'' := fun hD => by
    refine znk (args := [.pointer (some ⟨o, 0, none⟩)]) hm Try.func37 s37 rfl ?_
    show wpn _ _ zh4 _ _ _
    unfold zh4
    refine zbU (zH (zU hO' [] [(4, .nilIface), (6, .bool true)] ztL fun j => ?_))
    refine zbm (zk5 rfl ?_)
    refine zU hO' [] [(4, .nilIface)] ztK fun j => ?_
    refine zg (zC (zj (zg ?_)))
    exact ⟨.inr rfl, rfl, hQ _ _ _ _ _ (zbE hD b1 rfl) b8 (hL.trans hle) ⟨_, _, _, _, _, rfl, rfl, f0, f2, f3⟩⟩
   exact ⟨.inl ⟨.inl rfl, fun hD => key (hD 2 (by decide))⟩, .inl ⟨.inr rfl, fun hD => key (hD 2 (by decide))⟩⟩
  | error c =>
   replace hF : (if zh7 c.1 = true then some (false, c.2.1) else none) = some rr := hF
   rcases z1 hF with ⟨hk, hF⟩ | ⟨_, hF⟩
   ·cases hF
    have hk := zpP hk
    refine ⟨fun ch σ' => ∃ τ' vs', Obs τ' σ' vs' ∧ Hp.le τ τ' ∧ znW g o (.error c) ch τ' vs', fun ch e σ' hpn hD => ?_, ?_⟩
    rotate_left
    ·refine (congrArg (fun z => wpn _ _ _ _ z _) (zM [(0, zt1 g), (2, zt1 o)] _ ⟨rfl, rfl, trivial⟩)).mp ?_
     exact znb I M U hB (fun ch σ' τ' vs' h1 h2 h3 => ⟨τ', vs', h1, h2, h3⟩) hO fun e σ' rs τ' vs' _ hO' hle hK => hK.elim
    ·obtain ⟨τ', vs', hO', hle, u0, u2, y2, u3, y3, rfl, rfl, f0, f2, f3⟩ := hpn
     refine znk (args := [.pointer (some ⟨o, 0, none⟩)]) hm Try.func37 s37 rfl ?_
     show wpn _ _ zh4 _ _ _
     rw [hk]
     unfold zh4
     refine zbU (zH (zU hO' [] [(0, zt1 o), (4, .iface 92 (.agg #[])), (6, .bool false)] ztM fun j => ?_))
     refine zbm (zm2 rfl ?_)
     refine zi (zU hO' [] [(0, zt1 o), (8, .bool true), (9, .agg #[])] ztM fun j => ?_)
     refine zk5 rfl ?_
     refine zi (zbC hO' fun b4 σ hO => ?_)
     have hO := zt55 hO
     refine zx hO (i := 4) rfl (off := 0) rfl rfl rfl rfl (Nat.le_of_ble_eq_true rfl) rfl fun σ hO => ?_
     have hO := zt55 hO
     refine zc (zx hO (i := 3) rfl (off := 0) rfl rfl rfl rfl (Nat.le_of_ble_eq_true rfl) rfl fun σ hO => ?_)
     have hO := zt55 hO
     refine zc (zg (zC (zj (zg ?_))))
     have b1 := hO.val (i := 3) rfl (off := 0) (agg := false) (n := 1) rfl
     have b9 := hO.sel [0, 1, 2]
     exact ⟨.inr rfl, rfl, hQ _ _ _ _ _ (zbE (hD 2 (by decide)) b1 rfl) b9 (hL.trans hle) ⟨_, _, _, _, _, rfl, rfl, f0, f2, f3⟩⟩
   ·cases hF
def zmj (gn : Nat) : Prop := ∀ {τ : Hp} {p0 : zb} {b2 : Value} (c8 : RdT zu τ b2 p0.Kids) {rr : Int} (hF : (zdQ gn) p0 = some rr), Ctr Try.prog 45 #[.agg #[.int .u8 p0.Kind.toNat, .int .i64 p0.Num, .string p0.Name, .string p0.Field, .string p0.Op, b2]] τ [] (fun v τ' vs' => v = .int .i64 rr ∧ vs' = [])
theorem zoN {gn : Nat} (ih_syntax_depth : zmj gn) {τ : Hp} {p0 : zb} {E : Value} (G : RdT zu τ E p0.Kids) {rr : Int} (hF : zkN (zdQ gn) p0 = some rr) :
  Ctr Try.prog 45 #[.agg #[.int .u8 p0.Kind.toNat, .int .i64 p0.Num, .string p0.Name, .string p0.Field, .string p0.Op, E]] τ [] (fun v τ' vs' => v = .int .i64 rr ∧ vs' = []) := by
 obtain ⟨t, w, rfl, -⟩ := G.form
 refine zbl (args := [.agg #[.int .u8 p0.Kind.toNat, .int .i64 p0.Num, .string p0.Name, .string p0.Field, .string p0.Op, (.slice t p0.Kids.length w)]]) hm Try.func45 s45 rfl fun w0 σ hO Q hQ => ?_
 unfold zkN at hF
 have hL := Hp.le.refl τ
 show wpn _ _ a45.body _ _ _
 unfold a45
 dsimp only
 refine zct (n := 6) hO rfl rfl fun b2 σ hO => ?_
 have hO := zt51 hO
 refine zd hO [] [] [1] ztK fun j => ?_
 refine zd hO [] [(3, zt0 0)] [1] ztL fun j => ?_
 refine zi (zd hO [0] [(7, zt7 t p0.Kids w), (8, zt0 (p0.Kids.length : Int)), (9, zt0 0)] [3] (And.intro (And.intro rfl rfl) ztN) fun j => ?_)
 refine zH ?_
 have hO := hO.sel []
 refine zbo (fun (n : Nat) e' σ' => ∃ (g h : Int) (τ' : Hp), agr [(3, zt0 g), (7, zt7 t p0.Kids w), (8, zt0 (p0.Kids.length : Int)), (9, zt0 h)] e' ∧ Obs τ' σ' [] ∧ Hp.le τ τ' ∧ ze6 (zdQ gn) p0 n g h = some rr) big ⟨0, 0, _, ztZ ztM, hO, hL, hF⟩ ?_
 clear hF hO hL
 rintro z e σ ⟨g, h, _, hA, hO, hL, hF⟩
 rw [← zM _ _ hA]
 cases z with
 | zero => exact nomatch (show none = some rr from hF)
 | succ z =>
 replace hF : zhT (ze6 (zdQ gn) p0 z) (zdQ gn) p0 g h = some rr := hF
 unfold zhT at hF
 refine zd hO [] [(10, .bool (decide (h < (p0.Kids.length : Int))))] [3, 7, 8, 9] ztO fun j => ?_
 refine zn hF rfl (fun hF => ?_) fun hF => ?_
 ·refine zA (zH ?_)
  obtain ⟨o, U, hF⟩ := zt6 hF
  refine zN (T := zu) (G.le hL) hO.base rfl rfl U (by decide) fun a39 _ V X => ?_
  obtain ⟨b3, rfl, B⟩ := zbH V
  obtain ⟨Y, Z, rfl, -⟩ := B.form
  refine zG rfl ((X.le hO.base).all rfl) ?_
  refine zbC hO fun b4 σ hO => ?_
  have hO := zt51 hO
  refine zx hO (i := 0) rfl (off := 0) rfl rfl rfl rfl (Nat.le_of_ble_eq_true rfl) rfl fun σ hO => ?_
  have hO := zt51 hO
  refine zc (z3 (za hO 2 [0] [(13, zt0 g), (14, .agg #[(.int .u8 (o.Kind.toNat : Int)), (.int .i64 o.Num), (.string o.Name), (.string o.Field), (.string o.Op), (zt7 Y o.Kids Z)])] [7, 8, 9] (And.intro (And.intro rfl rfl) ztO) fun j => ?_))
  obtain ⟨I, b0, hF⟩ := zt6 hF
  refine z5 hO (ih_syntax_depth B b0) rfl fun _ σ _ _ hO M b1 => ?_
  have hL := hL.trans M
  have B := B.le M
  obtain ⟨rfl, rfl⟩ := b1
  have hO := zt51 hO
  refine zd hO [] [(3, zt0 (zcy g I))] [7, 8, 9] ztN fun j => ?_
  refine zg (zC (zj (z3 (zd hO [] [(9, zt0 (IntKind.i64.wrap (h + 1)))] [3, 7, 8] ztN fun j => ?_))))
  refine zg (zj ?_)
  have hO := hO.sel []
  exact ⟨z, Nat.lt_succ_self _, (zcy g I), (IntKind.i64.wrap (h + 1)), _, ztZ ztM, hO, hL, hF⟩
 refine zbs (zbp (zbr (zj (zU hO [] [(2, zt0 (IntKind.i64.wrap (g + 1)))] ztK fun j => ?_))))
 refine z9 ?_
 cases hF
 exact hQ _ _ _ _ _ rfl hO hL ⟨rfl, rfl⟩
theorem zp4 (n : Nat) : zmj n := by
 induction n with
 | zero =>
  intro τ p0 h g rr hF; exact nomatch (show none = some rr from hF)
 | succ n ih =>
  intro τ p0 h g rr hF; exact zoN ih g hF
theorem zpo : ∀ {τ : Hp} {p0 : zb} {g : Value} (h : RdT zu τ g p0.Kids) {rr : Int} (hF : zlg p0 = some rr), Ctr Try.prog 45 #[.agg #[.int .u8 p0.Kind.toNat, .int .i64 p0.Num, .string p0.Name, .string p0.Field, .string p0.Op, g]] τ [] (fun v τ' vs' => v = .int .i64 rr ∧ vs' = []) := (zp4 big)
theorem zrU {τ : Hp} {p0 : zb} {g : Value} (h : RdT zu τ g p0.Kids) {rr : Bool} (hF : zhX p0 = some rr) :
  Ctr Try.prog 44 #[.agg #[.int .u8 p0.Kind.toNat, .int .i64 p0.Num, .string p0.Name, .string p0.Field, .string p0.Op, g]] τ [] (fun v τ' vs' => v = .bool rr ∧ vs' = []) := by
 obtain ⟨o, t, rfl, -⟩ := h.form
 refine zbl (args := [.agg #[.int .u8 p0.Kind.toNat, .int .i64 p0.Num, .string p0.Name, .string p0.Field, .string p0.Op, (.slice o p0.Kids.length t)]]) hm Try.func44 s44 rfl fun w0 σ hO Q hQ => ?_
 unfold zhX at hF
 have hL := Hp.le.refl τ
 show wpn _ _ a44.body _ _ _
 unfold a44
 dsimp only
 refine zct (n := 6) hO rfl rfl fun I σ hO => ?_
 have hO := zt51 hO
 refine zd hO [] [] [1] ztK fun j => ?_
 refine zbk hO 1 [0] [(3, .agg #[(.int .u8 (p0.Kind.toNat : Int)), (.int .i64 p0.Num), (.string p0.Name), (.string p0.Field), (.string p0.Op), (zt7 o p0.Kids t)])] (And.intro (And.intro rfl rfl) ztK) fun j => ?_
 obtain ⟨z, B, hF⟩ := zt6 hF
 refine z5 hO (zpo (h.le hL) B) rfl fun _ σ _ _ hO E G => ?_
 have hL := hL.trans E
 obtain ⟨rfl, rfl⟩ := G
 have hO := zt51 hO
 refine zU hO [] [(2, .bool (decide (z > 40)))] ztK fun j => ?_
 refine z9 ?_
 cases hF
 have hO := hO.sel []
 exact hQ _ _ _ _ _ rfl hO hL ⟨rfl, rfl⟩
def zgM (gn : Nat) : Prop := ∀ {τ : Hp} {w : Value} {p0 : (List zh)} {p1 : Int} (M : RdT zy τ w p0) {rr : Bool} (hF : (zc2 gn) p0 p1 = some rr), Ctr Try.prog 21 #[w, .int .i64 p1] τ [] (fun v τ' vs' => v = .bool rr ∧ vs' = [])
theorem zrG {τ : Hp} {E : Value} {p0 : (List zb)} (G : RdT zu τ E p0) {rr : Int} (hF : ziL p0 = some rr) :
  Ctr Try.prog 71 #[E, .func (.func 44) #[] #[]] τ [] (fun v τ' vs' => v = .int .i64 rr ∧ vs' = []) := by
 obtain ⟨z, B, rfl, -⟩ := G.form
 refine zbl (args := [.slice z p0.length B, .func (.func 44) #[] #[]]) hm Try.func71 s71 rfl fun w0 σ hO Q hQ => ?_
 unfold ziL at hF
 have hL := Hp.le.refl τ
 show wpn _ _ a71.body _ _ _
 unfold a71
 dsimp only
 refine zd hO [] [] [0, 1] ztL fun j => ?_
 refine zi (zd hO [] [(7, zt0 (p0.length : Int)), (8, zt0 0)] [0, 1] ztN fun j => ?_)
 refine zH (zbo (fun (n : Nat) e' σ' => ∃ (g : Int) (τ' : Hp), agr [(0, zt7 z p0 B), (1, .func (.func 44) #[] #[]), (7, zt0 (p0.length : Int)), (8, zt0 g)] e' ∧ Obs τ' σ' [] ∧ Hp.le τ τ' ∧ zfb p0 n g = some rr) big ⟨0, _, ztZ ztM, hO, hL, hF⟩ ?_)
 clear hF hO hL
 rintro h e σ ⟨g, _, hA, hO, hL, hF⟩
 rw [← zM _ _ hA]
 cases h with
 | zero => exact nomatch (show none = some rr from hF)
 | succ h =>
 replace hF : zgW (zfb p0 h) p0 g = some rr := hF
 unfold zgW at hF
 refine zd hO [] [(9, .bool (decide (g < (p0.length : Int))))] [0, 1, 7, 8] ztO fun j => ?_
 refine zn hF rfl (fun hF => ?_) fun hF => ?_
 ·refine zA (zH (zd hO [] [(5, zt0 g)] [0, 1, 7, 8] ztO fun j => ?_))
  refine za hO 3 [] [(11, .func (.func 44) #[] #[]), (12, zt7 z p0 B), (13, zt0 g)] [0, 1, 5, 7, 8] ztR fun j => ?_
  obtain ⟨X, I, hF⟩ := zt6 hF
  refine zN (T := zu) (G.le hL) hO.base rfl rfl I (by decide) fun a38 _ M o => ?_
  obtain ⟨Y, rfl, t⟩ := zbH M
  refine zG rfl ((o.le hO.base).all rfl) ?_
  obtain ⟨Z, U, hF⟩ := zt6 hF
  refine zke rfl (by kernel_rfl) hO (zrU t U) rfl fun _ σ _ _ hO w V => ?_
  have hL := hL.trans w
  have o := o.le w
  have t := t.le w
  obtain ⟨rfl, rfl⟩ := V
  have hO : Obs _ _ [] := hO
  refine zc (zbm (zn hF rfl (fun hF => ?_) fun hF => ?_))
  ·refine zi (zU hO [] [(4, zt0 g)] ztK fun j => ?_)
   refine zbi (z6 (zQ (zQ (z6 (zQ ?_)))))
   cases hF
   exact hQ _ _ _ _ _ rfl hO hL ⟨rfl, rfl⟩
  refine zA (zg (zC (zj (z3 (zd hO [] [(8, zt0 (IntKind.i64.wrap (g + 1)))] [0, 1, 7] ztN fun j => ?_)))))
  refine zg (zj ?_)
  exact ⟨h, Nat.lt_succ_self _, (IntKind.i64.wrap (g + 1)), _, ztZ ztM, hO, hL, hF⟩
 refine zbs (zbp (zbr (zj (zU hO [] [(4, zt0 (-1))] ztK fun j => ?_))))
 refine z9 ?_
 cases hF
 exact hQ _ _ _ _ _ rfl hO hL ⟨rfl, rfl⟩
theorem zoX {τ : Hp} {g : Value} {p0 : (List zb)} (h : RdT zu τ g p0) {rr : Bool} (hF : zh1 p0 = some rr) :
  Ctr Try.prog 46 #[g, .func (.func 44) #[] #[]] τ [] (fun v τ' vs' => v = .bool rr ∧ vs' = []) := by
 obtain ⟨o, t, rfl, -⟩ := h.form
 refine zbl (args := [.slice o p0.length t, .func (.func 44) #[] #[]]) hm Try.func46 s46 rfl fun w0 σ hO Q hQ => ?_
 unfold zh1 at hF
 have hL := Hp.le.refl τ
 show wpn _ _ a46.body _ _ _
 unfold a46
 dsimp only
 refine zd hO [] [] [0, 1] ztL fun j => ?_
 refine zbk hO 2 [] [(5, zt7 o p0 t), (6, .func (.func 44) #[] #[])] ztL fun j => ?_
 obtain ⟨w, z, hF⟩ := zt6 hF
 refine z5 hO (zrG (h.le hL) z) rfl fun _ σ _ _ hO B E => ?_
 have hL := hL.trans B
 obtain ⟨rfl, rfl⟩ := E
 have hO : Obs _ _ [] := hO
 refine zU hO [] [(4, .bool (decide (w ≥ 0)))] ztK fun j => ?_
 refine z9 ?_
 cases hF
 exact hQ _ _ _ _ _ rfl hO hL ⟨rfl, rfl⟩
theorem zsA {gn : Nat} (ih_syntax_deep : zgM gn) {τ : Hp} {p0 : zh} {X Y U : Value} {G : Int} {I : Addr} (Z : RdT zu τ X p0.Kids) (b0 : RdT zy τ Y p0.Body) (V : RdT zy τ U p0.Else) (b1 : At τ I [.int .i64 G]) {rr : Bool} (hF : zg9 (zc2 gn) p0 G = some rr) :
  Ctr Try.prog 43 #[.agg #[.int .u8 p0.Kind.toNat, .int .i64 p0.Line, .string p0.Name, .string p0.Field, .string p0.Call, .int .u8 p0.Type_.Kind.toNat, .int .i64 p0.Type_.N, .string p0.Type_.Name, X, Y, U], .pointer (some I)] τ [] (fun v τ' vs' => v = .bool rr ∧ vs' = []) := by
 obtain ⟨o, t, rfl, -⟩ := Z.form
 obtain ⟨w, z, rfl, -⟩ := b0.form
 obtain ⟨g, h, rfl, -⟩ := V.form
 refine zbl (args := [.agg #[.int .u8 p0.Kind.toNat, .int .i64 p0.Line, .string p0.Name, .string p0.Field, .string p0.Call, .int .u8 p0.Type_.Kind.toNat, .int .i64 p0.Type_.N, .string p0.Type_.Name, (.slice o p0.Kids.length t), (.slice w p0.Body.length z), (.slice g p0.Else.length h)], .pointer (some I)]) hm Try.func43 s43 rfl fun w0 σ hO Q hQ => ?_
 unfold zg9 at hF
 have hL := Hp.le.refl τ
 show wpn _ _ a43.body _ _ _
 unfold a43
 dsimp only
 refine zct (n := 11) hO rfl rfl fun b2 σ hO => ?_
 have hO := zt51 hO
 refine zd hO [] [] [1, 2] ztL fun j => ?_
 refine zd hO [] [(4, .func (.func 44) #[] #[])] [1, 2] ztM fun j => ?_
 refine zG rfl ((b1.le hL).le hO.base).fst ?_
 refine za hO 2 [] [(7, .bool (G == 0))] [1, 2, 4] ztN fun j => ?_
 obtain ⟨c3, h4, hF⟩ := zt6 hF
 refine zb2 2 (fun e' σ' => ∃ (τ' : Hp), agr [(12, .bool c3), (1, .pointer (some I)), (2, zt1 b2)] e' ∧ Obs τ' σ' [zby b2 (p0.Kind.toNat : Int) p0.Line p0.Name p0.Field p0.Call (p0.Type_.Kind.toNat : Int) p0.Type_.N p0.Type_.Name (zt7 o p0.Kids t) (zt7 w p0.Body z) (zt7 g p0.Else h)] ∧ Hp.le τ τ') ?_ ?_
 ·have hF := h4
  rcases z1 hF with ⟨M, hF⟩ | ⟨M, hF⟩
  ·refine zI (zt3 M) ?_
   refine zp (zt2 M) ?_
   refine zc ?_
   cases hF
   refine zg ?_
   exact ⟨rfl, _, ztZ ztL, hO, hL⟩
  refine zF (zt3 M) ?_
  refine za hO 3 [0] [(9, zt7 o p0.Kids t), (10, .func (.func 44) #[] #[])] [1, 2, 7] (And.intro (And.intro rfl rfl) ztO) fun j => ?_
  obtain ⟨c6, h7, hF⟩ := zt6 hF
  refine z5 hO (zoX (Z.le hL) h7) rfl fun _ σ _ _ hO h8 h9 => ?_
  have hL := hL.trans h8
  obtain ⟨rfl, rfl⟩ := h9
  have hO := zt51 hO
  refine zp (zt2 M) ?_
  refine zc ?_
  cases hF
  refine zg ?_
  exact ⟨rfl, _, ztZ ztL, hO, hL⟩
 rintro e σ ⟨_, hA, hO, hL⟩
 rw [← zM _ _ hA]
 refine za hO 1 [] [(13, .bool c3)] [1, 2] ztM fun j => ?_
 obtain ⟨b4, b7, hF⟩ := zt6 hF
 refine zb2 2 (fun e' σ' => ∃ (τ' : Hp), agr [(19, .bool b4), (1, .pointer (some I)), (2, zt1 b2)] e' ∧ Obs τ' σ' [zby b2 (p0.Kind.toNat : Int) p0.Line p0.Name p0.Field p0.Call (p0.Type_.Kind.toNat : Int) p0.Type_.N p0.Type_.Name (zt7 o p0.Kids t) (zt7 w p0.Body z) (zt7 g p0.Else h)] ∧ Hp.le τ τ') ?_ ?_
 ·have hF := b7
  rcases z1 hF with ⟨B, hF⟩ | ⟨B, hF⟩
  ·refine zI (zt3 B) ?_
   refine zp (zt2 B) ?_
   refine zc ?_
   cases hF
   refine zg ?_
   exact ⟨rfl, _, ztZ ztL, hO, hL⟩
  refine zF (zt3 B) ?_
  refine za hO 2 [0] [(15, zt7 w p0.Body z)] [1, 2, 13] (And.intro (And.intro rfl rfl) ztN) fun j => ?_
  refine zG rfl ((b1.le hL).le hO.base).fst ?_
  refine za hO 1 [] [(17, zt0 (IntKind.i64.wrap (G - 1)))] [1, 2, 13, 15] ztO fun j => ?_
  obtain ⟨d4, b8, hF⟩ := zt6 hF
  refine z5 hO (ih_syntax_deep (b0.le hL) b8) rfl fun _ σ _ _ hO b9 c0 => ?_
  have hL := hL.trans b9
  obtain ⟨rfl, rfl⟩ := c0
  have hO := zt51 hO
  refine zp (zt2 B) ?_
  refine zc ?_
  cases hF
  refine zg ?_
  exact ⟨rfl, _, ztZ ztL, hO, hL⟩
 rintro e σ ⟨_, hA, hO, hL⟩
 rw [← zM _ _ hA]
 refine za hO 1 [] [(20, .bool b4)] [1, 2] ztM fun j => ?_
 obtain ⟨b5, c1, hF⟩ := zt6 hF
 refine zb2 2 (fun e' σ' => ∃ (τ' : Hp), agr [(26, .bool b5)] e' ∧ Obs τ' σ' [zby b2 (p0.Kind.toNat : Int) p0.Line p0.Name p0.Field p0.Call (p0.Type_.Kind.toNat : Int) p0.Type_.N p0.Type_.Name (zt7 o p0.Kids t) (zt7 w p0.Body z) (zt7 g p0.Else h)] ∧ Hp.le τ τ') ?_ ?_
 ·have hF := c1
  rcases z1 hF with ⟨E, hF⟩ | ⟨E, hF⟩
  ·refine zI (zt3 E) ?_
   refine zp (zt2 E) ?_
   refine zc ?_
   cases hF
   refine zg ?_
   exact ⟨rfl, _, ztZ (trivial), hO, hL⟩
  refine zF (zt3 E) ?_
  refine za hO 2 [0] [(22, zt7 g p0.Else h)] [1, 20] (And.intro (And.intro rfl rfl) ztM) fun j => ?_
  refine zG rfl ((b1.le hL).le hO.base).fst ?_
  refine za hO 1 [] [(24, zt0 (IntKind.i64.wrap (G - 1)))] [20, 22] ztM fun j => ?_
  obtain ⟨d5, c2, hF⟩ := zt6 hF
  refine z5 hO (ih_syntax_deep (V.le hL) c2) rfl fun _ σ _ _ hO c4 c5 => ?_
  have hL := hL.trans c4
  obtain ⟨rfl, rfl⟩ := c5
  have hO := zt51 hO
  refine zp (zt2 E) ?_
  refine zc ?_
  cases hF
  refine zg ?_
  exact ⟨rfl, _, ztZ (trivial), hO, hL⟩
 rintro e σ ⟨_, hA, hO, hL⟩
 rw [← zM _ _ hA]
 refine zU hO [] [(3, .bool b5)] ztK fun j => ?_
 refine z9 ?_
 cases hF
 have hO := hO.sel []
 exact hQ _ _ _ _ _ rfl hO hL ⟨rfl, rfl⟩
theorem zoQ {gn : Nat} (ih_syntax_deep : zgM gn) {τ : Hp} {V : Value} {p0 : (List zh)} {h : Int} {o : Addr} (X : RdT zy τ V p0) (I : At τ o [.int .i64 h]) {rr : Int} (hF : zi9 (zc2 gn) p0 h = some rr) :
  Ctr Try.prog 70 #[V, .func (.func 43) #[] #[(.pointer (some o))]] τ [] (fun v τ' vs' => v = .int .i64 rr ∧ vs' = []) := by
 obtain ⟨M, U, rfl, -⟩ := X.form
 refine zbl (args := [zt7 M p0 U, .func (.func 43) #[] #[(.pointer (some o))]]) hm Try.func70 s70 rfl fun w0 σ hO Q hQ => ?_
 unfold zi9 at hF
 have hL := Hp.le.refl τ
 show wpn _ _ a70.body _ _ _
 unfold a70
 dsimp only
 refine zd hO [] [] [0, 1] ztL fun j => ?_
 refine zi (zd hO [] [(7, zt0 (p0.length : Int)), (8, zt0 0)] [0, 1] ztN fun j => ?_)
 refine zH (zbo (fun (n : Nat) e' σ' => ∃ (g : Int) (τ' : Hp), agr [(0, zt7 M p0 U), (1, .func (.func 43) #[] #[(.pointer (some o))]), (7, zt0 (p0.length : Int)), (8, zt0 g)] e' ∧ Obs τ' σ' [] ∧ Hp.le τ τ' ∧ zfc (zc2 gn) p0 h n g = some rr) big ⟨0, _, ztZ ztM, hO, hL, hF⟩ ?_)
 clear hF hO hL
 rintro w e σ ⟨g, _, hA, hO, hL, hF⟩
 rw [← zM _ _ hA]
 cases w with
 | zero => exact nomatch (show none = some rr from hF)
 | succ w =>
 replace hF : zhG (zfc (zc2 gn) p0 h w) (zc2 gn) p0 h g = some rr := hF
 unfold zhG at hF
 refine zd hO [] [(9, .bool (decide (g < (p0.length : Int))))] [0, 1, 7, 8] ztO fun j => ?_
 refine zn hF rfl (fun hF => ?_) fun hF => ?_
 ·refine zA (zH (zd hO [] [(5, zt0 g)] [0, 1, 7, 8] ztO fun j => ?_))
  refine za hO 3 [] [(11, .func (.func 43) #[] #[(.pointer (some o))]), (12, zt7 M p0 U), (13, zt0 g)] [0, 1, 5, 7, 8] ztR fun j => ?_
  obtain ⟨b2, Y, hF⟩ := zt6 hF
  refine zN (T := zy) (X.le hL) hO.base rfl rfl Y (by decide) fun a54 _ Z E => ?_
  obtain ⟨b3, b4, b5, rfl, z, B, G⟩ := zc4 Z
  obtain ⟨b6, b7, rfl, -⟩ := z.form
  obtain ⟨b8, b9, rfl, -⟩ := B.form
  refine zG rfl ((E.le hO.base).all rfl) ?_
  obtain ⟨c1, b0, hF⟩ := zt6 hF
  refine zke rfl (by kernel_rfl) hO (zsA ih_syntax_deep z B G (I.le hL) b0) rfl fun _ σ _ _ hO t b1 => ?_
  have hL := hL.trans t
  have E := E.le t
  have z := z.le t
  have B := B.le t
  have G := G.le t
  obtain ⟨rfl, rfl⟩ := b1
  have hO : Obs _ _ [] := hO
  refine zc (zbm (zn hF rfl (fun hF => ?_) fun hF => ?_))
  ·refine zi (zU hO [] [(4, zt0 g)] ztK fun j => ?_)
   refine zbi (z6 (zQ (zQ (z6 (zQ ?_)))))
   cases hF
   exact hQ _ _ _ _ _ rfl hO hL ⟨rfl, rfl⟩
  refine zA (zg (zC (zj (z3 (zd hO [] [(8, zt0 (IntKind.i64.wrap (g + 1)))] [0, 1, 7] ztN fun j => ?_)))))
  refine zg (zj ?_)
  exact ⟨w, Nat.lt_succ_self _, (IntKind.i64.wrap (g + 1)), _, ztZ ztM, hO, hL, hF⟩
 refine zbs (zbp (zbr (zj (zU hO [] [(4, zt0 (-1))] ztK fun j => ?_))))
 refine z9 ?_
 cases hF
 exact hQ _ _ _ _ _ rfl hO hL ⟨rfl, rfl⟩
theorem zqZ {gn : Nat} (ih_syntax_deep : zgM gn) {τ : Hp} {t : Value} {p0 : (List zh)} {h : Int} {g : Addr} (w : RdT zy τ t p0) (o : At τ g [.int .i64 h]) {rr : Bool} (hF : zhe (zc2 gn) p0 h = some rr) :
  Ctr Try.prog 42 #[t, .func (.func 43) #[] #[(.pointer (some g))]] τ [] (fun v τ' vs' => v = .bool rr ∧ vs' = []) := by
 obtain ⟨z, B, rfl, -⟩ := w.form
 refine zbl (args := [zt7 z p0 B, .func (.func 43) #[] #[(.pointer (some g))]]) hm Try.func42 s42 rfl fun w0 σ hO Q hQ => ?_
 unfold zhe at hF
 have hL := Hp.le.refl τ
 show wpn _ _ a42.body _ _ _
 unfold a42
 dsimp only
 refine zd hO [] [] [0, 1] ztL fun j => ?_
 refine zbk hO 2 [] [(5, zt7 z p0 B), (6, .func (.func 43) #[] #[(.pointer (some g))])] ztL fun j => ?_
 obtain ⟨E, G, hF⟩ := zt6 hF
 refine z5 hO (zoQ ih_syntax_deep (w.le hL) (o.le hL) G) rfl fun _ σ _ _ hO I M => ?_
 have hL := hL.trans I
 obtain ⟨rfl, rfl⟩ := M
 have hO : Obs _ _ [] := hO
 refine zU hO [] [(4, .bool (decide (E ≥ 0)))] ztK fun j => ?_
 refine z9 ?_
 cases hF
 exact hQ _ _ _ _ _ rfl hO hL ⟨rfl, rfl⟩
theorem zqm {gn : Nat} (ih_syntax_deep : zgM gn) {τ : Hp} {h : Value} {p0 : (List zh)} {p1 : Int} (o : RdT zy τ h p0) {rr : Bool} (hF : zkB (zc2 gn) p0 p1 = some rr) :
  Ctr Try.prog 21 #[h, .int .i64 p1] τ [] (fun v τ' vs' => v = .bool rr ∧ vs' = []) := by
 obtain ⟨t, w, rfl, -⟩ := o.form
 refine zbl (args := [.slice t p0.length w, .int .i64 p1]) hm Try.func21 s21 rfl fun w0 σ hO Q hQ => ?_
 unfold zkB at hF
 have hL := Hp.le.refl τ
 show wpn _ _ a21.body _ _ _
 unfold a21
 dsimp only
 refine zct (n := 1) hO rfl rfl fun B σ hO => ?_
 have hO := zt51 hO
 refine zd hO [] [] [0, 3] ztL fun j => ?_
 refine zbk hO 2 [] [(5, zt7 t p0 w), (6, .func (.func 43) #[] #[(.pointer (some ⟨B, 0, none⟩))])] ztL fun j => ?_
 obtain ⟨_, E, g, hO⟩ := hO.shareV (i := 0) rfl
 have hL := hL.trans E
 have hO := zt51 hO
 obtain ⟨G, I, hF⟩ := zt6 hF
 refine z5 hO (zqZ ih_syntax_deep (o.le hL) g I) rfl fun _ σ _ _ hO z M => ?_
 have hL := hL.trans z
 have g := g.le z
 obtain ⟨rfl, rfl⟩ := M
 have hO := zt51 hO
 refine zU hO [] [(4, .bool G)] ztK fun j => ?_
 refine z9 ?_
 cases hF
 have hO := hO.sel []
 exact hQ _ _ _ _ _ rfl hO hL ⟨rfl, rfl⟩
theorem zqi (n : Nat) : zgM n := by
 induction n with
 | zero =>
  intro τ h p0 p1 g rr hF; exact nomatch (show none = some rr from hF)
 | succ n ih =>
  intro τ h p0 p1 g rr hF; exact zqm ih g hF
theorem zoz : ∀ {τ : Hp} {g : Value} {p0 : (List zh)} {p1 : Int} (h : RdT zy τ g p0) {rr : Bool} (hF : zkb p0 p1 = some rr), Ctr Try.prog 21 #[g, .int .i64 p1] τ [] (fun v τ' vs' => v = .bool rr ∧ vs' = []) := (zqi big)
theorem zrK {τ : Hp} {p0 : zo} {g h : Value} (z : RdT zbY τ g p0.Params) (o : RdT zy τ h p0.Body) {rr : Bool} (hF : ziU p0 = some rr) :
  Ctr Try.prog 20 #[.agg #[.string p0.Name, .int .i64 p0.Line, g, .int .u8 p0.Result.Kind.toNat, .int .i64 p0.Result.N, .string p0.Result.Name, h]] τ [] (fun v τ' vs' => v = .bool rr ∧ vs' = []) := by
 obtain ⟨B, E, rfl, -⟩ := z.form
 obtain ⟨t, w, rfl, -⟩ := o.form
 refine zbl (args := [.agg #[.string p0.Name, .int .i64 p0.Line, (.slice B p0.Params.length E), .int .u8 p0.Result.Kind.toNat, .int .i64 p0.Result.N, .string p0.Result.Name, (.slice t p0.Body.length w)]]) hm Try.func20 s20 rfl fun w0 σ hO Q hQ => ?_
 unfold ziU at hF
 have hL := Hp.le.refl τ
 show wpn _ _ a20.body _ _ _
 unfold a20
 dsimp only
 refine zct (n := 7) hO rfl rfl fun V σ hO => ?_
 have hO := zt51 hO
 refine zd hO [] [] [1] ztK fun j => ?_
 refine zbk hO 2 [0] [(4, zt7 t p0.Body w)] (And.intro (And.intro rfl rfl) ztK) fun j => ?_
 obtain ⟨G, I, hF⟩ := zt6 hF
 refine z5 hO (zoz (o.le hL) I) rfl fun _ σ _ _ hO M U => ?_
 have hL := hL.trans M
 obtain ⟨rfl, rfl⟩ := U
 have hO := zt51 hO
 refine zU hO [] [(2, .bool G)] ztK fun j => ?_
 refine z9 ?_
 cases hF
 have hO := hO.sel []
 exact hQ _ _ _ _ _ rfl hO hL ⟨rfl, rfl⟩
theorem zp5 {τ : Hp} {G : Value} {p0 : (List zo)} (I : RdT zr τ G p0) {rr : Int} (hF : zjq p0 = some rr) :
  Ctr Try.prog 41 #[G, .func (.func 20) #[] #[]] τ [] (fun v τ' vs' => v = .int .i64 rr ∧ vs' = []) := by
 obtain ⟨B, E, rfl, -⟩ := I.form
 refine zbl (args := [.slice B p0.length E, .func (.func 20) #[] #[]]) hm Try.func41 s41 rfl fun w0 σ hO Q hQ => ?_
 unfold zjq at hF
 have hL := Hp.le.refl τ
 show wpn _ _ a41.body _ _ _
 unfold a41
 dsimp only
 refine zd hO [] [] [0, 1] ztL fun j => ?_
 refine zi (zd hO [] [(7, zt0 (p0.length : Int)), (8, zt0 0)] [0, 1] ztN fun j => ?_)
 refine zH (zbo (fun (n : Nat) e' σ' => ∃ (g : Int) (τ' : Hp), agr [(0, zt7 B p0 E), (1, .func (.func 20) #[] #[]), (7, zt0 (p0.length : Int)), (8, zt0 g)] e' ∧ Obs τ' σ' [] ∧ Hp.le τ τ' ∧ ze5 p0 n g = some rr) big ⟨0, _, ztZ ztM, hO, hL, hF⟩ ?_)
 clear hF hO hL
 rintro h e σ ⟨g, _, hA, hO, hL, hF⟩
 rw [← zM _ _ hA]
 cases h with
 | zero => exact nomatch (show none = some rr from hF)
 | succ h =>
 replace hF : zhg (ze5 p0 h) p0 g = some rr := hF
 unfold zhg at hF
 refine zd hO [] [(9, .bool (decide (g < (p0.length : Int))))] [0, 1, 7, 8] ztO fun j => ?_
 refine zn hF rfl (fun hF => ?_) fun hF => ?_
 ·refine zA (zH (zd hO [] [(5, zt0 g)] [0, 1, 7, 8] ztO fun j => ?_))
  refine za hO 3 [] [(11, .func (.func 20) #[] #[]), (12, zt7 B p0 E), (13, zt0 g)] [0, 1, 5, 7, 8] ztR fun j => ?_
  obtain ⟨Y, M, hF⟩ := zt6 hF
  refine zN (T := zr) (I.le hL) hO.base rfl rfl M (by decide) fun a46 _ U t => ?_
  obtain ⟨Z, b0, rfl, w, z⟩ := U
  refine zG rfl ((t.le hO.base).all rfl) ?_
  obtain ⟨b1, V, hF⟩ := zt6 hF
  refine zke rfl (by kernel_rfl) hO (zrK w z V) rfl fun _ σ _ _ hO o X => ?_
  have hL := hL.trans o
  have t := t.le o
  have w := w.le o
  have z := z.le o
  obtain ⟨rfl, rfl⟩ := X
  have hO : Obs _ _ [] := hO
  refine zc (zbm (zn hF rfl (fun hF => ?_) fun hF => ?_))
  ·refine zi (zU hO [] [(4, zt0 g)] ztK fun j => ?_)
   refine zbi (z6 (zQ (zQ (z6 (zQ ?_)))))
   cases hF
   exact hQ _ _ _ _ _ rfl hO hL ⟨rfl, rfl⟩
  refine zA (zg (zC (zj (z3 (zd hO [] [(8, zt0 (IntKind.i64.wrap (g + 1)))] [0, 1, 7] ztN fun j => ?_)))))
  refine zg (zj ?_)
  exact ⟨h, Nat.lt_succ_self _, (IntKind.i64.wrap (g + 1)), _, ztZ ztM, hO, hL, hF⟩
 refine zbs (zbp (zbr (zj (zU hO [] [(4, zt0 (-1))] ztK fun j => ?_))))
 refine z9 ?_
 cases hF
 exact hQ _ _ _ _ _ rfl hO hL ⟨rfl, rfl⟩
theorem zrr {τ : Hp} {g : Value} {p0 : (List zo)} (h : RdT zr τ g p0) {rr : Bool} (hF : zfK p0 = some rr) :
  Ctr Try.prog 19 #[g, .func (.func 20) #[] #[]] τ [] (fun v τ' vs' => v = .bool rr ∧ vs' = []) := by
 obtain ⟨o, t, rfl, -⟩ := h.form
 refine zbl (args := [.slice o p0.length t, .func (.func 20) #[] #[]]) hm Try.func19 s19 rfl fun w0 σ hO Q hQ => ?_
 unfold zfK at hF
 have hL := Hp.le.refl τ
 show wpn _ _ a19.body _ _ _
 unfold a19
 dsimp only
 refine zd hO [] [] [0, 1] ztL fun j => ?_
 refine zbk hO 2 [] [(5, zt7 o p0 t), (6, .func (.func 20) #[] #[])] ztL fun j => ?_
 obtain ⟨w, z, hF⟩ := zt6 hF
 refine z5 hO (zp5 (h.le hL) z) rfl fun _ σ _ _ hO B E => ?_
 have hL := hL.trans B
 obtain ⟨rfl, rfl⟩ := E
 have hO : Obs _ _ [] := hO
 refine zU hO [] [(4, .bool (decide (w ≥ 0)))] ztK fun j => ?_
 refine z9 ?_
 cases hF
 exact hQ _ _ _ _ _ rfl hO hL ⟨rfl, rfl⟩
theorem zkH {τ : Hp} {Y : Value} {p0 : (List zl)} (Z : RdT zm τ Y p0) {rr : zB × Int × Int} (hF : zeJ p0 = some rr) :
  Ctr Try.prog 9 #[Y] τ [] (fun v τ' vs' => ∃ (B E : Value), v = .tuple #[.agg #[B, E], .int .i64 rr.2.1, .int .i64 rr.2.2] ∧ vs' = [] ∧ RdT zs τ' B rr.1.Structs ∧ RdT zr τ' E rr.1.Funcs) := by
 obtain ⟨A0, c0, rfl, -⟩ := Z.form
 refine zbl (args := [.slice A0 p0.length c0]) hm Try.func9 s9 rfl fun w0 σ hO Q hQ => ?_
 unfold zeJ at hF
 have hL := Hp.le.refl τ
 show wpn _ _ a9.body _ _ _
 unfold a9
 dsimp only
 refine zbC hO fun b2 σ hO => ?_
 have hO := zt51 hO
 refine zd hO [] [] [0, 2] ztL fun j => ?_
 refine za hO 3 [] [(8, .agg #[(zt7 A0 p0 c0), (.int .i64 0), (.slice none 0 0), (.slice none 0 0)])] [2] ztL fun j => ?_
 refine zct (n := 4) hO rfl rfl fun X σ hO => ?_
 have hO := zt52 hO
 refine zd hO [] [(5, zt1 X)] [2] ztL fun j => ?_
 refine zi (za hO 1 [] [(10, zt1 X)] [2, 5] ztM fun j => ?_)
 have hO := hO.no
 have hO := zt53 hO
 have w4 := ze.nil0 (T := zs) (ty := 71) hO
 have hO := hO.no
 have hO := zt54 hO
 have w5 := ze.nil0 (T := zr) (ty := 50) hO
 obtain ⟨z, h7, hF⟩ := zt6 hF
 refine zz (hs := [_]) hO (zpH (q0 := (⟨(⟨p0, 0⟩ : zbe), (⟨([] : List zq), ([] : List zo)⟩ : zB)⟩ : zf)) (Z.le hL) w4 w5 h7) rfl fun _ σ _ _ hO h8 h9 => ?_
 have hL := hL.trans h8
 obtain ⟨c5, c7, c8, c9, d0, rfl, rfl, g, h, M⟩ := h9
 obtain ⟨b4, b5, rfl, -⟩ := h.form
 obtain ⟨U, V, rfl, -⟩ := M.form
 have hO := zt54 hO
 refine zd hO [] [(12, .bool (!z.1))] [2, 5] ztM fun j => ?_
 refine zn hF rfl (fun hF => ?_) fun hF => ?_
 ·refine zi (zb9 (za hO 6 [1] [(13, .agg #[(.slice none 0 0), (.slice none 0 0)]), (17, .pointer (some ⟨X, 1, none⟩)), (18, zt0 z.2.cursor.at_)] [2] (And.intro (And.intro rfl rfl) ztN) fun j => ?_))
  refine zcj (zx hO (i := 0) rfl (off := 0) rfl rfl rfl rfl (Nat.le_of_ble_eq_true rfl) rfl fun σ hO => ?_)
  have hO := zt54 hO
  refine zc (zcg ⟨(zb1 rfl (hO.val (i := 1) (off := 1) (agg := false) (n := 1) rfl rfl) rfl), trivial⟩ ?_)
  refine zd hO [] [(3, zt0 z.2.cursor.at_), (4, zt0 7)] [2] ztM fun j => ?_
  refine zbi ?_
  cases hF
  have t := hO.val (i := 0) rfl (off := 0) (agg := true) (n := 2) rfl
  have hO := hO.sel []
  exact hQ _ _ _ _ _ (zbE rfl (t) (zdb (zdb rfl))) hO hL ⟨_, _, rfl, rfl, (RdT.nil _ _), (RdT.nil _ _)⟩
 refine zA (zi (za hO 5 [1] [(23, zt7 U z.2.prog.Funcs V)] [2, 5] (And.intro (And.intro rfl rfl) ztM) fun j => ?_))
 obtain ⟨_, G, o, hO⟩ := M.share hO (i := 3) rfl
 have hL := hL.trans G
 have g := g.le G
 have h := h.le G
 have hO := zt54 hO
 obtain ⟨d4, b6, hF⟩ := zt6 hF
 refine z5 hO (zrr o b6) rfl fun _ σ _ _ hO w b7 => ?_
 have hL := hL.trans w
 have o := o.le w
 have g := g.le w
 have h := h.le w
 obtain ⟨rfl, rfl⟩ := b7
 have hO := zt54 hO
 refine zc (zn hF rfl (fun hF => ?_) fun hF => ?_)
 ·refine zi (za hO 1 [] [(25, .agg #[(.slice none 0 0), (.slice none 0 0)])] [2] ztL fun j => ?_)
  refine zx hO (i := 0) rfl (off := 0) rfl rfl rfl rfl (Nat.le_of_ble_eq_true rfl) rfl fun σ hO => ?_
  have hO := zt54 hO
  refine zd hO [] [(3, zt0 0), (4, zt0 11)] [2] ztM fun j => ?_
  refine zbi ?_
  cases hF
  have t := hO.val (i := 0) rfl (off := 0) (agg := true) (n := 2) rfl
  have hO := hO.sel []
  exact hQ _ _ _ _ _ (zbE rfl (t) (zdb (zdb rfl))) hO hL ⟨_, _, rfl, rfl, (RdT.nil _ _), (RdT.nil _ _)⟩
 refine zA (za hO 4 [1] [(29, .agg #[(zt7 b4 z.2.prog.Structs b5), (zt7 U z.2.prog.Funcs V)])] [2] (And.intro (And.intro rfl rfl) ztL) fun j => ?_)
 refine zx hO (i := 0) rfl (off := 0) rfl rfl rfl rfl (Nat.le_of_ble_eq_true rfl) rfl fun σ hO => ?_
 have hO := zt54 hO
 refine zd hO [] [(3, zt0 0), (4, zt0 0)] [2] ztM fun j => ?_
 refine z9 ?_
 obtain ⟨_, I, b8, hO⟩ := h.share hO (i := 2) rfl
 have hL := hL.trans I
 have o := o.le I
 have g := g.le I
 have hO := zt54 hO
 cases hF
 have t := hO.val (i := 0) rfl (off := 0) (agg := true) (n := 2) rfl
 have hO := hO.sel []
 exact hQ _ _ _ _ _ (zbE rfl (t) (zdb (zdb rfl))) hO hL ⟨_, _, rfl, rfl, b8, o⟩
theorem zn2 {τ : Hp} {v0 : Value} {p0 : (List UInt8)} {p1 : Int} (V : RdT Ty.u8 τ v0 p0) {rr : Int} (hF : zfs p0 p1 = some rr) :
  Ctr Try.prog 29 #[v0, .int .i64 p1] τ [] (fun v τ' vs' => v = .int .i64 rr ∧ vs' = []) := by
 obtain ⟨E, G, rfl, -⟩ := V.form
 refine zbl (args := [.slice E p0.length G, .int .i64 p1]) hm Try.func29 s29 rfl fun w0 σ hO Q hQ => ?_
 unfold zfs at hF
 have hL := Hp.le.refl τ
 show wpn _ _ a29.body _ _ _
 unfold a29
 dsimp only
 refine zd hO [] [] [0, 1] ztL fun j => ?_
 refine zH (zbo (fun (n : Nat) e' σ' => ∃ (g : Int) (τ' : Hp), agr [(0, zt7 E p0 G), (1, zt0 g)] e' ∧ Obs τ' σ' [] ∧ Hp.le τ τ' ∧ zd9 p0 n g = some rr) big ⟨p1, _, ztZ ztK, hO, hL, hF⟩ ?_)
 clear hF hO hL
 rintro w e σ ⟨g, _, hA, hO, hL, hF⟩
 rw [← zM _ _ hA]
 cases w with
 | zero => exact nomatch (show none = some rr from hF)
 | succ w =>
 replace hF : zif (zd9 p0 w) p0 g = some rr := hF
 unfold zif at hF
 refine zi (zd hO [] [(9, .bool (decide (g < (p0.length : Int))))] [0, 1] ztM fun j => ?_)
 refine zn hF rfl (fun hF => ?_) fun hF => ?_
 ·refine zA (zbU (zH (za hO 2 [] [(10, zt7 E p0 G), (11, zt0 g)] [0, 1] ztN fun j => ?_)))
  obtain ⟨z, b8, hF⟩ := zt6 hF
  refine zN (T := Ty.u8) (V.le hL) hO.base rfl rfl b8 (by decide) fun a98 _ b9 X => ?_
  obtain rfl : _ = ([.int .u8 z.toNat] : List Value) := b9
  refine zG rfl (X.le hO.base).fst ?_
  refine zd hO [] [(5, .int .u8 (z.toNat : Int))] [0, 1] ztM fun j => ?_
  refine zbU (zH (zd hO [] [(15, .bool (((((z.toNat : Int) == 32) || ((z.toNat : Int) == 9)) || ((z.toNat : Int) == 13)) || ((z.toNat : Int) == 10)))] [0, 1, 5] (And.intro (And.intro rfl rfl) (fun _ => And.intro (And.intro rfl rfl) (fun _ => And.intro (And.intro rfl rfl) (fun _ => ztZ ztM)))) fun j => ?_))
  refine zbm (zn hF rfl (fun hF => ?_) fun hF => ?_)
  ·refine zd hO [] [(1, zt0 (IntKind.i64.wrap (g + 1)))] [0] ztL fun j => ?_
   refine zg (zC (zj (zg (zC (zj (zg ?_))))))
   refine zj ?_
   exact ⟨w, Nat.lt_succ_self _, (IntKind.i64.wrap (g + 1)), _, ztZ ztK, hO, hL, hF⟩
  refine zi (za hO 6 [] [(42, .bool (((z.toNat : Int) == 47) && (decide ((IntKind.i64.wrap (g + 1)) < (p0.length : Int)))))] [0, 1] (And.intro (And.intro rfl rfl) (fun _ => ztZ ztL)) fun j => ?_)
  obtain ⟨I, Y, hF⟩ := zt6 hF
  refine zbQ 2 [(49, .bool I), (0, zt7 E p0 G), (1, zt0 g)] (fun Q hQ => ?_) fun j => ?_
  ·have hF := Y
   rcases z1 hF with ⟨o, hF⟩ | ⟨o, hF⟩
   ·refine zF (zt4 o) ?_
    refine za hO 3 [] [(43, zt7 E p0 G), (45, zt0 (IntKind.i64.wrap (g + 1)))] [0, 1, 42] ztO fun j => ?_
    obtain ⟨M, Z, hF⟩ := zt6 hF
    refine zN (T := Ty.u8) (V.le hL) hO.base rfl rfl Z (by decide) fun a107 _ b0 b1 => ?_
    obtain rfl : _ = ([.int .u8 M.toNat] : List Value) := b0
    refine zG rfl (b1.le hO.base).fst ?_
    refine za hO 1 [] [(48, .bool ((M.toNat : Int) == 47))] [0, 1, 42] ztN fun j => ?_
    refine zp (zt2 o) ?_
    refine zc ?_
    cases hF
    refine zg ?_
    exact hQ _ ztM
   refine zI (zt4 o) ?_
   refine zp (zt2 o) ?_
   refine zc ?_
   cases hF
   refine zg ?_
   exact hQ _ ztM
  refine zd hO [] [(32, .bool I)] [0, 1] ztM fun j => ?_
  refine zn hF rfl (fun hF => ?_) fun hF => ?_
  ·refine zH (zbo (fun (n : Nat) e' σ' => ∃ (h : Int) (τ' : Hp), agr [(0, zt7 E p0 G), (1, zt0 h)] e' ∧ Obs τ' σ' [] ∧ Hp.le τ τ' ∧ zf3 (zd9 p0 w) p0 n h = some rr) big ⟨g, _, ztZ ztK, hO, hL, hF⟩ ?_)
   clear hF hO hL
   rintro B e σ ⟨h, _, hA, hO, hL, hF⟩
   rw [← zM _ _ hA]
   cases B with
   | zero => exact nomatch (show none = some rr from hF)
   | succ B =>
   replace hF : zhR (zf3 (zd9 p0 w) p0 B) (zd9 p0 w) p0 h = some rr := hF
   unfold zhR at hF
   refine zi (za hO 5 [] [(54, .bool (decide (h < (p0.length : Int))))] [0, 1] ztM fun j => ?_)
   obtain ⟨b2, b3, hF⟩ := zt6 hF
   refine zbQ 2 [(60, .bool b2), (0, zt7 E p0 G), (1, zt0 h)] (fun Q hQ => ?_) fun j => ?_
   ·have hF := b3
    rcases z1 hF with ⟨t, hF⟩ | ⟨t, hF⟩
    ·refine zF (zt4 t) ?_
     refine za hO 2 [] [(55, zt7 E p0 G), (56, zt0 h)] [0, 1, 54] ztO fun j => ?_
     obtain ⟨U, b4, hF⟩ := zt6 hF
     refine zN (T := Ty.u8) (V.le hL) hO.base rfl rfl b4 (by decide) fun a136 _ b5 b6 => ?_
     obtain rfl : _ = ([.int .u8 U.toNat] : List Value) := b5
     refine zG rfl (b6.le hO.base).fst ?_
     refine za hO 1 [] [(59, .bool ((U.toNat : Int) != 10))] [0, 1, 54] ztN fun j => ?_
     refine zp (zt2 t) ?_
     refine zc ?_
     cases hF
     refine zg ?_
     exact hQ _ ztM
    refine zI (zt4 t) ?_
    refine zp (zt2 t) ?_
    refine zc ?_
    cases hF
    refine zg ?_
    exact hQ _ ztM
   refine zc (zn hF rfl (fun hF => ?_) fun hF => ?_)
   ·refine zA (zbU (zH (z3 (zd hO [] [(1, zt0 (IntKind.i64.wrap (h + 1)))] [0] ztL fun j => ?_))))
    refine zg (zC (zj (zg (zj ?_))))
    exact ⟨B, Nat.lt_succ_self _, (IntKind.i64.wrap (h + 1)), _, ztZ ztK, hO, hL, hF⟩
   refine zbs (zbp (zbr (zj (zg (zC (zj ?_))))))
   refine zg (zC (zj (zg (zj ?_))))
   exact ⟨w, Nat.lt_succ_self _, h, _, ztZ ztK, hO, hL, hF⟩
  refine zi (zU hO [] [(4, zt0 g)] ztK fun j => ?_)
  refine zbi (z6 (zQ (z6 (zQ (zQ (z6 ?_))))))
  refine zQ ?_
  cases hF
  exact hQ _ _ _ _ _ rfl hO hL ⟨rfl, rfl⟩
 refine zbs (zbp (zbr (zj (zU hO [] [(4, zt0 g)] ztK fun j => ?_))))
 refine z9 ?_
 cases hF
 exact hQ _ _ _ _ _ rfl hO hL ⟨rfl, rfl⟩
theorem zkV {τ : Hp} {p0 : Int}  {rr : Bool} (hF : zem p0 = some rr) :
  Ctr Try.prog 51 #[.int .u8 p0] τ [] (fun v τ' vs' => v = .bool rr ∧ vs' = []) := by
 refine zbl (args := [.int .u8 p0]) hm Try.func51 s51 rfl fun w0 σ hO Q hQ => ?_
 unfold zem at hF
 have hL := Hp.le.refl τ
 show wpn _ _ a51.body _ _ _
 unfold a51
 dsimp only
 refine zd hO [] [] [0] ztK fun j => ?_
 refine za hO 6 [] [(9, .bool ((decide (p0 ≥ 97)) && (decide (p0 ≤ 122))))] [0] (And.intro (And.intro rfl rfl) (fun _ => ztZ ztK)) fun j => ?_
 obtain ⟨o, t, hF⟩ := zt6 hF
 refine zbQ 4 [(16, .bool o), (0, .int .u8 p0)] (fun Q hQ => ?_) fun j => ?_
 ·have hF := t
  rcases z1 hF with ⟨g, hF⟩ | ⟨g, hF⟩
  ·refine zI (zt3 g) ?_
   refine zI rfl ?_
   refine zI (zt3 g) ?_
   refine zp (zt2 g) ?_
   refine zc ?_
   cases hF
   refine zg ?_
   exact hQ _ ztL
  refine zF (zt3 g) ?_
  refine za hO 3 [] [(12, .bool (decide (p0 ≥ 65)))] [0, 9] ztM fun j => ?_
  rcases z1 hF with ⟨h, hF⟩ | ⟨h, hF⟩
  ·refine zF (zt4 h) ?_
   refine za hO 2 [] [(14, .bool (decide (p0 ≤ 90)))] [0, 9, 12] ztN fun j => ?_
   refine zF (zt3 g) ?_
   refine zp (zt2 h) ?_
   refine zp (zt2 g) ?_
   refine zc ?_
   cases hF
   refine zg ?_
   exact hQ _ ztL
  refine zI (zt4 h) ?_
  refine zF (zt3 g) ?_
  refine zp (zt2 h) ?_
  refine zp (zt2 g) ?_
  refine zc ?_
  cases hF
  refine zg ?_
  exact hQ _ ztL
 refine zU hO [] [(2, .bool (o || (p0 == 95)))] (And.intro (And.intro rfl rfl) (fun _ => ztZ trivial)) fun j => ?_
 refine z9 ?_
 cases hF
 exact hQ _ _ _ _ _ rfl hO hL ⟨rfl, rfl⟩
theorem zku {τ : Hp} {p0 : Int}  {rr : Bool} (hF : zeU p0 = some rr) :
  Ctr Try.prog 52 #[.int .u8 p0] τ [] (fun v τ' vs' => v = .bool rr ∧ vs' = []) := by
 refine zbl (args := [.int .u8 p0]) hm Try.func52 s52 rfl fun w0 σ hO Q hQ => ?_
 unfold zeU at hF
 have hL := Hp.le.refl τ
 show wpn _ _ a52.body _ _ _
 unfold a52
 dsimp only
 refine zd hO [] [] [0] ztK fun j => ?_
 refine zU hO [] [(2, .bool ((decide (p0 ≥ 48)) && (decide (p0 ≤ 57))))] (And.intro (And.intro rfl rfl) (fun _ => ztZ trivial)) fun j => ?_
 refine z9 ?_
 cases hF
 exact hQ _ _ _ _ _ rfl hO hL ⟨rfl, rfl⟩
theorem zrJ {τ : Hp} {z : Value} {p0 : (List ByteArray)} {p1 : ByteArray} (B : RdT Ty.str τ z p0) {rr : Bool} (hF : zh9 p0 p1 = some rr) :
  Ctr Try.prog 53 #[z, .string p1] τ [] (fun v τ' vs' => v = .bool rr ∧ vs' = []) := by
 obtain ⟨t, w, rfl, -⟩ := B.form
 refine zbl (args := [.slice t p0.length w, .string p1]) hm Try.func53 s53 rfl fun w0 σ hO Q hQ => ?_
 unfold zh9 at hF
 have hL := Hp.le.refl τ
 show wpn _ _ a53.body _ _ _
 unfold a53
 dsimp only
 refine zd hO [] [] [0, 1] ztL fun j => ?_
 refine zi (zd hO [] [(5, zt0 0)] [0, 1] ztM fun j => ?_)
 refine zH (zbo (fun (n : Nat) e' σ' => ∃ (g : Int) (τ' : Hp), agr [(0, zt7 t p0 w), (1, .string p1), (5, zt0 g)] e' ∧ Obs τ' σ' [] ∧ Hp.le τ τ' ∧ zgz p0 p1 n g = some rr) big ⟨0, _, ztZ ztL, hO, hL, hF⟩ ?_)
 clear hF hO hL
 rintro h e σ ⟨g, _, hA, hO, hL, hF⟩
 rw [← zM _ _ hA]
 cases h with
 | zero => exact nomatch (show none = some rr from hF)
 | succ h =>
 replace hF : zhE (zgz p0 p1 h) p0 p1 g = some rr := hF
 unfold zhE at hF
 refine zi (zd hO [] [(9, .bool (decide (g < (p0.length : Int))))] [0, 1, 5] ztN fun j => ?_)
 refine zn hF rfl (fun hF => ?_) fun hF => ?_
 ·refine zA (zH (za hO 2 [] [(12, zt7 t p0 w), (13, zt0 g)] [0, 1, 5] ztO fun j => ?_))
  obtain ⟨o, E, hF⟩ := zt6 hF
  refine zN (T := Ty.str) (B.le hL) hO.base rfl rfl E (by decide) fun a22 _ G I => ?_
  obtain rfl : _ = ([.string o] : List Value) := G
  refine zG rfl (I.le hO.base).fst ?_
  refine zd hO [] [(17, .bool (zV o p1))] [0, 1, 5] ztN fun j => ?_
  refine zbm (zn hF rfl (fun hF => ?_) fun hF => ?_)
  ·refine zi (zU hO [] [(4, .bool true)] ztK fun j => ?_)
   refine zbi (z6 (zQ (zQ (z6 (zQ ?_)))))
   cases hF
   exact hQ _ _ _ _ _ rfl hO hL ⟨rfl, rfl⟩
  refine zA (zg (zC (zj (z3 (zd hO [] [(5, zt0 (IntKind.i64.wrap (g + 1)))] [0, 1] ztM fun j => ?_)))))
  refine zg (zj ?_)
  exact ⟨h, Nat.lt_succ_self _, (IntKind.i64.wrap (g + 1)), _, ztZ ztL, hO, hL, hF⟩
 refine zbs (zbp (zbr (zj (zU hO [] [(4, .bool false)] ztK fun j => ?_))))
 refine z9 ?_
 cases hF
 exact hQ _ _ _ _ _ rfl hO hL ⟨rfl, rfl⟩
theorem zqg {τ : Hp}   {rr : (List ByteArray)} (hF : zh5  = some rr) :
  Ctr Try.prog 54 #[] τ [] (fun v τ' vs' => ∃ (g : Value) (h : Ob), v = g ∧ vs' = [h] ∧ ze Ty.str 9 τ' g rr h) := by
 refine zbl (args := []) hm Try.func54 s54 rfl fun w0 σ hO Q hQ => ?_
 unfold zh5 at hF
 have hL := Hp.le.refl τ
 show wpn _ _ a54.body _ _ _
 unfold a54
 dsimp only
 refine zU hO [] [] (trivial) fun j => ?_
 refine zt (T := Ty.str) (l := ([zte, zs7, ztc, ztn, ztE, zth, ztx, zs9, ztg, ztd, zs6, ztu, ztl, zti] : List ByteArray)) (cs := [.string zte, .string zs7, .string ztc, .string ztn, .string ztE, .string zth, .string ztx, .string zs9, .string ztg, .string ztd, .string zs6, .string ztu, .string ztl, .string zti]) hO (by kernel_rfl) ⟨[.string zte], _, rfl, rfl, ⟨[.string zs7], _, rfl, rfl, ⟨[.string ztc], _, rfl, rfl, ⟨[.string ztn], _, rfl, rfl, ⟨[.string ztE], _, rfl, rfl, ⟨[.string zth], _, rfl, rfl, ⟨[.string ztx], _, rfl, rfl, ⟨[.string zs9], _, rfl, rfl, ⟨[.string ztg], _, rfl, rfl, ⟨[.string ztd], _, rfl, rfl, ⟨[.string zs6], _, rfl, rfl, ⟨[.string ztu], _, rfl, rfl, ⟨[.string ztl], _, rfl, rfl, ⟨[.string zti], _, rfl, rfl, rfl⟩⟩⟩⟩⟩⟩⟩⟩⟩⟩⟩⟩⟩⟩ rfl (by decide) fun _ σ z o hO => ?_
 obtain ⟨t, w, rfl, -⟩ := o.form
 have hO := zt51 hO
 refine zU hO [] [(0, zt7 t ([zte, zs7, ztc, ztn, ztE, zth, ztx, zs9, ztg, ztd, zs6, ztu, ztl, zti] : List ByteArray) w)] ztK fun j => ?_
 refine z9 ?_
 cases hF
 exact hQ _ _ _ _ _ rfl hO hL ⟨_, _, rfl, rfl, o⟩
theorem zqJ {τ : Hp} {p0 : ByteArray}  {rr : Int × Bool} (hF : zgV p0 = some rr) :
  Ctr Try.prog 55 #[.string p0] τ [] (fun v τ' vs' => v = .tuple #[.int .i64 rr.1, .bool rr.2] ∧ vs' = []) := by
 refine zbl (args := [.string p0]) hm Try.func55 s55 rfl fun w0 σ hO Q hQ => ?_
 unfold zgV at hF
 have hL := Hp.le.refl τ
 show wpn _ _ a55.body _ _ _
 unfold a55
 dsimp only
 refine zd hO [] [] [0] ztK fun j => ?_
 refine zd hO [] [(4, zt0 0)] [0] ztL fun j => ?_
 refine zi (zd hO [] [(5, zt0 0)] [0, 4] ztM fun j => ?_)
 refine zH (zbo (fun (n : Nat) e' σ' => ∃ (g h : Int) (τ' : Hp), agr [(0, .string p0), (4, zt0 g), (5, zt0 h)] e' ∧ Obs τ' σ' [] ∧ Hp.le τ τ' ∧ zgr p0 n g h = some rr) big ⟨0, 0, _, ztZ ztL, hO, hL, hF⟩ ?_)
 clear hF hO hL
 rintro t e σ ⟨g, h, _, hA, hO, hL, hF⟩
 rw [← zM _ _ hA]
 cases t with
 | zero => exact nomatch (show none = some rr from hF)
 | succ t =>
 replace hF : zhP (zgr p0 t) p0 g h = some rr := hF
 unfold zhP at hF
 refine zi (zd hO [] [(10, .bool (decide (h < (p0.size : Int))))] [0, 4, 5] ztN fun j => ?_)
 refine zn hF rfl (fun hF => ?_) fun hF => ?_
 ·refine zA (zH (za hO 2 [] [(13, .string p0), (14, zt0 h)] [0, 4, 5] ztO fun j => ?_))
  obtain ⟨w, B, hF⟩ := zt6 hF
  refine zmo rfl rfl B ?_
  refine zd hO [] [(6, zt0 (IntKind.i64.wrap (IntKind.u8.wrap ((w.toNat : Int) - 48))))] [0, 4, 5] ztN fun j => ?_
  refine zi (zd hO [] [(22, .bool (decide (g > (IntKind.i64.wrap (Int.tdiv (IntKind.i64.wrap (9223372036854775807 - (IntKind.i64.wrap (IntKind.u8.wrap ((w.toNat : Int) - 48))))) 10)))))] [0, 4, 5, 6] ztO fun j => ?_)
  refine zn hF rfl (fun hF => ?_) fun hF => ?_
  ·refine zi (zU hO [] [(2, zt0 0), (3, .bool false)] ztL fun j => ?_)
   refine zbi (z6 (zQ (zQ (z6 (zQ ?_)))))
   cases hF
   exact hQ _ _ _ _ _ rfl hO hL ⟨rfl, rfl⟩
  refine zA (z3 (zd hO [] [(4, zt0 (IntKind.i64.wrap ((IntKind.i64.wrap (10 * g)) + (IntKind.i64.wrap (IntKind.u8.wrap ((w.toNat : Int) - 48))))))] [0, 5] ztM fun j => ?_))
  refine zg (zC (zj (z3 (zd hO [] [(5, zt0 (IntKind.i64.wrap (h + 1)))] [0, 4] ztM fun j => ?_))))
  refine zg (zj ?_)
  exact ⟨t, Nat.lt_succ_self _, (IntKind.i64.wrap ((IntKind.i64.wrap (10 * g)) + (IntKind.i64.wrap (IntKind.u8.wrap ((w.toNat : Int) - 48))))), (IntKind.i64.wrap (h + 1)), _, ztZ ztL, hO, hL, hF⟩
 refine zbs (zbp (zbr (zj (zb9 (za hO 5 [] [(27, zt0 g), (31, .bool ((p0.size : Int) == 1))] [0] ztM fun j => ?_)))))
 obtain ⟨z, E, hF⟩ := zt6 hF
 refine zbQ 2 [(35, .bool z), (27, zt0 g)] (fun Q hQ => ?_) fun j => ?_
 ·have hF := E
  rcases z1 hF with ⟨o, hF⟩ | ⟨o, hF⟩
  ·refine zI (zt3 o) ?_
   refine zp (zt2 o) ?_
   refine zc ?_
   cases hF
   refine zg ?_
   exact hQ _ ztL
  refine zF (zt3 o) ?_
  refine za hO 1 [] [(32, .string p0)] [27, 31] ztM fun j => ?_
  obtain ⟨G, I, hF⟩ := zt6 hF
  refine zmo rfl rfl I ?_
  refine za hO 1 [] [(34, .bool ((G.toNat : Int) != 48))] [27, 31] ztM fun j => ?_
  refine zp (zt2 o) ?_
  refine zc ?_
  cases hF
  refine zg ?_
  exact hQ _ ztL
 refine zU hO [] [(2, zt0 g), (3, .bool z)] ztL fun j => ?_
 refine z9 ?_
 cases hF
 exact hQ _ _ _ _ _ rfl hO hL ⟨rfl, rfl⟩
theorem zro {τ : Hp}   {rr : (List ByteArray)} (hF : zkm  = some rr) :
  Ctr Try.prog 56 #[] τ [] (fun v τ' vs' => ∃ (g : Value) (h : Ob), v = g ∧ vs' = [h] ∧ ze Ty.str 9 τ' g rr h) := by
 refine zbl (args := []) hm Try.func56 s56 rfl fun w0 σ hO Q hQ => ?_
 unfold zkm at hF
 have hL := Hp.le.refl τ
 show wpn _ _ a56.body _ _ _
 unfold a56
 dsimp only
 refine zU hO [] [] (trivial) fun j => ?_
 refine zt (T := Ty.str) (l := ([zto, ztk, ztp, ztq, ztr, zts, zs5, zs4, ztm, ztw, ztb, ztj, ztt, zta, ztv, zs8, ztB, ztf, zty, ztC, ztD, ztz, ztA, ztH] : List ByteArray)) (cs := [.string zto, .string ztk, .string ztp, .string ztq, .string ztr, .string zts, .string zs5, .string zs4, .string ztm, .string ztw, .string ztb, .string ztj, .string ztt, .string zta, .string ztv, .string zs8, .string ztB, .string ztf, .string zty, .string ztC, .string ztD, .string ztz, .string ztA, .string ztH]) hO (by kernel_rfl) ⟨[.string zto], _, rfl, rfl, ⟨[.string ztk], _, rfl, rfl, ⟨[.string ztp], _, rfl, rfl, ⟨[.string ztq], _, rfl, rfl, ⟨[.string ztr], _, rfl, rfl, ⟨[.string zts], _, rfl, rfl, ⟨[.string zs5], _, rfl, rfl, ⟨[.string zs4], _, rfl, rfl, ⟨[.string ztm], _, rfl, rfl, ⟨[.string ztw], _, rfl, rfl, ⟨[.string ztb], _, rfl, rfl, ⟨[.string ztj], _, rfl, rfl, ⟨[.string ztt], _, rfl, rfl, ⟨[.string zta], _, rfl, rfl, ⟨[.string ztv], _, rfl, rfl, ⟨[.string zs8], _, rfl, rfl, ⟨[.string ztB], _, rfl, rfl, ⟨[.string ztf], _, rfl, rfl, ⟨[.string zty], _, rfl, rfl, ⟨[.string ztC], _, rfl, rfl, ⟨[.string ztD], _, rfl, rfl, ⟨[.string ztz], _, rfl, rfl, ⟨[.string ztA], _, rfl, rfl, ⟨[.string ztH], _, rfl, rfl, rfl⟩⟩⟩⟩⟩⟩⟩⟩⟩⟩⟩⟩⟩⟩⟩⟩⟩⟩⟩⟩⟩⟩⟩⟩ rfl (by decide) fun _ σ z o hO => ?_
 obtain ⟨t, w, rfl, -⟩ := o.form
 have hO := zt51 hO
 refine zU hO [] [(0, zt7 t ([zto, ztk, ztp, ztq, ztr, zts, zs5, zs4, ztm, ztw, ztb, ztj, ztt, zta, ztv, zs8, ztB, ztf, zty, ztC, ztD, ztz, ztA, ztH] : List ByteArray) w)] ztK fun j => ?_
 refine z9 ?_
 cases hF
 exact hQ _ _ _ _ _ rfl hO hL ⟨_, _, rfl, rfl, o⟩
theorem zqq {τ : Hp} {v0 : Value} {p0 : (List UInt8)} {p1 : Int} (r0 : RdT Ty.u8 τ v0 p0) {rr : zl × Bool} (hF : zf9 p0 p1 = some rr) :
  Ctr Try.prog 30 #[v0, .int .i64 p1] τ [] (fun v τ' vs' => v = .tuple #[.agg #[.int .u8 rr.1.Kind.toNat, .string rr.1.Text, .int .i64 rr.1.Num, .int .i64 rr.1.Line], .bool rr.2] ∧ vs' = []) := by
 obtain ⟨I, M, rfl, -⟩ := r0.form
 refine zbl (args := [.slice I p0.length M, .int .i64 p1]) hm Try.func30 s30 rfl fun w0 σ hO Q hQ => ?_
 unfold zf9 at hF
 have hL := Hp.le.refl τ
 show wpn _ _ a30.body _ _ _
 unfold a30
 dsimp only
 refine zbC hO fun U σ hO => ?_
 have hO := zt51 hO
 refine zd hO [] [] [0, 1, 4] ztM fun j => ?_
 refine zd hO [] [(6, zt0 p1)] [0, 1, 4] ztN fun j => ?_
 refine za hO 2 [] [(15, zt7 I p0 M), (16, zt0 p1)] [0, 1, 4, 6] ztP fun j => ?_
 obtain ⟨y4, g5, hF⟩ := zt6 hF
 refine zN (T := Ty.u8) (r0.le hL) hO.base rfl rfl g5 (by decide) fun a6 _ k7 m8 => ?_
 obtain rfl : _ = ([.int .u8 y4.toNat] : List Value) := k7
 refine zG rfl (m8.le hO.base).fst ?_
 refine zd hO [] [(7, .int .u8 (y4.toNat : Int))] [0, 1, 4, 6] ztO fun j => ?_
 refine zH (za hO 1 [] [(20, .int .u8 (y4.toNat : Int))] [0, 1, 4, 6, 7] ztP fun j => ?_)
 obtain ⟨c9, n2, hF⟩ := zt6 hF
 refine z5 hO (zkV n2) rfl fun _ σ _ _ hO n3 n4 => ?_
 have hL := hL.trans n3
 obtain ⟨rfl, rfl⟩ := n4
 have hO := zt51 hO
 refine zd hO [] [(19, .bool c9)] [0, 1, 4, 6, 7] ztP fun j => ?_
 refine zbm (zn hF rfl (fun hF => ?_) fun hF => ?_)
 ·refine zi (zH (zbo (fun (n : Nat) e' σ' => ∃ (E : Int) (τ' : Hp), agr [(0, zt7 I p0 M), (1, zt0 p1), (4, zt1 U), (6, zt0 E)] e' ∧ Obs τ' σ' [ze8 U 0 zs3 0 0] ∧ Hp.le τ τ' ∧ zgn p0 p1 n E = some rr) big ⟨p1, _, ztZ ztM, hO, hL, hF⟩ ?_))
  clear hF hO hL
  rintro b6 e σ ⟨E, _, hA, hO, hL, hF⟩
  rw [← zM _ _ hA]
  cases b6 with
  | zero => exact nomatch (show none = some rr from hF)
  | succ b6 =>
  replace hF : zg7 (zgn p0 p1 b6) p0 p1 E = some rr := hF
  unfold zg7 at hF
  refine zi (za hO 5 [] [(26, .bool (decide (E < (p0.length : Int))))] [0, 1, 4, 6] ztO fun j => ?_)
  obtain ⟨f6, f7, hF⟩ := zt6 hF
  refine zb2 4 (fun e' σ' => ∃ (τ' : Hp), agr [(39, .bool f6), (0, zt7 I p0 M), (1, zt0 p1), (4, zt1 U), (6, zt0 E)] e' ∧ Obs τ' σ' [ze8 U 0 zs3 0 0] ∧ Hp.le τ τ') ?_ ?_
  ·have hF := f7
   rcases z1 hF with ⟨t, hF⟩ | ⟨t, hF⟩
   ·refine zF (zt4 t) ?_
    refine za hO 2 [] [(27, zt7 I p0 M), (28, zt0 E)] [0, 1, 4, 6, 26] ztQ fun j => ?_
    obtain ⟨f8, f9, hF⟩ := zt6 hF
    refine zN (T := Ty.u8) (r0.le hL) hO.base rfl rfl f9 (by decide) fun a109 _ g0 c1 => ?_
    obtain rfl : _ = ([.int .u8 f8.toNat] : List Value) := g0
    refine zG rfl (c1.le hO.base).fst ?_
    obtain ⟨g1, g2, hF⟩ := zt6 hF
    refine z5 hO (zkV g2) rfl fun _ σ _ _ hO c6 g3 => ?_
    have hL := hL.trans c6
    have c1 := c1.le c6
    obtain ⟨rfl, rfl⟩ := g3
    have hO := zt51 hO
    refine za hO 1 [] [(32, .bool g1)] [0, 1, 4, 6, 26] ztP fun j => ?_
    rcases z1 hF with ⟨Y, hF⟩ | ⟨Y, hF⟩
    ·refine zI (zt3 Y) ?_
     refine zF (zt4 t) ?_
     refine zp (zt2 Y) ?_
     refine zp (zt2 t) ?_
     refine zc ?_
     cases hF
     refine zg ?_
     exact ⟨rfl, _, ztZ ztN, hO, hL⟩
    refine zF (zt3 Y) ?_
    refine za hO 2 [] [(33, zt7 I p0 M), (34, zt0 E)] [0, 1, 4, 6, 26, 32] ztR fun j => ?_
    obtain ⟨g4, g6, hF⟩ := zt6 hF
    refine zN (T := Ty.u8) (r0.le hL) hO.base rfl rfl g6 (by decide) fun a119 _ g7 c2 => ?_
    obtain rfl : _ = ([.int .u8 g4.toNat] : List Value) := g7
    refine zG rfl (c2.le hO.base).fst ?_
    obtain ⟨n9, g8, hF⟩ := zt6 hF
    refine z5 hO (zku g8) rfl fun _ σ _ _ hO c7 g9 => ?_
    have hL := hL.trans c7
    have c2 := c2.le c7
    obtain ⟨rfl, rfl⟩ := g9
    have hO := zt51 hO
    refine zF (zt4 t) ?_
    refine zp (zt2 Y) ?_
    refine zp (zt2 t) ?_
    refine zc ?_
    cases hF
    refine zg ?_
    exact ⟨rfl, _, ztZ ztN, hO, hL⟩
   refine zI (zt4 t) ?_
   refine zI rfl ?_
   refine zI (zt4 t) ?_
   refine zp (zt2 t) ?_
   refine zc ?_
   cases hF
   refine zg ?_
   exact ⟨rfl, _, ztZ ztN, hO, hL⟩
  rintro e σ ⟨_, hA, hO, hL⟩
  rw [← zM _ _ hA]
  refine zc (zn hF rfl (fun hF => ?_) fun hF => ?_)
  ·refine zA (zbU (zH (z3 (zd hO [] [(6, zt0 (IntKind.i64.wrap (E + 1)))] [0, 1, 4] ztN fun j => ?_))))
   refine zg (zC (zj (zg (zj ?_))))
   exact ⟨b6, Nat.lt_succ_self _, (IntKind.i64.wrap (E + 1)), _, ztZ ztM, hO, hL, hF⟩
  refine zbs (zbp (zbr (zj (zi (za hO 3 [] [(42, zt7 I p0 M), (43, zt0 p1), (44, zt0 E)] [4] ztN fun j => ?_)))))
  obtain ⟨G, h0, hF⟩ := zt6 hF
  refine zhn (T := Ty.u8) (r0.le hL) rfl rfl rfl h0 fun _ h1 => ?_
  refine zhm (l := G) (h1.le hO.base) rfl ?_
  refine zd hO [] [(8, .string (⟨G.toArray⟩ : ByteArray))] [4] ztL fun j => ?_
  refine zi (zi ?_)
  obtain ⟨o0, h2, hF⟩ := zt6 hF
  refine z5 hO (zqg h2) rfl fun _ σ _ _ hO h3 h4 => ?_
  have hL := hL.trans h3
  obtain ⟨o1, o2, rfl, rfl, h5⟩ := h4
  have hO := zt52 hO
  refine za hO 1 [] [(48, .string (⟨G.toArray⟩ : ByteArray))] [4, 8, 47] ztN fun j => ?_
  obtain ⟨_, h6, c3, hO⟩ := h5.share hO (i := 1) rfl
  have hL := hL.trans h6
  have hO := zt52 hO
  obtain ⟨o3, h7, hF⟩ := zt6 hF
  refine z5 hO (zrJ (p1 := (⟨G.toArray⟩ : ByteArray)) c3 h7) rfl fun _ σ _ _ hO c8 h8 => ?_
  have hL := hL.trans c8
  have c3 := c3.le c8
  obtain ⟨rfl, rfl⟩ := h8
  have hO := zt52 hO
  refine zc (zn hF rfl (fun hF => ?_) fun hF => ?_)
  ·refine zi (za hO 2 [] [(51, .agg #[(.int .u8 3), (.string (⟨G.toArray⟩ : ByteArray)), (.int .i64 0), (.int .i64 0)])] [4] ztL fun j => ?_)
   refine zx hO (i := 0) rfl (off := 0) rfl rfl rfl rfl (Nat.le_of_ble_eq_true rfl) rfl fun σ hO => ?_
   have hO := zt52 hO
   refine zd hO [] [(5, .bool true)] [4] ztL fun j => ?_
   refine zbi (z6 (zQ ?_))
   cases hF
   have Z := hO.val (i := 0) rfl (off := 0) (agg := true) (n := 4) rfl
   have hO := hO.sel []
   exact hQ _ _ _ _ _ (zbE rfl (Z) (zdb rfl)) hO hL ⟨rfl, rfl⟩
  refine zA (zi (za hO 5 [] [(53, .agg #[(.int .u8 1), (.string (⟨G.toArray⟩ : ByteArray)), (.int .i64 0), (.int .i64 0)]), (56, .bool (decide (((⟨G.toArray⟩ : ByteArray).size : Int) ≤ 24)))] [4] ztM fun j => ?_))
  refine zx hO (i := 0) rfl (off := 0) rfl rfl rfl rfl (Nat.le_of_ble_eq_true rfl) rfl fun σ hO => ?_
  have hO := zt52 hO
  refine zd hO [] [(5, .bool (decide (((⟨G.toArray⟩ : ByteArray).size : Int) ≤ 24)))] [4] ztL fun j => ?_
  refine zbi (z6 (zQ ?_))
  cases hF
  have Z := hO.val (i := 0) rfl (off := 0) (agg := true) (n := 4) rfl
  have hO := hO.sel []
  exact hQ _ _ _ _ _ (zbE rfl (Z) (zdb rfl)) hO hL ⟨rfl, rfl⟩
 refine zi (za hO 1 [] [(58, .int .u8 (y4.toNat : Int))] [0, 1, 4, 6] ztO fun j => ?_)
 obtain ⟨h9, i0, hF⟩ := zt6 hF
 refine z5 hO (zku i0) rfl fun _ σ _ _ hO i1 i2 => ?_
 have hL := hL.trans i1
 obtain ⟨rfl, rfl⟩ := i2
 have hO := zt51 hO
 refine zd hO [] [(57, .bool h9)] [0, 1, 4, 6] ztO fun j => ?_
 refine zn hF rfl (fun hF => ?_) fun hF => ?_
 ·refine zi (zH (zbo (fun (n : Nat) e' σ' => ∃ (g : Int) (τ' : Hp), agr [(0, zt7 I p0 M), (1, zt0 p1), (4, zt1 U), (6, zt0 g)] e' ∧ Obs τ' σ' [ze8 U 0 zs3 0 0] ∧ Hp.le τ τ' ∧ zfM p0 p1 n g = some rr) big ⟨p1, _, ztZ ztM, hO, hL, hF⟩ ?_))
  clear hF hO hL
  rintro b7 e σ ⟨g, _, hA, hO, hL, hF⟩
  rw [← zM _ _ hA]
  cases b7 with
  | zero => exact nomatch (show none = some rr from hF)
  | succ b7 =>
  replace hF : zg5 (zfM p0 p1 b7) p0 p1 g = some rr := hF
  unfold zg5 at hF
  refine zi (za hO 5 [] [(64, .bool (decide (g < (p0.length : Int))))] [0, 1, 4, 6] ztO fun j => ?_)
  obtain ⟨i3, i4, hF⟩ := zt6 hF
  refine zb2 2 (fun e' σ' => ∃ (τ' : Hp), agr [(70, .bool i3), (0, zt7 I p0 M), (1, zt0 p1), (4, zt1 U), (6, zt0 g)] e' ∧ Obs τ' σ' [ze8 U 0 zs3 0 0] ∧ Hp.le τ τ') ?_ ?_
  ·have hF := i4
   rcases z1 hF with ⟨b0, hF⟩ | ⟨b0, hF⟩
   ·refine zF (zt4 b0) ?_
    refine za hO 2 [] [(65, zt7 I p0 M), (66, zt0 g)] [0, 1, 4, 6, 64] ztQ fun j => ?_
    obtain ⟨i5, i6, hF⟩ := zt6 hF
    refine zN (T := Ty.u8) (r0.le hL) hO.base rfl rfl i6 (by decide) fun a230 _ i7 c4 => ?_
    obtain rfl : _ = ([.int .u8 i5.toNat] : List Value) := i7
    refine zG rfl (c4.le hO.base).fst ?_
    obtain ⟨o4, i8, hF⟩ := zt6 hF
    refine z5 hO (zku i8) rfl fun _ σ _ _ hO d0 i9 => ?_
    have hL := hL.trans d0
    have c4 := c4.le d0
    obtain ⟨rfl, rfl⟩ := i9
    have hO := zt51 hO
    refine zp (zt2 b0) ?_
    refine zc ?_
    cases hF
    refine zg ?_
    exact ⟨rfl, _, ztZ ztN, hO, hL⟩
   refine zI (zt4 b0) ?_
   refine zp (zt2 b0) ?_
   refine zc ?_
   cases hF
   refine zg ?_
   exact ⟨rfl, _, ztZ ztN, hO, hL⟩
  rintro e σ ⟨_, hA, hO, hL⟩
  rw [← zM _ _ hA]
  refine zc (zn hF rfl (fun hF => ?_) fun hF => ?_)
  ·refine zA (zbU (zH (z3 (zd hO [] [(6, zt0 (IntKind.i64.wrap (g + 1)))] [0, 1, 4] ztN fun j => ?_))))
   refine zg (zC (zj (zg (zj ?_))))
   exact ⟨b7, Nat.lt_succ_self _, (IntKind.i64.wrap (g + 1)), _, ztZ ztM, hO, hL, hF⟩
  refine zbs (zbp (zbr (zj (zi (za hO 3 [] [(73, zt7 I p0 M), (74, zt0 p1), (75, zt0 g)] [0, 4, 6] ztP fun j => ?_)))))
  obtain ⟨V, j0, hF⟩ := zt6 hF
  refine zhn (T := Ty.u8) (r0.le hL) rfl rfl rfl j0 fun _ j1 => ?_
  refine zhm (l := V) (j1.le hO.base) rfl ?_
  refine zd hO [] [(9, .string (⟨V.toArray⟩ : ByteArray))] [0, 4, 6] ztN fun j => ?_
  refine zi (za hO 1 [] [(79, .string (⟨V.toArray⟩ : ByteArray))] [0, 4, 6, 9] ztO fun j => ?_)
  obtain ⟨X, j2, hF⟩ := zt6 hF
  refine z5 hO (zqJ (p0 := (⟨V.toArray⟩ : ByteArray)) j2) rfl fun _ σ _ _ hO j3 j4 => ?_
  have hL := hL.trans j3
  obtain ⟨rfl, rfl⟩ := j4
  have hO := zt51 hO
  refine zd hO [] [(10, zt0 X.1), (11, .bool X.2)] [0, 4, 6, 9] ztP fun j => ?_
  refine zi (za hO 5 [] [(85, .agg #[(.int .u8 2), (.string (⟨V.toArray⟩ : ByteArray)), (.int .i64 X.1), (.int .i64 0)]), (87, .bool X.2)] [0, 4, 6] ztO fun j => ?_)
  obtain ⟨d4, j5, hF⟩ := zt6 hF
  refine zb2 4 (fun e' σ' => ∃ (τ' : Hp), agr [(100, .bool d4), (4, zt1 U), (85, .agg #[(.int .u8 2), (.string (⟨V.toArray⟩ : ByteArray)), (.int .i64 X.1), (.int .i64 0)])] e' ∧ Obs τ' σ' [ze8 U 0 zs3 0 0] ∧ Hp.le τ τ') ?_ ?_
  ·have hF := j5
   rcases z1 hF with ⟨w, hF⟩ | ⟨w, hF⟩
   ·refine zF (zt4 w) ?_
    refine za hO 5 [] [(92, .bool (g == (p0.length : Int)))] [0, 4, 6, 85, 87] ztP fun j => ?_
    rcases z1 hF with ⟨b1, hF⟩ | ⟨b1, hF⟩
    ·refine zI (zt3 b1) ?_
     refine zF (zt4 w) ?_
     refine zp (zt2 b1) ?_
     refine zp (zt2 w) ?_
     refine zc ?_
     cases hF
     refine zg ?_
     exact ⟨rfl, _, ztZ ztL, hO, hL⟩
    refine zF (zt3 b1) ?_
    refine za hO 2 [] [(93, zt7 I p0 M), (94, zt0 g)] [4, 85, 87, 92] ztP fun j => ?_
    obtain ⟨j6, j7, hF⟩ := zt6 hF
    refine zN (T := Ty.u8) (r0.le hL) hO.base rfl rfl j7 (by decide) fun a253 _ j8 c5 => ?_
    obtain rfl : _ = ([.int .u8 j6.toNat] : List Value) := j8
    refine zG rfl (c5.le hO.base).fst ?_
    obtain ⟨j9, k0, hF⟩ := zt6 hF
    refine z5 hO (zkV k0) rfl fun _ σ _ _ hO d5 k1 => ?_
    have hL := hL.trans d5
    have c5 := c5.le d5
    obtain ⟨rfl, rfl⟩ := k1
    have hO := zt51 hO
    refine zbk hO 1 [] [(4, zt1 U), (85, .agg #[(.int .u8 2), (.string (⟨V.toArray⟩ : ByteArray)), (.int .i64 X.1), (.int .i64 0)]), (87, .bool X.2), (92, .bool (g == (p0.length : Int))), (98, .bool (!j9))] ztO fun j => ?_
    refine zF (zt4 w) ?_
    refine zp (zt2 b1) ?_
    refine zp (zt2 w) ?_
    refine zc ?_
    cases hF
    refine zg ?_
    exact ⟨rfl, _, ztZ ztL, hO, hL⟩
   refine zI (zt4 w) ?_
   refine zI rfl ?_
   refine zI (zt4 w) ?_
   refine zp (zt2 w) ?_
   refine zc ?_
   cases hF
   refine zg ?_
   exact ⟨rfl, _, ztZ ztL, hO, hL⟩
  rintro e σ ⟨_, hA, hO, hL⟩
  rw [← zM _ _ hA]
  refine zx hO (i := 0) rfl (off := 0) rfl rfl rfl rfl (Nat.le_of_ble_eq_true rfl) rfl fun σ hO => ?_
  have hO := zt51 hO
  refine zd hO [] [(5, .bool d4)] [4] ztL fun j => ?_
  refine zbi (z6 (zQ ?_))
  cases hF
  have Z := hO.val (i := 0) rfl (off := 0) (agg := true) (n := 4) rfl
  have hO := hO.sel []
  exact hQ _ _ _ _ _ (zbE rfl (Z) (zdb rfl)) hO hL ⟨rfl, rfl⟩
 refine zA (zg (zC (zj ?_)))
 obtain ⟨d6, k4, hF⟩ := zt6 hF
 refine z5 hO (zro k4) rfl fun _ σ _ _ hO k5 k6 => ?_
 have hL := hL.trans k5
 obtain ⟨o5, k8, rfl, rfl, d7⟩ := k6
 obtain ⟨d8, d9, rfl, -⟩ := d7.form
 have hO := zt52 hO
 refine zU hO [] [(0, zt7 I p0 M), (1, zt0 p1), (4, zt1 U), (12, zt7 d8 d6 d9)] ztN fun j => ?_
 refine zi (zd hO [] [(13, zt0 0)] [0, 1, 4, 12] ztO fun j => ?_)
 refine zH (zbo (fun (n : Nat) e' σ' => ∃ (z : Option Addr) (B : Nat) (b8 : Ob) (h : List ByteArray) (o : Int) (τ' : Hp), agr [(0, zt7 I p0 M), (1, zt0 p1), (4, zt1 U), (12, zt7 z h B), (13, zt0 o)] e' ∧ Obs τ' σ' [ze8 U 0 zs3 0 0, b8] ∧ Hp.le τ τ' ∧ ze Ty.str 9 τ' (zt7 z h B) h b8 ∧ zfL p0 p1 n h o = some rr) big ⟨d8, d9, k8, d6, 0, _, ztZ ztN, hO, hL, d7, hF⟩ ?_)
 clear hF hO hL
 rintro b9 e σ ⟨z, B, b8, h, o, _, hA, hO, hL, b4, hF⟩
 rw [← zM _ _ hA]
 cases b9 with
 | zero => exact nomatch (show none = some rr from hF)
 | succ b9 =>
 replace hF : zhz (zfL p0 p1 b9) p0 p1 h o = some rr := hF
 unfold zhz at hF
 refine zi (zd hO [] [(105, .bool (decide (o < (h.length : Int))))] [0, 1, 4, 12, 13] ztP fun j => ?_)
 refine zn hF rfl (fun hF => ?_) fun hF => ?_
 ·refine zA (zH (zb9 (za hO 3 [] [(108, zt0 p1), (109, zt7 z h B), (110, zt0 o)] [0, 1, 4, 12, 13] ztR fun j => ?_)))
  obtain ⟨f0, l0, hF⟩ := zt6 hF
  refine zd5 (T := Ty.str) hO b4 (i := 1) rfl rfl rfl l0 (by decide) fun a360 _ l1 l2 o6 => ?_
  have l3 := l1
  obtain rfl : _ = ([.string f0] : List Value) := l3
  refine zG rfl l2.fst ?_
  refine za hO 6 [] [(118, .bool (decide ((IntKind.i64.wrap (p1 + (f0.size : Int))) ≤ (p0.length : Int))))] [0, 1, 4, 12, 13] ztP fun j => ?_
  obtain ⟨l4, l5, hF⟩ := zt6 hF
  refine zbQ 2 [(135, .bool l4), (0, zt7 I p0 M), (1, zt0 p1), (4, zt1 U), (12, zt7 z h B), (13, zt0 o)] (fun Q hQ => ?_) fun j => ?_
  ·have hF := l5
   rcases z1 hF with ⟨b2, hF⟩ | ⟨b2, hF⟩
   ·refine zF (zt4 b2) ?_
    refine za hO 5 [] [(119, zt7 I p0 M), (120, zt0 p1), (121, zt0 p1), (122, zt7 z h B), (123, zt0 o)] [0, 1, 4, 12, 13, 118] ztU fun j => ?_
    obtain ⟨f1, l6, hF⟩ := zt6 hF
    refine zd5 (T := Ty.str) hO b4 (i := 1) rfl rfl rfl l6 (by decide) fun a370 _ l7 l8 o7 => ?_
    have l9 := l7
    obtain rfl : _ = ([.string f1] : List Value) := l9
    refine zG rfl l8.fst ?_
    refine za hO 2 [] [(127, zt0 (IntKind.i64.wrap (p1 + (f1.size : Int))))] [0, 1, 4, 12, 13, 118, 119, 120] ztS fun j => ?_
    obtain ⟨f2, m0, hF⟩ := zt6 hF
    refine zhn (T := Ty.u8) (r0.le hL) rfl rfl rfl m0 fun _ m1 => ?_
    refine zhm (l := f2) (m1.le hO.base) rfl ?_
    refine za hO 2 [] [(130, zt7 z h B), (131, zt0 o)] [0, 1, 4, 12, 13, 118, 129] ztS fun j => ?_
    obtain ⟨f3, m2, hF⟩ := zt6 hF
    refine zd5 (T := Ty.str) hO b4 (i := 1) rfl rfl rfl m2 (by decide) fun a382 _ m3 m4 o8 => ?_
    have m5 := m3
    obtain rfl : _ = ([.string f3] : List Value) := m5
    refine zG rfl m4.fst ?_
    refine za hO 1 [] [(134, .bool (zV (⟨f2.toArray⟩ : ByteArray) f3))] [0, 1, 4, 12, 13, 118] ztQ fun j => ?_
    refine zp (zt2 b2) ?_
    refine zc ?_
    cases hF
    refine zg ?_
    exact hQ _ ztP
   refine zI (zt4 b2) ?_
   refine zp (zt2 b2) ?_
   refine zc ?_
   cases hF
   refine zg ?_
   exact hQ _ ztP
  refine zc (zbm (zn hF rfl (fun hF => ?_) fun hF => ?_))
  ·refine zi (za hO 2 [] [(136, zt7 z h B), (137, zt0 o)] [4] ztM fun j => ?_)
   obtain ⟨f4, m6, hF⟩ := zt6 hF
   refine zd5 (T := Ty.str) hO b4 (i := 1) rfl rfl rfl m6 (by decide) fun a390 _ m7 m9 o9 => ?_
   have n0 := m7
   obtain rfl : _ = ([.string f4] : List Value) := n0
   refine zG rfl m9.fst ?_
   refine za hO 1 [] [(140, .agg #[(.int .u8 4), (.string f4), (.int .i64 0), (.int .i64 0)])] [4] ztL fun j => ?_
   refine zx hO (i := 0) rfl (off := 0) rfl rfl rfl rfl (Nat.le_of_ble_eq_true rfl) rfl fun σ hO => ?_
   have hO := zt52 hO
   refine zd hO [] [(5, .bool true)] [4] ztL fun j => ?_
   refine zbi (z6 (zQ (zQ (z6 (zQ ?_)))))
   cases hF
   have Z := hO.val (i := 0) rfl (off := 0) (agg := true) (n := 4) rfl
   have hO := hO.sel []
   exact hQ _ _ _ _ _ (zbE rfl (Z) (zdb rfl)) hO hL ⟨rfl, rfl⟩
  refine zA (zg (zC (zj (z3 (zd hO [] [(13, zt0 (IntKind.i64.wrap (o + 1)))] [0, 1, 4, 12] ztO fun j => ?_)))))
  refine zg (zj ?_)
  exact ⟨b9, Nat.lt_succ_self _, z, B, b8, h, (IntKind.i64.wrap (o + 1)), _, ztZ ztN, hO, hL, b4, hF⟩
 refine zbs (zbp (zbr (zj (za hO 1 [] [(141, .agg #[(.int .u8 0), (.string zs3), (.int .i64 0), (.int .i64 0)])] [4] ztL fun j => ?_))))
 refine zx hO (i := 0) rfl (off := 0) rfl rfl rfl rfl (Nat.le_of_ble_eq_true rfl) rfl fun σ hO => ?_
 have hO := zt52 hO
 refine zd hO [] [(5, .bool false)] [4] ztL fun j => ?_
 refine z9 ?_
 cases hF
 have Z := hO.val (i := 0) rfl (off := 0) (agg := true) (n := 4) rfl
 have hO := hO.sel []
 exact hQ _ _ _ _ _ (zbE rfl (Z) (zdb rfl)) hO hL ⟨rfl, rfl⟩
theorem zlR {τ : Hp} {v0 : Value} {p0 : (List UInt8)} (r0 : RdT Ty.u8 τ v0 p0) {rr : (List zl) × Int × Int} (hF : zeA p0 = some rr) :
  Ctr Try.prog 13 #[v0] τ [] (fun v τ' vs' => ∃ (v0 : Value) (o0 : Ob), v = .tuple #[v0, .int .i64 rr.2.1, .int .i64 rr.2.2] ∧ vs' = [o0] ∧ ze zm 79 τ' v0 rr.1 o0) := by
 obtain ⟨X, Y, rfl, -⟩ := r0.form
 refine zbl (args := [.slice X p0.length Y]) hm Try.func13 s13 rfl fun w0 σ hO Q hQ => ?_
 unfold zeA at hF
 have hL := Hp.le.refl τ
 show wpn _ _ a13.body _ _ _
 unfold a13
 dsimp only
 refine zd hO [] [] [0] ztK fun j => ?_
 refine zi (zd hO [] [(13, .bool (decide ((p0.length : Int) > 16384)))] [0] ztL fun j => ?_)
 refine zn hF rfl (fun hF => ?_) fun hF => ?_
 ·refine zi (zU hO [] [(2, .slice none 0 0), (3, zt0 0), (4, zt0 11)] ztM fun j => ?_)
  refine zbi ?_
  have hO := hO.no
  have hO := zt51 hO
  cases hF
  exact hQ _ _ _ _ _ rfl hO hL ⟨_, _, rfl, rfl, (ze.nil _ _ _)⟩
 refine zA (zd hO [] [(5, .slice none 0 0)] [0] ztL fun j => ?_)
 refine zd hO [] [(6, zt0 1)] [0, 5] ztM fun j => ?_
 refine zd hO [] [(7, zt0 0)] [0, 5, 6] ztN fun j => ?_
 refine za hO 1 [] [(14, zt7 X p0 Y)] [0, 5, 6, 7] ztO fun j => ?_
 obtain ⟨c3, h4, hF⟩ := zt6 hF
 refine z5 hO (zn2 (r0.le hL) h4) rfl fun _ σ _ _ hO h5 h6 => ?_
 have hL := hL.trans h5
 obtain ⟨rfl, rfl⟩ := h6
 have hO : Obs _ _ [] := hO
 refine zd hO [] [(8, zt0 c3)] [0, 5, 6, 7] ztO fun j => ?_
 refine zH ?_
 have hO := hO.no
 have hO := zt51 hO
 refine zbo (fun (n : Nat) e' σ' => ∃ (Z : Option Addr) (b0 : Nat) (b5 : Ob) (G : List zl) (b1 b2 w : Int) (τ' : Hp), agr [(0, zt7 X p0 Y), (5, zt7 Z G b0), (6, zt0 b1), (7, zt0 b2), (8, zt0 w)] e' ∧ Obs τ' σ' [b5] ∧ Hp.le τ τ' ∧ ze zm 79 τ' (zt7 Z G b0) G b5 ∧ zdX p0 n G b1 b2 w = some rr) big ⟨none, 0, none, [], 1, 0, c3, _, ztZ ztN, hO, hL, ze.nil _ _ _, hF⟩ ?_
 clear hF hO hL
 rintro z e σ ⟨Z, b0, b5, G, b1, b2, w, _, hA, hO, hL, c5, hF⟩
 rw [← zM _ _ hA]
 cases z with
 | zero => exact nomatch (show none = some rr from hF)
 | succ z =>
 replace hF : zit (zdX p0 z) p0 G b1 b2 w = some rr := hF
 unfold zit at hF
 refine zi (zd hO [] [(19, .bool (decide (w < (p0.length : Int))))] [0, 5, 6, 7, 8] ztP fun j => ?_)
 refine zn hF rfl (fun hF => ?_) fun hF => ?_
 ·refine zA (zbU (zH (zH (zbo (fun (n : Nat) e' σ' => ∃ (B : Option Addr) (E : Nat) (I : Ob) (o : List zl) (h t : Int) (τ' : Hp), agr [(0, zt7 X p0 Y), (5, zt7 B o E), (6, zt0 h), (7, zt0 t), (8, zt0 w)] e' ∧ Obs τ' σ' [I] ∧ Hp.le τ τ' ∧ ze zm 79 τ' (zt7 B o E) o I ∧ zfH (zdX p0 z) p0 w n o h t = some rr) big ⟨Z, b0, b5, G, b1, b2, _, ztZ ztN, hO, hL, c5, hF⟩ ?_))))
  clear hF hO hL
  rintro M e σ ⟨B, E, I, o, h, t, _, hA, hO, hL, U, hF⟩
  rw [← zM _ _ hA]
  cases M with
  | zero => exact nomatch (show none = some rr from hF)
  | succ M =>
  replace hF : zhY (zfH (zdX p0 z) p0 w M) (zdX p0 z) p0 w o h t = some rr := hF
  unfold zhY at hF
  refine zi (zd hO [] [(22, .bool (decide (t < w)))] [0, 5, 6, 7, 8] ztP fun j => ?_)
  refine zn hF rfl (fun hF => ?_) fun hF => ?_
  ·refine zA (zH (za hO 2 [] [(25, zt7 X p0 Y), (26, zt0 t)] [0, 5, 6, 7, 8] ztQ fun j => ?_))
   obtain ⟨b8, c6, hF⟩ := zt6 hF
   refine zN (T := Ty.u8) (r0.le hL) hO.base rfl rfl c6 (by decide) fun a230 _ c7 c8 => ?_
   obtain rfl : _ = ([.int .u8 b8.toNat] : List Value) := c7
   refine zG rfl (c8.le hO.base).fst ?_
   refine zd hO [] [(29, .bool ((b8.toNat : Int) == 10))] [0, 5, 6, 7, 8] ztP fun j => ?_
   refine zbm (zn hF rfl (fun hF => ?_) fun hF => ?_)
   ·refine zd hO [] [(6, zt0 (IntKind.i64.wrap (h + 1)))] [0, 5, 7, 8] ztO fun j => ?_
    refine zg (zC (zj (z3 (zd hO [] [(7, zt0 (IntKind.i64.wrap (t + 1)))] [0, 5, 6, 8] ztO fun j => ?_))))
    refine zg (zj ?_)
    exact ⟨M, Nat.lt_succ_self _, B, E, I, o, (IntKind.i64.wrap (h + 1)), (IntKind.i64.wrap (t + 1)), _, ztZ ztN, hO, hL, U, hF⟩
   refine zA (zg (zC (zj (z3 (zd hO [] [(7, zt0 (IntKind.i64.wrap (t + 1)))] [0, 5, 6, 8] ztO fun j => ?_)))))
   refine zg (zj ?_)
   exact ⟨M, Nat.lt_succ_self _, B, E, I, o, h, (IntKind.i64.wrap (t + 1)), _, ztZ ztN, hO, hL, U, hF⟩
  refine zbs (zbp (zbr (zj (za hO 2 [] [(33, zt7 X p0 Y), (34, zt0 w)] [0, 5, 6, 7, 8] ztQ fun j => ?_))))
  obtain ⟨g, c9, hF⟩ := zt6 hF
  refine z5 hO (zqq (r0.le hL) c9) rfl fun _ σ _ _ hO b9 d0 => ?_
  have hL := hL.trans b9
  have U := U.le b9
  obtain ⟨rfl, rfl⟩ := d0
  have hO := zt51 hO
  refine za hO 3 [] [(36, .agg #[(.int .u8 (g.1.Kind.toNat : Int)), (.string g.1.Text), (.int .i64 g.1.Num), (.int .i64 g.1.Line)]), (37, .bool g.2)] [0, 5, 6, 7, 8] ztQ fun j => ?_
  refine zbC hO fun d4 σ hO => ?_
  have hO := zt52 hO
  refine zx hO (i := 1) rfl (off := 0) rfl rfl rfl rfl (Nat.le_of_ble_eq_true rfl) rfl fun σ hO => ?_
  have hO := zt52 hO
  refine zd hO [] [(10, .bool g.2)] [0, 5, 6, 7, 8, 9] ztQ fun j => ?_
  refine zi (zd hO [] [(39, .bool (!g.2))] [0, 5, 6, 7, 8, 9] ztQ fun j => ?_)
  refine zn hF rfl (fun hF => ?_) fun hF => ?_
  ·refine zi (zU hO [] [(2, .slice none 0 0), (3, zt0 h), (4, zt0 6)] ztM fun j => ?_)
   refine zbi (z6 (zQ (zQ (z6 (zQ ?_)))))
   have hO := hO.no
   have hO := zt53 hO
   cases hF
   have hO := hO.sel [2]
   exact hQ _ _ _ _ _ rfl hO hL ⟨_, _, rfl, rfl, (ze.nil _ _ _)⟩
  refine zA (za hO 2 [] [(41, zt0 h), (42, .pointer (some ⟨d4, 3, none⟩))] [0, 5, 6, 7, 8, 9] ztR fun j => ?_)
  refine zx hO (i := 1) rfl (off := 3) rfl rfl rfl rfl (Nat.le_of_ble_eq_true rfl) rfl fun σ hO => ?_
  have hO := zt52 hO
  refine zc (za hO 2 [1] [(43, zt7 B o E), (44, .agg #[(.int .u8 (g.1.Kind.toNat : Int)), (.string g.1.Text), (.int .i64 g.1.Num), (.int .i64 h)])] [0, 6, 7, 8, 9] (And.intro (And.intro rfl rfl) ztQ) fun j => ?_)
  obtain ⟨_, c4, hF⟩ := zt6 hF
  refine zjg (T := zm) (y := (⟨g.1.Kind, g.1.Text, g.1.Num, h⟩ : zl)) hO U (i := 0) rfl rfl (fun _ => rfl) rfl rfl rfl c4 (by decide) fun u _ σ d5 V hO => ?_
  obtain ⟨b3, b4, rfl, -⟩ := V.form
  have hO := zt52 hO
  refine zd hO [] [(5, zt7 b3 (o ++ [(⟨g.1.Kind, g.1.Text, g.1.Num, h⟩ : zl)]) b4)] [0, 6, 7, 8, 9] ztP fun j => ?_
  refine z3 (zbk hO 6 [1] [(0, zt7 X p0 Y), (5, zt7 b3 (o ++ [(⟨g.1.Kind, g.1.Text, g.1.Num, h⟩ : zl)]) b4), (6, zt0 h), (7, zt0 t), (47, zt7 X p0 Y), (52, zt0 (IntKind.i64.wrap (w + (g.1.Text.size : Int))))] (And.intro (And.intro rfl rfl) ztP) fun j => ?_)
  obtain ⟨c1, d6, hF⟩ := zt6 hF
  refine z5 hO (zn2 (r0.le hL) d6) rfl fun _ σ _ _ hO c2 d7 => ?_
  have hL := hL.trans c2
  have V := V.le c2
  obtain ⟨rfl, rfl⟩ := d7
  have hO := zt52 hO
  refine zd hO [] [(8, zt0 c1)] [0, 5, 6, 7] ztO fun j => ?_
  refine zg (zC (zj (zg (zj ?_))))
  have hO := hO.sel [0]
  exact ⟨z, Nat.lt_succ_self _, b3, b4, d5, (o ++ [(⟨g.1.Kind, g.1.Text, g.1.Num, h⟩ : zl)]), h, t, c1, _, ztZ ztN, hO, hL, V, hF⟩
 refine zbs (zbp (zbr (zj (zU hO [] [(2, zt7 Z G b0), (3, zt0 0), (4, zt0 0)] ztM fun j => ?_))))
 refine z9 ?_
 cases hF
 exact hQ _ _ _ _ _ rfl hO hL ⟨_, _, rfl, rfl, c5⟩
theorem zlP {τ : Hp} {p0 : ByteArray}  {rr : (List zl)} (hF : zjr p0 = some rr) :
  Ctr Try.prog 17 #[.string p0] τ [] (fun v τ' vs' => ∃ (w : Value) (z : Ob), v = w ∧ vs' = [z] ∧ ze zm 79 τ' w rr z) := by
 refine zbl (args := [.string p0]) hm Try.func17 s17 rfl fun w0 σ hO Q hQ => ?_
 unfold zjr at hF
 have hL := Hp.le.refl τ
 show wpn _ _ a17.body _ _ _
 unfold a17
 dsimp only
 refine zd hO [] [] [0] ztK fun j => ?_
 refine zbk hO 1 [] [(7, .string p0)] ztK fun j => ?_
 refine znJ hO rfl fun _ σ _ hO G t => ?_
 have hL := hL.trans G
 obtain ⟨B, I, hF⟩ := zt6 hF
 refine z5 hO (zlR t I) rfl fun _ σ _ _ hO E M => ?_
 have hL := hL.trans E
 have t := t.le E
 obtain ⟨U, V, rfl, rfl, g⟩ := M
 obtain ⟨h, o, rfl, -⟩ := g.form
 have hO := zt51 hO
 refine zU hO [] [(3, zt7 h B.1 o)] ztK fun j => ?_
 refine zU hO [] [(2, zt7 h B.1 o)] ztK fun j => ?_
 refine z9 ?_
 cases hF
 exact hQ _ _ _ _ _ rfl hO hL ⟨_, _, rfl, rfl, g⟩
theorem zjz {τ : Hp}   {rr : Bool} (hF : ze7  = some rr) :
  Ctr Try.prog 8 #[] τ [] (fun v τ' vs' => v = .bool rr ∧ vs' = []) := by
 refine zbl (args := []) hm Try.func8 s8 rfl fun w0 σ hO Q hQ => ?_
 unfold ze7 at hF
 have hL := Hp.le.refl τ
 show wpn _ _ a8.body _ _ _
 unfold a8
 dsimp only
 refine zU hO [] [] (trivial) fun j => ?_
 obtain ⟨c1, h2, hF⟩ := zt6 hF
 refine z5 hO (zlP (p0 := ztF) h2) rfl fun _ σ _ _ hO h3 h4 => ?_
 have hL := hL.trans h3
 obtain ⟨v5, o8, rfl, rfl, w9⟩ := h4
 have hO := zt51 hO
 obtain ⟨_, f7, X, hO⟩ := w9.share hO (i := 0) rfl
 have hL := hL.trans f7
 have hO := zt51 hO
 obtain ⟨h, f8, hF⟩ := zt6 hF
 refine z5 hO (zkH X f8) rfl fun _ σ _ _ hO b9 f9 => ?_
 have hL := hL.trans b9
 have X := X.le b9
 obtain ⟨l7, l8, rfl, rfl, z, o⟩ := f9
 obtain ⟨g0, g1, rfl, -⟩ := z.form
 obtain ⟨M, U, rfl, -⟩ := o.form
 have hO := zt51 hO
 refine zbk hO 4 [] [(11, .agg #[(zt7 g0 h.1.Structs g1), (zt7 M h.1.Funcs U)]), (12, zt0 h.2.1), (13, zt0 h.2.2)] ztM fun j => ?_
 refine zbC hO fun Y σ hO => ?_
 have hO := zt52 hO
 refine zx hO (i := 1) rfl (off := 0) rfl rfl rfl rfl (Nat.le_of_ble_eq_true rfl) rfl fun σ hO => ?_
 have hO := zt52 hO
 refine zd hO [] [(2, zt0 h.2.1), (3, zt0 h.2.2)] [1] ztM fun j => ?_
 obtain ⟨l9, g2, hF⟩ := zt6 hF
 refine z5 hO (zlP (p0 := ztG) g2) rfl fun _ σ _ _ hO Z g3 => ?_
 have hL := hL.trans Z
 have z := z.le Z
 have o := o.le Z
 obtain ⟨m0, m1, rfl, rfl, c0⟩ := g3
 obtain ⟨m2, m3, rfl, -⟩ := c0.form
 have hO := zt53 hO
 obtain ⟨_, b0, b1, hO⟩ := c0.share hO (i := 2) rfl
 have hL := hL.trans b0
 have z := z.le b0
 have o := o.le b0
 have hO := zt53 hO
 obtain ⟨g, g4, hF⟩ := zt6 hF
 refine z5 hO (zkH b1 g4) rfl fun _ σ _ _ hO V g5 => ?_
 have hL := hL.trans V
 have b1 := b1.le V
 have z := z.le V
 have o := o.le V
 obtain ⟨m4, m5, rfl, rfl, g6, g7⟩ := g5
 obtain ⟨g8, g9, rfl, -⟩ := g6.form
 obtain ⟨h0, h1, rfl, -⟩ := g7.form
 have hO := zt53 hO
 refine za hO 4 [] [(17, .agg #[(zt7 g8 g.1.Structs g9), (zt7 h0 g.1.Funcs h1)]), (18, zt0 g.2.1), (19, zt0 g.2.2)] [1, 2, 3] ztP fun j => ?_
 refine zbC hO fun m6 σ hO => ?_
 have hO := zt54 hO
 refine zx hO (i := 3) rfl (off := 0) rfl rfl rfl rfl (Nat.le_of_ble_eq_true rfl) rfl fun σ hO => ?_
 have hO := zt54 hO
 refine zd hO [] [(5, zt0 g.2.1), (6, zt0 g.2.2)] [1, 2, 3] ztO fun j => ?_
 refine zi (za hO 9 [1] [(32, .bool (((h.2.2 != 0) || (h.2.1 != 0)) || ((h.1.Funcs.length : Int) != 1)))] [1, 5, 6] (And.intro (And.intro rfl rfl) (fun _ => And.intro (And.intro rfl rfl) (And.intro (And.intro rfl rfl) (fun _ => ztZ ztM)))) fun j => ?_)
 obtain ⟨b2, h5, hF⟩ := zt6 hF
 refine zbQ 2 [(40, .bool b2), (1, zt1 Y), (5, zt0 g.2.1), (6, zt0 g.2.2)] (fun Q hQ => ?_) fun j => ?_
 ·have hF := h5
  rcases z1 hF with ⟨B, hF⟩ | ⟨B, hF⟩
  ·refine zI (zt3 B) ?_
   refine zp (zt2 B) ?_
   refine zc ?_
   cases hF
   refine zg ?_
   exact hQ _ ztN
  refine zF (zt3 B) ?_
  refine za hO 2 [1] [(34, zt7 M h.1.Funcs U)] [1, 5, 6, 32] (And.intro (And.intro rfl rfl) ztO) fun j => ?_
  obtain ⟨h6, h7, hF⟩ := zt6 hF
  refine zN (T := zr) o hO.base rfl rfl h7 (by decide) fun a54 _ h8 h9 => ?_
  obtain ⟨m7, m8, rfl, i0, i1⟩ := h8
  obtain ⟨m9, n0, rfl, -⟩ := i0.form
  obtain ⟨n1, n2, rfl, -⟩ := i1.form
  refine za hO 1 [] [(36, .pointer (some (a54.add 6)))] [1, 5, 6, 32] ztO fun j => ?_
  refine zG rfl ((h9.le hO.base).one 6 rfl) ?_
  refine za hO 2 [] [(39, .bool ((h6.Body.length : Int) != 1))] [1, 5, 6, 32] ztO fun j => ?_
  refine zp (zt2 B) ?_
  refine zc ?_
  cases hF
  refine zg ?_
  exact hQ _ ztN
 refine za hO 1 [] [(41, .bool b2)] [1, 5, 6] ztN fun j => ?_
 obtain ⟨i2, i3, hF⟩ := zt6 hF
 refine zbQ 2 [(52, .bool i2), (1, zt1 Y), (5, zt0 g.2.1), (6, zt0 g.2.2)] (fun Q hQ => ?_) fun j => ?_
 ·have hF := i3
  rcases z1 hF with ⟨E, hF⟩ | ⟨E, hF⟩
  ·refine zI (zt3 E) ?_
   refine zp (zt2 E) ?_
   refine zc ?_
   cases hF
   refine zg ?_
   exact hQ _ ztN
  refine zF (zt3 E) ?_
  refine za hO 2 [1] [(43, zt7 M h.1.Funcs U)] [1, 5, 6, 41] (And.intro (And.intro rfl rfl) ztO) fun j => ?_
  obtain ⟨n3, i4, hF⟩ := zt6 hF
  refine zN (T := zr) o hO.base rfl rfl i4 (by decide) fun a70 _ i5 i6 => ?_
  obtain ⟨n4, n5, rfl, i7, c2⟩ := i5
  obtain ⟨n6, n7, rfl, -⟩ := i7.form
  obtain ⟨n8, n9, rfl, -⟩ := c2.form
  refine za hO 1 [] [(45, .pointer (some (a70.add 6)))] [1, 5, 6, 41] ztO fun j => ?_
  refine zG rfl ((i6.le hO.base).one 6 rfl) ?_
  obtain ⟨i8, i9, hF⟩ := zt6 hF
  refine zN (T := zy) c2 hO.base rfl rfl i9 (by decide) fun a83 _ j0 j1 => ?_
  obtain ⟨o0, o1, o2, rfl, j2, j3, j4⟩ := zc4 j0
  obtain ⟨o3, o4, rfl, -⟩ := j2.form
  obtain ⟨o5, o6, rfl, -⟩ := j3.form
  obtain ⟨o7, o9, rfl, -⟩ := j4.form
  refine za hO 1 [] [(48, .pointer (some (a83.add 8)))] [1, 5, 6, 41] ztO fun j => ?_
  refine zG rfl ((j1.le hO.base).one 8 rfl) ?_
  refine zbk hO 2 [] [(1, zt1 Y), (5, zt0 g.2.1), (6, zt0 g.2.2), (41, .bool b2), (51, .bool ((i8.Kids.length : Int) != 1))] ztO fun j => ?_
  refine zp (zt2 E) ?_
  refine zc ?_
  cases hF
  refine zg ?_
  exact hQ _ ztN
 refine zc (zn hF rfl (fun hF => ?_) fun hF => ?_)
 ·refine zi (zU hO [] [(0, .bool false)] ztK fun j => ?_)
  refine zbi ?_
  cases hF
  have hO := hO.sel []
  exact hQ _ _ _ _ _ rfl hO hL ⟨rfl, rfl⟩
 refine zA (za hO 2 [1] [(54, zt7 M h.1.Funcs U)] [5, 6] (And.intro (And.intro rfl rfl) ztM) fun j => ?_)
 obtain ⟨p2, c3, hF⟩ := zt6 hF
 refine zN (T := zr) o hO.base rfl rfl c3 (by decide) fun a101 _ c4 c5 => ?_
 obtain ⟨j9, k0, rfl, k1, c6⟩ := c4
 refine za hO 1 [] [(56, .pointer (some (a101.add 6)))] [5, 6] ztM fun j => ?_
 refine zG rfl ((c5.le hO.base).one 6 rfl) ?_
 obtain ⟨k4, c7, hF⟩ := zt6 hF
 refine zN (T := zy) c6 hO.base rfl rfl c7 (by decide) fun a114 _ c8 c9 => ?_
 obtain ⟨k5, k6, k7, rfl, d0, k8, l0⟩ := zc4 c8
 refine za hO 1 [] [(59, .pointer (some (a114.add 8)))] [5, 6] ztM fun j => ?_
 refine zG rfl ((c9.le hO.base).one 8 rfl) ?_
 obtain ⟨G, d4, hF⟩ := zt6 hF
 refine zN (T := zu) d0 hO.base rfl rfl d4 (by decide) fun a131 _ d5 d6 => ?_
 obtain ⟨l1, rfl, I⟩ := zbH d5
 obtain ⟨b3, b4, rfl, -⟩ := I.form
 refine zG rfl ((d6.le hO.base).all rfl) ?_
 refine zbC hO fun b5 σ hO => ?_
 have hO := zt55 hO
 refine zx hO (i := 4) rfl (off := 0) rfl rfl rfl rfl (Nat.le_of_ble_eq_true rfl) rfl fun σ hO => ?_
 have hO := zt55 hO
 refine zc (zbk hO 7 [4, 4] [(5, zt0 g.2.1), (6, zt0 g.2.2), (7, zt1 b5), (72, .bool ((zV G.Op ztf) && ((G.Kids.length : Int) == 2)))] (And.intro (And.intro rfl rfl) (And.intro (And.intro rfl rfl) (And.intro (And.intro rfl rfl) (fun _ => ztZ ztM)))) fun j => ?_)
 obtain ⟨b6, d7, hF⟩ := zt6 hF
 refine zbQ 2 [(79, .bool b6), (5, zt0 g.2.1), (6, zt0 g.2.2), (7, zt1 b5)] (fun Q hQ => ?_) fun j => ?_
 ·have hF := d7
  rcases z1 hF with ⟨t, hF⟩ | ⟨t, hF⟩
  ·refine zF (zt4 t) ?_
   refine za hO 2 [4] [(74, zt7 b3 G.Kids b4)] [5, 6, 7, 72] (And.intro (And.intro rfl rfl) ztO) fun j => ?_
   obtain ⟨d8, d9, hF⟩ := zt6 hF
   refine zN (T := zu) I hO.base rfl rfl d9 (by decide) fun a144 _ f0 f1 => ?_
   obtain ⟨l2, rfl, l3⟩ := zbH f0
   refine za hO 1 [] [(76, .pointer (some (a144.add 4)))] [5, 6, 7, 72] ztO fun j => ?_
   refine zG rfl ((f1.le hO.base).one 4 rfl) ?_
   refine za hO 1 [] [(78, .bool (zV d8.Op ztf))] [5, 6, 7, 72] ztO fun j => ?_
   refine zp (zt2 t) ?_
   refine zc ?_
   cases hF
   refine zg ?_
   exact hQ _ ztN
  refine zI (zt4 t) ?_
  refine zp (zt2 t) ?_
  refine zc ?_
  cases hF
  refine zg ?_
  exact hQ _ ztN
 refine za hO 1 [] [(80, .bool b6)] [5, 6, 7] ztN fun j => ?_
 obtain ⟨b7, f2, hF⟩ := zt6 hF
 refine zbQ 2 [(87, .bool b7), (5, zt0 g.2.1), (6, zt0 g.2.2)] (fun Q hQ => ?_) fun j => ?_
 ·have hF := f2
  rcases z1 hF with ⟨w, hF⟩ | ⟨w, hF⟩
  ·refine zF (zt4 w) ?_
   refine za hO 2 [4] [(82, zt7 b3 G.Kids b4)] [5, 6, 80] (And.intro (And.intro rfl rfl) ztN) fun j => ?_
   obtain ⟨f3, f4, hF⟩ := zt6 hF
   refine zN (T := zu) I hO.base rfl rfl f4 (by decide) fun a156 _ f5 f6 => ?_
   obtain ⟨l4, rfl, l5⟩ := zbH f5
   refine za hO 1 [] [(84, .pointer (some (a156.add 4)))] [5, 6, 80] ztN fun j => ?_
   refine zG rfl ((f6.le hO.base).one 4 rfl) ?_
   refine za hO 1 [] [(86, .bool (zV f3.Op zty))] [5, 6, 80] ztN fun j => ?_
   refine zp (zt2 w) ?_
   refine zc ?_
   cases hF
   refine zg ?_
   exact hQ _ ztM
  refine zI (zt4 w) ?_
  refine zp (zt2 w) ?_
  refine zc ?_
  cases hF
  refine zg ?_
  exact hQ _ ztM
 refine zU hO [] [(0, .bool ((b7 && (g.2.1 == 11)) && (g.2.2 == 7)))] (And.intro (And.intro rfl rfl) (fun _ => And.intro (And.intro rfl rfl) (fun _ => ztZ trivial))) fun j => ?_
 refine z9 ?_
 cases hF
 have hO := hO.sel []
 exact hQ _ _ _ _ _ rfl hO hL ⟨rfl, rfl⟩
def zl4 (gn : Nat) : Prop := ∀ {τ : Hp} {p0 : zb} {b8 : Value} (l6 : RdT zu τ b8 p0.Kids) {rr : Int} (hF : (zdV gn) p0 = some rr), Ctr Try.prog 61 #[.agg #[.int .u8 p0.Kind.toNat, .int .i64 p0.Num, .string p0.Name, .string p0.Field, .string p0.Op, b8]] τ [] (fun v τ' vs' => v = .int .i64 rr ∧ vs' = [])
theorem zrj {gn : Nat} (ih_ref12_Depth : zl4 gn) {τ : Hp} {p0 : zb} {z : Value} (B : RdT zu τ z p0.Kids) {rr : Int} (hF : zk2 (zdV gn) p0 = some rr) :
  Ctr Try.prog 61 #[.agg #[.int .u8 p0.Kind.toNat, .int .i64 p0.Num, .string p0.Name, .string p0.Field, .string p0.Op, z]] τ [] (fun v τ' vs' => v = .int .i64 rr ∧ vs' = []) := by
 obtain ⟨o, t, rfl, -⟩ := B.form
 refine zbl (args := [.agg #[.int .u8 p0.Kind.toNat, .int .i64 p0.Num, .string p0.Name, .string p0.Field, .string p0.Op, (.slice o p0.Kids.length t)]]) hm Try.func61 s61 rfl fun w0 σ hO Q hQ => ?_
 unfold zk2 at hF
 have hL := Hp.le.refl τ
 show wpn _ _ a61.body _ _ _
 unfold a61
 dsimp only
 refine zct (n := 6) hO rfl rfl fun U σ hO => ?_
 have hO := zt51 hO
 refine zd hO [] [] [1] ztK fun j => ?_
 refine zd hO [] [(3, zt0 0)] [1] ztL fun j => ?_
 refine zi (zd hO [] [(4, zt0 0)] [1, 3] ztM fun j => ?_)
 refine zH (zbo (fun (n : Nat) e' σ' => ∃ (g h : Int) (τ' : Hp), agr [(1, zt1 U), (3, zt0 g), (4, zt0 h)] e' ∧ Obs τ' σ' [zeT U (p0.Kind.toNat : Int) p0.Num p0.Name p0.Field p0.Op (zt7 o p0.Kids t)] ∧ Hp.le τ τ' ∧ zfj (zdV gn) p0 n g h = some rr) big ⟨0, 0, _, ztZ ztL, hO, hL, hF⟩ ?_)
 clear hF hO hL
 rintro w e σ ⟨g, h, _, hA, hO, hL, hF⟩
 rw [← zM _ _ hA]
 cases w with
 | zero => exact nomatch (show none = some rr from hF)
 | succ w =>
 replace hF : zgL (zfj (zdV gn) p0 w) (zdV gn) p0 g h = some rr := hF
 unfold zgL at hF
 refine zi (zd hO [0] [(9, .bool (decide (h < (p0.Kids.length : Int))))] [1, 3, 4] (And.intro (And.intro rfl rfl) ztN) fun j => ?_)
 refine zn hF rfl (fun hF => ?_) fun hF => ?_
 ·refine zA (zH (z3 (za hO 4 [0] [(12, zt0 g), (14, zt7 o p0.Kids t), (15, zt0 h)] [1, 4] (And.intro (And.intro rfl rfl) ztO) fun j => ?_)))
  obtain ⟨b0, V, hF⟩ := zt6 hF
  refine zN (T := zu) (B.le hL) hO.base rfl rfl V (by decide) fun a37 _ X E => ?_
  obtain ⟨b1, rfl, G⟩ := zbH X
  refine zG rfl ((E.le hO.base).all rfl) ?_
  obtain ⟨M, Y, hF⟩ := zt6 hF
  refine z5 hO (ih_ref12_Depth G Y) rfl fun _ σ _ _ hO I Z => ?_
  have hL := hL.trans I
  have E := E.le I
  have G := G.le I
  obtain ⟨rfl, rfl⟩ := Z
  have hO := zt51 hO
  refine zd hO [] [(3, zt0 (zcy g M))] [1, 4] ztM fun j => ?_
  refine zg (zC (zj (z3 (zd hO [] [(4, zt0 (IntKind.i64.wrap (h + 1)))] [1, 3] ztM fun j => ?_))))
  refine zg (zj ?_)
  exact ⟨w, Nat.lt_succ_self _, (zcy g M), (IntKind.i64.wrap (h + 1)), _, ztZ ztL, hO, hL, hF⟩
 refine zbs (zbp (zbr (zj (zU hO [] [(2, zt0 (IntKind.i64.wrap (g + 1)))] ztK fun j => ?_))))
 refine z9 ?_
 cases hF
 have hO := hO.sel []
 exact hQ _ _ _ _ _ rfl hO hL ⟨rfl, rfl⟩
theorem zrN (n : Nat) : zl4 n := by
 induction n with
 | zero =>
  intro τ p0 h g rr hF; exact nomatch (show none = some rr from hF)
 | succ n ih =>
  intro τ p0 h g rr hF; exact zrj ih g hF
theorem zoO : ∀ {τ : Hp} {p0 : zb} {g : Value} (o : RdT zu τ g p0.Kids) {rr : Int} (hF : zj8 p0 = some rr), Ctr Try.prog 61 #[.agg #[.int .u8 p0.Kind.toNat, .int .i64 p0.Num, .string p0.Name, .string p0.Field, .string p0.Op, g]] τ [] (fun v τ' vs' => v = .int .i64 rr ∧ vs' = []) := (zrN big)
def zly (gn : Nat) : Prop := ∀ {τ : Hp} {h : Value} {p0 : (List zh)} (t : RdT zy τ h p0) {rr : Int} (hF : (zdz gn) p0 = some rr), Ctr Try.prog 36 #[h] τ [] (fun v τ' vs' => v = .int .i64 rr ∧ vs' = [])
theorem zri {gn : Nat} (ih_ref12_deepest : zly gn) {τ : Hp} {v0 : Value} {p0 : (List zh)} (r0 : RdT zy τ v0 p0) {rr : Int} (hF : zj3 (zdz gn) p0 = some rr) :
  Ctr Try.prog 36 #[v0] τ [] (fun v τ' vs' => v = .int .i64 rr ∧ vs' = []) := by
 obtain ⟨U, V, rfl, -⟩ := r0.form
 refine zbl (args := [.slice U p0.length V]) hm Try.func36 s36 rfl fun w0 σ hO Q hQ => ?_
 unfold zj3 at hF
 have hL := Hp.le.refl τ
 show wpn _ _ a36.body _ _ _
 unfold a36
 dsimp only
 refine zd hO [] [] [0] ztK fun j => ?_
 refine zd hO [] [(3, zt0 0)] [0] ztL fun j => ?_
 refine zi (zd hO [] [(4, zt0 0)] [0, 3] ztM fun j => ?_)
 refine zH (zbo (fun (n : Nat) e' σ' => ∃ (h g : Int) (τ' : Hp), agr [(0, zt7 U p0 V), (3, zt0 h), (4, zt0 g)] e' ∧ Obs τ' σ' [] ∧ Hp.le τ τ' ∧ zdF (zdz gn) p0 n h g = some rr) big ⟨0, 0, _, ztZ ztL, hO, hL, hF⟩ ?_)
 clear hF hO hL
 rintro t e σ ⟨h, g, _, hA, hO, hL, hF⟩
 rw [← zM _ _ hA]
 cases t with
 | zero => exact nomatch (show none = some rr from hF)
 | succ t =>
 replace hF : zgK (zdF (zdz gn) p0 t) (zdz gn) p0 h g = some rr := hF
 unfold zgK at hF
 refine zi (zd hO [] [(9, .bool (decide (g < (p0.length : Int))))] [0, 3, 4] ztN fun j => ?_)
 refine zn hF rfl (fun hF => ?_) fun hF => ?_
 ·refine zA (zH (zb9 (za hO 3 [] [(12, zt0 h), (13, zt7 U p0 V), (14, zt0 g)] [0, 4] ztO fun j => ?_)))
  obtain ⟨f4, b5, hF⟩ := zt6 hF
  refine zN (T := zy) (r0.le hL) hO.base rfl rfl b5 (by decide) fun a392 _ b6 b7 => ?_
  obtain ⟨f5, f6, f7, rfl, f8, X, f9⟩ := zc4 b6
  refine za hO 1 [] [(16, .pointer (some (a392.add 9)))] [0, 4, 12] ztN fun j => ?_
  refine zG rfl ((b7.le hO.base).one 9 rfl) ?_
  refine za hO 2 [] [(20, zt7 U p0 V), (21, zt0 g)] [0, 4, 12, 17] ztP fun j => ?_
  obtain ⟨g0, b8, hF⟩ := zt6 hF
  refine zN (T := zy) (r0.le hL) hO.base rfl rfl b8 (by decide) fun a409 _ b9 G => ?_
  obtain ⟨g1, g2, g3, rfl, Y, Z, z⟩ := zc4 b9
  obtain ⟨g4, g5, rfl, -⟩ := Y.form
  obtain ⟨g6, g7, rfl, -⟩ := Z.form
  obtain ⟨g8, g9, rfl, -⟩ := z.form
  refine za hO 1 [] [(23, .pointer (some (a409.add 10)))] [0, 4, 12, 17] ztO fun j => ?_
  refine zG rfl ((G.le hO.base).one 10 rfl) ?_
  refine zcj ?_
  obtain ⟨w, c1, hF⟩ := zt6 hF
  refine z5 hO (ih_ref12_deepest X c1) rfl fun _ σ _ _ hO B c2 => ?_
  have hL := hL.trans B
  have X := X.le B
  have G := G.le B
  have Y := Y.le B
  have Z := Z.le B
  have z := z.le B
  obtain ⟨rfl, rfl⟩ := c2
  have hO : Obs _ _ [] := hO
  refine zc (zcg ⟨(zb1 rfl ((G.le hO.base).one 10 rfl) rfl), trivial⟩ ?_)
  refine za hO 1 [] [(19, zt0 (IntKind.i64.wrap (1 + w)))] [0, 4, 12, 24] ztO fun j => ?_
  obtain ⟨E, c3, hF⟩ := zt6 hF
  refine z5 hO (ih_ref12_deepest z c3) rfl fun _ σ _ _ hO b4 c4 => ?_
  have hL := hL.trans b4
  have z := z.le b4
  obtain ⟨rfl, rfl⟩ := c4
  have hO : Obs _ _ [] := hO
  refine zd hO [] [(3, zt0 (zcy (zcy h (IntKind.i64.wrap (1 + w))) (IntKind.i64.wrap (1 + E))))] [0, 4] ztM fun j => ?_
  refine zd hO [] [(5, zt0 0)] [0, 3, 4] ztN fun j => ?_
  refine zbU (zH (zbo (fun (n : Nat) e' σ' => ∃ (o : Int) (τ' : Hp), agr [(0, zt7 U p0 V), (3, zt0 (zcy (zcy h (IntKind.i64.wrap (1 + w))) (IntKind.i64.wrap (1 + E)))), (4, zt0 g), (5, zt0 o)] e' ∧ Obs τ' σ' [] ∧ Hp.le τ τ' ∧ zfw (zdF (zdz gn) p0 t) p0 h g w E n o = some rr) big ⟨0, _, ztZ ztM, hO, hL, hF⟩ ?_))
  clear hF hO hL
  rintro I e σ ⟨o, _, hA, hO, hL, hF⟩
  rw [← zM _ _ hA]
  cases I with
  | zero => exact nomatch (show none = some rr from hF)
  | succ I =>
  replace hF : ziy (zfw (zdF (zdz gn) p0 t) p0 h g w E I) (zdF (zdz gn) p0 t) p0 h g w E o = some rr := hF
  unfold ziy at hF
  refine zi (za hO 3 [] [(28, zt0 o), (29, zt7 U p0 V), (30, zt0 g)] [0, 3, 4, 5] ztQ fun j => ?_)
  obtain ⟨c5, c6, hF⟩ := zt6 hF
  refine zN (T := zy) (r0.le hL) hO.base rfl rfl c6 (by decide) fun a534 _ c7 c8 => ?_
  obtain ⟨h0, h1, h2, rfl, c9, d0, d4⟩ := zc4 c7
  obtain ⟨h3, h4, rfl, -⟩ := c9.form
  obtain ⟨h5, h6, rfl, -⟩ := d0.form
  obtain ⟨h7, h8, rfl, -⟩ := d4.form
  refine za hO 1 [] [(32, .pointer (some (a534.add 8)))] [0, 3, 4, 5, 28] ztP fun j => ?_
  refine zG rfl ((c8.le hO.base).one 8 rfl) ?_
  refine zd hO [] [(35, .bool (decide (o < (c5.Kids.length : Int))))] [0, 3, 4, 5] ztO fun j => ?_
  refine zn hF rfl (fun hF => ?_) fun hF => ?_
  ·refine zA (zH (za hO 2 [] [(38, zt7 U p0 V), (39, zt0 g)] [0, 3, 4, 5] ztP fun j => ?_))
   obtain ⟨h9, d5, hF⟩ := zt6 hF
   refine zN (T := zy) (r0.le hL) hO.base rfl rfl d5 (by decide) fun a552 _ d6 d7 => ?_
   obtain ⟨i0, i1, i2, rfl, b0, i3, i4⟩ := zc4 d6
   refine za hO 1 [] [(41, .pointer (some (a552.add 8)))] [0, 3, 4, 5] ztO fun j => ?_
   refine zG rfl ((d7.le hO.base).one 8 rfl) ?_
   refine za hO 1 [] [(43, zt0 o)] [0, 3, 4, 5, 42] ztP fun j => ?_
   obtain ⟨i5, d8, hF⟩ := zt6 hF
   refine zN (T := zu) b0 hO.base rfl rfl d8 (by decide) fun a569 _ d9 b1 => ?_
   obtain ⟨i6, rfl, b2⟩ := zbH d9
   refine zG rfl ((b1.le hO.base).all rfl) ?_
   obtain ⟨f0, f1, hF⟩ := zt6 hF
   refine z5 hO (zoO b2 f1) rfl fun _ σ _ _ hO M f2 => ?_
   have hL := hL.trans M
   have b0 := b0.le M
   have b1 := b1.le M
   have b2 := b2.le M
   obtain ⟨rfl, rfl⟩ := f2
   have hO : Obs _ _ [] := hO
   refine zd hO [] [(47, .bool (decide (f0 > 40)))] [0, 3, 4, 5] ztO fun j => ?_
   refine zbm (zn hF rfl (fun hF => ?_) fun hF => ?_)
   ·refine zi (zU hO [] [(2, zt0 41)] ztK fun j => ?_)
    refine zbi (z6 (zQ (zQ (z6 (zQ (z6 ?_))))))
    refine zQ (zQ (z6 (zQ ?_)))
    cases hF
    exact hQ _ _ _ _ _ rfl hO hL ⟨rfl, rfl⟩
   refine zA (zg (zC (zj (z3 (zd hO [] [(5, zt0 (IntKind.i64.wrap (o + 1)))] [0, 3, 4] ztN fun j => ?_)))))
   refine zg (zj ?_)
   exact ⟨I, Nat.lt_succ_self _, (IntKind.i64.wrap (o + 1)), _, ztZ ztM, hO, hL, hF⟩
  refine zbs (zbp (zbr (zj (zg (zC (zj ?_))))))
  refine z3 (zd hO [] [(4, zt0 (IntKind.i64.wrap (g + 1)))] [0, 3] ztM fun j => ?_)
  refine zg (zj ?_)
  exact ⟨t, Nat.lt_succ_self _, (zcy (zcy h (IntKind.i64.wrap (1 + w))) (IntKind.i64.wrap (1 + E))), (IntKind.i64.wrap (g + 1)), _, ztZ ztL, hO, hL, hF⟩
 refine zbs (zbp (zbr (zj (zU hO [] [(2, zt0 h)] ztK fun j => ?_))))
 refine z9 ?_
 cases hF
 exact hQ _ _ _ _ _ rfl hO hL ⟨rfl, rfl⟩
theorem zqe (n : Nat) : zly n := by
 induction n with
 | zero =>
  intro τ h p0 g rr hF; exact nomatch (show none = some rr from hF)
 | succ n ih =>
  intro τ h p0 g rr hF; exact zri ih g hF
theorem zsO : ∀ {τ : Hp} {g : Value} {p0 : (List zh)} (h : RdT zy τ g p0) {rr : Int} (hF : zj9 p0 = some rr), Ctr Try.prog 36 #[g] τ [] (fun v τ' vs' => v = .int .i64 rr ∧ vs' = []) := (zqe big)
theorem zqH {τ : Hp} {p0 : zB} {z B : Value} (X : RdT zs τ z p0.Structs) (E : RdT zr τ B p0.Funcs) {rr : Bool} (hF : zjD p0 = some rr) :
  Ctr Try.prog 16 #[.agg #[z, B]] τ [] (fun v τ' vs' => v = .bool rr ∧ vs' = []) := by
 obtain ⟨G, I, rfl, -⟩ := X.form
 obtain ⟨h, o, rfl, -⟩ := E.form
 refine zbl (args := [.agg #[(zt7 G p0.Structs I), (zt7 h p0.Funcs o)]]) hm Try.func16 s16 rfl fun w0 σ hO Q hQ => ?_
 unfold zjD at hF
 have hL := Hp.le.refl τ
 show wpn _ _ a16.body _ _ _
 unfold a16
 dsimp only
 refine zct (n := 2) hO rfl rfl fun Y σ hO => ?_
 have hO := zt51 hO
 refine zd hO [] [] [1] ztK fun j => ?_
 refine zi (zd hO [] [(3, zt0 0)] [1] ztL fun j => ?_)
 refine zH (zbo (fun (n : Nat) e' σ' => ∃ (g : Int) (τ' : Hp), agr [(1, zt1 Y), (3, zt0 g)] e' ∧ Obs τ' σ' [some (Y, ⟨[zt7 G p0.Structs I, zt7 h p0.Funcs o], 27, 2, true⟩)] ∧ Hp.le τ τ' ∧ zgv p0 n g = some rr) big ⟨0, _, ztZ ztK, hO, hL, hF⟩ ?_)
 clear hF hO hL
 rintro t e σ ⟨g, _, hA, hO, hL, hF⟩
 rw [← zM _ _ hA]
 cases t with
 | zero => exact nomatch (show none = some rr from hF)
 | succ t =>
 replace hF : zir (zgv p0 t) p0 g = some rr := hF
 unfold zir at hF
 refine zi (zd hO [0] [(8, .bool (decide (g < (p0.Funcs.length : Int))))] [1, 3] (And.intro (And.intro rfl rfl) ztM) fun j => ?_)
 refine zn hF rfl (fun hF => ?_) fun hF => ?_
 ·refine zA (zH (za hO 3 [0] [(12, zt7 h p0.Funcs o), (13, zt0 g)] [1, 3] (And.intro (And.intro rfl rfl) ztN) fun j => ?_))
  obtain ⟨b5, Z, hF⟩ := zt6 hF
  refine zN (T := zr) (E.le hL) hO.base rfl rfl Z (by decide) fun a46 _ b0 M => ?_
  obtain ⟨b6, b7, rfl, V, U⟩ := b0
  refine za hO 1 [] [(15, .pointer (some (a46.add 6)))] [1, 3] ztM fun j => ?_
  refine zG rfl ((M.le hO.base).one 6 rfl) ?_
  obtain ⟨b1, b3, hF⟩ := zt6 hF
  refine z5 hO (zsO U b3) rfl fun _ σ _ _ hO w b4 => ?_
  have hL := hL.trans w
  have M := M.le w
  have V := V.le w
  have U := U.le w
  obtain ⟨rfl, rfl⟩ := b4
  have hO := zt51 hO
  refine zd hO [] [(18, .bool (decide (b1 > 40)))] [1, 3] ztM fun j => ?_
  refine zbm (zn hF rfl (fun hF => ?_) fun hF => ?_)
  ·refine zi (zU hO [] [(2, .bool true)] ztK fun j => ?_)
   refine zbi (z6 (zQ (zQ (z6 (zQ ?_)))))
   cases hF
   have hO := hO.sel []
   exact hQ _ _ _ _ _ rfl hO hL ⟨rfl, rfl⟩
  refine zA (zg (zC (zj (z3 (zd hO [] [(3, zt0 (IntKind.i64.wrap (g + 1)))] [1] ztL fun j => ?_)))))
  refine zg (zj ?_)
  exact ⟨t, Nat.lt_succ_self _, (IntKind.i64.wrap (g + 1)), _, ztZ ztK, hO, hL, hF⟩
 refine zbs (zbp (zbr (zj (zU hO [] [(2, .bool false)] ztK fun j => ?_))))
 refine z9 ?_
 cases hF
 have hO := hO.sel []
 exact hQ _ _ _ _ _ rfl hO hL ⟨rfl, rfl⟩
end Go.Proofs.Ytnhboaaikehpoaa
