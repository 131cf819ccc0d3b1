import Derived.Test.YtnhboaaikehpoaaG5
namespace Go.Proofs.Ytnhboaaikehpoaa
open Go.Ab Go.RowKit
set_option linter.unusedVariables false
set_option linter.unusedSimpArgs false
set_option maxRecDepth 10000
set_option maxHeartbeats 1000000
theorem zoP {τ : Hp} {p0 : zB} {x7 x8 : Value} {p1 : Int} (x9 : RdT zs τ x7 p0.Structs) (y0 : RdT zr τ x8 p0.Funcs) {rr : (List zl) × zB × Bool} (hF : ziN p0 p1 = some rr) :
  Ctr Try.prog 15 #[.agg #[x7, x8], .int .i64 p1] τ [] (fun v τ' vs' => ∃ (v0 : Value) (o0 : Ob) (y1 y2 : Value), v = .tuple #[v0, .agg #[y1, y2], .bool rr.2.2] ∧ vs' = [o0] ∧ ze zm 79 τ' v0 rr.1 o0 ∧ RdT zs τ' y1 rr.2.1.Structs ∧ RdT zr τ' y2 rr.2.1.Funcs) := by
 obtain ⟨g4, g5, rfl, -⟩ := x9.form
 obtain ⟨g6, g7, rfl, -⟩ := y0.form
 refine zbl (args := [.agg #[(zt7 g4 p0.Structs g5), (zt7 g6 p0.Funcs g7)], .int .i64 p1]) hm Try.func15 s15 rfl fun w0 σ hO Q hQ => ?_
 unfold ziN at hF
 have hL := Hp.le.refl τ
 show wpn _ _ a15.body _ _ _
 unfold a15
 dsimp only
 refine zct (n := 2) hO rfl rfl fun b3 σ hO => ?_
 have hO := zt51 hO
 refine za hO 1 [] [] [1, 2] ztL fun j => ?_
 refine zbC hO fun b4 σ hO => ?_
 have hO := zt52 hO
 refine zd hO [] [] [1, 2, 5] ztM fun j => ?_
 refine za hO 2 [] [(16, .agg #[(.slice none 0 0), (.int .i64 1), (.int .i64 p1), (.bool false)])] [2, 5] ztM fun j => ?_
 refine zct (n := 4) hO rfl rfl fun X σ hO => ?_
 have hO := zt53 hO
 refine zd hO [] [(7, zt1 X)] [2, 5] ztM fun j => ?_
 refine zbC hO fun b6 σ hO => ?_
 have hO := zt54 hO
 refine zc (zi (zd hO [] [(9, zt0 0)] [2, 5, 7, 8] ztO fun j => ?_))
 refine zH ?_
 have hO := hO.no
 have hO := zt55 hO
 have hO := hO.no
 have hO := zt56 hO
 have hO := hO.sel [0, 1, 2, 4, 3, 5]
 refine zbo (fun (n : Nat) e' σ' => ∃ (l6 : Option Addr) (l7 : Nat) (l8 : Ob) (c4 : List zl) (g8 g9 : Int) (h0 : Bool) (j0 : Option Addr) (j1 : Nat) (j2 : Ob) (c5 : List zq) (Y : Int) (τ' : Hp), agr [(2, zt1 b3), (5, zt1 b4), (7, zt1 X), (8, zt1 b6), (9, zt0 Y)] e' ∧ Obs τ' σ' [some (b3, ⟨[zt7 g4 p0.Structs g5, zt7 g6 p0.Funcs g7], 27, 2, true⟩), some (b4, ⟨[.slice none 0 0, .slice none 0 0], 27, 2, true⟩), zbh X (zt7 l6 c4 l7) g8 g9 h0, l8, some (b6, ⟨[zt7 j0 c5 j1, .slice none 0 0], 27, 2, true⟩), j2] ∧ Hp.le τ τ' ∧ ze zm 79 τ' (zt7 l6 c4 l7) c4 l8 ∧ ze zs 71 τ' (zt7 j0 c5 j1) c5 j2 ∧ zd6 p0 n c4 g8 g9 h0 c5 Y = some rr) big ⟨none, 0, none, [], 1, p1, false, none, 0, none, [], 0, _, ztZ ztN, hO, hL, ze.nil _ _ _, ze.nil _ _ _, hF⟩ ?_
 clear hF hO hL
 rintro d7 e σ ⟨l6, l7, l8, c4, g8, g9, h0, j0, j1, j2, c5, Y, _, hA, hO, hL, l9, t, hF⟩
 rw [← zM _ _ hA]
 cases d7 with
 | zero => exact nomatch (show none = some rr from hF)
 | succ d7 =>
 replace hF : zhx (zd6 p0 d7) p0 c4 g8 g9 h0 c5 Y = some rr := hF
 unfold zhx at hF
 refine zi (zd hO [0] [(22, .bool (decide (Y < (p0.Structs.length : Int))))] [2, 5, 7, 8, 9] (And.intro (And.intro rfl rfl) ztP) fun j => ?_)
 refine zn hF rfl (fun hF => ?_) fun hF => ?_
 ·refine zA (zH (za hO 3 [0] [(26, zt7 g4 p0.Structs g5), (27, zt0 Y)] [2, 5, 7, 8, 9] (And.intro (And.intro rfl rfl) ztQ) fun j => ?_))
  obtain ⟨w, y5, hF⟩ := zt6 hF
  refine zN (T := zs) (x9.le hL) hO.base rfl rfl y5 (by decide) fun a3843 _ y6 y7 => ?_
  obtain ⟨J8, rfl, z⟩ := y6
  obtain ⟨m0, m1, rfl, -⟩ := z.form
  refine zG rfl ((y7.le hO.base).all rfl) ?_
  refine zbC hO fun w6 σ hO => ?_
  have hO := zt57 hO
  refine zx hO (i := 6) rfl (off := 0) rfl rfl rfl rfl (Nat.le_of_ble_eq_true rfl) rfl fun σ hO => ?_
  have hO := zt57 hO
  refine zc (za hO 1 [] [(30, zt1 X)] [2, 5, 7, 8, 9, 10] ztQ fun j => ?_)
  refine zt (T := Ty.str) (l := ([zte] : List ByteArray)) (cs := [.string zte]) hO rfl ⟨[.string zte], _, rfl, rfl, rfl⟩ rfl (by decide) fun _ σ J9 y8 hO => ?_
  have hO := zt58 hO
  obtain ⟨_, m2, r7, hO⟩ := y8.share hO (i := 7) rfl
  have hL := hL.trans m2
  have l9 := l9.le m2
  have t := t.le m2
  have z := z.le m2
  have hO := zt58 hO
  obtain ⟨K0, y9, hF⟩ := zt6 hF
  have hO := hO.sel [0, 1, 4, 5, 6, 7, 2, 3]
  refine zz (hs := [_, _, _, _, _, _]) hO (zbt (q0 := (⟨c4, g8, g9, h0⟩ : zk)) l9 r7 y9) rfl fun _ σ _ _ hO m3 A0 => ?_
  have hL := hL.trans m3
  have r7 := r7.le m3
  have t := t.le m3
  have z := z.le m3
  obtain ⟨K1, K2, rfl, rfl, A1⟩ := A0
  have hO := zt58 hO
  refine zc (za hO 3 [4] [(33, zt1 X), (35, .string w.Name)] [2, 5, 7, 8, 9, 10] (And.intro (And.intro rfl rfl) ztR) fun j => ?_)
  obtain ⟨K3, A2, hF⟩ := zt6 hF
  refine zz (hs := [_, _, _, _, _, _]) hO (zcX A1 A2) rfl fun _ σ _ _ hO r8 A3 => ?_
  have hL := hL.trans r8
  have t := t.le r8
  have z := z.le r8
  obtain ⟨K4, K5, rfl, rfl, r9⟩ := A3
  have hO := zt58 hO
  refine zc (za hO 1 [] [(37, zt1 X)] [2, 5, 7, 8, 9, 10] ztQ fun j => ?_)
  refine zt (T := Ty.str) (l := ([zs7] : List ByteArray)) (cs := [.string zs7]) hO rfl ⟨[.string zs7], _, rfl, rfl, rfl⟩ rfl (by decide) fun _ σ K6 A4 hO => ?_
  have hO := zt59 hO
  obtain ⟨_, m4, t0, hO⟩ := A4.share hO (i := 8) rfl
  have hL := hL.trans m4
  have t := t.le m4
  have z := z.le m4
  have r9 := r9.le m4
  have hO := zt59 hO
  obtain ⟨K7, A5, hF⟩ := zt6 hF
  have hO := hO.sel [0, 1, 2, 3, 4, 5, 8, 6, 7]
  refine zz (hs := [_, _, _, _, _, _, _]) hO (zbt r9 t0 A5) rfl fun _ σ _ _ hO m5 A6 => ?_
  have hL := hL.trans m5
  have t0 := t0.le m5
  have t := t.le m5
  have z := z.le m5
  obtain ⟨K8, K9, rfl, rfl, t1⟩ := A6
  have hO := zt59 hO
  refine zc (za hO 1 [] [(40, zt1 X)] [2, 5, 7, 8, 9, 10] ztQ fun j => ?_)
  refine zt (T := Ty.str) (l := ([ztm] : List ByteArray)) (cs := [.string ztm]) hO rfl ⟨[.string ztm], _, rfl, rfl, rfl⟩ rfl (by decide) fun _ σ L0 A7 hO => ?_
  have hO := zt510 hO
  obtain ⟨_, m6, t2, hO⟩ := A7.share hO (i := 9) rfl
  have hL := hL.trans m6
  have t := t.le m6
  have z := z.le m6
  have t1 := t1.le m6
  have hO := zt510 hO
  obtain ⟨m7, A8, hF⟩ := zt6 hF
  have hO := hO.sel [0, 1, 2, 3, 4, 5, 6, 9, 7, 8]
  refine zz (hs := [_, _, _, _, _, _, _, _]) hO (zbt t1 t2 A8) rfl fun _ σ _ _ hO m8 A9 => ?_
  have hL := hL.trans m8
  have t2 := t2.le m8
  have t := t.le m8
  have z := z.le m8
  obtain ⟨L1, B0, rfl, rfl, w7⟩ := A9
  obtain ⟨B1, B2, rfl, -⟩ := w7.form
  have hO := zt510 hO
  refine zc (zi (zd hO [] [(11, zt0 0)] [2, 5, 7, 8, 9, 10] ztQ fun j => ?_))
  refine zH ?_
  have hO := hO.sel [0, 1, 8, 9, 2, 3, 4]
  refine zbo (fun (n : Nat) e' σ' => ∃ (t3 : Option Addr) (t4 : Nat) (t5 : Ob) (c6 : List zl) (h1 h2 : Int) (h3 : Bool) (j3 : Option Addr) (j4 : Nat) (m9 : Ob) (b9 : List zq) (c7 : Int) (τ' : Hp), agr [(2, zt1 b3), (5, zt1 b4), (7, zt1 X), (8, zt1 b6), (9, zt0 Y), (10, zt1 w6), (11, zt0 c7)] e' ∧ Obs τ' σ' [some (b3, ⟨[zt7 g4 p0.Structs g5, zt7 g6 p0.Funcs g7], 27, 2, true⟩), some (b4, ⟨[.slice none 0 0, .slice none 0 0], 27, 2, true⟩), zbh X (zt7 t3 c6 t4) h1 h2 h3, t5, some (b6, ⟨[zt7 j3 b9 j4, .slice none 0 0], 27, 2, true⟩), m9, some (w6, ⟨[.string w.Name, zt7 m0 w.Fields m1], 71, 2, true⟩)] ∧ Hp.le τ τ' ∧ ze zm 79 τ' (zt7 t3 c6 t4) c6 t5 ∧ ze zs 71 τ' (zt7 j3 b9 j4) b9 m9 ∧ RdT Ty.str τ' (zt7 m0 w.Fields m1) w.Fields ∧ zgE (zd6 p0 d7) Y w n c6 h1 h2 h3 b9 c7 = some rr) big ⟨B1, B2, B0, m7.L, m7.Line, m7.More, m7.Failed, j0, j1, j2, c5, 0, _, ztZ ztP, hO, hL, w7, t, z, hF⟩ ?_
  clear hF hO hL
  rintro n0 e σ ⟨t3, t4, t5, c6, h1, h2, h3, j3, j4, m9, b9, c7, _, hA, hO, hL, n1, B, o, hF⟩
  rw [← zM _ _ hA]
  cases n0 with
  | zero => exact nomatch (show none = some rr from hF)
  | succ n0 =>
  replace hF : zhh (zgE (zd6 p0 d7) Y w n0) (zd6 p0 d7) Y w c6 h1 h2 h3 b9 c7 = some rr := hF
  unfold zhh at hF
  refine zi (zd hO [6] [(47, .bool (decide (c7 < (w.Fields.length : Int))))] [2, 5, 7, 8, 9, 10, 11] (And.intro (And.intro rfl rfl) ztR) fun j => ?_)
  refine zn hF rfl (fun hF => ?_) fun hF => ?_
  ·refine zA (zH (za hO 4 [6] [(50, zt1 X), (52, zt7 m0 w.Fields m1), (53, zt0 c7)] [2, 5, 7, 8, 9, 10, 11] (And.intro (And.intro rfl rfl) ztT) fun j => ?_))
   obtain ⟨B3, B4, hF⟩ := zt6 hF
   refine zN (T := Ty.str) o hO.base rfl rfl B4 (by decide) fun a4065 _ B5 t6 => ?_
   obtain rfl : _ = ([.string B3] : List Value) := B5
   refine zG rfl (t6.le hO.base).fst ?_
   obtain ⟨L2, B6, hF⟩ := zt6 hF
   have hO := hO.sel [0, 1, 4, 5, 6, 2, 3]
   refine zz (hs := [_, _, _, _, _]) hO (zcX (q0 := (⟨c6, h1, h2, h3⟩ : zk)) n1 B6) rfl fun _ σ _ _ hO n2 B7 => ?_
   have hL := hL.trans n2
   have o := o.le n2
   have t6 := t6.le n2
   have B := B.le n2
   obtain ⟨L3, L4, rfl, rfl, t7⟩ := B7
   have hO := zt57 hO
   refine zc (za hO 1 [] [(57, zt1 X)] [2, 5, 7, 8, 9, 10, 11] ztR fun j => ?_)
   refine zt (T := Ty.str) (l := ([zs6] : List ByteArray)) (cs := [.string zs6]) hO rfl ⟨[.string zs6], _, rfl, rfl, rfl⟩ rfl (by decide) fun _ σ L5 B8 hO => ?_
   have hO := zt58 hO
   obtain ⟨_, n3, t8, hO⟩ := B8.share hO (i := 7) rfl
   have hL := hL.trans n3
   have B := B.le n3
   have o := o.le n3
   have t7 := t7.le n3
   have hO := zt58 hO
   obtain ⟨L6, B9, hF⟩ := zt6 hF
   have hO := hO.sel [0, 1, 2, 3, 4, 7, 5, 6]
   refine zz (hs := [_, _, _, _, _, _]) hO (zbt t7 t8 B9) rfl fun _ σ _ _ hO n4 C0 => ?_
   have hL := hL.trans n4
   have t8 := t8.le n4
   have B := B.le n4
   have o := o.le n4
   obtain ⟨L7, L8, rfl, rfl, t9⟩ := C0
   have hO := zt58 hO
   refine zc (z3 (za hO 1 [] [(60, zt1 X)] [2, 5, 7, 8, 9, 10, 11] ztR fun j => ?_))
   refine zt (T := Ty.str) (l := ([zta] : List ByteArray)) (cs := [.string zta]) hO rfl ⟨[.string zta], _, rfl, rfl, rfl⟩ rfl (by decide) fun _ σ L9 C1 hO => ?_
   have hO := zt59 hO
   obtain ⟨_, n5, u0, hO⟩ := C1.share hO (i := 8) rfl
   have hL := hL.trans n5
   have B := B.le n5
   have o := o.le n5
   have t9 := t9.le n5
   have hO := zt59 hO
   obtain ⟨n6, C2, hF⟩ := zt6 hF
   have hO := hO.sel [0, 1, 2, 3, 4, 5, 8, 6, 7]
   refine zz (hs := [_, _, _, _, _, _, _]) hO (zbt t9 u0 C2) rfl fun _ σ _ _ hO n7 C3 => ?_
   have hL := hL.trans n7
   have u0 := u0.le n7
   have B := B.le n7
   have o := o.le n7
   obtain ⟨M0, C4, rfl, rfl, w8⟩ := C3
   obtain ⟨C5, C6, rfl, -⟩ := w8.form
   have hO := zt59 hO
   refine zc (zg (zC (zj (z3 (zd hO [] [(11, zt0 (IntKind.i64.wrap (c7 + 1)))] [2, 5, 7, 8, 9, 10] ztQ fun j => ?_)))))
   refine zg (zj ?_)
   have hO := hO.sel [0, 1, 7, 8, 2, 3, 4]
   exact ⟨n0, Nat.lt_succ_self _, C5, C6, C4, n6.L, n6.Line, n6.More, n6.Failed, j3, j4, m9, b9, (IntKind.i64.wrap (c7 + 1)), _, ztZ ztP, hO, hL, w8, B, o, hF⟩
  refine zbs (zbp (zbr (zj (za hO 1 [] [(63, zt1 X)] [2, 5, 7, 8, 9, 10] ztQ fun j => ?_))))
  refine zt (T := Ty.str) (l := ([ztw] : List ByteArray)) (cs := [.string ztw]) hO rfl ⟨[.string ztw], _, rfl, rfl, rfl⟩ rfl (by decide) fun _ σ M1 C7 hO => ?_
  have hO := zt58 hO
  obtain ⟨_, n8, u1, hO⟩ := C7.share hO (i := 7) rfl
  have hL := hL.trans n8
  have n1 := n1.le n8
  have B := B.le n8
  have o := o.le n8
  have hO := zt58 hO
  obtain ⟨n9, C8, hF⟩ := zt6 hF
  have hO := hO.sel [0, 1, 4, 5, 6, 7, 2, 3]
  refine zz (hs := [_, _, _, _, _, _]) hO (zbt (q0 := (⟨c6, h1, h2, h3⟩ : zk)) n1 u1 C8) rfl fun _ σ _ _ hO o1 C9 => ?_
  have hL := hL.trans o1
  have u1 := u1.le o1
  have B := B.le o1
  have o := o.le o1
  obtain ⟨M2, D0, rfl, rfl, w9⟩ := C9
  obtain ⟨D1, D2, rfl, -⟩ := w9.form
  have hO := zt58 hO
  refine zc (z3 (za hO 3 [2, 4] [(67, zt7 j3 b9 j4), (68, .agg #[(.string w.Name), (zt7 m0 w.Fields m1)])] [2, 5, 7, 8, 9] (And.intro (And.intro rfl rfl) (And.intro (And.intro rfl rfl) ztQ)) fun j => ?_))
  obtain ⟨_, y3, hF⟩ := zt6 hF
  refine zjg (T := zs) (y := (⟨w.Name, w.Fields⟩ : zq)) hO B (i := 3) rfl rfl (fun _ => rfl) rfl ⟨_, rfl, o⟩ rfl y3 (by decide) fun u _ σ D3 x0 hO => ?_
  obtain ⟨D4, D5, rfl, -⟩ := x0.form
  have hO := zt58 hO
  refine za hO 1 [] [(71, zt1 b6)] [2, 5, 7, 8, 9, 70] ztQ fun j => ?_
  refine zx hO (i := 2) rfl (off := 0) rfl rfl rfl rfl (Nat.le_of_ble_eq_true rfl) rfl fun σ hO => ?_
  have hO := zt58 hO
  refine zc (zg (zC (zj (z3 (zd hO [] [(9, zt0 (IntKind.i64.wrap (Y + 1)))] [2, 5, 7, 8] ztO fun j => ?_)))))
  refine zg (zj ?_)
  have hO := hO.sel [0, 1, 6, 7, 2, 3]
  exact ⟨d7, Nat.lt_succ_self _, D1, D2, D0, n9.L, n9.Line, n9.More, n9.Failed, D4, D5, D3, (b9 ++ [(⟨w.Name, w.Fields⟩ : zq)]), (IntKind.i64.wrap (Y + 1)), _, ztZ ztN, hO, hL, w9, x0, hF⟩
 refine zbs (zbp (zbr (zj (zi (zd hO [] [(12, zt0 0)] [2, 5, 7, 8] ztO fun j => ?_)))))
 refine zH ?_
 have hO := hO.no
 have hO := zt57 hO
 refine zbo (fun (n : Nat) e' σ' => ∃ (o2 : Option Addr) (o3 : Nat) (u2 : Ob) (c8 : List zl) (h j5 : Int) (c9 : Bool) (j6 : Option Addr) (j7 : Nat) (o4 : Ob) (d0 : List zq) (j8 : Option Addr) (j9 : Nat) (o5 : Ob) (d4 : List zo) (E : Int) (τ' : Hp), agr [(2, zt1 b3), (5, zt1 b4), (7, zt1 X), (8, zt1 b6), (12, zt0 E)] e' ∧ Obs τ' σ' [some (b3, ⟨[zt7 g4 p0.Structs g5, zt7 g6 p0.Funcs g7], 27, 2, true⟩), some (b4, ⟨[.slice none 0 0, .slice none 0 0], 27, 2, true⟩), zbh X (zt7 o2 c8 o3) h j5 c9, u2, some (b6, ⟨[zt7 j6 d0 j7, zt7 j8 d4 j9], 27, 2, true⟩), o4, o5] ∧ Hp.le τ τ' ∧ ze zm 79 τ' (zt7 o2 c8 o3) c8 u2 ∧ ze zs 71 τ' (zt7 j6 d0 j7) d0 o4 ∧ ze zr 50 τ' (zt7 j8 d4 j9) d4 o5 ∧ zdg p0 n c8 h j5 c9 d0 d4 E = some rr) big ⟨l6, l7, l8, c4, g8, g9, h0, j0, j1, j2, c5, none, 0, none, [], 0, _, ztZ ztN, hO, hL, l9, t, ze.nil _ _ _, hF⟩ ?_
 clear hF hO hL
 rintro c0 e σ ⟨o2, o3, u2, c8, h, j5, c9, j6, j7, o4, d0, j8, j9, o5, d4, E, _, hA, hO, hL, d5, Z, G, hF⟩
 rw [← zM _ _ hA]
 cases c0 with
 | zero => exact nomatch (show none = some rr from hF)
 | succ c0 =>
 replace hF : zhy (zdg p0 c0) p0 c8 h j5 c9 d0 d4 E = some rr := hF
 unfold zhy at hF
 refine zi (zd hO [0] [(76, .bool (decide (E < (p0.Funcs.length : Int))))] [2, 5, 7, 8, 12] (And.intro (And.intro rfl rfl) ztP) fun j => ?_)
 refine zn hF rfl (fun hF => ?_) fun hF => ?_
 ·refine zA (zH (za hO 3 [0] [(80, zt7 g6 p0.Funcs g7), (81, zt0 E)] [2, 5, 7, 8, 12] (And.intro (And.intro rfl rfl) ztQ) fun j => ?_))
  obtain ⟨g, D6, hF⟩ := zt6 hF
  refine zN (T := zr) (y0.le hL) hO.base rfl rfl D6 (by decide) fun a5257 _ D7 D8 => ?_
  obtain ⟨M3, M4, rfl, b0, b1⟩ := D7
  obtain ⟨c1, c2, rfl, -⟩ := b0.form
  obtain ⟨d8, d9, rfl, -⟩ := b1.form
  refine zG rfl ((D8.le hO.base).all rfl) ?_
  refine zbC hO fun d6 σ hO => ?_
  have hO := zt58 hO
  refine zx hO (i := 7) rfl (off := 0) rfl rfl rfl rfl (Nat.le_of_ble_eq_true rfl) rfl fun σ hO => ?_
  have hO := zt58 hO
  refine zc (za hO 7 [2] [(88, zt0 (IntKind.i64.wrap (h + 1))), (90, .pointer (some ⟨X, 1, none⟩))] [2, 5, 7, 8, 12, 13] (And.intro (And.intro rfl rfl) ztR) fun j => ?_)
  refine zx hO (i := 2) rfl (off := 1) rfl rfl rfl rfl (Nat.le_of_ble_eq_true rfl) rfl fun σ hO => ?_
  have hO := zt58 hO
  refine zc (za hO 5 [2] [(94, zt0 (IntKind.i64.wrap (h + 1))), (95, .pointer (some ⟨d6, 1, none⟩))] [2, 5, 7, 8, 12, 13] (And.intro (And.intro rfl rfl) ztR) fun j => ?_)
  refine zx hO (i := 7) rfl (off := 1) rfl rfl rfl rfl (Nat.le_of_ble_eq_true rfl) rfl fun σ hO => ?_
  have hO := zt58 hO
  refine zc (za hO 1 [] [(96, zt1 X)] [2, 5, 7, 8, 12, 13] ztQ fun j => ?_)
  refine zt (T := Ty.str) (l := ([ztc] : List ByteArray)) (cs := [.string ztc]) hO rfl ⟨[.string ztc], _, rfl, rfl, rfl⟩ rfl (by decide) fun _ σ M5 D9 hO => ?_
  have hO := zt59 hO
  obtain ⟨_, h4, u3, hO⟩ := D9.share hO (i := 8) rfl
  have hL := hL.trans h4
  have d5 := d5.le h4
  have Z := Z.le h4
  have G := G.le h4
  have b0 := b0.le h4
  have b1 := b1.le h4
  have hO := zt59 hO
  obtain ⟨M6, E1, hF⟩ := zt6 hF
  have hO := hO.sel [0, 1, 4, 5, 6, 7, 8, 2, 3]
  refine zz (hs := [_, _, _, _, _, _, _]) hO (zbt (q0 := (⟨c8, (IntKind.i64.wrap (h + 1)), j5, c9⟩ : zk)) d5 u3 E1) rfl fun _ σ _ _ hO h5 E2 => ?_
  have hL := hL.trans h5
  have u3 := u3.le h5
  have Z := Z.le h5
  have G := G.le h5
  have b0 := b0.le h5
  have b1 := b1.le h5
  obtain ⟨M7, M8, rfl, rfl, E3⟩ := E2
  have hO := zt59 hO
  refine zc (za hO 3 [5] [(99, zt1 X), (101, .string g.Name)] [2, 5, 7, 8, 12, 13] (And.intro (And.intro rfl rfl) ztR) fun j => ?_)
  obtain ⟨M9, E4, hF⟩ := zt6 hF
  refine zz (hs := [_, _, _, _, _, _, _]) hO (zcX E3 E4) rfl fun _ σ _ _ hO k0 E5 => ?_
  have hL := hL.trans k0
  have Z := Z.le k0
  have G := G.le k0
  have b0 := b0.le k0
  have b1 := b1.le k0
  obtain ⟨N0, N1, rfl, rfl, u4⟩ := E5
  have hO := zt59 hO
  refine zc (za hO 1 [] [(103, zt1 X)] [2, 5, 7, 8, 12, 13] ztQ fun j => ?_)
  refine zt (T := Ty.str) (l := ([zs5] : List ByteArray)) (cs := [.string zs5]) hO rfl ⟨[.string zs5], _, rfl, rfl, rfl⟩ rfl (by decide) fun _ σ N2 E6 hO => ?_
  have hO := zt510 hO
  obtain ⟨_, h6, u5, hO⟩ := E6.share hO (i := 9) rfl
  have hL := hL.trans h6
  have Z := Z.le h6
  have G := G.le h6
  have b0 := b0.le h6
  have b1 := b1.le h6
  have u4 := u4.le h6
  have hO := zt510 hO
  obtain ⟨o6, E7, hF⟩ := zt6 hF
  have hO := hO.sel [0, 1, 2, 3, 4, 5, 6, 9, 7, 8]
  refine zz (hs := [_, _, _, _, _, _, _, _]) hO (zbt u4 u5 E7) rfl fun _ σ _ _ hO h7 E8 => ?_
  have hL := hL.trans h7
  have u5 := u5.le h7
  have Z := Z.le h7
  have G := G.le h7
  have b0 := b0.le h7
  have b1 := b1.le h7
  obtain ⟨N3, E9, rfl, rfl, x1⟩ := E8
  obtain ⟨F0, F1, rfl, -⟩ := x1.form
  have hO := zt510 hO
  refine zc (zi (zd hO [] [(14, zt0 0)] [2, 5, 7, 8, 12, 13] ztQ fun j => ?_))
  refine zH ?_
  have hO := hO.sel [0, 1, 8, 9, 2, 3, 4, 5]
  refine zbo (fun (n : Nat) e' σ' => ∃ (o7 : Option Addr) (o8 : Nat) (o9 : Ob) (c3 : List zl) (f0 f1 : Int) (f2 : Bool) (f3 : Option Addr) (f4 : Nat) (f5 : Ob) (b7 : List zq) (f6 : Option Addr) (f7 : Nat) (f8 : Ob) (b8 : List zo) (b2 : Int) (τ' : Hp), agr [(2, zt1 b3), (5, zt1 b4), (7, zt1 X), (8, zt1 b6), (12, zt0 E), (13, zt1 d6), (14, zt0 b2)] e' ∧ Obs τ' σ' [some (b3, ⟨[zt7 g4 p0.Structs g5, zt7 g6 p0.Funcs g7], 27, 2, true⟩), some (b4, ⟨[.slice none 0 0, .slice none 0 0], 27, 2, true⟩), zbh X (zt7 o7 c3 o8) f0 f1 f2, o9, some (b6, ⟨[zt7 f3 b7 f4, zt7 f6 b8 f7], 27, 2, true⟩), f5, f8, zed d6 g.Name (IntKind.i64.wrap (h + 1)) (zt7 c1 g.Params c2) (g.Result.Kind.toNat : Int) g.Result.N g.Result.Name (zt7 d8 g.Body d9)] ∧ Hp.le τ τ' ∧ ze zm 79 τ' (zt7 o7 c3 o8) c3 o9 ∧ ze zs 71 τ' (zt7 f3 b7 f4) b7 f5 ∧ ze zr 50 τ' (zt7 f6 b8 f7) b8 f8 ∧ RdT zbY τ' (zt7 c1 g.Params c2) g.Params ∧ RdT zy τ' (zt7 d8 g.Body d9) g.Body ∧ zcY (zdg p0 c0) h E g n c3 f0 f1 f2 b7 b8 b2 = some rr) big ⟨F0, F1, E9, o6.L, o6.Line, o6.More, o6.Failed, j6, j7, o4, d0, j8, j9, o5, d4, 0, _, ztZ ztP, hO, hL, x1, Z, G, b0, b1, hF⟩ ?_
  clear hF hO hL
  rintro k1 e σ ⟨o7, o8, o9, c3, f0, f1, f2, f3, f4, f5, b7, f6, f7, f8, b8, b2, _, hA, hO, hL, f9, I, M, U, V, hF⟩
  rw [← zM _ _ hA]
  cases k1 with
  | zero => exact nomatch (show none = some rr from hF)
  | succ k1 =>
  replace hF : zev (zcY (zdg p0 c0) h E g k1) (zdg p0 c0) h E g c3 f0 f1 f2 b7 b8 b2 = some rr := hF
  unfold zev at hF
  refine zi (zd hO [7] [(110, .bool (decide (b2 < (g.Params.length : Int))))] [2, 5, 7, 8, 12, 13, 14] (And.intro (And.intro rfl rfl) ztR) fun j => ?_)
  refine zn hF rfl (fun hF => ?_) fun hF => ?_
  ·refine zA (zH (zi (zd hO [] [(114, .bool (decide (b2 > 0)))] [2, 5, 7, 8, 12, 13, 14] ztR fun j => ?_)))
   refine zcO (fun e' σ' => ∃ (u6 : Option Addr) (u7 : Nat) (u9 : Ob) (h8 : List zl) (p2 p3 : Int) (p4 : Bool) (p5 : Option Addr) (p6 : Nat) (p7 : Ob) (h9 : List zq) (p8 : Option Addr) (p9 : Nat) (q2 : Ob) (i0 : List zo) (τ' : Hp), agr [(2, zt1 b3), (5, zt1 b4), (7, zt1 X), (8, zt1 b6), (12, zt0 E), (13, zt1 d6), (14, zt0 b2)] e' ∧ Obs τ' σ' [some (b3, ⟨[zt7 g4 p0.Structs g5, zt7 g6 p0.Funcs g7], 27, 2, true⟩), some (b4, ⟨[.slice none 0 0, .slice none 0 0], 27, 2, true⟩), zbh X (zt7 u6 h8 u7) p2 p3 p4, u9, some (b6, ⟨[zt7 p5 h9 p6, zt7 p8 i0 p9], 27, 2, true⟩), p7, q2, zed d6 g.Name (IntKind.i64.wrap (h + 1)) (zt7 c1 g.Params c2) (g.Result.Kind.toNat : Int) g.Result.N g.Result.Name (zt7 d8 g.Body d9)] ∧ Hp.le τ τ' ∧ ze zm 79 τ' (zt7 u6 h8 u7) h8 u9 ∧ ze zs 71 τ' (zt7 p5 h9 p6) h9 p7 ∧ ze zr 50 τ' (zt7 p8 i0 p9) i0 q2 ∧ RdT zbY τ' (zt7 c1 g.Params c2) g.Params ∧ RdT zy τ' (zt7 d8 g.Body d9) g.Body ∧ zf0 (zcY (zdg p0 c0) h E g k1) g b2 h8 p2 p3 p4 h9 i0 = some rr) ?_ ?_
   ·refine zbm (zn hF rfl (fun hF => ?_) fun hF => ?_)
    ·refine za hO 1 [] [(115, zt1 X)] [2, 5, 7, 8, 12, 13, 14] ztR fun j => ?_
     refine zt (T := Ty.str) (l := ([ztt] : List ByteArray)) (cs := [.string ztt]) hO rfl ⟨[.string ztt], _, rfl, rfl, rfl⟩ rfl (by decide) fun _ σ N4 F2 hO => ?_
     have hO := zt59 hO
     obtain ⟨_, i1, v1, hO⟩ := F2.share hO (i := 8) rfl
     have hL := hL.trans i1
     have f9 := f9.le i1
     have I := I.le i1
     have M := M.le i1
     have U := U.le i1
     have V := V.le i1
     have hO := zt59 hO
     obtain ⟨q3, F3, hF⟩ := zt6 hF
     have hO := hO.sel [0, 1, 4, 5, 6, 7, 8, 2, 3]
     refine zz (hs := [_, _, _, _, _, _, _]) hO (zbt (q0 := (⟨c3, f0, f1, f2⟩ : zk)) f9 v1 F3) rfl fun _ σ _ _ hO i2 F4 => ?_
     have hL := hL.trans i2
     have v1 := v1.le i2
     have I := I.le i2
     have M := M.le i2
     have U := U.le i2
     have V := V.le i2
     obtain ⟨N5, F5, rfl, rfl, x2⟩ := F4
     obtain ⟨F6, F7, rfl, -⟩ := x2.form
     have hO := zt59 hO
     refine zc (zg (zj ?_))
     have hO := hO.sel [0, 1, 7, 8, 2, 3, 4, 5]
     exact ⟨F6, F7, F5, q3.L, q3.Line, q3.More, q3.Failed, f3, f4, f5, b7, f6, f7, f8, b8, _, ztZ ztP, hO, hL, x2, I, M, U, V, hF⟩
    refine zA (zg (zj ?_))
    exact ⟨o7, o8, o9, c3, f0, f1, f2, f3, f4, f5, b7, f6, f7, f8, b8, _, ztZ ztP, hO, hL, f9, I, M, U, V, hF⟩
   rintro e σ ⟨u6, u7, u9, h8, p2, p3, p4, p5, p6, p7, h9, p8, p9, q2, i0, _, hA, hO, hL, F8, k4, k5, g0, k6, hF⟩
   rw [← zM _ _ hA]
   unfold zf0 at hF
   refine za hO 4 [7] [(118, zt1 X), (120, zt7 c1 g.Params c2), (121, zt0 b2)] [2, 5, 7, 8, 12, 13, 14] (And.intro (And.intro rfl rfl) ztT) fun j => ?_
   obtain ⟨q4, F9, hF⟩ := zt6 hF
   refine zN (T := zbY) g0 hO.base rfl rfl F9 (by decide) fun a5700 _ G0 v2 => ?_
   obtain rfl : _ = ([.string q4.Name, .int .u8 q4.Type_.Kind.toNat, .int .i64 q4.Type_.N, .string q4.Type_.Name] : List Value) := G0
   refine za hO 1 [] [(123, .pointer (some a5700))] [2, 5, 7, 8, 12, 13, 14, 118] ztS fun j => ?_
   refine zG rfl (v2.le hO.base).fst ?_
   obtain ⟨N6, G1, hF⟩ := zt6 hF
   have hO := hO.sel [0, 1, 4, 5, 6, 7, 2, 3]
   refine zz (hs := [_, _, _, _, _, _]) hO (zcX (q0 := (⟨h8, p2, p3, p4⟩ : zk)) F8 G1) rfl fun _ σ _ _ hO i3 G2 => ?_
   have hL := hL.trans i3
   have v2 := v2.le i3
   have k4 := k4.le i3
   have k5 := k5.le i3
   have g0 := g0.le i3
   have k6 := k6.le i3
   obtain ⟨N7, N8, rfl, rfl, G3⟩ := G2
   have hO := zt58 hO
   refine zc (z3 (za hO 4 [5] [(126, zt1 X), (128, zt7 c1 g.Params c2), (129, zt0 b2)] [2, 5, 7, 8, 12, 13, 14] (And.intro (And.intro rfl rfl) ztT) fun j => ?_))
   obtain ⟨g1, G4, hF⟩ := zt6 hF
   refine zN (T := zbY) g0 hO.base rfl rfl G4 (by decide) fun a5714 _ G5 v3 => ?_
   obtain rfl : _ = ([.string g1.Name, .int .u8 g1.Type_.Kind.toNat, .int .i64 g1.Type_.N, .string g1.Type_.Name] : List Value) := G5
   refine za hO 1 [] [(131, .pointer (some (a5714.add 1)))] [2, 5, 7, 8, 12, 13, 14, 126] ztS fun j => ?_
   refine zG rfl ((v3.le hO.base).part (off := 1) (ds := [.int .u8 (g1.Type_.Kind.toNat : Int), .int .i64 g1.Type_.N, .string g1.Type_.Name]) rfl rfl) ?_
   obtain ⟨q5, G6, hF⟩ := zt6 hF
   refine zz (hs := [_, _, _, _, _, _]) hO (zkn G3 G6) rfl fun _ σ _ _ hO i4 G7 => ?_
   have hL := hL.trans i4
   have v3 := v3.le i4
   have k4 := k4.le i4
   have k5 := k5.le i4
   have g0 := g0.le i4
   have k6 := k6.le i4
   obtain ⟨N9, G8, rfl, rfl, x3⟩ := G7
   obtain ⟨G9, H0, rfl, -⟩ := x3.form
   have hO := zt58 hO
   refine zc (zg (zC (zj (z3 (zd hO [] [(14, zt0 (IntKind.i64.wrap (b2 + 1)))] [2, 5, 7, 8, 12, 13] ztQ fun j => ?_)))))
   refine zg (zj ?_)
   have hO := hO.sel [0, 1, 6, 7, 2, 3, 4, 5]
   exact ⟨k1, Nat.lt_succ_self _, G9, H0, G8, q5.L, q5.Line, q5.More, q5.Failed, p5, p6, p7, h9, p8, p9, q2, i0, (IntKind.i64.wrap (b2 + 1)), _, ztZ ztP, hO, hL, x3, k4, k5, g0, k6, hF⟩
  refine zbs (zbp (zbr (zj (za hO 1 [] [(134, zt1 X)] [2, 5, 7, 8, 12, 13] ztQ fun j => ?_))))
  refine zt (T := Ty.str) (l := ([zs4] : List ByteArray)) (cs := [.string zs4]) hO rfl ⟨[.string zs4], _, rfl, rfl, rfl⟩ rfl (by decide) fun _ σ O0 H1 hO => ?_
  have hO := zt59 hO
  obtain ⟨_, i5, v4, hO⟩ := H1.share hO (i := 8) rfl
  have hL := hL.trans i5
  have f9 := f9.le i5
  have I := I.le i5
  have M := M.le i5
  have U := U.le i5
  have V := V.le i5
  have hO := zt59 hO
  obtain ⟨q6, H2, hF⟩ := zt6 hF
  have hO := hO.sel [0, 1, 4, 5, 6, 7, 8, 2, 3]
  refine zz (hs := [_, _, _, _, _, _, _]) hO (zbt (q0 := (⟨c3, f0, f1, f2⟩ : zk)) f9 v4 H2) rfl fun _ σ _ _ hO i6 H3 => ?_
  have hL := hL.trans i6
  have v4 := v4.le i6
  have I := I.le i6
  have M := M.le i6
  have U := U.le i6
  have V := V.le i6
  obtain ⟨O1, H4, rfl, rfl, v5⟩ := H3
  obtain ⟨H5, H6, rfl, -⟩ := v5.form
  have hO := zt59 hO
  refine zc (zi (zd hO [5] [(140, .bool (!(( (g.Result.Kind.toNat : Int) == 0) && (( g.Result.N == 0) && ((zV g.Result.Name zs3) && true)))))] [2, 5, 7, 8, 12, 13] (And.intro (And.intro rfl rfl) ztQ) fun j => ?_))
  refine zcO (fun e' σ' => ∃ (v6 : Option Addr) (v7 : Nat) (v8 : Ob) (i7 : List zl) (q7 q8 : Int) (q9 : Bool) (r0 : Option Addr) (r1 : Nat) (r2 : Ob) (i8 : List zq) (r3 : Option Addr) (r4 : Nat) (v9 : Ob) (g2 : List zo) (τ' : Hp), agr [(2, zt1 b3), (5, zt1 b4), (7, zt1 X), (8, zt1 b6), (12, zt0 E), (13, zt1 d6)] e' ∧ Obs τ' σ' [some (b3, ⟨[zt7 g4 p0.Structs g5, zt7 g6 p0.Funcs g7], 27, 2, true⟩), some (b4, ⟨[.slice none 0 0, .slice none 0 0], 27, 2, true⟩), zbh X (zt7 v6 i7 v7) q7 q8 q9, v8, some (b6, ⟨[zt7 r0 i8 r1, zt7 r3 g2 r4], 27, 2, true⟩), r2, v9, zed d6 g.Name (IntKind.i64.wrap (h + 1)) (zt7 c1 g.Params c2) (g.Result.Kind.toNat : Int) g.Result.N g.Result.Name (zt7 d8 g.Body d9)] ∧ Hp.le τ τ' ∧ ze zm 79 τ' (zt7 v6 i7 v7) i7 v8 ∧ ze zs 71 τ' (zt7 r0 i8 r1) i8 r2 ∧ ze zr 50 τ' (zt7 r3 g2 r4) g2 v9 ∧ RdT zbY τ' (zt7 c1 g.Params c2) g.Params ∧ RdT zy τ' (zt7 d8 g.Body d9) g.Body ∧ zhW (zdg p0 c0) h E g i7 q7 q8 q9 i8 g2 = some rr) ?_ ?_
  ·refine zbm (zn hF rfl (fun hF => ?_) fun hF => ?_)
   ·refine za hO 3 [5] [(141, zt1 X), (143, .agg #[(.int .u8 (g.Result.Kind.toNat : Int)), (.int .i64 g.Result.N), (.string g.Result.Name)])] [2, 5, 7, 8, 12, 13] (And.intro (And.intro rfl rfl) ztR) fun j => ?_
    obtain ⟨r5, H7, hF⟩ := zt6 hF
    refine zz (hs := [_, _, _, _, _, _, _]) hO (zkn v5 H7) rfl fun _ σ _ _ hO k7 H8 => ?_
    have hL := hL.trans k7
    have I := I.le k7
    have M := M.le k7
    have U := U.le k7
    have V := V.le k7
    obtain ⟨O2, H9, rfl, rfl, x4⟩ := H8
    obtain ⟨I0, I1, rfl, -⟩ := x4.form
    have hO := zt59 hO
    refine zc (zg (zj ?_))
    have hO := hO.sel [0, 1, 7, 8, 2, 3, 4, 5]
    exact ⟨I0, I1, H9, r5.L, r5.Line, r5.More, r5.Failed, f3, f4, f5, b7, f6, f7, f8, b8, _, ztZ ztO, hO, hL, x4, I, M, U, V, hF⟩
   refine zA (zg (zj ?_))
   have hO := hO.sel [0, 1, 7, 8, 2, 3, 4, 5]
   exact ⟨H5, H6, H4, q6.L, q6.Line, q6.More, q6.Failed, f3, f4, f5, b7, f6, f7, f8, b8, _, ztZ ztO, hO, hL, v5, I, M, U, V, hF⟩
  rintro e σ ⟨v6, v7, v8, i7, q7, q8, q9, r0, r1, r2, i8, r3, r4, v9, g2, _, hA, hO, hL, I2, k8, l0, l1, w2, hF⟩
  rw [← zM _ _ hA]
  unfold zhW at hF
  refine za hO 3 [7] [(145, zt1 X), (147, zt7 d8 g.Body d9)] [2, 5, 7, 8, 12, 13] (And.intro (And.intro rfl rfl) ztR) fun j => ?_
  obtain ⟨g3, I3, hF⟩ := zt6 hF
  have hO := hO.sel [0, 1, 4, 5, 6, 7, 2, 3]
  refine zz (hs := [_, _, _, _, _, _]) hO (zpp (q0 := (⟨i7, q7, q8, q9⟩ : zk)) I2 w2 I3) rfl fun _ σ _ _ hO l2 I4 => ?_
  have hL := hL.trans l2
  have w2 := w2.le l2
  have k8 := k8.le l2
  have l0 := l0.le l2
  have l1 := l1.le l2
  obtain ⟨O3, O4, O5, I5, rfl, rfl, x5, r6⟩ := I4
  obtain ⟨I6, I7, rfl, -⟩ := x5.form
  obtain ⟨I8, I9, rfl, -⟩ := r6.form
  have hO := zt59 hO
  refine za hO 1 [] [(149, .pointer (some ⟨d6, 6, none⟩))] [2, 5, 7, 8, 12, 13, 148] ztR fun j => ?_
  refine zx hO (i := 5) rfl (off := 6) rfl rfl rfl rfl (Nat.le_of_ble_eq_true rfl) rfl fun σ hO => ?_
  have hO := zt59 hO
  refine zc (z3 (za hO 3 [2, 5] [(151, zt7 r3 g2 r4), (152, .agg #[(.string g.Name), (.int .i64 (IntKind.i64.wrap (h + 1))), (zt7 c1 g.Params c2), (.int .u8 (g.Result.Kind.toNat : Int)), (.int .i64 g.Result.N), (.string g.Result.Name), (zt7 I6 g3.1 I7)])] [2, 5, 7, 8, 12] (And.intro (And.intro rfl rfl) (And.intro (And.intro rfl rfl) ztQ)) fun j => ?_))
  obtain ⟨_, l3, J0, hO⟩ := x5.share hO (i := 6) rfl
  have hL := hL.trans l3
  have l0 := l0.le l3
  have l1 := l1.le l3
  have k8 := k8.le l3
  have r6 := r6.le l3
  have hO := zt59 hO
  obtain ⟨_, y4, hF⟩ := zt6 hF
  refine zjg (T := zr) (y := (⟨g.Name, (IntKind.i64.wrap (h + 1)), g.Params, (⟨g.Result.Kind, g.Result.N, g.Result.Name⟩ : zR), g3.1⟩ : zo)) hO l0 (i := 4) rfl rfl (fun _ => rfl) rfl ⟨_, _, rfl, l1, J0⟩ rfl y4 (by decide) fun u _ σ J1 x6 hO => ?_
  obtain ⟨J2, J3, rfl, -⟩ := x6.form
  have hO := zt59 hO
  refine za hO 1 [] [(155, .pointer (some ⟨b6, 1, none⟩))] [2, 5, 7, 8, 12, 154] ztQ fun j => ?_
  refine zx hO (i := 2) rfl (off := 1) rfl rfl rfl rfl (Nat.le_of_ble_eq_true rfl) rfl fun σ hO => ?_
  have hO := zt59 hO
  refine zc (zg (zC (zj (z3 (zd hO [] [(12, zt0 (IntKind.i64.wrap (E + 1)))] [2, 5, 7, 8] ztO fun j => ?_)))))
  refine zg (zj ?_)
  have hO := hO.sel [0, 1, 7, 8, 2, 3, 4]
  exact ⟨c0, Nat.lt_succ_self _, I8, I9, I5, g3.2.L, g3.2.Line, g3.2.More, g3.2.Failed, r0, r1, r2, i8, J2, J3, J1, (g2 ++ [(⟨g.Name, (IntKind.i64.wrap (h + 1)), g.Params, (⟨g.Result.Kind, g.Result.N, g.Result.Name⟩ : zR), g3.1⟩ : zo)]), (IntKind.i64.wrap (E + 1)), _, ztZ ztN, hO, hL, r6, k8, x6, hF⟩
 refine zbs (zbp (zbr (zj (zb9 (za hO 11 [2, 4, 2] [(4, zt7 o2 c8 o3), (160, .agg #[(zt7 j6 d0 j7), (zt7 j8 d4 j9)]), (163, .pointer (some ⟨X, 3, none⟩)), (164, .bool c9), (165, .bool (!c9))] [5] (And.intro (And.intro rfl rfl) (And.intro (And.intro rfl rfl) (And.intro (And.intro rfl rfl) ztP))) fun j => ?_)))))
 refine zcj (zx hO (i := 1) rfl (off := 0) rfl rfl rfl rfl (Nat.le_of_ble_eq_true rfl) rfl fun σ hO => ?_)
 have hO := zt57 hO
 refine zc (zcg ⟨(zb1 rfl (hO.val (i := 2) (off := 3) (agg := false) (n := 1) rfl rfl) rfl), trivial⟩ ?_)
 refine zd hO [] [(6, .bool (!c9))] [4, 5] ztM fun j => ?_
 refine z9 ?_
 obtain ⟨_, w3, w4, hO⟩ := Z.share hO (i := 5) rfl
 have hL := hL.trans w3
 have d5 := d5.le w3
 have G := G.le w3
 have hO := zt57 hO
 obtain ⟨_, w5, J4, hO⟩ := G.share hO (i := 6) rfl
 have hL := hL.trans w5
 have d5 := d5.le w5
 have w4 := w4.le w5
 have hO := zt57 hO
 cases hF
 have J7 := hO.val (i := 1) rfl (off := 0) (agg := true) (n := 2) rfl
 have hO := hO.sel [3]
 exact hQ _ _ _ _ _ (zdb (zbE rfl (J7) (zdb rfl))) hO hL ⟨_, _, _, _, rfl, rfl, d5, w4, J4⟩
theorem zrF {τ : Hp} {p0 : zB} {c5 c6 : Value} {p1 : Int} (b5 : RdT zs τ c5 p0.Structs) (b6 : RdT zr τ c6 p0.Funcs) {rr : Bool} (hF : zjf p0 p1 = some rr) :
  Ctr Try.prog 5 #[.agg #[c5, c6], .int .u8 p1] τ [] (fun v τ' vs' => v = .bool rr ∧ vs' = []) := by
 obtain ⟨b7, b8, rfl, -⟩ := b5.form
 obtain ⟨b9, c0, rfl, -⟩ := b6.form
 refine zbl (args := [.agg #[(zt7 b7 p0.Structs b8), (zt7 b9 p0.Funcs c0)], .int .u8 p1]) hm Try.func5 s5 rfl fun w0 σ hO Q hQ => ?_
 unfold zjf at hF
 have hL := Hp.le.refl τ
 show wpn _ _ a5.body _ _ _
 unfold a5
 dsimp only
 refine zct (n := 2) hO rfl rfl fun b3 σ hO => ?_
 have hO := zt51 hO
 refine zd hO [] [] [1, 2] ztL fun j => ?_
 refine zi (za hO 1 [0] [(11, .agg #[(zt7 b7 p0.Structs b8), (zt7 b9 p0.Funcs c0)])] [1, 2] (And.intro (And.intro rfl rfl) ztM) fun j => ?_)
 obtain ⟨c4, h5, hF⟩ := zt6 hF
 refine z5 hO (zrX (b5.le hL) (b6.le hL) h5) rfl fun _ σ _ _ hO h6 h7 => ?_
 have hL := hL.trans h6
 obtain ⟨rfl, rfl⟩ := h7
 have hO := zt51 hO
 refine zc (zn hF rfl (fun hF => ?_) fun hF => ?_)
 ·refine zi ?_
  obtain ⟨c9, f1, hF⟩ := zt6 hF
  refine z5 hO (zjz f1) rfl fun _ σ _ _ hO f2 f3 => ?_
  have hL := hL.trans f2
  obtain ⟨rfl, rfl⟩ := f3
  have hO := zt51 hO
  refine zU hO [] [(4, .bool c9)] ztK fun j => ?_
  refine zbi ?_
  cases hF
  have hO := hO.sel []
  exact hQ _ _ _ _ _ rfl hO hL ⟨rfl, rfl⟩
 refine zA (zbk hO 4 [0] [(15, .agg #[(zt7 b7 p0.Structs b8), (zt7 b9 p0.Funcs c0)]), (18, zt0 (Int.tmod (IntKind.i64.wrap p1) 3))] (And.intro (And.intro rfl rfl) ztL) fun j => ?_)
 obtain ⟨h, f4, hF⟩ := zt6 hF
 refine z5 hO (zoP (b5.le hL) (b6.le hL) f4) rfl fun _ σ _ _ hO f5 f6 => ?_
 have hL := hL.trans f5
 obtain ⟨i6, i7, i8, i9, rfl, rfl, c1, o, t⟩ := f6
 obtain ⟨c7, c8, rfl, -⟩ := c1.form
 obtain ⟨Y, Z, rfl, -⟩ := o.form
 obtain ⟨b0, b1, rfl, -⟩ := t.form
 have hO := zt52 hO
 refine zbk hO 4 [] [(20, zt7 c7 h.1 c8), (21, .agg #[(zt7 Y h.2.1.Structs Z), (zt7 b0 h.2.1.Funcs b1)]), (22, .bool h.2.2)] ztM fun j => ?_
 refine zbC hO fun f7 σ hO => ?_
 have hO := zt53 hO
 refine za hO 1 [] [(5, zt7 c7 h.1 c8)] [6, 21, 22] ztN fun j => ?_
 refine zx hO (i := 2) rfl (off := 0) rfl rfl rfl rfl (Nat.le_of_ble_eq_true rfl) rfl fun σ hO => ?_
 have hO := zt53 hO
 refine zd hO [] [(7, .bool h.2.2)] [5, 6] ztM fun j => ?_
 refine zi (zd hO [] [(24, .bool (!h.2.2))] [5, 6] ztM fun j => ?_)
 refine zn hF rfl (fun hF => ?_) fun hF => ?_
 ·refine zi ?_
  obtain ⟨f8, f9, hF⟩ := zt6 hF
  refine z5 hO (zjz f9) rfl fun _ σ _ _ hO c2 g0 => ?_
  have hL := hL.trans c2
  have c1 := c1.le c2
  have o := o.le c2
  have t := t.le c2
  obtain ⟨rfl, rfl⟩ := g0
  have hO := zt53 hO
  refine zU hO [] [(4, .bool f8)] ztK fun j => ?_
  refine zbi ?_
  cases hF
  have hO := hO.sel []
  exact hQ _ _ _ _ _ rfl hO hL ⟨rfl, rfl⟩
 refine zA (za hO 1 [] [(27, zt7 c7 h.1 c8)] [6] ztL fun j => ?_)
 obtain ⟨_, d0, d4, hO⟩ := c1.share hO (i := 1) rfl
 have hL := hL.trans d0
 have o := o.le d0
 have t := t.le d0
 have hO := zt53 hO
 obtain ⟨g, g1, hF⟩ := zt6 hF
 refine z5 hO (zkH d4 g1) rfl fun _ σ _ _ hO c3 g2 => ?_
 have hL := hL.trans c3
 have d4 := d4.le c3
 have o := o.le c3
 have t := t.le c3
 obtain ⟨j0, j1, rfl, rfl, w, z⟩ := g2
 obtain ⟨B, E, rfl, -⟩ := w.form
 obtain ⟨G, I, rfl, -⟩ := z.form
 have hO := zt53 hO
 refine za hO 4 [] [(29, .agg #[(zt7 B g.1.Structs E), (zt7 G g.1.Funcs I)]), (30, zt0 g.2.1), (31, zt0 g.2.2)] [6] ztN fun j => ?_
 refine zbC hO fun d6 σ hO => ?_
 have hO := zt54 hO
 refine zx hO (i := 3) rfl (off := 0) rfl rfl rfl rfl (Nat.le_of_ble_eq_true rfl) rfl fun σ hO => ?_
 have hO := zt54 hO
 refine zd hO [] [(9, zt0 g.2.1), (10, zt0 g.2.2)] [6, 8] ztN fun j => ?_
 refine zi (za hO 1 [2] [(32, .agg #[(zt7 Y h.2.1.Structs Z), (zt7 b0 h.2.1.Funcs b1)])] [6, 8, 9, 10] (And.intro (And.intro rfl rfl) ztO) fun j => ?_)
 obtain ⟨j2, g3, hF⟩ := zt6 hF
 refine z5 hO (zqH o t g3) rfl fun _ σ _ _ hO b2 g4 => ?_
 have hL := hL.trans b2
 have o := o.le b2
 have t := t.le b2
 have w := w.le b2
 have z := z.le b2
 obtain ⟨rfl, rfl⟩ := g4
 have hO := zt54 hO
 refine zc (zn hF rfl (fun hF => ?_) fun hF => ?_)
 ·refine zi (za hO 6 [] [(40, .bool ((g.2.2 == 11) && (g.2.1 == 0)))] [8] (And.intro (And.intro rfl rfl) (fun _ => ztZ ztK)) fun j => ?_)
  have hO := hO.sel [3]
  have hO := zt51 hO
  obtain ⟨d7, g5, hF⟩ := zt6 hF
  refine zb2 2 (fun e' σ' => ∃ (τ' : Hp), agr [(44, .bool d7)] e' ∧ Obs τ' σ' [some (d6, ⟨[zt7 B g.1.Structs E, zt7 G g.1.Funcs I], 27, 2, true⟩)] ∧ Hp.le τ τ' ∧ RdT zs τ' (zt7 B g.1.Structs E) g.1.Structs ∧ RdT zr τ' (zt7 G g.1.Funcs I) g.1.Funcs) ?_ ?_
  ·have hF := g5
   rcases z1 hF with ⟨M, hF⟩ | ⟨M, hF⟩
   ·refine zF (zt4 M) ?_
    refine zbk hO 2 [0] [(40, .bool ((g.2.2 == 11) && (g.2.1 == 0))), (41, .agg #[(zt7 B g.1.Structs E), (zt7 G g.1.Funcs I)]), (42, .agg #[(.slice none 0 0), (.slice none 0 0)])] (And.intro (And.intro rfl rfl) ztM) fun j => ?_
    obtain ⟨j3, g6, hF⟩ := zt6 hF
    refine z5 hO (zmB (p1 := (⟨[], []⟩ : zB)) w z (RdT.nil _ _) (RdT.nil _ _) g6) rfl fun _ σ _ _ hO d5 g7 => ?_
    have hL := hL.trans d5
    have w := w.le d5
    have z := z.le d5
    obtain ⟨rfl, rfl⟩ := g7
    have hO := zt51 hO
    refine zp (zt2 M) ?_
    refine zc ?_
    cases hF
    refine zg ?_
    exact ⟨rfl, _, ztZ (trivial), hO, hL, w, z⟩
   refine zI (zt4 M) ?_
   refine zp (zt2 M) ?_
   refine zc ?_
   cases hF
   refine zg ?_
   exact ⟨rfl, _, ztZ (trivial), hO, hL, w, z⟩
  rintro e σ ⟨_, hA, hO, hL, w, z⟩
  rw [← zM _ _ hA]
  refine zbk hO 1 [] [(45, .bool d7)] ztK fun j => ?_
  have hO := hO.sel []
  have hO : Obs _ _ [] := hO
  obtain ⟨d8, g8, hF⟩ := zt6 hF
  refine zb2 2 (fun e' σ' => ∃ (τ' : Hp), agr [(47, .bool d8)] e' ∧ Obs τ' σ' [] ∧ Hp.le τ τ') ?_ ?_
  ·have hF := g8
   rcases z1 hF with ⟨U, hF⟩ | ⟨U, hF⟩
   ·refine zF (zt4 U) ?_
    obtain ⟨j4, g9, hF⟩ := zt6 hF
    refine z5 hO (zjz g9) rfl fun _ σ _ _ hO h0 h1 => ?_
    have hL := hL.trans h0
    obtain ⟨rfl, rfl⟩ := h1
    have hO : Obs _ _ [] := hO
    refine zp (zt2 U) ?_
    refine zc ?_
    cases hF
    refine zg ?_
    exact ⟨rfl, _, ztZ (trivial), hO, hL⟩
   refine zI (zt4 U) ?_
   refine zp (zt2 U) ?_
   refine zc ?_
   cases hF
   refine zg ?_
   exact ⟨rfl, _, ztZ (trivial), hO, hL⟩
  rintro e σ ⟨_, hA, hO, hL⟩
  rw [← zM _ _ hA]
  refine zU hO [] [(4, .bool d8)] ztK fun j => ?_
  refine zbi ?_
  cases hF
  exact hQ _ _ _ _ _ rfl hO hL ⟨rfl, rfl⟩
 refine zA (za hO 6 [] [(54, .bool ((g.2.2 == 0) && (g.2.1 == 0)))] [6, 8] (And.intro (And.intro rfl rfl) (fun _ => ztZ ztL)) fun j => ?_)
 have hO := hO.sel [2, 3]
 have hO := zt52 hO
 obtain ⟨d9, h2, hF⟩ := zt6 hF
 refine zb2 2 (fun e' σ' => ∃ (τ' : Hp), agr [(58, .bool d9)] e' ∧ Obs τ' σ' [some (f7, ⟨[zt7 Y h.2.1.Structs Z, zt7 b0 h.2.1.Funcs b1], 27, 2, true⟩), some (d6, ⟨[zt7 B g.1.Structs E, zt7 G g.1.Funcs I], 27, 2, true⟩)] ∧ Hp.le τ τ' ∧ RdT zs τ' (zt7 Y h.2.1.Structs Z) h.2.1.Structs ∧ RdT zr τ' (zt7 b0 h.2.1.Funcs b1) h.2.1.Funcs ∧ RdT zs τ' (zt7 B g.1.Structs E) g.1.Structs ∧ RdT zr τ' (zt7 G g.1.Funcs I) g.1.Funcs) ?_ ?_
 ·have hF := h2
  rcases z1 hF with ⟨V, hF⟩ | ⟨V, hF⟩
  ·refine zF (zt4 V) ?_
   refine zbk hO 2 [1, 0] [(54, .bool ((g.2.2 == 0) && (g.2.1 == 0))), (55, .agg #[(zt7 B g.1.Structs E), (zt7 G g.1.Funcs I)]), (56, .agg #[(zt7 Y h.2.1.Structs Z), (zt7 b0 h.2.1.Funcs b1)])] (And.intro (And.intro rfl rfl) (And.intro (And.intro rfl rfl) ztM)) fun j => ?_
   obtain ⟨j5, h3, hF⟩ := zt6 hF
   refine z5 hO (zmB w z o t h3) rfl fun _ σ _ _ hO b4 h4 => ?_
   have hL := hL.trans b4
   have w := w.le b4
   have z := z.le b4
   have o := o.le b4
   have t := t.le b4
   obtain ⟨rfl, rfl⟩ := h4
   have hO := zt52 hO
   refine zp (zt2 V) ?_
   refine zc ?_
   cases hF
   refine zg ?_
   exact ⟨rfl, _, ztZ (trivial), hO, hL, o, t, w, z⟩
  refine zI (zt4 V) ?_
  refine zp (zt2 V) ?_
  refine zc ?_
  cases hF
  refine zg ?_
  exact ⟨rfl, _, ztZ (trivial), hO, hL, o, t, w, z⟩
 rintro e σ ⟨_, hA, hO, hL, o, t, w, z⟩
 rw [← zM _ _ hA]
 refine zbk hO 1 [] [(59, .bool d9)] ztK fun j => ?_
 have hO := hO.sel []
 have hO : Obs _ _ [] := hO
 obtain ⟨f0, h8, hF⟩ := zt6 hF
 refine zb2 2 (fun e' σ' => ∃ (τ' : Hp), agr [(61, .bool f0)] e' ∧ Obs τ' σ' [] ∧ Hp.le τ τ') ?_ ?_
 ·have hF := h8
  rcases z1 hF with ⟨X, hF⟩ | ⟨X, hF⟩
  ·refine zF (zt4 X) ?_
   obtain ⟨j6, h9, hF⟩ := zt6 hF
   refine z5 hO (zjz h9) rfl fun _ σ _ _ hO i0 i1 => ?_
   have hL := hL.trans i0
   obtain ⟨rfl, rfl⟩ := i1
   have hO : Obs _ _ [] := hO
   refine zp (zt2 X) ?_
   refine zc ?_
   cases hF
   refine zg ?_
   exact ⟨rfl, _, ztZ (trivial), hO, hL⟩
  refine zI (zt4 X) ?_
  refine zp (zt2 X) ?_
  refine zc ?_
  cases hF
  refine zg ?_
  exact ⟨rfl, _, ztZ (trivial), hO, hL⟩
 rintro e σ ⟨_, hA, hO, hL⟩
 rw [← zM _ _ hA]
 refine zU hO [] [(4, .bool f0)] ztK fun j => ?_
 refine z9 ?_
 cases hF
 exact hQ _ _ _ _ _ rfl hO hL ⟨rfl, rfl⟩
end Go.Proofs.Ytnhboaaikehpoaa
