import Derived.Test.YtgkllgoelpfdkaaGreatG4
namespace Go.Proofs.YtgkllgoelpfdkaaGreat
open Go.Ab Go.RowKit
set_option linter.unusedVariables false
set_option linter.unusedSimpArgs false
set_option maxRecDepth 10000
set_option maxHeartbeats 1000000
theorem zpc {τ : Hp} {p0 : zbs} {v0_0 v0_1 v0_4 : Value} (r0_0 : RdT zfs τ v0_0 p0.Code) (r0_1 : RdT Ty.u8 τ v0_1 p0.Bytes) (r0_4 : RdT (Ty.int .i64) τ v0_4 p0.Input) {rr : Bool} (hF : zic p0 = some rr) :
  Ctr Tryz.prog 5 #[.agg #[v0_0, v0_1, .int .i64 p0.Start, .int .i64 p0.Words, v0_4, .int .i64 p0.Fuel]] τ [] (fun v τ' vs' => v = .bool rr ∧ vs' = []) := by
 obtain ⟨A0_0, c0_0, rfl, -⟩ := r0_0.form
 obtain ⟨A0_1, c0_1, rfl, -⟩ := r0_1.form
 obtain ⟨A0_4, c0_4, rfl, -⟩ := r0_4.form
 refine zu (args := [.agg #[(zs9 A0_0 p0.Code c0_0), (zs9 A0_1 p0.Bytes c0_1), .int .i64 p0.Start, .int .i64 p0.Words, (zs9 A0_4 p0.Input c0_4), .int .i64 p0.Fuel]]) hm Tryz.func5 s5 rfl fun w0 σ hO Q hQ => ?_
 unfold zic at hF
 have hL := Hp.le.refl τ
 show wpn _ _ a5.body _ _ _
 unfold a5
 dsimp only
 refine zbq (n := 6) hO rfl rfl fun b2 σ hO => ?_
 have hO := zs71 hO
 refine za hO [] [] [1] zsM fun j => ?_
 refine zb (zc hO 1 [0] [(16, .agg #[(zs9 A0_0 p0.Code c0_0), (zs9 A0_1 p0.Bytes c0_1), (.int .i64 p0.Start), (.int .i64 p0.Words), (zs9 A0_4 p0.Input c0_4), (.int .i64 p0.Fuel)])] [1] (And.intro (And.intro rfl rfl) zsN) fun j => ?_)
 obtain ⟨c3, h4, hF⟩ := zs8 hF
 refine zo hO (zsG (p0 := (⟨p0.Code, p0.Bytes, p0.Start, p0.Words, p0.Input, p0.Fuel⟩ : zbs)) (r0_0.le hL) (r0_1.le hL) (r0_4.le hL) h4) rfl fun _ σ _ _ hO h5 h6 => ?_
 have hL := hL.trans h5
 obtain ⟨rfl, rfl⟩ := h6
 have hO := zs71 hO
 refine ze (zi hF rfl (fun hF => ?_) fun hF => ?_)
 ·refine zb ?_
  obtain ⟨c8, h9, hF⟩ := zs8 hF
  refine zo hO (zk7 h9) rfl fun _ σ _ _ hO h10 h11 => ?_
  have hL := hL.trans h10
  obtain ⟨rfl, rfl⟩ := h11
  have hO := zs71 hO
  refine zj hO [] [(2, .bool c8)] zsM fun j => ?_
  refine zp ?_
  cases hF
  have hO := hO.sel []
  exact hQ _ _ _ _ _ rfl hO hL ⟨rfl, rfl⟩
 refine zl (zc hO 1 [0] [(19, .agg #[(zs9 A0_0 p0.Code c0_0), (zs9 A0_1 p0.Bytes c0_1), (.int .i64 p0.Start), (.int .i64 p0.Words), (zs9 A0_4 p0.Input c0_4), (.int .i64 p0.Fuel)])] [1] (And.intro (And.intro rfl rfl) zsN) fun j => ?_)
 obtain ⟨c12, h13, hF⟩ := zs8 hF
 refine zo hO (zqx (p0 := (⟨p0.Code, p0.Bytes, p0.Start, p0.Words, p0.Input, p0.Fuel⟩ : zbs)) (r0_0.le hL) (r0_1.le hL) (r0_4.le hL) h13) rfl fun _ σ _ _ hO h14 h15 => ?_
 have hL := hL.trans h14
 obtain ⟨v16, o19, rfl, rfl, w20⟩ := h15
 obtain ⟨A17, c18, rfl, -⟩ := w20.form
 have hO := zs72 hO
 refine za hO [] [(3, zs9 A17 c12 c18)] [1] zsN fun j => ?_
 refine zc hO 1 [] [(21, zs9 A17 c12 c18)] [1, 3] zsO fun j => ?_
 obtain ⟨c21, h22, hF⟩ := zs8 hF
 refine zbe (hs := [_]) (vs := [_]) hO (Ctr.lendG w20 (fun _ _ _ _ ⟨v1, o1, h1, h2, f1⟩ => ⟨v1, o1, h1, h2, f1.flat zjG⟩) fun _ lL0 rL0 => zev rL0 h22) rfl fun _ σ _ _ hO h23 h24 => ?_
 have hL := hL.trans h23
 have w20 := w20.le h23
 obtain ⟨_, rfl, v25, o28, rfl, rfl, w29⟩ := h24
 obtain ⟨A26, c27, rfl, -⟩ := w29.form
 have hO := zs73 hO
 refine za hO [] [(4, zs9 A26 c21 c27)] [1, 3] zsO fun j => ?_
 refine zbv (T := (Ty.int .i64)) (l := ([] : List Int)) (cs := []) hO rfl rfl rfl (by decide) fun _ σ o32 w33 hO => ?_
 obtain ⟨A30, c31, rfl, -⟩ := w33.form
 have hO := zs74 hO
 refine zc hO 2 [0] [(25, zs9 A0_4 p0.Input c0_4)] [1, 3, 4, 23] (And.intro (And.intro rfl rfl) zsQ) fun j => ?_
 obtain ⟨_, hr38, hF⟩ := zs8 hF
 refine zdt (T := (Ty.int .i64)) hO w33 (i := 3) rfl rfl rfl (r0_4.le hL) hr38 (by decide) fun _ σ o36 w37 hO => ?_
 obtain ⟨A34, c35, rfl, -⟩ := w37.form
 have hO := zs74 hO
 refine za hO [] [(5, zs9 A34 (([] : List Int) ++ p0.Input) c35)] [1, 3, 4] zsP fun j => ?_
 refine zZ hO 6 [0, 0] [(1, zs3 b2), (3, zs9 A17 c12 c18), (4, zs9 A26 c21 c27), (5, zs9 A34 (([] : List Int) ++ p0.Input) c35), (28, zs9 A26 c21 c27), (30, zs2 p0.Start), (32, zs2 p0.Words), (33, zs9 A34 (([] : List Int) ++ p0.Input) c35)] (And.intro (And.intro rfl rfl) (And.intro (And.intro rfl rfl) zsT)) fun j => ?_
 obtain ⟨c39, h40, hF⟩ := zs8 hF
 refine zbe (hs := [_, _]) (vs := [_, _]) hO (Ctr.lendG w29 (zfH zkM) fun _ lL0 rL0 => Ctr.lendG (w37.le lL0) zkM fun _ lL1 rL1 => zlN (rL0.le lL1) rL1 h40) rfl fun _ σ _ _ hO h41 h42 => ?_
 have hL := hL.trans h41
 have w20 := w20.le h41
 have w29 := w29.le h41
 have w37 := w37.le h41
 rcases zjv hF with ⟨h44, hF⟩ | ⟨m43, h44, hF⟩
 ·rw [h44] at h42
  obtain ⟨_, rfl, _, rfl, rfl, rfl⟩ := h42
  have hO := hO.sel [0, 1, 2, 3]
  refine za hO [] [(6, .pointer none), (7, zs2 c39.2)] [1, 3, 4, 5] zsR fun j => ?_
  refine zc hO 7 [0, 0, 0] [(38, zs9 A17 c12 c18), (40, zs2 p0.Start), (42, zs2 p0.Words), (44, zs9 A0_4 p0.Input c0_4)] [1, 3, 4, 5, 6, 7] (And.intro (And.intro rfl rfl) (And.intro (And.intro rfl rfl) (And.intro (And.intro rfl rfl) zsV))) fun j => ?_
  obtain ⟨c45, h46, hF⟩ := zs8 hF
  have hO := hO.sel [0, 2, 3, 1]
  refine zbe (hs := [_, _, _]) (vs := [_]) hO (Ctr.lendG w20 znp fun _ lL0 rL0 => znc rL0 ((r0_4.le hL).le lL0) h46) rfl fun _ σ _ _ hO h47 h48 => ?_
  have hL := hL.trans h47
  have w20 := w20.le h47
  have w29 := w29.le h47
  have w37 := w37.le h47
  rcases zjv hF with ⟨h50, hF⟩ | ⟨m49, h50, hF⟩
  ·rw [h50] at h48
   obtain ⟨_, rfl, rfl, rfl⟩ := h48
   have hO := hO.sel [0, 1, 2, 3]
   refine za hO [] [(8, .pointer none), (9, zs2 c45.2)] [1, 3, 4, 5, 6, 7] zsT fun j => ?_
   refine zb (zc hO 7 [] [(58, .bool ((c39.2 != c45.2) || (!(true == true))))] [1, 3, 4, 5, 6, 8] (And.intro (And.intro rfl rfl) (fun _ => zs1 zsR)) fun j => ?_)
   obtain ⟨c51, h52, hF⟩ := zs8 hF
   refine zbN 2 (fun e' σ' => ∃ (τ' : Hp), agr [(63, .bool c51), (1, zs3 b2), (4, zs9 A26 c21 c27), (5, zs9 A34 (([] : List Int) ++ p0.Input) c35), (6, .pointer none), (8, .pointer none)] e' ∧ Obs τ' σ' [zdv b2 (zs9 A0_0 p0.Code c0_0) (zs9 A0_1 p0.Bytes c0_1) p0.Start p0.Words (zs9 A0_4 p0.Input c0_4) p0.Fuel, o28, o36, none] ∧ Hp.le τ τ' ∧ zd Ty.u8 5 τ' (zs9 A26 c21 c27) c21 o28 ∧ zd (Ty.int .i64) 2 τ' (zs9 A34 (([] : List Int) ++ p0.Input) c35) (([] : List Int) ++ p0.Input) o36) ?_ ?_
   ·have hF := h52
    rcases z1 hF with ⟨hb53, hF⟩ | ⟨hb53, hF⟩
    ·refine zP (zs5 hb53) ?_
     refine zw (zs4 hb53) ?_
     refine ze ?_
     cases hF
     refine zg ?_
     have hO := hO.sel [0, 1, 2, 1003]
     exact ⟨rfl, _, zs1 zsQ, hO, hL, w29, w37⟩
    refine zK (zs5 hb53) ?_
    refine zc hO 2 [] [(59, zs9 A26 c21 c27), (60, zs9 A17 c12 c18)] [1, 4, 5, 6, 8, 58] zsT fun j => ?_
    obtain ⟨c54, h55, hF⟩ := zs8 hF
    have hO := hO.sel [0, 2, 1, 3]
    refine zbe (hs := [_, _]) (vs := [_, _]) hO (Ctr.lendG w29 (zfH (fun _ _ _ _ h => h)) fun _ lL0 rL0 => Ctr.lendG (w20.le lL0) (fun _ _ _ _ h => h) fun _ lL1 rL1 => zk3 (rL0.le lL1) rL1 h55) rfl fun _ σ _ _ hO h56 h57 => ?_
    have hL := hL.trans h56
    have w29 := w29.le h56
    have w37 := w37.le h56
    have w20 := w20.le h56
    obtain ⟨_, rfl, _, rfl, rfl, rfl⟩ := h57
    have hO := zs74 hO
    have hO := hO.sel [0, 2, 1, 3]
    have hO := zs74 hO
    refine zc hO 1 [] [(62, .bool (!c54))] [1, 4, 5, 6, 8, 58] zsS fun j => ?_
    refine zw (zs4 hb53) ?_
    refine ze ?_
    cases hF
    refine zg ?_
    have hO := hO.sel [0, 1, 2, 1003]
    exact ⟨rfl, _, zs1 zsQ, hO, hL, w29, w37⟩
   rintro e σ ⟨_, hA, hO, hL, w29, w37⟩
   rw [← zD _ _ hA]
   refine ze (zi hF rfl (fun hF => ?_) fun hF => ?_)
   ·refine zb (zj hO [] [(2, .bool false)] zsM fun j => ?_)
    refine zp ?_
    cases hF
    have hO := hO.sel []
    exact hQ _ _ _ _ _ rfl hO hL ⟨rfl, rfl⟩
   refine zl (zb (za hO [] [(65, .bool true)] [1, 4, 5, 6, 8] zsR fun j => ?_))
   refine zcT rfl ?_
   refine zb ?_
   obtain ⟨c59, h60, hF⟩ := zs8 hF
   refine zo hO (zk7 h60) rfl fun _ σ _ _ hO h61 h62 => ?_
   have hL := hL.trans h61
   have w29 := w29.le h61
   have w37 := w37.le h61
   obtain ⟨rfl, rfl⟩ := h62
   have hO := zs74 hO
   refine zj hO [] [(2, .bool c59)] zsM fun j => ?_
   refine zp ?_
   cases hF
   have hO := hO.sel []
   exact hQ _ _ _ _ _ rfl hO hL ⟨rfl, rfl⟩
  rw [h50] at h48
  obtain ⟨_, rfl, b63, v64, o67, v69, o72, v74, o77, v79, o82, v84, o87, rfl, rfl, w68, w73, w78, w83, w88⟩ := h48
  obtain ⟨A65, c66, rfl, -⟩ := w68.form
  obtain ⟨A70, c71, rfl, -⟩ := w73.form
  obtain ⟨A75, c76, rfl, -⟩ := w78.form
  obtain ⟨A80, c81, rfl, -⟩ := w83.form
  obtain ⟨A85, c86, rfl, -⟩ := w88.form
  have hO := zs710 hO
  exact nomatch (show none = some _ from hF)
 rw [h44] at h42
 obtain ⟨_, rfl, _, rfl, b89, v90, o93, v95, o98, v100, o103, v105, o108, rfl, rfl, w94, w99, w104, w109⟩ := h42
 obtain ⟨A91, c92, rfl, -⟩ := w94.form
 obtain ⟨A96, c97, rfl, -⟩ := w99.form
 obtain ⟨A101, c102, rfl, -⟩ := w104.form
 obtain ⟨A106, c107, rfl, -⟩ := w109.form
 have hO := zs79 hO
 refine za hO [] [(6, zs3 b89), (7, zs2 c39.2)] [1, 3, 4, 5] zsR fun j => ?_
 refine zc hO 7 [0, 0, 0] [(38, zs9 A17 c12 c18), (40, zs2 p0.Start), (42, zs2 p0.Words), (44, zs9 A0_4 p0.Input c0_4)] [1, 3, 4, 5, 6, 7] (And.intro (And.intro rfl rfl) (And.intro (And.intro rfl rfl) (And.intro (And.intro rfl rfl) zsV))) fun j => ?_
 obtain ⟨c110, h111, hF⟩ := zs8 hF
 have hO := hO.sel [0, 2, 3, 4, 5, 6, 7, 8, 1]
 refine zbe (hs := [_, _, _, _, _, _, _, _]) (vs := [_]) hO (Ctr.lendG w20 znp fun _ lL0 rL0 => znc rL0 ((r0_4.le hL).le lL0) h111) rfl fun _ σ _ _ hO h112 h113 => ?_
 have hL := hL.trans h112
 have w20 := w20.le h112
 have w29 := w29.le h112
 have w37 := w37.le h112
 have w94 := w94.le h112
 have w99 := w99.le h112
 have w104 := w104.le h112
 have w109 := w109.le h112
 rcases zjv hF with ⟨h115, hF⟩ | ⟨m114, h115, hF⟩
 ·rw [h115] at h113
  obtain ⟨_, rfl, rfl, rfl⟩ := h113
  have hO := hO.sel [0, 1, 2, 3, 4, 5, 6, 7, 8]
  exact nomatch (show none = some _ from hF)
 rw [h115] at h113
 obtain ⟨_, rfl, b116, v117, o120, v122, o125, v127, o130, v132, o135, v137, o140, rfl, rfl, w121, w126, w131, w136, w141⟩ := h113
 obtain ⟨A118, c119, rfl, -⟩ := w121.form
 obtain ⟨A123, c124, rfl, -⟩ := w126.form
 obtain ⟨A128, c129, rfl, -⟩ := w131.form
 obtain ⟨A133, c134, rfl, -⟩ := w136.form
 obtain ⟨A138, c139, rfl, -⟩ := w141.form
 have hO : Obs _ _ [_, _, _, _, _, _, _, _, _, _, _, _, _, _, _] := hO
 refine za hO [] [(8, zs3 b116), (9, zs2 c110.2)] [1, 3, 4, 5, 6, 7] zsT fun j => ?_
 refine zb (zc hO 7 [] [(58, .bool ((c39.2 != c110.2) || (!(false == false))))] [1, 3, 4, 5, 6, 8] (And.intro (And.intro rfl rfl) (fun _ => zs1 zsR)) fun j => ?_)
 obtain ⟨c142, h143, hF⟩ := zs8 hF
 refine zbN 2 (fun e' σ' => ∃ (τ' : Hp), agr [(63, .bool c142), (1, zs3 b2), (4, zs9 A26 c21 c27), (5, zs9 A34 (([] : List Int) ++ p0.Input) c35), (6, zs3 b89), (8, zs3 b116)] e' ∧ Obs τ' σ' [zdv b2 (zs9 A0_0 p0.Code c0_0) (zs9 A0_1 p0.Bytes c0_1) p0.Start p0.Words (zs9 A0_4 p0.Input c0_4) p0.Fuel, o28, o36, zI b89 (zs9 A91 m43.code c92) m43.pc m43.regs (zs9 A96 m43.words c97) (zs9 A101 m43.input c102) (zs9 A106 m43.out c107) (m43.how.toNat : Int) m43.halting, o93, o98, o103, o108, none, zbz b116 (zs9 A118 m114.Code c119) m114.Pc (zs9 A123 m114.R c124) (zs9 A128 m114.W c129) (zs9 A133 m114.In c134) (zs9 A138 m114.Out c139) (m114.How.toNat : Int) m114.Final, o120, o125, o130, o135, o140] ∧ Hp.le τ τ' ∧ zd Ty.u8 5 τ' (zs9 A26 c21 c27) c21 o28 ∧ zd (Ty.int .i64) 2 τ' (zs9 A34 (([] : List Int) ++ p0.Input) c35) (([] : List Int) ++ p0.Input) o36 ∧ zd Ty.u8 5 τ' (zs9 A91 m43.code c92) m43.code o93 ∧ zd (Ty.int .i64) 2 τ' (zs9 A96 m43.words c97) m43.words o98 ∧ zd (Ty.int .i64) 2 τ' (zs9 A101 m43.input c102) m43.input o103 ∧ zd (Ty.int .i64) 2 τ' (zs9 A106 m43.out c107) m43.out o108 ∧ zd Ty.u8 5 τ' (zs9 A118 m114.Code c119) m114.Code o120 ∧ zd (Ty.int .i64) 2 τ' (zs9 A123 m114.R c124) m114.R o125 ∧ zd (Ty.int .i64) 2 τ' (zs9 A128 m114.W c129) m114.W o130 ∧ zd (Ty.int .i64) 2 τ' (zs9 A133 m114.In c134) m114.In o135 ∧ zd (Ty.int .i64) 2 τ' (zs9 A138 m114.Out c139) m114.Out o140) ?_ ?_
 ·have hF := h143
  rcases z1 hF with ⟨hb144, hF⟩ | ⟨hb144, hF⟩
  ·refine zP (zs5 hb144) ?_
   refine zw (zs4 hb144) ?_
   refine ze ?_
   cases hF
   refine zg ?_
   have hO := hO.sel [0, 1, 2, 3, 4, 5, 6, 7, 1008, 9, 10, 11, 12, 13, 14]
   exact ⟨rfl, _, zs1 zsQ, hO, hL, w29, w37, w94, w99, w104, w109, w121, w126, w131, w136, w141⟩
  refine zK (zs5 hb144) ?_
  refine zc hO 2 [] [(59, zs9 A26 c21 c27), (60, zs9 A17 c12 c18)] [1, 4, 5, 6, 8, 58] zsT fun j => ?_
  obtain ⟨c145, h146, hF⟩ := zs8 hF
  have hO := hO.sel [0, 2, 3, 4, 5, 6, 7, 9, 10, 11, 12, 13, 14, 1, 8]
  refine zbe (hs := [_, _, _, _, _, _, _, _, _, _, _, _, _]) (vs := [_, _]) hO (Ctr.lendG w29 (zfH (fun _ _ _ _ h => h)) fun _ lL0 rL0 => Ctr.lendG (w20.le lL0) (fun _ _ _ _ h => h) fun _ lL1 rL1 => zk3 (rL0.le lL1) rL1 h146) rfl fun _ σ _ _ hO h147 h148 => ?_
  have hL := hL.trans h147
  have w29 := w29.le h147
  have w37 := w37.le h147
  have w20 := w20.le h147
  have w94 := w94.le h147
  have w99 := w99.le h147
  have w104 := w104.le h147
  have w109 := w109.le h147
  have w121 := w121.le h147
  have w126 := w126.le h147
  have w131 := w131.le h147
  have w136 := w136.le h147
  have w141 := w141.le h147
  obtain ⟨_, rfl, _, rfl, rfl, rfl⟩ := h148
  have hO : Obs _ _ [_, _, _, _, _, _, _, _, _, _, _, _, _, _, _] := hO
  have hO := hO.sel [0, 13, 1, 2, 3, 4, 5, 6, 14, 7, 8, 9, 10, 11, 12]
  have hO : Obs _ _ [_, _, _, _, _, _, _, _, _, _, _, _, _, _, _] := hO
  refine zc hO 1 [] [(62, .bool (!c145))] [1, 4, 5, 6, 8, 58] zsS fun j => ?_
  refine zw (zs4 hb144) ?_
  refine ze ?_
  cases hF
  refine zg ?_
  have hO := hO.sel [0, 1, 2, 3, 4, 5, 6, 7, 1008, 9, 10, 11, 12, 13, 14]
  exact ⟨rfl, _, zs1 zsQ, hO, hL, w29, w37, w94, w99, w104, w109, w121, w126, w131, w136, w141⟩
 rintro e σ ⟨_, hA, hO, hL, w29, w37, w94, w99, w104, w109, w121, w126, w131, w136, w141⟩
 rw [← zD _ _ hA]
 refine ze (zi hF rfl (fun hF => ?_) fun hF => ?_)
 ·refine zb (zj hO [] [(2, .bool false)] zsM fun j => ?_)
  refine zp ?_
  cases hF
  have hO := hO.sel []
  exact hQ _ _ _ _ _ rfl hO hL ⟨rfl, rfl⟩
 refine zl (zb (za hO [] [(65, .bool false)] [1, 4, 5, 6, 8] zsR fun j => ?_))
 refine zbU rfl ?_
 refine zl (zb (za hO [] [(10, zs2 0)] [1, 4, 5, 6, 8] zsR fun j => ?_))
 refine zW ?_
 have hO := hO.sel [0, 1, 2, 3, 4, 5, 6, 7, 9, 10, 11, 12, 13, 14]
 refine zbG (fun (n : Nat) e' σ' => ∃ (k2314 : Nat) (A2315 : Option Addr) (c2316 : Nat) (o2317 : Ob) (x2318 : List UInt8) (x2331 : Int) (τ' : Hp), agr [(1, zs3 b2), (4, .slice A2315 k2314 c2316), (5, zs9 A34 (([] : List Int) ++ p0.Input) c35), (6, zs3 b89), (8, zs3 b116), (10, zs2 x2331)] e' ∧ Obs τ' σ' [zdv b2 (zs9 A0_0 p0.Code c0_0) (zs9 A0_1 p0.Bytes c0_1) p0.Start p0.Words (zs9 A0_4 p0.Input c0_4) p0.Fuel, o2317, o36, zI b89 (zs9 A91 m43.code c92) m43.pc m43.regs (zs9 A96 m43.words c97) (zs9 A101 m43.input c102) (zs9 A106 m43.out c107) (m43.how.toNat : Int) m43.halting, o93, o98, o103, o108, zbz b116 (zs9 A118 m114.Code c119) m114.Pc (zs9 A123 m114.R c124) (zs9 A128 m114.W c129) (zs9 A133 m114.In c134) (zs9 A138 m114.Out c139) (m114.How.toNat : Int) m114.Final, o120, o125, o130, o135, o140] ∧ Hp.le τ τ' ∧ k2314 = x2318.length ∧ zd Ty.u8 5 τ' (.slice A2315 k2314 c2316) x2318 o2317 ∧ zd (Ty.int .i64) 2 τ' (zs9 A34 (([] : List Int) ++ p0.Input) c35) (([] : List Int) ++ p0.Input) o36 ∧ zd Ty.u8 5 τ' (zs9 A91 m43.code c92) m43.code o93 ∧ zd (Ty.int .i64) 2 τ' (zs9 A96 m43.words c97) m43.words o98 ∧ zd (Ty.int .i64) 2 τ' (zs9 A101 m43.input c102) m43.input o103 ∧ zd (Ty.int .i64) 2 τ' (zs9 A106 m43.out c107) m43.out o108 ∧ zd Ty.u8 5 τ' (zs9 A118 m114.Code c119) m114.Code o120 ∧ zd (Ty.int .i64) 2 τ' (zs9 A123 m114.R c124) m114.R o125 ∧ zd (Ty.int .i64) 2 τ' (zs9 A128 m114.W c129) m114.W o130 ∧ zd (Ty.int .i64) 2 τ' (zs9 A133 m114.In c134) m114.In o135 ∧ zd (Ty.int .i64) 2 τ' (zs9 A138 m114.Out c139) m114.Out o140 ∧ zhH p0 m43 m114 n x2318 x2331 = some rr) big ⟨c21.length, A26, c27, o28, c21, 0, _, zs1 zsQ, hO, hL, w29.len, w29, w37, w94, w99, w104, w109, w121, w126, w131, w136, w141, hF⟩ ?_
 clear hF hO hL
 rintro n4485 e σ ⟨k2314, A2315, c2316, o2317, x2318, x2331, _, hA, hO, hL, hk2319, w2320, w2321, w2322, w2323, w2324, w2325, w2326, w2327, w2328, w2329, w2330, hF⟩
 rw [← zD _ _ hA]
 cases n4485 with
 | zero => exact nomatch (show none = some rr from hF)
 | succ n4485 =>
 replace hF : zgE (zhH p0 m43 m114 n4485) p0 m43 m114 x2318 x2331 = some rr := hF
 unfold zgE at hF
 subst hk2319
 refine zb (za hO [] [(70, .bool (decide (x2331 < (x2318.length : Int))))] [1, 4, 5, 6, 8, 10] zsS fun j => ?_)
 refine zi hF rfl (fun hF => ?_) fun hF => ?_
 ·refine zl (zW (zV (zc hO 2 [] [(73, zs9 A2315 x2318 c2316), (74, zs2 x2331)] [1, 4, 5, 6, 8, 10] zsT fun j => ?_)))
  obtain ⟨y4487, g4488, hF⟩ := zs8 hF
  refine zbg (T := Ty.u8) hO w2320 (i := 1) rfl rfl rfl g4488 (by decide) fun a4489 _ k4490 m4491 i4492 => ?_
  have k4493 := k4490
  obtain rfl : _ = ([.int .u8 y4487.toNat] : List Value) := k4493
  refine zce (T := Ty.u8) (z' := (85 : UInt8)) (off := 0) (vs := [.int .u8 85]) hO w2320 (i := 1) rfl (by rw [add_zero]; rfl) i4492 g4488 k4490 m4491 rfl rfl rfl rfl (by decide) (show _ = _ from rfl) fun σ o4494 w4495 hO => ?_
  have hO : Obs _ _ [_, _, _, _, _, _, _, _, _, _, _, _, _, _] := hO
  refine ze (zg (zF (zk (zV (za hO [] [(10, zs2 (IntKind.i64.wrap (x2331 + 1)))] [1, 4, 5, 6, 8] zsR fun j => ?_)))))
  refine zg (zk ?_)
  exact ⟨n4485, Nat.lt_succ_self _, x2318.length, A2315, c2316, o4494, (x2318.set (Int.toNat x2331) (85 : UInt8)), (IntKind.i64.wrap (x2331 + 1)), _, zs1 zsQ, hO, hL, w4495.len, w4495, w2321, w2322, w2323, w2324, w2325, w2326, w2327, w2328, w2329, w2330, hF⟩
 refine zbl (zbw (zbD (zk (zb (za hO [] [(11, zs2 0)] [1, 5, 6, 8] zsQ fun j => ?_)))))
 refine zW ?_
 have hO := hO.sel [0, 2, 3, 4, 5, 6, 7, 8, 9, 10, 11, 12, 13]
 refine zbG (fun (n : Nat) e' σ' => ∃ (k5211 : Nat) (A5212 : Option Addr) (c5213 : Nat) (o5214 : Ob) (x5215 : List Int) (x5227 : Int) (τ' : Hp), agr [(1, zs3 b2), (5, .slice A5212 k5211 c5213), (6, zs3 b89), (8, zs3 b116), (11, zs2 x5227)] e' ∧ Obs τ' σ' [zdv b2 (zs9 A0_0 p0.Code c0_0) (zs9 A0_1 p0.Bytes c0_1) p0.Start p0.Words (zs9 A0_4 p0.Input c0_4) p0.Fuel, o5214, zI b89 (zs9 A91 m43.code c92) m43.pc m43.regs (zs9 A96 m43.words c97) (zs9 A101 m43.input c102) (zs9 A106 m43.out c107) (m43.how.toNat : Int) m43.halting, o93, o98, o103, o108, zbz b116 (zs9 A118 m114.Code c119) m114.Pc (zs9 A123 m114.R c124) (zs9 A128 m114.W c129) (zs9 A133 m114.In c134) (zs9 A138 m114.Out c139) (m114.How.toNat : Int) m114.Final, o120, o125, o130, o135, o140] ∧ Hp.le τ τ' ∧ k5211 = x5215.length ∧ zd (Ty.int .i64) 2 τ' (.slice A5212 k5211 c5213) x5215 o5214 ∧ zd Ty.u8 5 τ' (zs9 A91 m43.code c92) m43.code o93 ∧ zd (Ty.int .i64) 2 τ' (zs9 A96 m43.words c97) m43.words o98 ∧ zd (Ty.int .i64) 2 τ' (zs9 A101 m43.input c102) m43.input o103 ∧ zd (Ty.int .i64) 2 τ' (zs9 A106 m43.out c107) m43.out o108 ∧ zd Ty.u8 5 τ' (zs9 A118 m114.Code c119) m114.Code o120 ∧ zd (Ty.int .i64) 2 τ' (zs9 A123 m114.R c124) m114.R o125 ∧ zd (Ty.int .i64) 2 τ' (zs9 A128 m114.W c129) m114.W o130 ∧ zd (Ty.int .i64) 2 τ' (zs9 A133 m114.In c134) m114.In o135 ∧ zd (Ty.int .i64) 2 τ' (zs9 A138 m114.Out c139) m114.Out o140 ∧ zgF p0 m43 m114 n x5215 x5227 = some rr) big ⟨(([] : List Int) ++ p0.Input).length, A34, c35, o36, (([] : List Int) ++ p0.Input), 0, _, zs1 zsP, hO, hL, w2321.len, w2321, w2322, w2323, w2324, w2325, w2326, w2327, w2328, w2329, w2330, hF⟩ ?_
 clear hF hO hL
 rintro n5933 e σ ⟨k5211, A5212, c5213, o5214, x5215, x5227, _, hA, hO, hL, hk5216, w5217, w5218, w5219, w5220, w5221, w5222, w5223, w5224, w5225, w5226, hF⟩
 rw [← zD _ _ hA]
 cases n5933 with
 | zero => exact nomatch (show none = some rr from hF)
 | succ n5933 =>
 replace hF : zgS (zgF p0 m43 m114 n5933) p0 m43 m114 x5215 x5227 = some rr := hF
 unfold zgS at hF
 subst hk5216
 refine zb (za hO [] [(79, .bool (decide (x5227 < (x5215.length : Int))))] [1, 5, 6, 8, 11] zsR fun j => ?_)
 refine zi hF rfl (fun hF => ?_) fun hF => ?_
 ·refine zl (zW (zV (zc hO 2 [] [(82, zs9 A5212 x5215 c5213), (83, zs2 x5227)] [1, 5, 6, 8, 11] zsS fun j => ?_)))
  obtain ⟨y5935, g5936, hF⟩ := zs8 hF
  refine zbg (T := (Ty.int .i64)) hO w5217 (i := 1) rfl rfl rfl g5936 (by decide) fun a5937 _ k5938 m5939 i5940 => ?_
  have k5941 := k5938
  obtain rfl : _ = ([.int .i64 y5935] : List Value) := k5941
  refine zce (T := (Ty.int .i64)) (z' := 85) (off := 0) (vs := [.int .i64 85]) hO w5217 (i := 1) rfl (by rw [add_zero]; rfl) i5940 g5936 k5938 m5939 rfl rfl rfl rfl (by decide) (show _ = _ from rfl) fun σ o5942 w5943 hO => ?_
  have hO : Obs _ _ [_, _, _, _, _, _, _, _, _, _, _, _, _] := hO
  refine ze (zg (zF (zk (zV (za hO [] [(11, zs2 (IntKind.i64.wrap (x5227 + 1)))] [1, 5, 6, 8] zsQ fun j => ?_)))))
  refine zg (zk ?_)
  exact ⟨n5933, Nat.lt_succ_self _, x5215.length, A5212, c5213, o5942, (x5215.set (Int.toNat x5227) 85), (IntKind.i64.wrap (x5227 + 1)), _, zs1 zsP, hO, hL, w5943.len, w5943, w5218, w5219, w5220, w5221, w5222, w5223, w5224, w5225, w5226, hF⟩
 refine zbl (zbw (zbD (zk (zb (zc hO 2 [] [(85, zs3 b89), (86, zs3 b116)] [1, 6, 8] zsQ fun j => ?_)))))
 obtain ⟨_, h5945, r5944, hO⟩ := w5218.share hO (i := 3) rfl
 have hL := hL.trans h5945
 have w5219 := w5219.le h5945
 have w5220 := w5220.le h5945
 have w5221 := w5221.le h5945
 have w5222 := w5222.le h5945
 have w5223 := w5223.le h5945
 have w5224 := w5224.le h5945
 have w5225 := w5225.le h5945
 have w5226 := w5226.le h5945
 have hO : Obs _ _ [_, _, _, _, _, _, _, _, _, _, _, _, _] := hO
 obtain ⟨_, h5947, r5946, hO⟩ := w5220.share hO (i := 5) rfl
 have hL := hL.trans h5947
 have r5944 := r5944.le h5947
 have w5219 := w5219.le h5947
 have w5221 := w5221.le h5947
 have w5222 := w5222.le h5947
 have w5223 := w5223.le h5947
 have w5224 := w5224.le h5947
 have w5225 := w5225.le h5947
 have w5226 := w5226.le h5947
 have hO : Obs _ _ [_, _, _, _, _, _, _, _, _, _, _, _, _] := hO
 obtain ⟨_, h5949, r5948, hO⟩ := w5222.share hO (i := 8) rfl
 have hL := hL.trans h5949
 have r5944 := r5944.le h5949
 have w5219 := w5219.le h5949
 have r5946 := r5946.le h5949
 have w5221 := w5221.le h5949
 have w5223 := w5223.le h5949
 have w5224 := w5224.le h5949
 have w5225 := w5225.le h5949
 have w5226 := w5226.le h5949
 have hO : Obs _ _ [_, _, _, _, _, _, _, _, _, _, _, _, _] := hO
 obtain ⟨_, h5951, r5950, hO⟩ := w5225.share hO (i := 11) rfl
 have hL := hL.trans h5951
 have r5944 := r5944.le h5951
 have w5219 := w5219.le h5951
 have r5946 := r5946.le h5951
 have w5221 := w5221.le h5951
 have r5948 := r5948.le h5951
 have w5223 := w5223.le h5951
 have w5224 := w5224.le h5951
 have w5226 := w5226.le h5951
 have hO : Obs _ _ [_, _, _, _, _, _, _, _, _, _, _, _, _] := hO
 obtain ⟨_, h5953, r5952, hO⟩ := w5226.share hO (i := 12) rfl
 have hL := hL.trans h5953
 have r5944 := r5944.le h5953
 have w5219 := w5219.le h5953
 have r5946 := r5946.le h5953
 have w5221 := w5221.le h5953
 have r5948 := r5948.le h5953
 have w5223 := w5223.le h5953
 have w5224 := w5224.le h5953
 have r5950 := r5950.le h5953
 have hO : Obs _ _ [_, _, _, _, _, _, _, _, _, _, _, _, _] := hO
 obtain ⟨c5954, h5955, hF⟩ := zs8 hF
 have hO := hO.sel [0, 1, 3, 5, 8, 11, 12, 2, 4, 6, 7, 9, 10]
 refine zbe (hs := [_, _, _, _, _, _, _]) (vs := [_, _, _, _, _, _]) hO (zl6 (q0 := (⟨m43.code, m43.pc, m43.regs, m43.words, m43.input, m43.out, m43.how, m43.halting⟩ : zh)) (q1 := (⟨m114.Code, m114.Pc, m114.R, m114.W, m114.In, m114.Out, m114.How, m114.Final⟩ : zQ)) r5944 w5219 r5946 w5221 r5948 w5223 w5224 r5950 r5952 h5955) rfl fun _ σ _ _ hO h5956 h5957 => ?_
 have hL := hL.trans h5956
 have r5944 := r5944.le h5956
 have w5219 := w5219.le h5956
 have r5946 := r5946.le h5956
 have w5221 := w5221.le h5956
 have r5948 := r5948.le h5956
 have w5223 := w5223.le h5956
 have w5224 := w5224.le h5956
 have r5950 := r5950.le h5956
 have r5952 := r5952.le h5956
 obtain ⟨rfl, rfl⟩ := h5957
 have hO : Obs _ _ [_, _, _, _, _, _, _, _, _, _, _, _, _] := hO
 have hO := hO.sel [0, 1, 7, 2, 8, 3, 9, 10, 4, 11, 12, 5, 6]
 have hO : Obs _ _ [_, _, _, _, _, _, _, _, _, _, _, _, _] := hO
 refine za hO [] [(88, .bool (!c5954))] [1, 6, 8] zsP fun j => ?_
 refine zi hF rfl (fun hF => ?_) fun hF => ?_
 ·refine zb (zj hO [] [(2, .bool false)] zsM fun j => ?_)
  refine zp ?_
  cases hF
  have hO := hO.sel []
  exact hQ _ _ _ _ _ rfl hO hL ⟨rfl, rfl⟩
 refine zl (zb (za hO [] [(12, zs2 0)] [1, 6, 8] zsP fun j => ?_))
 refine zef (fun e' σ' => ∃ (A6260 : Option Addr) (c6261 : Nat) (x6262 : List UInt8) (x6264 : Int) (x6265 : (Nat → Int)) (A6266 : Option Addr) (c6267 : Nat) (o6268 : Ob) (x6269 : List Int) (A6271 : Option Addr) (c6272 : Nat) (x6273 : List Int) (A6275 : Option Addr) (c6276 : Nat) (o6277 : Ob) (x6278 : List Int) (x6280 : UInt8) (x6281 : Int) (A6282 : Option Addr) (c6283 : Nat) (x6284 : List UInt8) (x6286 : Int) (A6287 : Option Addr) (c6288 : Nat) (o6289 : Ob) (x6290 : List Int) (A6292 : Option Addr) (c6293 : Nat) (o6294 : Ob) (x6295 : List Int) (A6297 : Option Addr) (c6298 : Nat) (x6299 : List Int) (A6301 : Option Addr) (c6302 : Nat) (x6303 : List Int) (x6305 : UInt8) (x6306 : Int) (τ' : Hp), agr [(1, zs3 b2), (6, zs3 b89), (8, zs3 b116)] e' ∧ Obs τ' σ' [zdv b2 (zs9 A0_0 p0.Code c0_0) (zs9 A0_1 p0.Bytes c0_1) p0.Start p0.Words (zs9 A0_4 p0.Input c0_4) p0.Fuel, zI b89 (zs9 A6260 x6262 c6261) x6264 x6265 (zs9 A6266 x6269 c6267) (zs9 A6271 x6273 c6272) (zs9 A6275 x6278 c6276) (x6280.toNat : Int) x6281, o6268, o6277, zbz b116 (zs9 A6282 x6284 c6283) x6286 (zs9 A6287 x6290 c6288) (zs9 A6292 x6295 c6293) (zs9 A6297 x6299 c6298) (zs9 A6301 x6303 c6302) (x6305.toNat : Int) x6306, o6289, o6294] ∧ Hp.le τ τ' ∧ RdT Ty.u8 τ' (zs9 A6260 x6262 c6261) x6262 ∧ zd (Ty.int .i64) 2 τ' (zs9 A6266 x6269 c6267) x6269 o6268 ∧ RdT (Ty.int .i64) τ' (zs9 A6271 x6273 c6272) x6273 ∧ zd (Ty.int .i64) 2 τ' (zs9 A6275 x6278 c6276) x6278 o6277 ∧ RdT Ty.u8 τ' (zs9 A6282 x6284 c6283) x6284 ∧ zd (Ty.int .i64) 2 τ' (zs9 A6287 x6290 c6288) x6290 o6289 ∧ zd (Ty.int .i64) 2 τ' (zs9 A6292 x6295 c6293) x6295 o6294 ∧ RdT (Ty.int .i64) τ' (zs9 A6297 x6299 c6298) x6299 ∧ RdT (Ty.int .i64) τ' (zs9 A6301 x6303 c6302) x6303 ∧ zf2 p0 x6262 x6264 x6265 x6269 x6273 x6278 x6280 x6281 x6284 x6286 x6290 x6295 x6299 x6303 x6305 x6306 = some rr) ?_ ?_
 ·have hO := hO.sel [0, 2, 4, 6, 7, 9, 10]
  refine zbG (fun (n : Nat) e' σ' => ∃ (A6428 : Option Addr) (c6429 : Nat) (x6430 : List UInt8) (x6432 : Int) (x6433 : (Nat → Int)) (A6434 : Option Addr) (c6435 : Nat) (o6436 : Ob) (x6437 : List Int) (A6439 : Option Addr) (c6440 : Nat) (x6441 : List Int) (A6443 : Option Addr) (c6444 : Nat) (o6445 : Ob) (x6446 : List Int) (x6448 : UInt8) (x6449 : Int) (A6450 : Option Addr) (c6451 : Nat) (x6452 : List UInt8) (x6454 : Int) (A6455 : Option Addr) (c6456 : Nat) (o6457 : Ob) (x6458 : List Int) (A6460 : Option Addr) (c6461 : Nat) (o6462 : Ob) (x6463 : List Int) (A6465 : Option Addr) (c6466 : Nat) (x6467 : List Int) (A6469 : Option Addr) (c6470 : Nat) (x6471 : List Int) (x6473 : UInt8) (x6474 x6475 : Int) (τ' : Hp), agr [(1, zs3 b2), (6, zs3 b89), (8, zs3 b116), (12, zs2 x6475)] e' ∧ Obs τ' σ' [zdv b2 (zs9 A0_0 p0.Code c0_0) (zs9 A0_1 p0.Bytes c0_1) p0.Start p0.Words (zs9 A0_4 p0.Input c0_4) p0.Fuel, zI b89 (zs9 A6428 x6430 c6429) x6432 x6433 (zs9 A6434 x6437 c6435) (zs9 A6439 x6441 c6440) (zs9 A6443 x6446 c6444) (x6448.toNat : Int) x6449, o6436, o6445, zbz b116 (zs9 A6450 x6452 c6451) x6454 (zs9 A6455 x6458 c6456) (zs9 A6460 x6463 c6461) (zs9 A6465 x6467 c6466) (zs9 A6469 x6471 c6470) (x6473.toNat : Int) x6474, o6457, o6462] ∧ Hp.le τ τ' ∧ RdT Ty.u8 τ' (zs9 A6428 x6430 c6429) x6430 ∧ zd (Ty.int .i64) 2 τ' (zs9 A6434 x6437 c6435) x6437 o6436 ∧ RdT (Ty.int .i64) τ' (zs9 A6439 x6441 c6440) x6441 ∧ zd (Ty.int .i64) 2 τ' (zs9 A6443 x6446 c6444) x6446 o6445 ∧ RdT Ty.u8 τ' (zs9 A6450 x6452 c6451) x6452 ∧ zd (Ty.int .i64) 2 τ' (zs9 A6455 x6458 c6456) x6458 o6457 ∧ zd (Ty.int .i64) 2 τ' (zs9 A6460 x6463 c6461) x6463 o6462 ∧ RdT (Ty.int .i64) τ' (zs9 A6465 x6467 c6466) x6467 ∧ RdT (Ty.int .i64) τ' (zs9 A6469 x6471 c6470) x6471 ∧ zhZ p0 n x6430 x6432 x6433 x6437 x6441 x6446 x6448 x6449 x6452 x6454 x6458 x6463 x6467 x6471 x6473 x6474 x6475 = some rr) big ⟨A91, c92, m43.code, m43.pc, m43.regs, A96, c97, o98, m43.words, A101, c102, m43.input, A106, c107, o108, m43.out, m43.how, m43.halting, A118, c119, m114.Code, m114.Pc, A123, c124, o125, m114.R, A128, c129, o130, m114.W, A133, c134, m114.In, A138, c139, m114.Out, m114.How, m114.Final, 0, _, zs1 zsO, hO, hL, r5944, w5219, r5946, w5221, r5948, w5223, w5224, r5950, r5952, hF⟩ ?_
  clear hF hO hL
  rintro n6557 e σ ⟨A6428, c6429, x6430, x6432, x6433, A6434, c6435, o6436, x6437, A6439, c6440, x6441, A6443, c6444, o6445, x6446, x6448, x6449, A6450, c6451, x6452, x6454, A6455, c6456, o6457, x6458, A6460, c6461, o6462, x6463, A6465, c6466, x6467, A6469, c6470, x6471, x6473, x6474, x6475, _, hA, hO, hL, r6431, w6438, r6442, w6447, r6453, w6459, w6464, r6468, r6472, hF⟩
  rw [← zD _ _ hA]
  cases n6557 with
  | zero => exact nomatch (show none = some rr from hF)
  | succ n6557 =>
  replace hF : zhd (zhZ p0 n6557) p0 x6430 x6432 x6433 x6437 x6441 x6446 x6448 x6449 x6452 x6454 x6458 x6463 x6467 x6471 x6473 x6474 x6475 = some rr := hF
  unfold zhd at hF
  refine zb (za hO [0] [(92, .bool (decide (x6475 < p0.Fuel)))] [1, 6, 8, 12] (And.intro (And.intro rfl rfl) zsQ) fun j => ?_)
  refine zi hF rfl (fun hF => ?_) fun hF => ?_
  ·refine zl (zW (zb (z8 (zc hO 2 [] [(95, zs3 b89), (97, zs3 b116)] [1, 6, 8, 12] zsR fun j => ?_))))
   obtain ⟨c6559, h6560, hF⟩ := zs8 hF
   have hO := hO.sel [0, 4, 5, 6, 1, 2, 3]
   refine zbe (hs := [_, _, _, _]) (vs := [_, _, _]) hO (zmQ (q0 := (⟨x6430, x6432, x6433, x6437, x6441, x6446, x6448, x6449⟩ : zh)) r6431 w6438 r6442 w6447 h6560) rfl fun _ σ _ _ hO h6561 h6562 => ?_
   have hL := hL.trans h6561
   have r6453 := r6453.le h6561
   have w6459 := w6459.le h6561
   have w6464 := w6464.le h6561
   have r6468 := r6468.le h6561
   have r6472 := r6472.le h6561
   obtain ⟨v6563, v6567, o6570, v6572, v6576, o6579, rfl, rfl, r6566, w6571, r6575, w6580⟩ := h6562
   obtain ⟨A6564, c6565, rfl, -⟩ := r6566.form
   obtain ⟨A6568, c6569, rfl, -⟩ := w6571.form
   obtain ⟨A6573, c6574, rfl, -⟩ := r6575.form
   obtain ⟨A6577, c6578, rfl, -⟩ := w6580.form
   have hO := zs77 hO
   obtain ⟨c6581, h6582, hF⟩ := zs8 hF
   have hO := hO.sel [0, 4, 5, 6, 1, 2, 3]
   refine zbe (hs := [_, _, _, _]) (vs := [_, _, _]) hO (zrF (q0 := (⟨x6452, x6454, x6458, x6463, x6467, x6471, x6473, x6474⟩ : zQ)) r6453 w6459 w6464 r6468 r6472 h6582) rfl fun _ σ _ _ hO h6583 h6584 => ?_
   have hL := hL.trans h6583
   have r6566 := r6566.le h6583
   have w6571 := w6571.le h6583
   have r6575 := r6575.le h6583
   have w6580 := w6580.le h6583
   obtain ⟨v6585, v6589, o6592, v6594, o6597, v6599, v6603, rfl, rfl, r6588, w6593, w6598, r6602, r6606⟩ := h6584
   obtain ⟨A6586, c6587, rfl, -⟩ := r6588.form
   obtain ⟨A6590, c6591, rfl, -⟩ := w6593.form
   obtain ⟨A6595, c6596, rfl, -⟩ := w6598.form
   obtain ⟨A6600, c6601, rfl, -⟩ := r6602.form
   obtain ⟨A6604, c6605, rfl, -⟩ := r6606.form
   have hO := zs77 hO
   refine zc hO 2 [] [(100, .bool (c6559.1 != c6581.1))] [1, 6, 8, 12] zsQ fun j => ?_
   obtain ⟨c6607, h6608, hF⟩ := zs8 hF
   refine zbN 2 (fun e' σ' => ∃ (τ' : Hp), agr [(108, .bool c6607), (1, zs3 b2), (6, zs3 b89), (8, zs3 b116), (12, zs2 x6475)] e' ∧ Obs τ' σ' [zdv b2 (zs9 A0_0 p0.Code c0_0) (zs9 A0_1 p0.Bytes c0_1) p0.Start p0.Words (zs9 A0_4 p0.Input c0_4) p0.Fuel, zI b89 (zs9 A6564 c6559.2.code c6565) c6559.2.pc c6559.2.regs (zs9 A6568 c6559.2.words c6569) (zs9 A6573 c6559.2.input c6574) (zs9 A6577 c6559.2.out c6578) (c6559.2.how.toNat : Int) c6559.2.halting, o6570, o6579, zbz b116 (zs9 A6586 c6581.2.Code c6587) c6581.2.Pc (zs9 A6590 c6581.2.R c6591) (zs9 A6595 c6581.2.W c6596) (zs9 A6600 c6581.2.In c6601) (zs9 A6604 c6581.2.Out c6605) (c6581.2.How.toNat : Int) c6581.2.Final, o6592, o6597] ∧ Hp.le τ τ' ∧ RdT Ty.u8 τ' (zs9 A6564 c6559.2.code c6565) c6559.2.code ∧ zd (Ty.int .i64) 2 τ' (zs9 A6568 c6559.2.words c6569) c6559.2.words o6570 ∧ RdT (Ty.int .i64) τ' (zs9 A6573 c6559.2.input c6574) c6559.2.input ∧ zd (Ty.int .i64) 2 τ' (zs9 A6577 c6559.2.out c6578) c6559.2.out o6579 ∧ RdT Ty.u8 τ' (zs9 A6586 c6581.2.Code c6587) c6581.2.Code ∧ zd (Ty.int .i64) 2 τ' (zs9 A6590 c6581.2.R c6591) c6581.2.R o6592 ∧ zd (Ty.int .i64) 2 τ' (zs9 A6595 c6581.2.W c6596) c6581.2.W o6597 ∧ RdT (Ty.int .i64) τ' (zs9 A6600 c6581.2.In c6601) c6581.2.In ∧ RdT (Ty.int .i64) τ' (zs9 A6604 c6581.2.Out c6605) c6581.2.Out) ?_ ?_
   ·have hF := h6608
    rcases z1 hF with ⟨hb6609, hF⟩ | ⟨hb6609, hF⟩
    ·refine zcU (zs5 hb6609) ⟨trivial, ⟨trivial, ⟨trivial, ⟨trivial, ⟨trivial, ⟨⟨(zc1 (zs5 hb6609)), trivial⟩, ⟨trivial, trivial⟩⟩⟩⟩⟩⟩⟩ ?_
     refine zw (zs4 hb6609) ?_
     refine ze ?_
     cases hF
     refine zg ?_
     exact ⟨rfl, _, zs1 zsP, hO, hL, r6566, w6571, r6575, w6580, r6588, w6593, w6598, r6602, r6606⟩
    refine zK (zs5 hb6609) ?_
    refine zc hO 5 [4] [(101, zs3 b89), (105, .pointer (some ⟨b116, 6, none⟩)), (106, .int .u8 (c6581.2.How.toNat : Int))] [1, 6, 8, 12, 100] (And.intro (And.intro rfl rfl) zsT) fun j => ?_
    refine zbx ?_
    obtain ⟨c6610, h6611, hF⟩ := zs8 hF
    have hO := hO.sel [0, 4, 5, 6, 1, 2, 3]
    refine zbe (hs := [_, _, _, _]) (vs := [_, _, _]) hO (zg0 (q0 := (⟨c6559.2.code, c6559.2.pc, c6559.2.regs, c6559.2.words, c6559.2.input, c6559.2.out, c6559.2.how, c6559.2.halting⟩ : zh)) r6566 w6571 r6575 w6580 h6611) rfl fun _ σ _ _ hO h6612 h6613 => ?_
    have hL := hL.trans h6612
    have r6588 := r6588.le h6612
    have w6593 := w6593.le h6612
    have w6598 := w6598.le h6612
    have r6602 := r6602.le h6612
    have r6606 := r6606.le h6612
    have r6566 := r6566.le h6612
    have w6571 := w6571.le h6612
    have r6575 := r6575.le h6612
    have w6580 := w6580.le h6612
    obtain ⟨rfl, rfl⟩ := h6613
    have hO := zs77 hO
    have hO := hO.sel [0, 4, 5, 6, 1, 2, 3]
    have hO := zs77 hO
    refine ze (zby ⟨(zcM rfl (hO.val (i := 4) (off := 6) (agg := false) (n := 1) rfl rfl) rfl), trivial⟩ ?_)
    refine zc hO 1 [] [(107, .bool (c6610 != (c6581.2.How.toNat : Int)))] [1, 6, 8, 12, 100] zsR fun j => ?_
    refine zw (zs4 hb6609) ?_
    refine ze ?_
    cases hF
    refine zg ?_
    exact ⟨rfl, _, zs1 zsP, hO, hL, r6566, w6571, r6575, w6580, r6588, w6593, w6598, r6602, r6606⟩
   rintro e σ ⟨_, hA, hO, hL, r6566, w6571, r6575, w6580, r6588, w6593, w6598, r6602, r6606⟩
   rw [← zD _ _ hA]
   refine zc hO 1 [] [(109, .bool c6607)] [1, 6, 8, 12] zsQ fun j => ?_
   obtain ⟨c6614, h6615, hF⟩ := zs8 hF
   refine zbN 2 (fun e' σ' => ∃ (τ' : Hp), agr [(117, .bool c6614), (1, zs3 b2), (6, zs3 b89), (8, zs3 b116), (12, zs2 x6475)] e' ∧ Obs τ' σ' [zdv b2 (zs9 A0_0 p0.Code c0_0) (zs9 A0_1 p0.Bytes c0_1) p0.Start p0.Words (zs9 A0_4 p0.Input c0_4) p0.Fuel, zI b89 (zs9 A6564 c6559.2.code c6565) c6559.2.pc c6559.2.regs (zs9 A6568 c6559.2.words c6569) (zs9 A6573 c6559.2.input c6574) (zs9 A6577 c6559.2.out c6578) (c6559.2.how.toNat : Int) c6559.2.halting, o6570, o6579, zbz b116 (zs9 A6586 c6581.2.Code c6587) c6581.2.Pc (zs9 A6590 c6581.2.R c6591) (zs9 A6595 c6581.2.W c6596) (zs9 A6600 c6581.2.In c6601) (zs9 A6604 c6581.2.Out c6605) (c6581.2.How.toNat : Int) c6581.2.Final, o6592, o6597] ∧ Hp.le τ τ' ∧ RdT Ty.u8 τ' (zs9 A6564 c6559.2.code c6565) c6559.2.code ∧ zd (Ty.int .i64) 2 τ' (zs9 A6568 c6559.2.words c6569) c6559.2.words o6570 ∧ RdT (Ty.int .i64) τ' (zs9 A6573 c6559.2.input c6574) c6559.2.input ∧ zd (Ty.int .i64) 2 τ' (zs9 A6577 c6559.2.out c6578) c6559.2.out o6579 ∧ RdT Ty.u8 τ' (zs9 A6586 c6581.2.Code c6587) c6581.2.Code ∧ zd (Ty.int .i64) 2 τ' (zs9 A6590 c6581.2.R c6591) c6581.2.R o6592 ∧ zd (Ty.int .i64) 2 τ' (zs9 A6595 c6581.2.W c6596) c6581.2.W o6597 ∧ RdT (Ty.int .i64) τ' (zs9 A6600 c6581.2.In c6601) c6581.2.In ∧ RdT (Ty.int .i64) τ' (zs9 A6604 c6581.2.Out c6605) c6581.2.Out) ?_ ?_
   ·have hF := h6615
    rcases z1 hF with ⟨hb6616, hF⟩ | ⟨hb6616, hF⟩
    ·refine zcU (zs5 hb6616) ⟨trivial, ⟨trivial, ⟨trivial, ⟨trivial, ⟨trivial, ⟨⟨(zc1 (zs5 hb6616)), trivial⟩, ⟨trivial, trivial⟩⟩⟩⟩⟩⟩⟩ ?_
     refine zw (zs4 hb6616) ?_
     refine ze ?_
     cases hF
     refine zg ?_
     exact ⟨rfl, _, zs1 zsP, hO, hL, r6566, w6571, r6575, w6580, r6588, w6593, w6598, r6602, r6606⟩
    refine zK (zs5 hb6616) ?_
    refine zc hO 5 [4] [(110, zs3 b89), (114, .pointer (some ⟨b116, 1, none⟩)), (115, zs2 c6581.2.Pc)] [1, 6, 8, 12, 109] (And.intro (And.intro rfl rfl) zsT) fun j => ?_
    refine zbx ?_
    obtain ⟨c6617, h6618, hF⟩ := zs8 hF
    have hO := hO.sel [0, 4, 5, 6, 1, 2, 3]
    refine zbe (hs := [_, _, _, _]) (vs := [_, _, _]) hO (zly (q0 := (⟨c6559.2.code, c6559.2.pc, c6559.2.regs, c6559.2.words, c6559.2.input, c6559.2.out, c6559.2.how, c6559.2.halting⟩ : zh)) r6566 w6571 r6575 w6580 h6618) rfl fun _ σ _ _ hO h6619 h6620 => ?_
    have hL := hL.trans h6619
    have r6588 := r6588.le h6619
    have w6593 := w6593.le h6619
    have w6598 := w6598.le h6619
    have r6602 := r6602.le h6619
    have r6606 := r6606.le h6619
    have r6566 := r6566.le h6619
    have w6571 := w6571.le h6619
    have r6575 := r6575.le h6619
    have w6580 := w6580.le h6619
    obtain ⟨rfl, rfl⟩ := h6620
    have hO := zs77 hO
    have hO := hO.sel [0, 4, 5, 6, 1, 2, 3]
    have hO := zs77 hO
    refine ze (zby ⟨(zcM rfl (hO.val (i := 4) (off := 1) (agg := false) (n := 1) rfl rfl) rfl), trivial⟩ ?_)
    refine zc hO 1 [] [(116, .bool (c6617 != c6581.2.Pc))] [1, 6, 8, 12, 109] zsR fun j => ?_
    refine zw (zs4 hb6616) ?_
    refine ze ?_
    cases hF
    refine zg ?_
    exact ⟨rfl, _, zs1 zsP, hO, hL, r6566, w6571, r6575, w6580, r6588, w6593, w6598, r6602, r6606⟩
   rintro e σ ⟨_, hA, hO, hL, r6566, w6571, r6575, w6580, r6588, w6593, w6598, r6602, r6606⟩
   rw [← zD _ _ hA]
   refine zc hO 1 [] [(118, .bool c6614)] [1, 6, 8, 12] zsQ fun j => ?_
   obtain ⟨c6621, h6622, hF⟩ := zs8 hF
   refine zbN 2 (fun e' σ' => ∃ (τ' : Hp), agr [(127, .bool c6621), (1, zs3 b2), (6, zs3 b89), (8, zs3 b116), (12, zs2 x6475)] e' ∧ Obs τ' σ' [zdv b2 (zs9 A0_0 p0.Code c0_0) (zs9 A0_1 p0.Bytes c0_1) p0.Start p0.Words (zs9 A0_4 p0.Input c0_4) p0.Fuel, zI b89 (zs9 A6564 c6559.2.code c6565) c6559.2.pc c6559.2.regs (zs9 A6568 c6559.2.words c6569) (zs9 A6573 c6559.2.input c6574) (zs9 A6577 c6559.2.out c6578) (c6559.2.how.toNat : Int) c6559.2.halting, o6570, o6579, zbz b116 (zs9 A6586 c6581.2.Code c6587) c6581.2.Pc (zs9 A6590 c6581.2.R c6591) (zs9 A6595 c6581.2.W c6596) (zs9 A6600 c6581.2.In c6601) (zs9 A6604 c6581.2.Out c6605) (c6581.2.How.toNat : Int) c6581.2.Final, o6592, o6597] ∧ Hp.le τ τ' ∧ RdT Ty.u8 τ' (zs9 A6564 c6559.2.code c6565) c6559.2.code ∧ zd (Ty.int .i64) 2 τ' (zs9 A6568 c6559.2.words c6569) c6559.2.words o6570 ∧ RdT (Ty.int .i64) τ' (zs9 A6573 c6559.2.input c6574) c6559.2.input ∧ zd (Ty.int .i64) 2 τ' (zs9 A6577 c6559.2.out c6578) c6559.2.out o6579 ∧ RdT Ty.u8 τ' (zs9 A6586 c6581.2.Code c6587) c6581.2.Code ∧ zd (Ty.int .i64) 2 τ' (zs9 A6590 c6581.2.R c6591) c6581.2.R o6592 ∧ zd (Ty.int .i64) 2 τ' (zs9 A6595 c6581.2.W c6596) c6581.2.W o6597 ∧ RdT (Ty.int .i64) τ' (zs9 A6600 c6581.2.In c6601) c6581.2.In ∧ RdT (Ty.int .i64) τ' (zs9 A6604 c6581.2.Out c6605) c6581.2.Out) ?_ ?_
   ·have hF := h6622
    rcases z1 hF with ⟨hb6623, hF⟩ | ⟨hb6623, hF⟩
    ·refine zcU (zs5 hb6623) ⟨trivial, ⟨trivial, ⟨trivial, ⟨trivial, ⟨trivial, ⟨⟨(zc1 (zs5 hb6623)), trivial⟩, ⟨trivial, ⟨trivial, trivial⟩⟩⟩⟩⟩⟩⟩⟩ ?_
     refine zw (zs4 hb6623) ?_
     refine ze ?_
     cases hF
     refine zg ?_
     exact ⟨rfl, _, zs1 zsP, hO, hL, r6566, w6571, r6575, w6580, r6588, w6593, w6598, r6602, r6606⟩
    refine zK (zs5 hb6623) ?_
    refine zc hO 5 [4] [(119, zs3 b89), (123, .pointer (some ⟨b116, 2, none⟩)), (124, zs9 A6590 c6581.2.R c6591)] [1, 6, 8, 12, 118] (And.intro (And.intro rfl rfl) zsT) fun j => ?_
    refine zbx ?_
    obtain ⟨c6624, h6625, hF⟩ := zs8 hF
    have hO := hO.sel [0, 4, 5, 6, 1, 2, 3]
    refine zbe (hs := [_, _, _, _]) (vs := [_, _, _]) hO (zlq (q0 := (⟨c6559.2.code, c6559.2.pc, c6559.2.regs, c6559.2.words, c6559.2.input, c6559.2.out, c6559.2.how, c6559.2.halting⟩ : zh)) r6566 w6571 r6575 w6580 h6625) rfl fun _ σ _ _ hO h6626 h6627 => ?_
    have hL := hL.trans h6626
    have w6593 := w6593.le h6626
    have r6588 := r6588.le h6626
    have w6598 := w6598.le h6626
    have r6602 := r6602.le h6626
    have r6606 := r6606.le h6626
    have r6566 := r6566.le h6626
    have w6571 := w6571.le h6626
    have r6575 := r6575.le h6626
    have w6580 := w6580.le h6626
    obtain ⟨v6628, o6631, rfl, rfl, w6632⟩ := h6627
    obtain ⟨A6629, c6630, rfl, -⟩ := w6632.form
    have hO := zs78 hO
    have hO := hO.sel [0, 5, 6, 7, 1, 2, 3, 4]
    have hO := zs78 hO
    refine ze (zby ⟨(zcM rfl (hO.val (i := 4) (off := 2) (agg := false) (n := 1) rfl rfl) rfl), trivial⟩ ?_)
    obtain ⟨c6633, h6634, hF⟩ := zs8 hF
    have hO := hO.sel [0, 1, 2, 3, 4, 6, 7, 5]
    refine zbe (hs := [_, _, _, _, _, _]) (vs := [_, _]) hO (Ctr.lendG w6632 (zfH (fun _ _ _ _ h => h)) fun _ lL0 rL0 => Ctr.lendG (w6593.le lL0) (fun _ _ _ _ h => h) fun _ lL1 rL1 => ziB (rL0.le lL1) rL1 h6634) rfl fun _ σ _ _ hO h6635 h6636 => ?_
    have hL := hL.trans h6635
    have w6632 := w6632.le h6635
    have w6593 := w6593.le h6635
    have r6566 := r6566.le h6635
    have w6571 := w6571.le h6635
    have r6575 := r6575.le h6635
    have w6580 := w6580.le h6635
    have r6588 := r6588.le h6635
    have w6598 := w6598.le h6635
    have r6602 := r6602.le h6635
    have r6606 := r6606.le h6635
    obtain ⟨_, rfl, _, rfl, rfl, rfl⟩ := h6636
    have hO := zs78 hO
    have hO := hO.sel [0, 1, 2, 3, 4, 7, 5, 6]
    have hO := zs78 hO
    refine zc hO 1 [] [(126, .bool (!c6633))] [1, 6, 8, 12, 118] zsR fun j => ?_
    refine zw (zs4 hb6623) ?_
    refine ze ?_
    cases hF
    refine zg ?_
    have hO := hO.sel [0, 1, 2, 3, 4, 5, 6]
    exact ⟨rfl, _, zs1 zsP, hO, hL, r6566, w6571, r6575, w6580, r6588, w6593, w6598, r6602, r6606⟩
   rintro e σ ⟨_, hA, hO, hL, r6566, w6571, r6575, w6580, r6588, w6593, w6598, r6602, r6606⟩
   rw [← zD _ _ hA]
   refine ze (zi hF rfl (fun hF => ?_) fun hF => ?_)
   ·refine zb (zj hO [] [(2, .bool false)] zsM fun j => ?_)
    refine zp (zJ (zB (zB (zJ (zB ?_)))))
    cases hF
    have hO := hO.sel []
    exact hQ _ _ _ _ _ rfl hO hL ⟨rfl, rfl⟩
   refine zl (za hO [4] [(132, .bool ((c6581.2.How.toNat : Int) != 0))] [1, 6, 8, 12] (And.intro (And.intro rfl rfl) zsQ) fun j => ?_)
   refine z5 (zi hF rfl (fun hF => ?_) fun hF => ?_)
   ·refine zbl (zss (by decide) ?_)
    refine zbw (zbw (zbD (zk ?_)))
    exact ⟨A6564, c6565, c6559.2.code, c6559.2.pc, c6559.2.regs, A6568, c6569, o6570, c6559.2.words, A6573, c6574, c6559.2.input, A6577, c6578, o6579, c6559.2.out, c6559.2.how, c6559.2.halting, A6586, c6587, c6581.2.Code, c6581.2.Pc, A6590, c6591, o6592, c6581.2.R, A6595, c6596, o6597, c6581.2.W, A6600, c6601, c6581.2.In, A6604, c6605, c6581.2.Out, c6581.2.How, c6581.2.Final, _, zs1 zsN, hO, hL, r6566, w6571, r6575, w6580, r6588, w6593, w6598, r6602, r6606, hF⟩
   refine zl (zg (zF (zk (zV (za hO [] [(12, zs2 (IntKind.i64.wrap (x6475 + 1)))] [1, 6, 8] zsP fun j => ?_)))))
   refine zg (zk ?_)
   exact ⟨n6557, Nat.lt_succ_self _, A6564, c6565, c6559.2.code, c6559.2.pc, c6559.2.regs, A6568, c6569, o6570, c6559.2.words, A6573, c6574, c6559.2.input, A6577, c6578, o6579, c6559.2.out, c6559.2.how, c6559.2.halting, A6586, c6587, c6581.2.Code, c6581.2.Pc, A6590, c6591, o6592, c6581.2.R, A6595, c6596, o6597, c6581.2.W, A6600, c6601, c6581.2.In, A6604, c6605, c6581.2.Out, c6581.2.How, c6581.2.Final, (IntKind.i64.wrap (x6475 + 1)), _, zs1 zsO, hO, hL, r6566, w6571, r6575, w6580, r6588, w6593, w6598, r6602, r6606, hF⟩
  refine zbl (zbw (zbD (zk ?_)))
  exact ⟨A6428, c6429, x6430, x6432, x6433, A6434, c6435, o6436, x6437, A6439, c6440, x6441, A6443, c6444, o6445, x6446, x6448, x6449, A6450, c6451, x6452, x6454, A6455, c6456, o6457, x6458, A6460, c6461, o6462, x6463, A6465, c6466, x6467, A6469, c6470, x6471, x6473, x6474, _, zs1 zsN, hO, hL, r6431, w6438, r6442, w6447, r6453, w6459, w6464, r6468, r6472, hF⟩
 rintro e σ ⟨A6260, c6261, x6262, x6264, x6265, A6266, c6267, o6268, x6269, A6271, c6272, x6273, A6275, c6276, o6277, x6278, x6280, x6281, A6282, c6283, x6284, x6286, A6287, c6288, o6289, x6290, A6292, c6293, o6294, x6295, A6297, c6298, x6299, A6301, c6302, x6303, x6305, x6306, _, hA, hO, hL, r6263, w6270, r6274, w6279, r6285, w6291, w6296, r6300, r6304, hF⟩
 rw [← zD _ _ hA]
 unfold zf2 at hF
 refine zc hO 3 [0] [(134, zs3 b89), (136, zs2 p0.Fuel)] [1, 6, 8] (And.intro (And.intro rfl rfl) zsQ) fun j => ?_
 obtain ⟨c6307, h6308, hF⟩ := zs8 hF
 have hO := hO.sel [0, 4, 5, 6, 1, 2, 3]
 refine zbe (hs := [_, _, _, _]) (vs := [_, _, _]) hO (zpX (q0 := (⟨x6262, x6264, x6265, x6269, x6273, x6278, x6280, x6281⟩ : zh)) r6263 w6270 r6274 w6279 h6308) rfl fun _ σ _ _ hO h6309 h6310 => ?_
 have hL := hL.trans h6309
 have r6285 := r6285.le h6309
 have w6291 := w6291.le h6309
 have w6296 := w6296.le h6309
 have r6300 := r6300.le h6309
 have r6304 := r6304.le h6309
 have r6263 := r6263.le h6309
 have w6270 := w6270.le h6309
 have r6274 := r6274.le h6309
 have w6279 := w6279.le h6309
 obtain ⟨rfl, rfl⟩ := h6310
 have hO := zs77 hO
 have hO := hO.sel [0, 4, 5, 6, 1, 2, 3]
 have hO := zs77 hO
 refine za hO [] [(13, zs2 c6307.1), (14, .bool c6307.2)] [1, 6, 8] zsQ fun j => ?_
 refine z8 (za hO [0, 0, 4] [(15, .bool ((decide (p0.Fuel ≥ 0)) && (decide (p0.Fuel < (x6295.length : Int)))))] [1, 6, 8, 13, 14] (And.intro (And.intro rfl rfl) (And.intro (And.intro rfl rfl) (And.intro (And.intro rfl rfl) (And.intro (And.intro rfl rfl) (fun _ => zs1 zsQ))))) fun j => ?_)
 refine zb (z8 (zc hO 4 [] [(156, .bool (!(c6307.2 == ((decide (p0.Fuel ≥ 0)) && (decide (p0.Fuel < (x6295.length : Int)))))))] [1, 6, 8, 13, 15] zsR fun j => ?_))
 obtain ⟨c6311, h6312, hF⟩ := zs8 hF
 refine zcg 4 [(170, .bool c6311), (6, zs3 b89), (8, zs3 b116), (13, zs2 c6307.1), (15, .bool ((decide (p0.Fuel ≥ 0)) && (decide (p0.Fuel < (x6295.length : Int)))))] (fun Q hQ => ?_) fun j => ?_
 ·have hF := h6312
  rcases z1 hF with ⟨hb6313, hF⟩ | ⟨hb6313, hF⟩
  ·refine zP (zs5 hb6313) ?_
   refine zP rfl ?_
   refine zP (zs5 hb6313) ?_
   refine zw (zs4 hb6313) ?_
   refine ze ?_
   cases hF
   refine zg ?_
   exact hQ _ zsQ
  refine zK (zs5 hb6313) ?_
  refine zc hO 2 [] [(158, .bool ((decide (p0.Fuel ≥ 0)) && (decide (p0.Fuel < (x6295.length : Int)))))] [1, 6, 8, 13, 15, 156] zsS fun j => ?_
  rcases z1 hF with ⟨hb6314, hF⟩ | ⟨hb6314, hF⟩
  ·refine zK (zs6 hb6314) ?_
   refine zc hO 7 [4, 0] [(159, zs2 c6307.1), (163, zs9 A6292 x6295 c6293), (165, zs2 p0.Fuel)] [6, 8, 13, 15, 156, 158] (And.intro (And.intro rfl rfl) (And.intro (And.intro rfl rfl) zsU)) fun j => ?_
   obtain ⟨y6315, g6316, hF⟩ := zs8 hF
   refine zbg (T := (Ty.int .i64)) hO w6296 (i := 6) rfl rfl rfl g6316 (by decide) fun a6317 _ k6318 m6319 i6320 => ?_
   have k6321 := k6318
   obtain rfl : _ = ([.int .i64 y6315] : List Value) := k6321
   refine zL rfl m6319.fst ?_
   refine zc hO 1 [] [(168, .bool (c6307.1 != y6315))] [6, 8, 13, 15, 156, 158] zsS fun j => ?_
   refine zK (zs5 hb6313) ?_
   refine zw (zs4 hb6314) ?_
   refine zw (zs4 hb6313) ?_
   refine ze ?_
   cases hF
   refine zg ?_
   exact hQ _ zsQ
  refine zP (zs6 hb6314) ?_
  refine zK (zs5 hb6313) ?_
  refine zw (zs4 hb6314) ?_
  refine zw (zs4 hb6313) ?_
  refine ze ?_
  cases hF
  refine zg ?_
  exact hQ _ zsQ
 refine zc hO 1 [] [(171, .bool c6311)] [6, 8, 13, 15] zsQ fun j => ?_
 obtain ⟨c6322, h6323, hF⟩ := zs8 hF
 refine zcg 4 [(178, .bool c6322), (6, zs3 b89), (8, zs3 b116)] (fun Q hQ => ?_) fun j => ?_
 ·have hF := h6323
  rcases z1 hF with ⟨hb6324, hF⟩ | ⟨hb6324, hF⟩
  ·refine zP (zs5 hb6324) ?_
   refine zP rfl ?_
   refine zP (zs5 hb6324) ?_
   refine zw (zs4 hb6324) ?_
   refine ze ?_
   cases hF
   refine zg ?_
   exact hQ _ zsO
  refine zK (zs5 hb6324) ?_
  refine zc hO 3 [] [(174, .bool (!((decide (p0.Fuel ≥ 0)) && (decide (p0.Fuel < (x6295.length : Int))))))] [6, 8, 13, 171] zsQ fun j => ?_
  rcases z1 hF with ⟨hb6325, hF⟩ | ⟨hb6325, hF⟩
  ·refine zK (zs6 hb6325) ?_
   refine zc hO 2 [] [(176, .bool (c6307.1 != 0))] [6, 8, 171, 174] zsQ fun j => ?_
   refine zK (zs5 hb6324) ?_
   refine zw (zs4 hb6325) ?_
   refine zw (zs4 hb6324) ?_
   refine ze ?_
   cases hF
   refine zg ?_
   exact hQ _ zsO
  refine zP (zs6 hb6325) ?_
  refine zK (zs5 hb6324) ?_
  refine zw (zs4 hb6325) ?_
  refine zw (zs4 hb6324) ?_
  refine ze ?_
  cases hF
  refine zg ?_
  exact hQ _ zsO
 refine ze (zi hF rfl (fun hF => ?_) fun hF => ?_)
 ·refine zb (zj hO [] [(2, .bool false)] zsM fun j => ?_)
  refine zp ?_
  cases hF
  have hO := hO.sel []
  exact hQ _ _ _ _ _ rfl hO hL ⟨rfl, rfl⟩
 refine zl (zZ hO 2 [] [(179, zs3 b89), (180, zs3 b116)] zsN fun j => ?_)
 obtain ⟨c6327, h6328, hF⟩ := zs8 hF
 refine zbe (hs := [_]) (vs := [_, _, _, _, _, _]) hO (zl6 (q0 := (⟨x6262, x6264, x6265, x6269, x6273, x6278, x6280, x6281⟩ : zh)) (q1 := (⟨x6284, x6286, x6290, x6295, x6299, x6303, x6305, x6306⟩ : zQ)) r6263 w6270 r6274 w6279 r6285 w6291 w6296 r6300 r6304 h6328) rfl fun _ σ _ _ hO h6329 h6330 => ?_
 have hL := hL.trans h6329
 have r6263 := r6263.le h6329
 have w6270 := w6270.le h6329
 have r6274 := r6274.le h6329
 have w6279 := w6279.le h6329
 have r6285 := r6285.le h6329
 have w6291 := w6291.le h6329
 have w6296 := w6296.le h6329
 have r6300 := r6300.le h6329
 have r6304 := r6304.le h6329
 obtain ⟨rfl, rfl⟩ := h6330
 have hO := zs77 hO
 refine zZ hO 1 [] [(182, .bool c6327)] zsM fun j => ?_
 have hO := hO.sel [2, 3, 5, 6]
 have hO := zs74 hO
 obtain ⟨c6331, h6332, hF⟩ := zs8 hF
 refine zbN 2 (fun e' σ' => ∃ (τ' : Hp), agr [(184, .bool c6331)] e' ∧ Obs τ' σ' [none, none, none, none] ∧ Hp.le τ τ') ?_ ?_
 ·have hF := h6332
  rcases z1 hF with ⟨hb6333, hF⟩ | ⟨hb6333, hF⟩
  ·refine zK (zs6 hb6333) ?_
   obtain ⟨c6334, h6335, hF⟩ := zs8 hF
   refine zo hO (zk7 h6335) rfl fun _ σ _ _ hO h6336 h6337 => ?_
   have hL := hL.trans h6336
   obtain ⟨rfl, rfl⟩ := h6337
   have hO := zs74 hO
   refine zw (zs4 hb6333) ?_
   refine ze ?_
   cases hF
   refine zg ?_
   have hO := hO.sel [1000, 1001, 1002, 1003]
   exact ⟨rfl, _, zs1 (trivial), hO, hL⟩
  refine zP (zs6 hb6333) ?_
  refine zw (zs4 hb6333) ?_
  refine ze ?_
  cases hF
  refine zg ?_
  have hO := hO.sel [1000, 1001, 1002, 1003]
  exact ⟨rfl, _, zs1 (trivial), hO, hL⟩
 rintro e σ ⟨_, hA, hO, hL⟩
 rw [← zD _ _ hA]
 refine zj hO [] [(2, .bool c6331)] zsM fun j => ?_
 refine zq ?_
 cases hF
 have hO := hO.sel []
 exact hQ _ _ _ _ _ rfl hO hL ⟨rfl, rfl⟩
end Go.Proofs.YtgkllgoelpfdkaaGreat
