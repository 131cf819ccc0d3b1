import Derived.Test.YtgkllgoelpfdkaaGreatG3
namespace Go.Proofs.YtgkllgoelpfdkaaGreat
open Go.Ab Go.RowKit
set_option linter.unusedVariables false
set_option linter.unusedSimpArgs false
set_option maxRecDepth 10000
set_option maxHeartbeats 1000000
theorem zmf {τ : Hp} {p0 : zbC} {v0_0 : Value} {v0_1 : Value} {v0_4 : Value} {p1 : Int} {p2 : Int} (r0_0 : RdT zdf τ v0_0 p0.Code) (r0_1 : RdT Ty.u8 τ v0_1 p0.Bytes) (r0_4 : RdT (Ty.int .i64) τ v0_4 p0.Input) {rr : Bool} (hF : zhP p0 p1 p2 = some rr) :
  Ctr Tryz.prog 3 #[.agg #[v0_0, v0_1, .int .i64 p0.Start, .int .i64 p0.Words, v0_4, .int .i64 p0.Fuel], .int .i64 p1, .int .i64 p2] τ [] (fun v τ' vs' => v = .bool rr ∧ vs' = []) := by
 obtain ⟨A0_0, c0_0, rfl, -⟩ := r0_0.form
 obtain ⟨A0_1, c0_1, rfl, -⟩ := r0_1.form
 obtain ⟨A0_4, c0_4, rfl, -⟩ := r0_4.form
 refine zw (args := [.agg #[(.slice A0_0 p0.Code.length c0_0), (.slice A0_1 p0.Bytes.length c0_1), .int .i64 p0.Start, .int .i64 p0.Words, (.slice A0_4 p0.Input.length c0_4), .int .i64 p0.Fuel], .int .i64 p1, .int .i64 p2]) hm Tryz.func3 s3 rfl fun w0 σ hO Q hQ => ?_
 unfold zhP at hF
 have hL := Hp.le.refl τ
 show wpn _ _ a3.body _ _ _
 unfold a3
 dsimp only
 refine zbd (n := 6) hO rfl rfl fun b4 σ hO => ?_
 have hO : Obs _ _ [_] := hO
 refine za hO [] [(1, zqP p1), (2, zqP p2), (3, zqQ b4)] zqB fun j => ?_
 refine zf (zb hO 1 [0] [(1, zqP p1), (2, zqP p2), (3, zqQ b4), (25, .agg #[(.slice A0_0 p0.Code.length c0_0), (.slice A0_1 p0.Bytes.length c0_1), (.int .i64 p0.Start), (.int .i64 p0.Words), (.slice A0_4 p0.Input.length c0_4), (.int .i64 p0.Fuel)])] (And.intro (And.intro rfl rfl) zqC) fun j => ?_)
 obtain ⟨c5, h6, hF⟩ := bind_some hF
 refine zs hO (zmh (p0 := (⟨p0.Code, p0.Bytes, p0.Start, p0.Words, p0.Input, p0.Fuel⟩ : zbC)) r0_0 r0_1 r0_4 h6) rfl fun _ σ _ _ hO h7 h8 => ?_
 have hL := hL.trans h7
 have r0_0 := r0_0.le h7
 have r0_1 := r0_1.le h7
 have r0_4 := r0_4.le h7
 obtain ⟨rfl, rfl⟩ := h8
 have hO : Obs _ _ [_] := hO
 refine za hO [] [(1, zqP p1), (2, zqP p2), (3, zqQ b4), (34, .bool ((c5 || (decide (p1 > 1000))) || (decide (p2 > 1000))))] (And.intro (And.intro rfl rfl) (fun _ => And.intro (And.intro rfl rfl) (fun _ => zqO zqB))) fun j => ?_
 rcases zi hF with ⟨hb9, hF⟩ | ⟨hb9, hF⟩
 ·refine zl (congrArg Value.bool hb9) ?_
  refine zf ?_
  obtain ⟨c10, h11, hF⟩ := bind_some hF
  refine zs hO (zgZ h11) rfl fun _ σ _ _ hO h12 h13 => ?_
  have hL := hL.trans h12
  have r0_0 := r0_0.le h12
  have r0_1 := r0_1.le h12
  have r0_4 := r0_4.le h12
  obtain ⟨rfl, rfl⟩ := h13
  have hO : Obs _ _ [_] := hO
  refine za hO [] [(6, .bool c10)] zqz fun j => ?_
  refine zA ?_
  injection hF with hF
  subst hF
  have hO := hO.sel [] (by decide)
  exact hQ _ _ _ _ _ rfl hO hL ⟨rfl, rfl⟩
 ·refine zj (congrArg Value.bool hb9) ?_
  refine zr (zb hO 1 [0] [(1, zqP p1), (2, zqP p2), (3, zqQ b4), (36, .agg #[(.slice A0_0 p0.Code.length c0_0), (.slice A0_1 p0.Bytes.length c0_1), (.int .i64 p0.Start), (.int .i64 p0.Words), (.slice A0_4 p0.Input.length c0_4), (.int .i64 p0.Fuel)])] (And.intro (And.intro rfl rfl) zqC) fun j => ?_)
  obtain ⟨c14, h15, hF⟩ := bind_some hF
  refine zs hO (zoH (p0 := (⟨p0.Code, p0.Bytes, p0.Start, p0.Words, p0.Input, p0.Fuel⟩ : zbC)) r0_0 r0_1 r0_4 h15) rfl fun _ σ _ _ hO h16 h17 => ?_
  have hL := hL.trans h16
  have r0_0 := r0_0.le h16
  have r0_1 := r0_1.le h16
  have r0_4 := r0_4.le h16
  obtain ⟨v18, o21, rfl, rfl, w22⟩ := h17
  obtain ⟨A19, c20, rfl, -⟩ := w22.form
  have hO : Obs _ _ [_, _] := hO
  refine za hO [] [(1, zqP p1), (2, zqP p2), (3, zqQ b4), (7, .slice A19 c14.length c20)] zqC fun j => ?_
  refine zb hO 7 [0, 0, 0] [(1, zqP p1), (2, zqP p2), (3, zqQ b4), (7, .slice A19 c14.length c20), (39, .slice A19 c14.length c20), (41, zqP p0.Start), (43, zqP p0.Words), (45, .slice A0_4 p0.Input.length c0_4)] (And.intro (And.intro rfl rfl) (And.intro (And.intro rfl rfl) (And.intro (And.intro rfl rfl) zqG))) fun j => ?_
  obtain ⟨c23, h24, hF⟩ := bind_some hF
  refine zU (hs := [_]) (vs := [_]) hO (Ctr.lendG w22 zhE fun _ lL0 rL0 => zhb rL0 (r0_4.le lL0) h24) rfl fun _ σ _ _ hO h25 h26 => ?_
  have hL := hL.trans h25
  have w22 := w22.le h25
  have r0_4 := r0_4.le h25
  have r0_0 := r0_0.le h25
  have r0_1 := r0_1.le h25
  rcases zg3 hF with ⟨h28, hF⟩ | ⟨m27, h28, hF⟩
  ·rw [h28] at h26
   obtain ⟨_, rfl, rfl, rfl⟩ := h26
   have hO := hO.sel [0, 1] (by decide)
   refine za hO [] [(1, zqP p1), (2, zqP p2), (3, zqQ b4), (7, .slice A19 c14.length c20), (8, .pointer none), (9, zqP c23.2)] zqE fun j => ?_
   refine zb hO 7 [0, 0, 0] [(1, zqP p1), (2, zqP p2), (8, .pointer none), (9, zqP c23.2), (50, .slice A19 c14.length c20), (52, zqP p0.Start), (54, zqP p0.Words), (56, .slice A0_4 p0.Input.length c0_4)] (And.intro (And.intro rfl rfl) (And.intro (And.intro rfl rfl) (And.intro (And.intro rfl rfl) zqG))) fun j => ?_
   obtain ⟨c29, h30, hF⟩ := bind_some hF
   refine zU (hs := [_]) (vs := [_]) hO (Ctr.lendG w22 zhE fun _ lL0 rL0 => zhb rL0 (r0_4.le lL0) h30) rfl fun _ σ _ _ hO h31 h32 => ?_
   have hL := hL.trans h31
   have w22 := w22.le h31
   have r0_4 := r0_4.le h31
   have r0_0 := r0_0.le h31
   have r0_1 := r0_1.le h31
   rcases zg3 hF with ⟨h34, hF⟩ | ⟨m33, h34, hF⟩
   ·rw [h34] at h32
    obtain ⟨_, rfl, rfl, rfl⟩ := h32
    have hO := hO.sel [0, 1] (by decide)
    refine za hO [] [(1, zqP p1), (2, zqP p2), (8, .pointer none), (9, zqP c23.2), (10, .pointer none), (11, zqP c29.2)] zqE fun j => ?_
    refine zf (za hO [] [(1, zqP p1), (2, zqP p2), (8, .pointer none), (10, .pointer none), (76, .bool (((c23.2 != c29.2) || (!(true == true))) || (!((c23.2 == 0) == false))))] (And.intro (And.intro rfl rfl) (fun _ => And.intro (And.intro rfl rfl) (fun _ => zqO zqC))) fun j => ?_)
    rcases zi hF with ⟨hb35, hF⟩ | ⟨hb35, hF⟩
    ·refine zl (congrArg Value.bool hb35) ?_
     refine zf (za hO [] [(6, .bool false)] zqz fun j => ?_)
     refine zA ?_
     injection hF with hF
     subst hF
     have hO := hO.sel [] (by decide)
     exact hQ _ _ _ _ _ rfl hO hL ⟨rfl, rfl⟩
    ·refine zj (congrArg Value.bool hb35) ?_
     refine zr (zf (za hO [] [(1, zqP p1), (2, zqP p2), (8, .pointer none), (10, .pointer none), (78, .bool true)] zqD fun j => ?_))
     refine zl rfl ?_
     refine zf ?_
     obtain ⟨c36, h37, hF⟩ := bind_some hF
     refine zs hO (zgZ h37) rfl fun _ σ _ _ hO h38 h39 => ?_
     have hL := hL.trans h38
     have r0_0 := r0_0.le h38
     have r0_1 := r0_1.le h38
     have r0_4 := r0_4.le h38
     obtain ⟨rfl, rfl⟩ := h39
     have hO : Obs _ _ [_, _] := hO
     refine za hO [] [(6, .bool c36)] zqz fun j => ?_
     refine zA ?_
     injection hF with hF
     subst hF
     have hO := hO.sel [] (by decide)
     exact hQ _ _ _ _ _ rfl hO hL ⟨rfl, rfl⟩
   ·rw [h34] at h32
    obtain ⟨_, rfl, b40, v41, o44, v46, o49, v51, o54, v56, o59, rfl, rfl, w45, w50, w55, w60⟩ := h32
    obtain ⟨A42, c43, rfl, -⟩ := w45.form
    obtain ⟨A47, c48, rfl, -⟩ := w50.form
    obtain ⟨A52, c53, rfl, -⟩ := w55.form
    obtain ⟨A57, c58, rfl, -⟩ := w60.form
    have hO : Obs _ _ [_, _, _, _, _, _, _] := hO
    refine za hO [] [(1, zqP p1), (2, zqP p2), (8, .pointer none), (9, zqP c23.2), (10, zqQ b40), (11, zqP c29.2)] zqE fun j => ?_
    refine zf (za hO [] [(1, zqP p1), (2, zqP p2), (8, .pointer none), (10, zqQ b40), (76, .bool (((c23.2 != c29.2) || (!(true == false))) || (!((c23.2 == 0) == false))))] (And.intro (And.intro rfl rfl) (fun _ => And.intro (And.intro rfl rfl) (fun _ => zqO zqC))) fun j => ?_)
    rcases zi hF with ⟨hb61, hF⟩ | ⟨hb61, hF⟩
    ·refine zl (congrArg Value.bool hb61) ?_
     refine zf (za hO [] [(6, .bool false)] zqz fun j => ?_)
     refine zA ?_
     injection hF with hF
     subst hF
     have hO := hO.sel [] (by decide)
     exact hQ _ _ _ _ _ rfl hO hL ⟨rfl, rfl⟩
    ·refine zj (congrArg Value.bool hb61) ?_
     refine zr (zf (za hO [] [(1, zqP p1), (2, zqP p2), (8, .pointer none), (10, zqQ b40), (78, .bool true)] zqD fun j => ?_))
     refine zl rfl ?_
     refine zf ?_
     obtain ⟨c62, h63, hF⟩ := bind_some hF
     refine zs hO (zgZ h63) rfl fun _ σ _ _ hO h64 h65 => ?_
     have hL := hL.trans h64
     have r0_0 := r0_0.le h64
     have r0_1 := r0_1.le h64
     have r0_4 := r0_4.le h64
     have w45 := w45.le h64
     have w50 := w50.le h64
     have w55 := w55.le h64
     have w60 := w60.le h64
     obtain ⟨rfl, rfl⟩ := h65
     have hO : Obs _ _ [_, _, _, _, _, _, _] := hO
     refine za hO [] [(6, .bool c62)] zqz fun j => ?_
     refine zA ?_
     injection hF with hF
     subst hF
     have hO := hO.sel [] (by decide)
     exact hQ _ _ _ _ _ rfl hO hL ⟨rfl, rfl⟩
  ·rw [h28] at h26
   obtain ⟨_, rfl, b66, v67, o70, v72, o75, v77, o80, v82, o85, rfl, rfl, w71, w76, w81, w86⟩ := h26
   obtain ⟨A68, c69, rfl, -⟩ := w71.form
   obtain ⟨A73, c74, rfl, -⟩ := w76.form
   obtain ⟨A78, c79, rfl, -⟩ := w81.form
   obtain ⟨A83, c84, rfl, -⟩ := w86.form
   have hO : Obs _ _ [_, _, _, _, _, _, _] := hO
   refine za hO [] [(1, zqP p1), (2, zqP p2), (3, zqQ b4), (7, .slice A19 c14.length c20), (8, zqQ b66), (9, zqP c23.2)] zqE fun j => ?_
   refine zb hO 7 [0, 0, 0] [(1, zqP p1), (2, zqP p2), (8, zqQ b66), (9, zqP c23.2), (50, .slice A19 c14.length c20), (52, zqP p0.Start), (54, zqP p0.Words), (56, .slice A0_4 p0.Input.length c0_4)] (And.intro (And.intro rfl rfl) (And.intro (And.intro rfl rfl) (And.intro (And.intro rfl rfl) zqG))) fun j => ?_
   obtain ⟨c87, h88, hF⟩ := bind_some hF
   have hO := hO.sel [0, 2, 3, 4, 5, 6, 1] (by decide)
   refine zU (hs := [_, _, _, _, _, _]) (vs := [_]) hO (Ctr.lendG w22 zhE fun _ lL0 rL0 => zhb rL0 (r0_4.le lL0) h88) rfl fun _ σ _ _ hO h89 h90 => ?_
   have hL := hL.trans h89
   have w22 := w22.le h89
   have r0_4 := r0_4.le h89
   have r0_0 := r0_0.le h89
   have r0_1 := r0_1.le h89
   have w71 := w71.le h89
   have w76 := w76.le h89
   have w81 := w81.le h89
   have w86 := w86.le h89
   rcases zg3 hF with ⟨h92, hF⟩ | ⟨m91, h92, hF⟩
   ·rw [h92] at h90
    obtain ⟨_, rfl, rfl, rfl⟩ := h90
    have hO := hO.sel [0, 1, 2, 3, 4, 5, 6] (by decide)
    refine za hO [] [(1, zqP p1), (2, zqP p2), (8, zqQ b66), (9, zqP c23.2), (10, .pointer none), (11, zqP c87.2)] zqE fun j => ?_
    refine zf (za hO [] [(1, zqP p1), (2, zqP p2), (8, zqQ b66), (10, .pointer none), (76, .bool (((c23.2 != c87.2) || (!(false == true))) || (!((c23.2 == 0) == true))))] (And.intro (And.intro rfl rfl) (fun _ => And.intro (And.intro rfl rfl) (fun _ => zqO zqC))) fun j => ?_)
    rcases zi hF with ⟨hb93, hF⟩ | ⟨hb93, hF⟩
    ·refine zl (congrArg Value.bool hb93) ?_
     refine zf (za hO [] [(6, .bool false)] zqz fun j => ?_)
     refine zA ?_
     injection hF with hF
     subst hF
     have hO := hO.sel [] (by decide)
     exact hQ _ _ _ _ _ rfl hO hL ⟨rfl, rfl⟩
    ·refine zj (congrArg Value.bool hb93) ?_
     refine zr (zf (za hO [] [(1, zqP p1), (2, zqP p2), (8, zqQ b66), (10, .pointer none), (78, .bool false)] zqD fun j => ?_))
     refine zj rfl ?_
     refine zr (zb hO 2 [] [(1, zqP p1), (2, zqP p2), (8, zqQ b66), (10, .pointer none), (81, zqQ b66), (82, zqP p1)] zqE fun j => ?_)
     obtain ⟨_, h95, r94, hO⟩ := w71.share hO (i := 2) rfl
     have hL := hL.trans h95
     have r0_0 := r0_0.le h95
     have r0_1 := r0_1.le h95
     have r0_4 := r0_4.le h95
     have w76 := w76.le h95
     have w81 := w81.le h95
     have w86 := w86.le h95
     have hO : Obs _ _ [_, _, _, _, _, _, _] := hO
     obtain ⟨_, h97, r96, hO⟩ := w81.share hO (i := 4) rfl
     have hL := hL.trans h97
     have r0_0 := r0_0.le h97
     have r0_1 := r0_1.le h97
     have r0_4 := r0_4.le h97
     have r94 := r94.le h97
     have w76 := w76.le h97
     have w86 := w86.le h97
     have hO : Obs _ _ [_, _, _, _, _, _, _] := hO
     obtain ⟨c98, h99, hF⟩ := bind_some hF
     have hO := hO.sel [0, 2, 4, 6, 1, 3, 5] (by decide)
     refine zU (hs := [_, _, _, _]) (vs := [_, _, _]) hO (zdS (q0 := (⟨m27.code, m27.pc, m27.regs, m27.words, m27.input, m27.out, m27.how, m27.halting⟩ : ze)) r94 w76 r96 w86 h99) rfl fun _ σ _ _ hO h100 h101 => ?_
     have hL := hL.trans h100
     have r0_0 := r0_0.le h100
     have r0_1 := r0_1.le h100
     have r0_4 := r0_4.le h100
     obtain ⟨v102, v106, o109, v111, v115, o118, rfl, rfl, r105, w110, r114, w119⟩ := h101
     obtain ⟨A103, c104, rfl, -⟩ := r105.form
     obtain ⟨A107, c108, rfl, -⟩ := w110.form
     obtain ⟨A112, c113, rfl, -⟩ := r114.form
     obtain ⟨A116, c117, rfl, -⟩ := w119.form
     have hO : Obs _ _ [_, _, _, _, _, _, _] := hO
     refine za hO [] [(1, zqP p1), (2, zqP p2), (8, zqQ b66), (10, .pointer none), (12, .int .u8 c98.1), (13, zqP c98.2.1)] zqE fun j => ?_
     refine zb hO 2 [] [(1, zqP p1), (2, zqP p2), (8, zqQ b66), (10, .pointer none), (12, .int .u8 c98.1), (13, zqP c98.2.1), (87, zqQ b66), (88, zqP p2)] zqG fun j => ?_
     obtain ⟨c120, h121, hF⟩ := bind_some hF
     refine zU (hs := [_, _, _, _]) (vs := [_, _, _]) hO (zdS (q0 := (⟨c98.2.2.code, c98.2.2.pc, c98.2.2.regs, c98.2.2.words, c98.2.2.input, c98.2.2.out, c98.2.2.how, c98.2.2.halting⟩ : ze)) r105 w110 r114 w119 h121) rfl fun _ σ _ _ hO h122 h123 => ?_
     have hL := hL.trans h122
     have r0_0 := r0_0.le h122
     have r0_1 := r0_1.le h122
     have r0_4 := r0_4.le h122
     obtain ⟨v124, v128, o131, v133, v137, o140, rfl, rfl, r127, w132, r136, w141⟩ := h123
     obtain ⟨A125, c126, rfl, -⟩ := r127.form
     obtain ⟨A129, c130, rfl, -⟩ := w132.form
     obtain ⟨A134, c135, rfl, -⟩ := r136.form
     obtain ⟨A138, c139, rfl, -⟩ := w141.form
     have hO : Obs _ _ [_, _, _, _, _, _, _] := hO
     refine za hO [] [(1, zqP p1), (2, zqP p2), (8, zqQ b66), (10, .pointer none), (12, .int .u8 c98.1), (13, zqP c98.2.1), (14, .int .u8 c120.1), (15, zqP c120.2.1)] zqG fun j => ?_
     refine zb hO 6 [] [(2, zqP p2), (8, zqQ b66), (10, .pointer none), (12, .int .u8 c98.1), (13, zqP c98.2.1), (14, .int .u8 c120.1), (15, zqP c120.2.1), (93, .pointer none), (98, zqP (IntKind.i64.wrap ((zbg 0 p1) + (zbg 0 p2))))] zqH fun j => ?_
     exact nomatch (show none = some _ from hF)
   ·rw [h92] at h90
    obtain ⟨_, rfl, b142, v143, o146, v148, o151, v153, o156, v158, o161, rfl, rfl, w147, w152, w157, w162⟩ := h90
    obtain ⟨A144, c145, rfl, -⟩ := w147.form
    obtain ⟨A149, c150, rfl, -⟩ := w152.form
    obtain ⟨A154, c155, rfl, -⟩ := w157.form
    obtain ⟨A159, c160, rfl, -⟩ := w162.form
    have hO : Obs _ _ [_, _, _, _, _, _, _, _, _, _, _, _] := hO
    refine za hO [] [(1, zqP p1), (2, zqP p2), (8, zqQ b66), (9, zqP c23.2), (10, zqQ b142), (11, zqP c87.2)] zqE fun j => ?_
    refine zf (za hO [] [(1, zqP p1), (2, zqP p2), (8, zqQ b66), (10, zqQ b142), (76, .bool (((c23.2 != c87.2) || (!(false == false))) || (!((c23.2 == 0) == true))))] (And.intro (And.intro rfl rfl) (fun _ => And.intro (And.intro rfl rfl) (fun _ => zqO zqC))) fun j => ?_)
    rcases zi hF with ⟨hb163, hF⟩ | ⟨hb163, hF⟩
    ·refine zl (congrArg Value.bool hb163) ?_
     refine zf (za hO [] [(6, .bool false)] zqz fun j => ?_)
     refine zA ?_
     injection hF with hF
     subst hF
     have hO := hO.sel [] (by decide)
     exact hQ _ _ _ _ _ rfl hO hL ⟨rfl, rfl⟩
    ·refine zj (congrArg Value.bool hb163) ?_
     refine zr (zf (za hO [] [(1, zqP p1), (2, zqP p2), (8, zqQ b66), (10, zqQ b142), (78, .bool false)] zqD fun j => ?_))
     refine zj rfl ?_
     refine zr (zb hO 2 [] [(1, zqP p1), (2, zqP p2), (8, zqQ b66), (10, zqQ b142), (81, zqQ b66), (82, zqP p1)] zqE fun j => ?_)
     obtain ⟨_, h165, r164, hO⟩ := w71.share hO (i := 2) rfl
     have hL := hL.trans h165
     have r0_0 := r0_0.le h165
     have r0_1 := r0_1.le h165
     have r0_4 := r0_4.le h165
     have w76 := w76.le h165
     have w81 := w81.le h165
     have w86 := w86.le h165
     have w147 := w147.le h165
     have w152 := w152.le h165
     have w157 := w157.le h165
     have w162 := w162.le h165
     have hO : Obs _ _ [_, _, _, _, _, _, _, _, _, _, _, _] := hO
     obtain ⟨_, h167, r166, hO⟩ := w81.share hO (i := 4) rfl
     have hL := hL.trans h167
     have r0_0 := r0_0.le h167
     have r0_1 := r0_1.le h167
     have r0_4 := r0_4.le h167
     have r164 := r164.le h167
     have w76 := w76.le h167
     have w86 := w86.le h167
     have w147 := w147.le h167
     have w152 := w152.le h167
     have w157 := w157.le h167
     have w162 := w162.le h167
     have hO : Obs _ _ [_, _, _, _, _, _, _, _, _, _, _, _] := hO
     obtain ⟨c168, h169, hF⟩ := bind_some hF
     have hO := hO.sel [0, 2, 4, 6, 7, 8, 9, 10, 11, 1, 3, 5] (by decide)
     refine zU (hs := [_, _, _, _, _, _, _, _, _]) (vs := [_, _, _]) hO (zdS (q0 := (⟨m27.code, m27.pc, m27.regs, m27.words, m27.input, m27.out, m27.how, m27.halting⟩ : ze)) r164 w76 r166 w86 h169) rfl fun _ σ _ _ hO h170 h171 => ?_
     have hL := hL.trans h170
     have r0_0 := r0_0.le h170
     have r0_1 := r0_1.le h170
     have r0_4 := r0_4.le h170
     have w147 := w147.le h170
     have w152 := w152.le h170
     have w157 := w157.le h170
     have w162 := w162.le h170
     obtain ⟨v172, v176, o179, v181, v185, o188, rfl, rfl, r175, w180, r184, w189⟩ := h171
     obtain ⟨A173, c174, rfl, -⟩ := r175.form
     obtain ⟨A177, c178, rfl, -⟩ := w180.form
     obtain ⟨A182, c183, rfl, -⟩ := r184.form
     obtain ⟨A186, c187, rfl, -⟩ := w189.form
     have hO : Obs _ _ [_, _, _, _, _, _, _, _, _, _, _, _] := hO
     refine za hO [] [(1, zqP p1), (2, zqP p2), (8, zqQ b66), (10, zqQ b142), (12, .int .u8 c168.1), (13, zqP c168.2.1)] zqE fun j => ?_
     refine zb hO 2 [] [(1, zqP p1), (2, zqP p2), (8, zqQ b66), (10, zqQ b142), (12, .int .u8 c168.1), (13, zqP c168.2.1), (87, zqQ b66), (88, zqP p2)] zqG fun j => ?_
     obtain ⟨c190, h191, hF⟩ := bind_some hF
     refine zU (hs := [_, _, _, _, _, _, _, _, _]) (vs := [_, _, _]) hO (zdS (q0 := (⟨c168.2.2.code, c168.2.2.pc, c168.2.2.regs, c168.2.2.words, c168.2.2.input, c168.2.2.out, c168.2.2.how, c168.2.2.halting⟩ : ze)) r175 w180 r184 w189 h191) rfl fun _ σ _ _ hO h192 h193 => ?_
     have hL := hL.trans h192
     have r0_0 := r0_0.le h192
     have r0_1 := r0_1.le h192
     have r0_4 := r0_4.le h192
     have w147 := w147.le h192
     have w152 := w152.le h192
     have w157 := w157.le h192
     have w162 := w162.le h192
     obtain ⟨v194, v198, o201, v203, v207, o210, rfl, rfl, r197, w202, r206, w211⟩ := h193
     obtain ⟨A195, c196, rfl, -⟩ := r197.form
     obtain ⟨A199, c200, rfl, -⟩ := w202.form
     obtain ⟨A204, c205, rfl, -⟩ := r206.form
     obtain ⟨A208, c209, rfl, -⟩ := w211.form
     have hO : Obs _ _ [_, _, _, _, _, _, _, _, _, _, _, _] := hO
     refine za hO [] [(1, zqP p1), (2, zqP p2), (8, zqQ b66), (10, zqQ b142), (12, .int .u8 c168.1), (13, zqP c168.2.1), (14, .int .u8 c190.1), (15, zqP c190.2.1)] zqG fun j => ?_
     refine zb hO 6 [] [(2, zqP p2), (8, zqQ b66), (10, zqQ b142), (12, .int .u8 c168.1), (13, zqP c168.2.1), (14, .int .u8 c190.1), (15, zqP c190.2.1), (93, zqQ b142), (98, zqP (IntKind.i64.wrap ((zbg 0 p1) + (zbg 0 p2))))] zqH fun j => ?_
     obtain ⟨_, h213, r212, hO⟩ := w147.share hO (i := 5) rfl
     have hL := hL.trans h213
     have r0_0 := r0_0.le h213
     have r0_1 := r0_1.le h213
     have r0_4 := r0_4.le h213
     have w152 := w152.le h213
     have w157 := w157.le h213
     have w162 := w162.le h213
     have r197 := r197.le h213
     have w202 := w202.le h213
     have r206 := r206.le h213
     have w211 := w211.le h213
     have hO : Obs _ _ [_, _, _, _, _, _, _, _, _, _, _, _] := hO
     obtain ⟨_, h215, r214, hO⟩ := w157.share hO (i := 7) rfl
     have hL := hL.trans h215
     have r0_0 := r0_0.le h215
     have r0_1 := r0_1.le h215
     have r0_4 := r0_4.le h215
     have r212 := r212.le h215
     have w152 := w152.le h215
     have w162 := w162.le h215
     have r197 := r197.le h215
     have w202 := w202.le h215
     have r206 := r206.le h215
     have w211 := w211.le h215
     have hO : Obs _ _ [_, _, _, _, _, _, _, _, _, _, _, _] := hO
     obtain ⟨c216, h217, hF⟩ := bind_some hF
     have hO := hO.sel [0, 1, 2, 3, 5, 7, 9, 10, 11, 4, 6, 8] (by decide)
     refine zU (hs := [_, _, _, _, _, _, _, _, _]) (vs := [_, _, _]) hO (zdS (q0 := (⟨m91.code, m91.pc, m91.regs, m91.words, m91.input, m91.out, m91.how, m91.halting⟩ : ze)) r212 w152 r214 w162 h217) rfl fun _ σ _ _ hO h218 h219 => ?_
     have hL := hL.trans h218
     have r0_0 := r0_0.le h218
     have r0_1 := r0_1.le h218
     have r0_4 := r0_4.le h218
     have r197 := r197.le h218
     have w202 := w202.le h218
     have r206 := r206.le h218
     have w211 := w211.le h218
     obtain ⟨v220, v224, o227, v229, v233, o236, rfl, rfl, r223, w228, r232, w237⟩ := h219
     obtain ⟨A221, c222, rfl, -⟩ := r223.form
     obtain ⟨A225, c226, rfl, -⟩ := w228.form
     obtain ⟨A230, c231, rfl, -⟩ := r232.form
     obtain ⟨A234, c235, rfl, -⟩ := w237.form
     have hO : Obs _ _ [_, _, _, _, _, _, _, _, _, _, _, _] := hO
     refine za hO [] [(2, zqP p2), (8, zqQ b66), (10, zqQ b142), (12, .int .u8 c168.1), (13, zqP c168.2.1), (14, .int .u8 c190.1), (15, zqP c190.2.1), (16, .int .u8 c216.1), (17, zqP c216.2.1)] zqH fun j => ?_
     refine zf (zb hO 4 [] [(2, zqP p2), (8, zqQ b66), (10, zqQ b142), (12, .int .u8 c168.1), (13, zqP c168.2.1), (14, .int .u8 c190.1), (15, zqP c190.2.1), (17, zqP c216.2.1), (105, .bool (c190.1 != c216.1))] zqH fun j => ?_)
     obtain ⟨c238, h239, hF⟩ := bind_some hF
     refine zcS 6 [(119, .bool c238), (8, zqQ b66), (10, zqQ b142), (12, .int .u8 c168.1), (13, zqP c168.2.1), (15, zqP c190.2.1), (17, zqP c216.2.1)] (fun Q hQ => ?_) fun j => ?_
     ·have hF := h239
      rcases zi hF with ⟨hb240, hF⟩ | ⟨hb240, hF⟩
      ·refine zM (congrArg (fun x => isB (.bool x) false) hb240) ?_
       refine zM rfl ?_
       refine zM rfl ?_
       refine zM rfl ?_
       refine zM (congrArg (fun x => isB (.bool x) false) hb240) ?_
       refine zz (congrArg Value.bool hb240) ?_
       refine zh ?_
       injection hF with hF
       subst hF
       refine zg ?_
       exact hQ _ zqF
      ·refine zE (congrArg (fun x => isB (.bool x) false) hb240) ?_
       refine zb hO 3 [] [(2, zqP p2), (8, zqQ b66), (10, zqQ b142), (12, .int .u8 c168.1), (13, zqP c168.2.1), (14, .int .u8 c190.1), (15, zqP c190.2.1), (17, zqP c216.2.1), (105, .bool (c190.1 != c216.1)), (108, .bool (c168.1 != 0))] zqI fun j => ?_
       rcases zi hF with ⟨hb241, hF⟩ | ⟨hb241, hF⟩
       ·refine zE (congrArg (fun x => isB (.bool x) true) hb241) ?_
        refine zb hO 4 [] [(2, zqP p2), (8, zqQ b66), (10, zqQ b142), (12, .int .u8 c168.1), (13, zqP c168.2.1), (15, zqP c190.2.1), (17, zqP c216.2.1), (105, .bool (c190.1 != c216.1)), (108, .bool (c168.1 != 0)), (112, .bool (c190.1 != c168.1))] zqI fun j => ?_
        rcases zi hF with ⟨hb242, hF⟩ | ⟨hb242, hF⟩
        ·refine zM (congrArg (fun x => isB (.bool x) false) hb242) ?_
         refine zE (congrArg (fun x => isB (.bool x) true) hb241) ?_
         refine zz (congrArg Value.bool hb242) ?_
         refine zE (congrArg (fun x => isB (.bool x) false) hb240) ?_
         refine zz (congrArg Value.bool hb241) ?_
         refine zz (congrArg Value.bool hb240) ?_
         refine zh ?_
         injection hF with hF
         subst hF
         refine zg ?_
         exact hQ _ zqF
        ·refine zE (congrArg (fun x => isB (.bool x) false) hb242) ?_
         refine zb hO 4 [] [(8, zqQ b66), (10, zqQ b142), (12, .int .u8 c168.1), (13, zqP c168.2.1), (15, zqP c190.2.1), (17, zqP c216.2.1), (105, .bool (c190.1 != c216.1)), (108, .bool (c168.1 != 0)), (112, .bool (c190.1 != c168.1)), (116, .bool (c190.2.1 != (zbg 0 p2)))] zqI fun j => ?_
         refine zE (congrArg (fun x => isB (.bool x) true) hb241) ?_
         refine zz (congrArg Value.bool hb242) ?_
         refine zE (congrArg (fun x => isB (.bool x) false) hb240) ?_
         refine zz (congrArg Value.bool hb241) ?_
         refine zz (congrArg Value.bool hb240) ?_
         refine zh ?_
         injection hF with hF
         subst hF
         refine zg ?_
         exact hQ _ zqF
       ·refine zM (congrArg (fun x => isB (.bool x) true) hb241) ?_
        refine zM rfl ?_
        refine zM (congrArg (fun x => isB (.bool x) true) hb241) ?_
        refine zE (congrArg (fun x => isB (.bool x) false) hb240) ?_
        refine zz (congrArg Value.bool hb241) ?_
        refine zz (congrArg Value.bool hb240) ?_
        refine zh ?_
        injection hF with hF
        subst hF
        refine zg ?_
        exact hQ _ zqF
     ·refine zb hO 4 [] [(8, zqQ b66), (10, zqQ b142), (12, .int .u8 c168.1), (13, zqP c168.2.1), (127, .bool (c238 || ((IntKind.i64.wrap (c168.2.1 + c190.2.1)) != c216.2.1)))] (And.intro (And.intro rfl rfl) (fun _ => zqO zqC)) fun j => ?_
      obtain ⟨c243, h244, hF⟩ := bind_some hF
      refine zcS 4 [(134, .bool c243), (8, zqQ b66), (10, zqQ b142)] (fun Q hQ => ?_) fun j => ?_
      ·have hF := h244
       rcases zi hF with ⟨hb245, hF⟩ | ⟨hb245, hF⟩
       ·refine zM (congrArg (fun x => isB (.bool x) false) hb245) ?_
        refine zM rfl ?_
        refine zM (congrArg (fun x => isB (.bool x) false) hb245) ?_
        refine zz (congrArg Value.bool hb245) ?_
        refine zh ?_
        injection hF with hF
        subst hF
        refine zg ?_
        exact hQ _ zqB
       ·refine zE (congrArg (fun x => isB (.bool x) false) hb245) ?_
        refine zb hO 3 [] [(8, zqQ b66), (10, zqQ b142), (13, zqP c168.2.1), (127, .bool (c238 || ((IntKind.i64.wrap (c168.2.1 + c190.2.1)) != c216.2.1))), (130, .bool (c168.1 == 0))] zqD fun j => ?_
        rcases zi hF with ⟨hb246, hF⟩ | ⟨hb246, hF⟩
        ·refine zE (congrArg (fun x => isB (.bool x) true) hb246) ?_
         refine zb hO 2 [] [(8, zqQ b66), (10, zqQ b142), (127, .bool (c238 || ((IntKind.i64.wrap (c168.2.1 + c190.2.1)) != c216.2.1))), (130, .bool (c168.1 == 0)), (132, .bool (c168.2.1 != 0))] zqD fun j => ?_
         refine zE (congrArg (fun x => isB (.bool x) false) hb245) ?_
         refine zz (congrArg Value.bool hb246) ?_
         refine zz (congrArg Value.bool hb245) ?_
         refine zh ?_
         injection hF with hF
         subst hF
         refine zg ?_
         exact hQ _ zqB
        ·refine zM (congrArg (fun x => isB (.bool x) true) hb246) ?_
         refine zE (congrArg (fun x => isB (.bool x) false) hb245) ?_
         refine zz (congrArg Value.bool hb246) ?_
         refine zz (congrArg Value.bool hb245) ?_
         refine zh ?_
         injection hF with hF
         subst hF
         refine zg ?_
         exact hQ _ zqB
      ·refine zh ?_
       rcases zi hF with ⟨hb247, hF⟩ | ⟨hb247, hF⟩
       ·refine zl (congrArg Value.bool hb247) ?_
        refine zf (za hO [] [(6, .bool false)] zqz fun j => ?_)
        refine zA ?_
        injection hF with hF
        subst hF
        have hO := hO.sel [] (by decide)
        exact hQ _ _ _ _ _ rfl hO hL ⟨rfl, rfl⟩
       ·refine zj (congrArg Value.bool hb247) ?_
        refine zr (zb hO 1 [] [(8, zqQ b66), (10, zqQ b142), (135, zqQ b66)] zqB fun j => ?_)
        obtain ⟨c248, h249, hF⟩ := bind_some hF
        have hO := hO.sel [0, 1, 2, 3, 4, 5, 9, 10, 11, 6, 7, 8] (by decide)
        refine zU (hs := [_, _, _, _, _, _, _, _, _]) (vs := [_, _, _]) hO (zhI (q0 := (⟨c190.2.2.code, c190.2.2.pc, c190.2.2.regs, c190.2.2.words, c190.2.2.input, c190.2.2.out, c190.2.2.how, c190.2.2.halting⟩ : ze)) r197 w202 r206 w211 h249) rfl fun _ σ _ _ hO h250 h251 => ?_
        have hL := hL.trans h250
        have r0_0 := r0_0.le h250
        have r0_1 := r0_1.le h250
        have r0_4 := r0_4.le h250
        have r223 := r223.le h250
        have w228 := w228.le h250
        have r232 := r232.le h250
        have w237 := w237.le h250
        have r197 := r197.le h250
        have w202 := w202.le h250
        have r206 := r206.le h250
        have w211 := w211.le h250
        obtain ⟨v252, o255, rfl, rfl, w256⟩ := h251
        obtain ⟨A253, c254, rfl, -⟩ := w256.form
        have hO : Obs _ _ [_, _, _, _, _, _, _, _, _, _, _, _, _] := hO
        have hO := hO.sel [0, 1, 2, 3, 4, 5, 10, 11, 12, 6, 7, 8, 9] (by decide)
        have hO : Obs _ _ [_, _, _, _, _, _, _, _, _, _, _, _, _] := hO
        refine za hO [] [(8, zqQ b66), (10, zqQ b142), (18, .slice A253 c248.length c254)] zqB fun j => ?_
        refine zb hO 1 [] [(8, zqQ b66), (10, zqQ b142), (18, .slice A253 c248.length c254), (137, zqQ b66)] zqC fun j => ?_
        obtain ⟨c257, h258, hF⟩ := bind_some hF
        have hO := hO.sel [0, 1, 2, 3, 4, 5, 9, 10, 11, 12, 6, 7, 8] (by decide)
        refine zU (hs := [_, _, _, _, _, _, _, _, _, _]) (vs := [_, _, _]) hO (zic (q0 := (⟨c190.2.2.code, c190.2.2.pc, c190.2.2.regs, c190.2.2.words, c190.2.2.input, c190.2.2.out, c190.2.2.how, c190.2.2.halting⟩ : ze)) r197 w202 r206 w211 h258) rfl fun _ σ _ _ hO h259 h260 => ?_
        have hL := hL.trans h259
        have w256 := w256.le h259
        have r0_0 := r0_0.le h259
        have r0_1 := r0_1.le h259
        have r0_4 := r0_4.le h259
        have r223 := r223.le h259
        have w228 := w228.le h259
        have r232 := r232.le h259
        have w237 := w237.le h259
        have r197 := r197.le h259
        have w202 := w202.le h259
        have r206 := r206.le h259
        have w211 := w211.le h259
        obtain ⟨v261, o264, rfl, rfl, w265⟩ := h260
        obtain ⟨A262, c263, rfl, -⟩ := w265.form
        have hO : Obs _ _ [_, _, _, _, _, _, _, _, _, _, _, _, _, _] := hO
        have hO := hO.sel [0, 1, 2, 3, 4, 5, 11, 12, 13, 6, 7, 8, 9, 10] (by decide)
        have hO : Obs _ _ [_, _, _, _, _, _, _, _, _, _, _, _, _, _] := hO
        refine za hO [] [(8, zqQ b66), (10, zqQ b142), (18, .slice A253 c248.length c254), (19, .slice A262 c257.length c263)] zqC fun j => ?_
        refine zb hO 1 [] [(8, zqQ b66), (10, zqQ b142), (18, .slice A253 c248.length c254), (19, .slice A262 c257.length c263), (139, zqQ b66)] zqD fun j => ?_
        obtain ⟨c266, h267, hF⟩ := bind_some hF
        have hO := hO.sel [0, 1, 2, 3, 4, 5, 9, 10, 11, 12, 13, 6, 7, 8] (by decide)
        refine zU (hs := [_, _, _, _, _, _, _, _, _, _, _]) (vs := [_, _, _]) hO (zfC (q0 := (⟨c190.2.2.code, c190.2.2.pc, c190.2.2.regs, c190.2.2.words, c190.2.2.input, c190.2.2.out, c190.2.2.how, c190.2.2.halting⟩ : ze)) r197 w202 r206 w211 h267) rfl fun _ σ _ _ hO h268 h269 => ?_
        have hL := hL.trans h268
        have w256 := w256.le h268
        have w265 := w265.le h268
        have r0_0 := r0_0.le h268
        have r0_1 := r0_1.le h268
        have r0_4 := r0_4.le h268
        have r223 := r223.le h268
        have w228 := w228.le h268
        have r232 := r232.le h268
        have w237 := w237.le h268
        have r197 := r197.le h268
        have w202 := w202.le h268
        have r206 := r206.le h268
        have w211 := w211.le h268
        obtain ⟨v270, o273, rfl, rfl, w274⟩ := h269
        obtain ⟨A271, c272, rfl, -⟩ := w274.form
        have hO : Obs _ _ [_, _, _, _, _, _, _, _, _, _, _, _, _, _, _] := hO
        have hO := hO.sel [0, 1, 2, 3, 4, 5, 12, 13, 14, 6, 7, 8, 9, 10, 11] (by decide)
        have hO : Obs _ _ [_, _, _, _, _, _, _, _, _, _, _, _, _, _, _] := hO
        refine za hO [] [(8, zqQ b66), (10, zqQ b142), (18, .slice A253 c248.length c254), (19, .slice A262 c257.length c263), (20, .slice A271 c266.length c272)] zqD fun j => ?_
        refine zb hO 1 [] [(8, zqQ b66), (10, zqQ b142), (18, .slice A253 c248.length c254), (19, .slice A262 c257.length c263), (20, .slice A271 c266.length c272), (141, zqQ b66)] zqE fun j => ?_
        obtain ⟨c275, h276, hF⟩ := bind_some hF
        have hO := hO.sel [0, 1, 2, 3, 4, 5, 9, 10, 11, 12, 13, 14, 6, 7, 8] (by decide)
        refine zU (hs := [_, _, _, _, _, _, _, _, _, _, _, _]) (vs := [_, _, _]) hO (zkS (q0 := (⟨c190.2.2.code, c190.2.2.pc, c190.2.2.regs, c190.2.2.words, c190.2.2.input, c190.2.2.out, c190.2.2.how, c190.2.2.halting⟩ : ze)) r197 w202 r206 w211 h276) rfl fun _ σ _ _ hO h277 h278 => ?_
        have hL := hL.trans h277
        have w256 := w256.le h277
        have w265 := w265.le h277
        have w274 := w274.le h277
        have r0_0 := r0_0.le h277
        have r0_1 := r0_1.le h277
        have r0_4 := r0_4.le h277
        have r223 := r223.le h277
        have w228 := w228.le h277
        have r232 := r232.le h277
        have w237 := w237.le h277
        have r197 := r197.le h277
        have w202 := w202.le h277
        have r206 := r206.le h277
        have w211 := w211.le h277
        obtain ⟨rfl, rfl⟩ := h278
        have hO : Obs _ _ [_, _, _, _, _, _, _, _, _, _, _, _, _, _, _] := hO
        have hO := hO.sel [0, 1, 2, 3, 4, 5, 12, 13, 14, 6, 7, 8, 9, 10, 11] (by decide)
        have hO : Obs _ _ [_, _, _, _, _, _, _, _, _, _, _, _, _, _, _] := hO
        refine zb hO 1 [] [(8, zqQ b66), (10, zqQ b142), (18, .slice A253 c248.length c254), (19, .slice A262 c257.length c263), (20, .slice A271 c266.length c272), (142, zqP c275), (143, zqQ b142)] zqF fun j => ?_
        obtain ⟨c279, h280, hF⟩ := bind_some hF
        have hO := hO.sel [0, 1, 2, 3, 4, 5, 6, 7, 8, 12, 13, 14, 9, 10, 11] (by decide)
        refine zU (hs := [_, _, _, _, _, _, _, _, _, _, _, _]) (vs := [_, _, _]) hO (zkS (q0 := (⟨c216.2.2.code, c216.2.2.pc, c216.2.2.regs, c216.2.2.words, c216.2.2.input, c216.2.2.out, c216.2.2.how, c216.2.2.halting⟩ : ze)) r223 w228 r232 w237 h280) rfl fun _ σ _ _ hO h281 h282 => ?_
        have hL := hL.trans h281
        have w256 := w256.le h281
        have w265 := w265.le h281
        have w274 := w274.le h281
        have r0_0 := r0_0.le h281
        have r0_1 := r0_1.le h281
        have r0_4 := r0_4.le h281
        have r197 := r197.le h281
        have w202 := w202.le h281
        have r206 := r206.le h281
        have w211 := w211.le h281
        have r223 := r223.le h281
        have w228 := w228.le h281
        have r232 := r232.le h281
        have w237 := w237.le h281
        obtain ⟨rfl, rfl⟩ := h282
        have hO : Obs _ _ [_, _, _, _, _, _, _, _, _, _, _, _, _, _, _] := hO
        have hO := hO.sel [0, 1, 2, 3, 4, 5, 6, 7, 8, 12, 13, 14, 9, 10, 11] (by decide)
        have hO : Obs _ _ [_, _, _, _, _, _, _, _, _, _, _, _, _, _, _] := hO
        refine zb hO 2 [] [(8, zqQ b66), (10, zqQ b142), (18, .slice A253 c248.length c254), (19, .slice A262 c257.length c263), (20, .slice A271 c266.length c272), (146, .bool (c275 == c279))] zqE fun j => ?_
        have hO := hO.sel [6, 7, 8, 9, 10, 11, 12, 13, 14] (by decide)
        have hO : Obs _ _ [_, _, _, _, _, _, _, _, _] := hO
        obtain ⟨c283, h284, hF⟩ := bind_some hF
        refine zbG 2 (fun e' σ' => ∃ (τ' : Hp), agr [(152, .bool c283), (8, zqQ b66), (10, zqQ b142), (18, .slice A253 c248.length c254), (19, .slice A262 c257.length c263), (20, .slice A271 c266.length c272)] e' ∧ Obs τ' σ' [some (b66, ⟨[.slice A195 c190.2.2.code.length c196, .int .i64 c190.2.2.pc, .int .i64 (c190.2.2.regs 0), .int .i64 (c190.2.2.regs 1), .int .i64 (c190.2.2.regs 2), .int .i64 (c190.2.2.regs 3), .int .i64 (c190.2.2.regs 4), .int .i64 (c190.2.2.regs 5), .int .i64 (c190.2.2.regs 6), .int .i64 (c190.2.2.regs 7), .int .i64 (c190.2.2.regs 8), .int .i64 (c190.2.2.regs 9), .int .i64 (c190.2.2.regs 10), .int .i64 (c190.2.2.regs 11), .int .i64 (c190.2.2.regs 12), .int .i64 (c190.2.2.regs 13), .int .i64 (c190.2.2.regs 14), .int .i64 (c190.2.2.regs 15), .slice A199 c190.2.2.words.length c200, .slice A204 c190.2.2.input.length c205, .slice A208 c190.2.2.out.length c209, .int .u8 (c190.2.2.how.toNat : Int), .int .i64 c190.2.2.halting], 58, 23, true⟩), o201, o210, some (b142, ⟨[.slice A221 c216.2.2.code.length c222, .int .i64 c216.2.2.pc, .int .i64 (c216.2.2.regs 0), .int .i64 (c216.2.2.regs 1), .int .i64 (c216.2.2.regs 2), .int .i64 (c216.2.2.regs 3), .int .i64 (c216.2.2.regs 4), .int .i64 (c216.2.2.regs 5), .int .i64 (c216.2.2.regs 6), .int .i64 (c216.2.2.regs 7), .int .i64 (c216.2.2.regs 8), .int .i64 (c216.2.2.regs 9), .int .i64 (c216.2.2.regs 10), .int .i64 (c216.2.2.regs 11), .int .i64 (c216.2.2.regs 12), .int .i64 (c216.2.2.regs 13), .int .i64 (c216.2.2.regs 14), .int .i64 (c216.2.2.regs 15), .slice A225 c216.2.2.words.length c226, .slice A230 c216.2.2.input.length c231, .slice A234 c216.2.2.out.length c235, .int .u8 (c216.2.2.how.toNat : Int), .int .i64 c216.2.2.halting], 58, 23, true⟩), o227, o236, o255, o264, o273] ∧ Hp.le τ τ' ∧ zd (Ty.int .i64) 2 τ' (.slice A253 c248.length c254) c248 o255 ∧ zd (Ty.int .i64) 2 τ' (.slice A262 c257.length c263) c257 o264 ∧ zd (Ty.int .i64) 2 τ' (.slice A271 c266.length c272) c266 o273 ∧ RdT Ty.u8 τ' (.slice A195 c190.2.2.code.length c196) c190.2.2.code ∧ zd (Ty.int .i64) 2 τ' (.slice A199 c190.2.2.words.length c200) c190.2.2.words o201 ∧ RdT (Ty.int .i64) τ' (.slice A204 c190.2.2.input.length c205) c190.2.2.input ∧ zd (Ty.int .i64) 2 τ' (.slice A208 c190.2.2.out.length c209) c190.2.2.out o210 ∧ RdT Ty.u8 τ' (.slice A221 c216.2.2.code.length c222) c216.2.2.code ∧ zd (Ty.int .i64) 2 τ' (.slice A225 c216.2.2.words.length c226) c216.2.2.words o227 ∧ RdT (Ty.int .i64) τ' (.slice A230 c216.2.2.input.length c231) c216.2.2.input ∧ zd (Ty.int .i64) 2 τ' (.slice A234 c216.2.2.out.length c235) c216.2.2.out o236) ?_ ?_
        ·have hF := h284
         rcases zi hF with ⟨hb285, hF⟩ | ⟨hb285, hF⟩
         ·refine zE (congrArg (fun x => isB (.bool x) true) hb285) ?_
          refine zb hO 1 [] [(8, zqQ b66), (10, zqQ b142), (18, .slice A253 c248.length c254), (19, .slice A262 c257.length c263), (20, .slice A271 c266.length c272), (146, .bool (c275 == c279)), (147, zqQ b66)] zqF fun j => ?_
          obtain ⟨c286, h287, hF⟩ := bind_some hF
          have hO := hO.sel [3, 4, 5, 6, 7, 8, 0, 1, 2] (by decide)
          refine zU (hs := [_, _, _, _, _, _]) (vs := [_, _, _]) hO (zl0 (q0 := (⟨c190.2.2.code, c190.2.2.pc, c190.2.2.regs, c190.2.2.words, c190.2.2.input, c190.2.2.out, c190.2.2.how, c190.2.2.halting⟩ : ze)) r197 w202 r206 w211 h287) rfl fun _ σ _ _ hO h288 h289 => ?_
          have hL := hL.trans h288
          have w256 := w256.le h288
          have w265 := w265.le h288
          have w274 := w274.le h288
          have r223 := r223.le h288
          have w228 := w228.le h288
          have r232 := r232.le h288
          have w237 := w237.le h288
          have r197 := r197.le h288
          have w202 := w202.le h288
          have r206 := r206.le h288
          have w211 := w211.le h288
          obtain ⟨rfl, rfl⟩ := h289
          have hO : Obs _ _ [_, _, _, _, _, _, _, _, _] := hO
          have hO := hO.sel [6, 7, 8, 0, 1, 2, 3, 4, 5] (by decide)
          have hO : Obs _ _ [_, _, _, _, _, _, _, _, _] := hO
          refine zb hO 1 [] [(8, zqQ b66), (10, zqQ b142), (18, .slice A253 c248.length c254), (19, .slice A262 c257.length c263), (20, .slice A271 c266.length c272), (146, .bool (c275 == c279)), (148, zqP c286), (149, zqQ b142)] zqG fun j => ?_
          obtain ⟨c290, h291, hF⟩ := bind_some hF
          have hO := hO.sel [0, 1, 2, 6, 7, 8, 3, 4, 5] (by decide)
          refine zU (hs := [_, _, _, _, _, _]) (vs := [_, _, _]) hO (zl0 (q0 := (⟨c216.2.2.code, c216.2.2.pc, c216.2.2.regs, c216.2.2.words, c216.2.2.input, c216.2.2.out, c216.2.2.how, c216.2.2.halting⟩ : ze)) r223 w228 r232 w237 h291) rfl fun _ σ _ _ hO h292 h293 => ?_
          have hL := hL.trans h292
          have w256 := w256.le h292
          have w265 := w265.le h292
          have w274 := w274.le h292
          have r197 := r197.le h292
          have w202 := w202.le h292
          have r206 := r206.le h292
          have w211 := w211.le h292
          have r223 := r223.le h292
          have w228 := w228.le h292
          have r232 := r232.le h292
          have w237 := w237.le h292
          obtain ⟨rfl, rfl⟩ := h293
          have hO : Obs _ _ [_, _, _, _, _, _, _, _, _] := hO
          have hO := hO.sel [0, 1, 2, 6, 7, 8, 3, 4, 5] (by decide)
          have hO : Obs _ _ [_, _, _, _, _, _, _, _, _] := hO
          refine zb hO 1 [] [(8, zqQ b66), (10, zqQ b142), (18, .slice A253 c248.length c254), (19, .slice A262 c257.length c263), (20, .slice A271 c266.length c272), (146, .bool (c275 == c279)), (151, .bool (c286 == c290))] zqF fun j => ?_
          refine zz (congrArg Value.bool hb285) ?_
          refine zh ?_
          injection hF with hF
          subst hF
          refine zg ?_
          exact ⟨rfl, _, zqO zqD, hO, hL, w256, w265, w274, r197, w202, r206, w211, r223, w228, r232, w237⟩
         ·refine zM (congrArg (fun x => isB (.bool x) true) hb285) ?_
          refine zz (congrArg Value.bool hb285) ?_
          refine zh ?_
          injection hF with hF
          subst hF
          refine zg ?_
          exact ⟨rfl, _, zqO zqD, hO, hL, w256, w265, w274, r197, w202, r206, w211, r223, w228, r232, w237⟩
        ·rintro e σ ⟨_, hA, hO, hL, w256, w265, w274, r197, w202, r206, w211, r223, w228, r232, w237⟩
         rw [← zB _ _ hA]
         refine zb hO 1 [] [(8, zqQ b66), (10, zqQ b142), (18, .slice A253 c248.length c254), (19, .slice A262 c257.length c263), (20, .slice A271 c266.length c272), (153, .bool c283)] zqE fun j => ?_
         obtain ⟨c294, h295, hF⟩ := bind_some hF
         refine zbG 2 (fun e' σ' => ∃ (τ' : Hp), agr [(158, .bool c294), (8, zqQ b66), (10, zqQ b142), (18, .slice A253 c248.length c254), (19, .slice A262 c257.length c263), (20, .slice A271 c266.length c272)] e' ∧ Obs τ' σ' [some (b66, ⟨[.slice A195 c190.2.2.code.length c196, .int .i64 c190.2.2.pc, .int .i64 (c190.2.2.regs 0), .int .i64 (c190.2.2.regs 1), .int .i64 (c190.2.2.regs 2), .int .i64 (c190.2.2.regs 3), .int .i64 (c190.2.2.regs 4), .int .i64 (c190.2.2.regs 5), .int .i64 (c190.2.2.regs 6), .int .i64 (c190.2.2.regs 7), .int .i64 (c190.2.2.regs 8), .int .i64 (c190.2.2.regs 9), .int .i64 (c190.2.2.regs 10), .int .i64 (c190.2.2.regs 11), .int .i64 (c190.2.2.regs 12), .int .i64 (c190.2.2.regs 13), .int .i64 (c190.2.2.regs 14), .int .i64 (c190.2.2.regs 15), .slice A199 c190.2.2.words.length c200, .slice A204 c190.2.2.input.length c205, .slice A208 c190.2.2.out.length c209, .int .u8 (c190.2.2.how.toNat : Int), .int .i64 c190.2.2.halting], 58, 23, true⟩), o201, o210, some (b142, ⟨[.slice A221 c216.2.2.code.length c222, .int .i64 c216.2.2.pc, .int .i64 (c216.2.2.regs 0), .int .i64 (c216.2.2.regs 1), .int .i64 (c216.2.2.regs 2), .int .i64 (c216.2.2.regs 3), .int .i64 (c216.2.2.regs 4), .int .i64 (c216.2.2.regs 5), .int .i64 (c216.2.2.regs 6), .int .i64 (c216.2.2.regs 7), .int .i64 (c216.2.2.regs 8), .int .i64 (c216.2.2.regs 9), .int .i64 (c216.2.2.regs 10), .int .i64 (c216.2.2.regs 11), .int .i64 (c216.2.2.regs 12), .int .i64 (c216.2.2.regs 13), .int .i64 (c216.2.2.regs 14), .int .i64 (c216.2.2.regs 15), .slice A225 c216.2.2.words.length c226, .slice A230 c216.2.2.input.length c231, .slice A234 c216.2.2.out.length c235, .int .u8 (c216.2.2.how.toNat : Int), .int .i64 c216.2.2.halting], 58, 23, true⟩), o227, o236, o255, o264, o273] ∧ Hp.le τ τ' ∧ zd (Ty.int .i64) 2 τ' (.slice A253 c248.length c254) c248 o255 ∧ zd (Ty.int .i64) 2 τ' (.slice A262 c257.length c263) c257 o264 ∧ zd (Ty.int .i64) 2 τ' (.slice A271 c266.length c272) c266 o273 ∧ RdT Ty.u8 τ' (.slice A195 c190.2.2.code.length c196) c190.2.2.code ∧ zd (Ty.int .i64) 2 τ' (.slice A199 c190.2.2.words.length c200) c190.2.2.words o201 ∧ RdT (Ty.int .i64) τ' (.slice A204 c190.2.2.input.length c205) c190.2.2.input ∧ zd (Ty.int .i64) 2 τ' (.slice A208 c190.2.2.out.length c209) c190.2.2.out o210 ∧ RdT Ty.u8 τ' (.slice A221 c216.2.2.code.length c222) c216.2.2.code ∧ zd (Ty.int .i64) 2 τ' (.slice A225 c216.2.2.words.length c226) c216.2.2.words o227 ∧ RdT (Ty.int .i64) τ' (.slice A230 c216.2.2.input.length c231) c216.2.2.input ∧ zd (Ty.int .i64) 2 τ' (.slice A234 c216.2.2.out.length c235) c216.2.2.out o236) ?_ ?_
         ·have hF := h295
          rcases zi hF with ⟨hb296, hF⟩ | ⟨hb296, hF⟩
          ·refine zE (congrArg (fun x => isB (.bool x) true) hb296) ?_
           refine zb hO 2 [] [(8, zqQ b66), (10, zqQ b142), (18, .slice A253 c248.length c254), (19, .slice A262 c257.length c263), (20, .slice A271 c266.length c272), (153, .bool c283), (154, .slice A253 c248.length c254), (155, zqQ b142)] zqG fun j => ?_
           obtain ⟨c297, h298, hF⟩ := bind_some hF
           have hO := hO.sel [0, 1, 2, 6, 7, 8, 3, 4, 5] (by decide)
           refine zU (hs := [_, _, _, _, _, _]) (vs := [_, _, _]) hO (zhI (q0 := (⟨c216.2.2.code, c216.2.2.pc, c216.2.2.regs, c216.2.2.words, c216.2.2.input, c216.2.2.out, c216.2.2.how, c216.2.2.halting⟩ : ze)) r223 w228 r232 w237 h298) rfl fun _ σ _ _ hO h299 h300 => ?_
           have hL := hL.trans h299
           have w256 := w256.le h299
           have w265 := w265.le h299
           have w274 := w274.le h299
           have r197 := r197.le h299
           have w202 := w202.le h299
           have r206 := r206.le h299
           have w211 := w211.le h299
           have r223 := r223.le h299
           have w228 := w228.le h299
           have r232 := r232.le h299
           have w237 := w237.le h299
           obtain ⟨v301, o304, rfl, rfl, w305⟩ := h300
           obtain ⟨A302, c303, rfl, -⟩ := w305.form
           have hO : Obs _ _ [_, _, _, _, _, _, _, _, _, _] := hO
           have hO := hO.sel [0, 1, 2, 7, 8, 9, 3, 4, 5, 6] (by decide)
           have hO : Obs _ _ [_, _, _, _, _, _, _, _, _, _] := hO
           obtain ⟨c306, h307, hF⟩ := bind_some hF
           have hO := hO.sel [0, 1, 2, 3, 4, 5, 7, 8, 6, 9] (by decide)
           refine zU (hs := [_, _, _, _, _, _, _, _]) (vs := [_, _]) hO (Ctr.lendG w256 (zeJ (fun _ _ _ _ h => h)) fun _ lL0 rL0 => Ctr.lendG (w305.le lL0) (fun _ _ _ _ h => h) fun _ lL1 rL1 => zet (rL0.le lL1) rL1 h307) rfl fun _ σ _ _ hO h308 h309 => ?_
           have hL := hL.trans h308
           have w256 := w256.le h308
           have w265 := w265.le h308
           have w274 := w274.le h308
           have w305 := w305.le h308
           have r197 := r197.le h308
           have w202 := w202.le h308
           have r206 := r206.le h308
           have w211 := w211.le h308
           have r223 := r223.le h308
           have w228 := w228.le h308
           have r232 := r232.le h308
           have w237 := w237.le h308
           obtain ⟨_, rfl, _, rfl, rfl, rfl⟩ := h309
           have hO : Obs _ _ [_, _, _, _, _, _, _, _, _, _] := hO
           have hO := hO.sel [0, 1, 2, 3, 4, 5, 8, 6, 7, 9] (by decide)
           have hO : Obs _ _ [_, _, _, _, _, _, _, _, _, _] := hO
           refine zz (congrArg Value.bool hb296) ?_
           refine zh ?_
           injection hF with hF
           subst hF
           refine zg ?_
           have hO := hO.sel [0, 1, 2, 3, 4, 5, 6, 7, 8] (by decide)
           exact ⟨rfl, _, zqO zqD, hO, hL, w256, w265, w274, r197, w202, r206, w211, r223, w228, r232, w237⟩
          ·refine zM (congrArg (fun x => isB (.bool x) true) hb296) ?_
           refine zz (congrArg Value.bool hb296) ?_
           refine zh ?_
           injection hF with hF
           subst hF
           refine zg ?_
           exact ⟨rfl, _, zqO zqD, hO, hL, w256, w265, w274, r197, w202, r206, w211, r223, w228, r232, w237⟩
         ·rintro e σ ⟨_, hA, hO, hL, w256, w265, w274, r197, w202, r206, w211, r223, w228, r232, w237⟩
          rw [← zB _ _ hA]
          refine zb hO 1 [] [(8, zqQ b66), (10, zqQ b142), (18, .slice A253 c248.length c254), (19, .slice A262 c257.length c263), (20, .slice A271 c266.length c272), (159, .bool c294)] zqE fun j => ?_
          obtain ⟨c310, h311, hF⟩ := bind_some hF
          refine zbG 2 (fun e' σ' => ∃ (τ' : Hp), agr [(164, .bool c310), (8, zqQ b66), (10, zqQ b142), (18, .slice A253 c248.length c254), (19, .slice A262 c257.length c263), (20, .slice A271 c266.length c272)] e' ∧ Obs τ' σ' [some (b66, ⟨[.slice A195 c190.2.2.code.length c196, .int .i64 c190.2.2.pc, .int .i64 (c190.2.2.regs 0), .int .i64 (c190.2.2.regs 1), .int .i64 (c190.2.2.regs 2), .int .i64 (c190.2.2.regs 3), .int .i64 (c190.2.2.regs 4), .int .i64 (c190.2.2.regs 5), .int .i64 (c190.2.2.regs 6), .int .i64 (c190.2.2.regs 7), .int .i64 (c190.2.2.regs 8), .int .i64 (c190.2.2.regs 9), .int .i64 (c190.2.2.regs 10), .int .i64 (c190.2.2.regs 11), .int .i64 (c190.2.2.regs 12), .int .i64 (c190.2.2.regs 13), .int .i64 (c190.2.2.regs 14), .int .i64 (c190.2.2.regs 15), .slice A199 c190.2.2.words.length c200, .slice A204 c190.2.2.input.length c205, .slice A208 c190.2.2.out.length c209, .int .u8 (c190.2.2.how.toNat : Int), .int .i64 c190.2.2.halting], 58, 23, true⟩), o201, o210, some (b142, ⟨[.slice A221 c216.2.2.code.length c222, .int .i64 c216.2.2.pc, .int .i64 (c216.2.2.regs 0), .int .i64 (c216.2.2.regs 1), .int .i64 (c216.2.2.regs 2), .int .i64 (c216.2.2.regs 3), .int .i64 (c216.2.2.regs 4), .int .i64 (c216.2.2.regs 5), .int .i64 (c216.2.2.regs 6), .int .i64 (c216.2.2.regs 7), .int .i64 (c216.2.2.regs 8), .int .i64 (c216.2.2.regs 9), .int .i64 (c216.2.2.regs 10), .int .i64 (c216.2.2.regs 11), .int .i64 (c216.2.2.regs 12), .int .i64 (c216.2.2.regs 13), .int .i64 (c216.2.2.regs 14), .int .i64 (c216.2.2.regs 15), .slice A225 c216.2.2.words.length c226, .slice A230 c216.2.2.input.length c231, .slice A234 c216.2.2.out.length c235, .int .u8 (c216.2.2.how.toNat : Int), .int .i64 c216.2.2.halting], 58, 23, true⟩), o227, o236, o255, o264, o273] ∧ Hp.le τ τ' ∧ zd (Ty.int .i64) 2 τ' (.slice A253 c248.length c254) c248 o255 ∧ zd (Ty.int .i64) 2 τ' (.slice A262 c257.length c263) c257 o264 ∧ zd (Ty.int .i64) 2 τ' (.slice A271 c266.length c272) c266 o273 ∧ RdT Ty.u8 τ' (.slice A195 c190.2.2.code.length c196) c190.2.2.code ∧ zd (Ty.int .i64) 2 τ' (.slice A199 c190.2.2.words.length c200) c190.2.2.words o201 ∧ RdT (Ty.int .i64) τ' (.slice A204 c190.2.2.input.length c205) c190.2.2.input ∧ zd (Ty.int .i64) 2 τ' (.slice A208 c190.2.2.out.length c209) c190.2.2.out o210 ∧ RdT Ty.u8 τ' (.slice A221 c216.2.2.code.length c222) c216.2.2.code ∧ zd (Ty.int .i64) 2 τ' (.slice A225 c216.2.2.words.length c226) c216.2.2.words o227 ∧ RdT (Ty.int .i64) τ' (.slice A230 c216.2.2.input.length c231) c216.2.2.input ∧ zd (Ty.int .i64) 2 τ' (.slice A234 c216.2.2.out.length c235) c216.2.2.out o236) ?_ ?_
          ·have hF := h311
           rcases zi hF with ⟨hb312, hF⟩ | ⟨hb312, hF⟩
           ·refine zE (congrArg (fun x => isB (.bool x) true) hb312) ?_
            refine zb hO 2 [] [(8, zqQ b66), (10, zqQ b142), (18, .slice A253 c248.length c254), (19, .slice A262 c257.length c263), (20, .slice A271 c266.length c272), (159, .bool c294), (160, .slice A262 c257.length c263), (161, zqQ b142)] zqG fun j => ?_
            obtain ⟨c313, h314, hF⟩ := bind_some hF
            have hO := hO.sel [0, 1, 2, 6, 7, 8, 3, 4, 5] (by decide)
            refine zU (hs := [_, _, _, _, _, _]) (vs := [_, _, _]) hO (zic (q0 := (⟨c216.2.2.code, c216.2.2.pc, c216.2.2.regs, c216.2.2.words, c216.2.2.input, c216.2.2.out, c216.2.2.how, c216.2.2.halting⟩ : ze)) r223 w228 r232 w237 h314) rfl fun _ σ _ _ hO h315 h316 => ?_
            have hL := hL.trans h315
            have w256 := w256.le h315
            have w265 := w265.le h315
            have w274 := w274.le h315
            have r197 := r197.le h315
            have w202 := w202.le h315
            have r206 := r206.le h315
            have w211 := w211.le h315
            have r223 := r223.le h315
            have w228 := w228.le h315
            have r232 := r232.le h315
            have w237 := w237.le h315
            obtain ⟨v317, o320, rfl, rfl, w321⟩ := h316
            obtain ⟨A318, c319, rfl, -⟩ := w321.form
            have hO : Obs _ _ [_, _, _, _, _, _, _, _, _, _] := hO
            have hO := hO.sel [0, 1, 2, 7, 8, 9, 3, 4, 5, 6] (by decide)
            have hO : Obs _ _ [_, _, _, _, _, _, _, _, _, _] := hO
            obtain ⟨c322, h323, hF⟩ := bind_some hF
            have hO := hO.sel [0, 1, 2, 3, 4, 5, 6, 8, 7, 9] (by decide)
            refine zU (hs := [_, _, _, _, _, _, _, _]) (vs := [_, _]) hO (Ctr.lendG w265 (zeJ (fun _ _ _ _ h => h)) fun _ lL0 rL0 => Ctr.lendG (w321.le lL0) (fun _ _ _ _ h => h) fun _ lL1 rL1 => zet (rL0.le lL1) rL1 h323) rfl fun _ σ _ _ hO h324 h325 => ?_
            have hL := hL.trans h324
            have w256 := w256.le h324
            have w265 := w265.le h324
            have w274 := w274.le h324
            have w321 := w321.le h324
            have r197 := r197.le h324
            have w202 := w202.le h324
            have r206 := r206.le h324
            have w211 := w211.le h324
            have r223 := r223.le h324
            have w228 := w228.le h324
            have r232 := r232.le h324
            have w237 := w237.le h324
            obtain ⟨_, rfl, _, rfl, rfl, rfl⟩ := h325
            have hO : Obs _ _ [_, _, _, _, _, _, _, _, _, _] := hO
            have hO := hO.sel [0, 1, 2, 3, 4, 5, 6, 8, 7, 9] (by decide)
            have hO : Obs _ _ [_, _, _, _, _, _, _, _, _, _] := hO
            refine zz (congrArg Value.bool hb312) ?_
            refine zh ?_
            injection hF with hF
            subst hF
            refine zg ?_
            have hO := hO.sel [0, 1, 2, 3, 4, 5, 6, 7, 8] (by decide)
            exact ⟨rfl, _, zqO zqD, hO, hL, w256, w265, w274, r197, w202, r206, w211, r223, w228, r232, w237⟩
           ·refine zM (congrArg (fun x => isB (.bool x) true) hb312) ?_
            refine zz (congrArg Value.bool hb312) ?_
            refine zh ?_
            injection hF with hF
            subst hF
            refine zg ?_
            exact ⟨rfl, _, zqO zqD, hO, hL, w256, w265, w274, r197, w202, r206, w211, r223, w228, r232, w237⟩
          ·rintro e σ ⟨_, hA, hO, hL, w256, w265, w274, r197, w202, r206, w211, r223, w228, r232, w237⟩
           rw [← zB _ _ hA]
           refine zb hO 1 [] [(8, zqQ b66), (10, zqQ b142), (18, .slice A253 c248.length c254), (19, .slice A262 c257.length c263), (20, .slice A271 c266.length c272), (165, .bool c310)] zqE fun j => ?_
           obtain ⟨c326, h327, hF⟩ := bind_some hF
           refine zbG 2 (fun e' σ' => ∃ (τ' : Hp), agr [(170, .bool c326), (8, zqQ b66), (10, zqQ b142), (18, .slice A253 c248.length c254), (19, .slice A262 c257.length c263), (20, .slice A271 c266.length c272)] e' ∧ Obs τ' σ' [some (b66, ⟨[.slice A195 c190.2.2.code.length c196, .int .i64 c190.2.2.pc, .int .i64 (c190.2.2.regs 0), .int .i64 (c190.2.2.regs 1), .int .i64 (c190.2.2.regs 2), .int .i64 (c190.2.2.regs 3), .int .i64 (c190.2.2.regs 4), .int .i64 (c190.2.2.regs 5), .int .i64 (c190.2.2.regs 6), .int .i64 (c190.2.2.regs 7), .int .i64 (c190.2.2.regs 8), .int .i64 (c190.2.2.regs 9), .int .i64 (c190.2.2.regs 10), .int .i64 (c190.2.2.regs 11), .int .i64 (c190.2.2.regs 12), .int .i64 (c190.2.2.regs 13), .int .i64 (c190.2.2.regs 14), .int .i64 (c190.2.2.regs 15), .slice A199 c190.2.2.words.length c200, .slice A204 c190.2.2.input.length c205, .slice A208 c190.2.2.out.length c209, .int .u8 (c190.2.2.how.toNat : Int), .int .i64 c190.2.2.halting], 58, 23, true⟩), o201, o210, some (b142, ⟨[.slice A221 c216.2.2.code.length c222, .int .i64 c216.2.2.pc, .int .i64 (c216.2.2.regs 0), .int .i64 (c216.2.2.regs 1), .int .i64 (c216.2.2.regs 2), .int .i64 (c216.2.2.regs 3), .int .i64 (c216.2.2.regs 4), .int .i64 (c216.2.2.regs 5), .int .i64 (c216.2.2.regs 6), .int .i64 (c216.2.2.regs 7), .int .i64 (c216.2.2.regs 8), .int .i64 (c216.2.2.regs 9), .int .i64 (c216.2.2.regs 10), .int .i64 (c216.2.2.regs 11), .int .i64 (c216.2.2.regs 12), .int .i64 (c216.2.2.regs 13), .int .i64 (c216.2.2.regs 14), .int .i64 (c216.2.2.regs 15), .slice A225 c216.2.2.words.length c226, .slice A230 c216.2.2.input.length c231, .slice A234 c216.2.2.out.length c235, .int .u8 (c216.2.2.how.toNat : Int), .int .i64 c216.2.2.halting], 58, 23, true⟩), o227, o236, o255, o264, o273] ∧ Hp.le τ τ' ∧ zd (Ty.int .i64) 2 τ' (.slice A253 c248.length c254) c248 o255 ∧ zd (Ty.int .i64) 2 τ' (.slice A262 c257.length c263) c257 o264 ∧ zd (Ty.int .i64) 2 τ' (.slice A271 c266.length c272) c266 o273 ∧ RdT Ty.u8 τ' (.slice A195 c190.2.2.code.length c196) c190.2.2.code ∧ zd (Ty.int .i64) 2 τ' (.slice A199 c190.2.2.words.length c200) c190.2.2.words o201 ∧ RdT (Ty.int .i64) τ' (.slice A204 c190.2.2.input.length c205) c190.2.2.input ∧ zd (Ty.int .i64) 2 τ' (.slice A208 c190.2.2.out.length c209) c190.2.2.out o210 ∧ RdT Ty.u8 τ' (.slice A221 c216.2.2.code.length c222) c216.2.2.code ∧ zd (Ty.int .i64) 2 τ' (.slice A225 c216.2.2.words.length c226) c216.2.2.words o227 ∧ RdT (Ty.int .i64) τ' (.slice A230 c216.2.2.input.length c231) c216.2.2.input ∧ zd (Ty.int .i64) 2 τ' (.slice A234 c216.2.2.out.length c235) c216.2.2.out o236) ?_ ?_
           ·have hF := h327
            rcases zi hF with ⟨hb328, hF⟩ | ⟨hb328, hF⟩
            ·refine zE (congrArg (fun x => isB (.bool x) true) hb328) ?_
             refine zb hO 2 [] [(8, zqQ b66), (10, zqQ b142), (18, .slice A253 c248.length c254), (19, .slice A262 c257.length c263), (20, .slice A271 c266.length c272), (165, .bool c310), (166, .slice A271 c266.length c272), (167, zqQ b142)] zqG fun j => ?_
             obtain ⟨c329, h330, hF⟩ := bind_some hF
             have hO := hO.sel [0, 1, 2, 6, 7, 8, 3, 4, 5] (by decide)
             refine zU (hs := [_, _, _, _, _, _]) (vs := [_, _, _]) hO (zfC (q0 := (⟨c216.2.2.code, c216.2.2.pc, c216.2.2.regs, c216.2.2.words, c216.2.2.input, c216.2.2.out, c216.2.2.how, c216.2.2.halting⟩ : ze)) r223 w228 r232 w237 h330) rfl fun _ σ _ _ hO h331 h332 => ?_
             have hL := hL.trans h331
             have w256 := w256.le h331
             have w265 := w265.le h331
             have w274 := w274.le h331
             have r197 := r197.le h331
             have w202 := w202.le h331
             have r206 := r206.le h331
             have w211 := w211.le h331
             have r223 := r223.le h331
             have w228 := w228.le h331
             have r232 := r232.le h331
             have w237 := w237.le h331
             obtain ⟨v333, o336, rfl, rfl, w337⟩ := h332
             obtain ⟨A334, c335, rfl, -⟩ := w337.form
             have hO : Obs _ _ [_, _, _, _, _, _, _, _, _, _] := hO
             have hO := hO.sel [0, 1, 2, 7, 8, 9, 3, 4, 5, 6] (by decide)
             have hO : Obs _ _ [_, _, _, _, _, _, _, _, _, _] := hO
             obtain ⟨c338, h339, hF⟩ := bind_some hF
             refine zU (hs := [_, _, _, _, _, _, _, _]) (vs := [_, _]) hO (Ctr.lendG w274 (zeJ (fun _ _ _ _ h => h)) fun _ lL0 rL0 => Ctr.lendG (w337.le lL0) (fun _ _ _ _ h => h) fun _ lL1 rL1 => zet (rL0.le lL1) rL1 h339) rfl fun _ σ _ _ hO h340 h341 => ?_
             have hL := hL.trans h340
             have w256 := w256.le h340
             have w265 := w265.le h340
             have w274 := w274.le h340
             have w337 := w337.le h340
             have r197 := r197.le h340
             have w202 := w202.le h340
             have r206 := r206.le h340
             have w211 := w211.le h340
             have r223 := r223.le h340
             have w228 := w228.le h340
             have r232 := r232.le h340
             have w237 := w237.le h340
             obtain ⟨_, rfl, _, rfl, rfl, rfl⟩ := h341
             have hO : Obs _ _ [_, _, _, _, _, _, _, _, _, _] := hO
             refine zz (congrArg Value.bool hb328) ?_
             refine zh ?_
             injection hF with hF
             subst hF
             refine zg ?_
             have hO := hO.sel [0, 1, 2, 3, 4, 5, 6, 7, 8] (by decide)
             exact ⟨rfl, _, zqO zqD, hO, hL, w256, w265, w274, r197, w202, r206, w211, r223, w228, r232, w237⟩
            ·refine zM (congrArg (fun x => isB (.bool x) true) hb328) ?_
             refine zz (congrArg Value.bool hb328) ?_
             refine zh ?_
             injection hF with hF
             subst hF
             refine zg ?_
             exact ⟨rfl, _, zqO zqD, hO, hL, w256, w265, w274, r197, w202, r206, w211, r223, w228, r232, w237⟩
           ·rintro e σ ⟨_, hA, hO, hL, w256, w265, w274, r197, w202, r206, w211, r223, w228, r232, w237⟩
            rw [← zB _ _ hA]
            refine za hO [] [(8, zqQ b66), (10, zqQ b142), (18, .slice A253 c248.length c254), (19, .slice A262 c257.length c263), (20, .slice A271 c266.length c272), (21, .bool c326)] zqE fun j => ?_
            refine zf (za hO [] [(8, zqQ b66), (10, zqQ b142), (18, .slice A253 c248.length c254), (19, .slice A262 c257.length c263), (20, .slice A271 c266.length c272), (21, .bool c326), (22, zqP 0)] zqF fun j => ?_)
            refine zO (zbo (fun (n : Nat) e' σ' => ∃ (k1426 : Nat) (A1427 : Option Addr) (c1428 : Nat) (o1429 : Ob) (x1430 : List Int) (x1435 : Int) (τ' : Hp), agr [(8, zqQ b66), (10, zqQ b142), (18, .slice A1427 k1426 c1428), (19, .slice A262 c257.length c263), (20, .slice A271 c266.length c272), (21, .bool c326), (22, zqP x1435)] e' ∧ Obs τ' σ' [some (b66, ⟨[.slice A195 c190.2.2.code.length c196, .int .i64 c190.2.2.pc, .int .i64 (c190.2.2.regs 0), .int .i64 (c190.2.2.regs 1), .int .i64 (c190.2.2.regs 2), .int .i64 (c190.2.2.regs 3), .int .i64 (c190.2.2.regs 4), .int .i64 (c190.2.2.regs 5), .int .i64 (c190.2.2.regs 6), .int .i64 (c190.2.2.regs 7), .int .i64 (c190.2.2.regs 8), .int .i64 (c190.2.2.regs 9), .int .i64 (c190.2.2.regs 10), .int .i64 (c190.2.2.regs 11), .int .i64 (c190.2.2.regs 12), .int .i64 (c190.2.2.regs 13), .int .i64 (c190.2.2.regs 14), .int .i64 (c190.2.2.regs 15), .slice A199 c190.2.2.words.length c200, .slice A204 c190.2.2.input.length c205, .slice A208 c190.2.2.out.length c209, .int .u8 (c190.2.2.how.toNat : Int), .int .i64 c190.2.2.halting], 58, 23, true⟩), o201, o210, some (b142, ⟨[.slice A221 c216.2.2.code.length c222, .int .i64 c216.2.2.pc, .int .i64 (c216.2.2.regs 0), .int .i64 (c216.2.2.regs 1), .int .i64 (c216.2.2.regs 2), .int .i64 (c216.2.2.regs 3), .int .i64 (c216.2.2.regs 4), .int .i64 (c216.2.2.regs 5), .int .i64 (c216.2.2.regs 6), .int .i64 (c216.2.2.regs 7), .int .i64 (c216.2.2.regs 8), .int .i64 (c216.2.2.regs 9), .int .i64 (c216.2.2.regs 10), .int .i64 (c216.2.2.regs 11), .int .i64 (c216.2.2.regs 12), .int .i64 (c216.2.2.regs 13), .int .i64 (c216.2.2.regs 14), .int .i64 (c216.2.2.regs 15), .slice A225 c216.2.2.words.length c226, .slice A230 c216.2.2.input.length c231, .slice A234 c216.2.2.out.length c235, .int .u8 (c216.2.2.how.toNat : Int), .int .i64 c216.2.2.halting], 58, 23, true⟩), o227, o236, o1429, o264, o273] ∧ Hp.le τ τ' ∧ RdT Ty.u8 τ' (.slice A195 c190.2.2.code.length c196) c190.2.2.code ∧ zd (Ty.int .i64) 2 τ' (.slice A199 c190.2.2.words.length c200) c190.2.2.words o201 ∧ RdT (Ty.int .i64) τ' (.slice A204 c190.2.2.input.length c205) c190.2.2.input ∧ zd (Ty.int .i64) 2 τ' (.slice A208 c190.2.2.out.length c209) c190.2.2.out o210 ∧ RdT Ty.u8 τ' (.slice A221 c216.2.2.code.length c222) c216.2.2.code ∧ zd (Ty.int .i64) 2 τ' (.slice A225 c216.2.2.words.length c226) c216.2.2.words o227 ∧ RdT (Ty.int .i64) τ' (.slice A230 c216.2.2.input.length c231) c216.2.2.input ∧ zd (Ty.int .i64) 2 τ' (.slice A234 c216.2.2.out.length c235) c216.2.2.out o236 ∧ k1426 = x1430.length ∧ zd (Ty.int .i64) 2 τ' (.slice A1427 k1426 c1428) x1430 o1429 ∧ zd (Ty.int .i64) 2 τ' (.slice A262 c257.length c263) c257 o264 ∧ zd (Ty.int .i64) 2 τ' (.slice A271 c266.length c272) c266 o273 ∧ zfo c190 c216 c257 c266 c326 n x1430 x1435 = some rr) big ⟨c248.length, A253, c254, o255, c248, 0, _, zqO zqE, hO, hL, r197, w202, r206, w211, r223, w228, r232, w237, w256.len, w256, w265, w274, hF⟩ ?_)
            clear hF hO hL
            rintro n2501 e σ ⟨k1426, A1427, c1428, o1429, x1430, x1435, _, hA, hO, hL, r1418, w1419, r1420, w1421, r1422, w1423, r1424, w1425, hk1431, w1432, w1433, w1434, hF⟩
            rw [← zB _ _ hA]
            cases n2501 with
            | zero => exact nomatch (show none = some rr from hF)
            | succ n2501 =>
             replace hF : zeZ (zfo c190 c216 c257 c266 c326 n2501) c190 c216 c257 c266 c326 x1430 x1435 = some rr := hF
             unfold zeZ at hF
             subst hk1431
             refine zf (za hO [] [(8, zqQ b66), (10, zqQ b142), (18, .slice A1427 x1430.length c1428), (19, .slice A262 c257.length c263), (20, .slice A271 c266.length c272), (21, .bool c326), (22, zqP x1435), (174, .bool (decide (x1435 < (x1430.length : Int))))] zqG fun j => ?_)
             rcases zi hF with ⟨hb2502, hF⟩ | ⟨hb2502, hF⟩
             ·refine zl (congrArg Value.bool hb2502) ?_
              refine zr (zO (zQ (zb hO 2 [] [(8, zqQ b66), (10, zqQ b142), (18, .slice A1427 x1430.length c1428), (19, .slice A262 c257.length c263), (20, .slice A271 c266.length c272), (21, .bool c326), (22, zqP x1435), (177, .slice A1427 x1430.length c1428), (178, zqP x1435)] zqH fun j => ?_)))
              obtain ⟨y2503, g2504, hF⟩ := bind_some hF
              refine zcs (T := (Ty.int .i64)) hO w1432 (i := 6) rfl rfl rfl g2504 (by decide) fun a2505 _ k2506 m2507 i2508 => ?_
              have k2509 := k2506
              obtain rfl : _ = ([.int .i64 y2503] : List Value) := k2509
              refine zX rfl m2507.fst ?_
              refine zb hO 1 [] [(8, zqQ b66), (10, zqQ b142), (18, .slice A1427 x1430.length c1428), (19, .slice A262 c257.length c263), (20, .slice A271 c266.length c272), (21, .bool c326), (22, zqP x1435), (177, .slice A1427 x1430.length c1428), (178, zqP x1435), (181, zqP (IntKind.i64.wrap (y2503 + 1)))] zqI fun j => ?_
              obtain ⟨y2510, g2511, hF⟩ := bind_some hF
              refine zcs (T := (Ty.int .i64)) hO w1432 (i := 6) rfl rfl rfl g2511 (by decide) fun a2512 _ k2513 m2514 i2515 => ?_
              have k2516 := k2513
              obtain rfl : _ = ([.int .i64 y2510] : List Value) := k2516
              refine zeI (T := (Ty.int .i64)) (z' := (IntKind.i64.wrap (y2503 + 1))) (off := 0) (vs := [.int .i64 (IntKind.i64.wrap (y2503 + 1))]) hO w1432 (i := 6) rfl (by rw [add_zero]; rfl) i2515 g2511 k2513 m2514 rfl rfl rfl rfl (by decide) (show _ = _ from rfl) fun σ o2517 w2518 hO => ?_
              have hO : Obs _ _ [_, _, _, _, _, _, _, _, _] := hO
              refine zh (zg (zK (zn (zQ (za hO [] [(8, zqQ b66), (10, zqQ b142), (18, .slice A1427 x1430.length c1428), (19, .slice A262 c257.length c263), (20, .slice A271 c266.length c272), (21, .bool c326), (22, zqP (IntKind.i64.wrap (x1435 + 1)))] zqF fun j => ?_)))))
              refine zg (zn ?_)
              exact ⟨n2501, Nat.lt_succ_self _, x1430.length, A1427, c1428, o2517, (x1430.set (Int.toNat x1435) (IntKind.i64.wrap (y2503 + 1))), (IntKind.i64.wrap (x1435 + 1)), _, zqO zqE, hO, hL, r1418, w1419, r1420, w1421, r1422, w1423, r1424, w1425, w2518.len, w2518, w1433, w1434, hF⟩
             ·refine zj (congrArg Value.bool hb2502) ?_
              refine zbs (zbr (zbn (zn (zf (za hO [] [(8, zqQ b66), (10, zqQ b142), (19, .slice A262 c257.length c263), (20, .slice A271 c266.length c272), (21, .bool c326), (23, zqP 0)] zqE fun j => ?_)))))
              refine zO ?_
              have hO := hO.sel [0, 1, 2, 3, 4, 5, 7, 8] (by decide)
              refine zbo (fun (n : Nat) e' σ' => ∃ (k2877 : Nat) (A2878 : Option Addr) (c2879 : Nat) (o2880 : Ob) (x2881 : List Int) (x2885 : Int) (τ' : Hp), agr [(8, zqQ b66), (10, zqQ b142), (19, .slice A2878 k2877 c2879), (20, .slice A271 c266.length c272), (21, .bool c326), (23, zqP x2885)] e' ∧ Obs τ' σ' [some (b66, ⟨[.slice A195 c190.2.2.code.length c196, .int .i64 c190.2.2.pc, .int .i64 (c190.2.2.regs 0), .int .i64 (c190.2.2.regs 1), .int .i64 (c190.2.2.regs 2), .int .i64 (c190.2.2.regs 3), .int .i64 (c190.2.2.regs 4), .int .i64 (c190.2.2.regs 5), .int .i64 (c190.2.2.regs 6), .int .i64 (c190.2.2.regs 7), .int .i64 (c190.2.2.regs 8), .int .i64 (c190.2.2.regs 9), .int .i64 (c190.2.2.regs 10), .int .i64 (c190.2.2.regs 11), .int .i64 (c190.2.2.regs 12), .int .i64 (c190.2.2.regs 13), .int .i64 (c190.2.2.regs 14), .int .i64 (c190.2.2.regs 15), .slice A199 c190.2.2.words.length c200, .slice A204 c190.2.2.input.length c205, .slice A208 c190.2.2.out.length c209, .int .u8 (c190.2.2.how.toNat : Int), .int .i64 c190.2.2.halting], 58, 23, true⟩), o201, o210, some (b142, ⟨[.slice A221 c216.2.2.code.length c222, .int .i64 c216.2.2.pc, .int .i64 (c216.2.2.regs 0), .int .i64 (c216.2.2.regs 1), .int .i64 (c216.2.2.regs 2), .int .i64 (c216.2.2.regs 3), .int .i64 (c216.2.2.regs 4), .int .i64 (c216.2.2.regs 5), .int .i64 (c216.2.2.regs 6), .int .i64 (c216.2.2.regs 7), .int .i64 (c216.2.2.regs 8), .int .i64 (c216.2.2.regs 9), .int .i64 (c216.2.2.regs 10), .int .i64 (c216.2.2.regs 11), .int .i64 (c216.2.2.regs 12), .int .i64 (c216.2.2.regs 13), .int .i64 (c216.2.2.regs 14), .int .i64 (c216.2.2.regs 15), .slice A225 c216.2.2.words.length c226, .slice A230 c216.2.2.input.length c231, .slice A234 c216.2.2.out.length c235, .int .u8 (c216.2.2.how.toNat : Int), .int .i64 c216.2.2.halting], 58, 23, true⟩), o227, o236, o2880, o273] ∧ Hp.le τ τ' ∧ RdT Ty.u8 τ' (.slice A195 c190.2.2.code.length c196) c190.2.2.code ∧ zd (Ty.int .i64) 2 τ' (.slice A199 c190.2.2.words.length c200) c190.2.2.words o201 ∧ RdT (Ty.int .i64) τ' (.slice A204 c190.2.2.input.length c205) c190.2.2.input ∧ zd (Ty.int .i64) 2 τ' (.slice A208 c190.2.2.out.length c209) c190.2.2.out o210 ∧ RdT Ty.u8 τ' (.slice A221 c216.2.2.code.length c222) c216.2.2.code ∧ zd (Ty.int .i64) 2 τ' (.slice A225 c216.2.2.words.length c226) c216.2.2.words o227 ∧ RdT (Ty.int .i64) τ' (.slice A230 c216.2.2.input.length c231) c216.2.2.input ∧ zd (Ty.int .i64) 2 τ' (.slice A234 c216.2.2.out.length c235) c216.2.2.out o236 ∧ k2877 = x2881.length ∧ zd (Ty.int .i64) 2 τ' (.slice A2878 k2877 c2879) x2881 o2880 ∧ zd (Ty.int .i64) 2 τ' (.slice A271 c266.length c272) c266 o273 ∧ zeX c190 c216 c266 c326 n x2881 x2885 = some rr) big ⟨c257.length, A262, c263, o264, c257, 0, _, zqO zqD, hO, hL, r1418, w1419, r1420, w1421, r1422, w1423, r1424, w1425, w1433.len, w1433, w1434, hF⟩ ?_
              clear hF hO hL
              rintro n3226 e σ ⟨k2877, A2878, c2879, o2880, x2881, x2885, _, hA, hO, hL, r2869, w2870, r2871, w2872, r2873, w2874, r2875, w2876, hk2882, w2883, w2884, hF⟩
              rw [← zB _ _ hA]
              cases n3226 with
              | zero => exact nomatch (show none = some rr from hF)
              | succ n3226 =>
               replace hF : zgA (zeX c190 c216 c266 c326 n3226) c190 c216 c266 c326 x2881 x2885 = some rr := hF
               unfold zgA at hF
               subst hk2882
               refine zf (za hO [] [(8, zqQ b66), (10, zqQ b142), (19, .slice A2878 x2881.length c2879), (20, .slice A271 c266.length c272), (21, .bool c326), (23, zqP x2885), (186, .bool (decide (x2885 < (x2881.length : Int))))] zqF fun j => ?_)
               rcases zi hF with ⟨hb3227, hF⟩ | ⟨hb3227, hF⟩
               ·refine zl (congrArg Value.bool hb3227) ?_
                refine zr (zO (zQ (zb hO 2 [] [(8, zqQ b66), (10, zqQ b142), (19, .slice A2878 x2881.length c2879), (20, .slice A271 c266.length c272), (21, .bool c326), (23, zqP x2885), (189, .slice A2878 x2881.length c2879), (190, zqP x2885)] zqG fun j => ?_)))
                obtain ⟨y3228, g3229, hF⟩ := bind_some hF
                refine zcs (T := (Ty.int .i64)) hO w2883 (i := 6) rfl rfl rfl g3229 (by decide) fun a3230 _ k3231 m3232 i3233 => ?_
                have k3234 := k3231
                obtain rfl : _ = ([.int .i64 y3228] : List Value) := k3234
                refine zX rfl m3232.fst ?_
                refine zb hO 1 [] [(8, zqQ b66), (10, zqQ b142), (19, .slice A2878 x2881.length c2879), (20, .slice A271 c266.length c272), (21, .bool c326), (23, zqP x2885), (189, .slice A2878 x2881.length c2879), (190, zqP x2885), (193, zqP (IntKind.i64.wrap (y3228 + 1)))] zqH fun j => ?_
                obtain ⟨y3235, g3236, hF⟩ := bind_some hF
                refine zcs (T := (Ty.int .i64)) hO w2883 (i := 6) rfl rfl rfl g3236 (by decide) fun a3237 _ k3238 m3239 i3240 => ?_
                have k3241 := k3238
                obtain rfl : _ = ([.int .i64 y3235] : List Value) := k3241
                refine zeI (T := (Ty.int .i64)) (z' := (IntKind.i64.wrap (y3228 + 1))) (off := 0) (vs := [.int .i64 (IntKind.i64.wrap (y3228 + 1))]) hO w2883 (i := 6) rfl (by rw [add_zero]; rfl) i3240 g3236 k3238 m3239 rfl rfl rfl rfl (by decide) (show _ = _ from rfl) fun σ o3242 w3243 hO => ?_
                have hO : Obs _ _ [_, _, _, _, _, _, _, _] := hO
                refine zh (zg (zK (zn (zQ (za hO [] [(8, zqQ b66), (10, zqQ b142), (19, .slice A2878 x2881.length c2879), (20, .slice A271 c266.length c272), (21, .bool c326), (23, zqP (IntKind.i64.wrap (x2885 + 1)))] zqE fun j => ?_)))))
                refine zg (zn ?_)
                exact ⟨n3226, Nat.lt_succ_self _, x2881.length, A2878, c2879, o3242, (x2881.set (Int.toNat x2885) (IntKind.i64.wrap (y3228 + 1))), (IntKind.i64.wrap (x2885 + 1)), _, zqO zqD, hO, hL, r2869, w2870, r2871, w2872, r2873, w2874, r2875, w2876, w3243.len, w3243, w2884, hF⟩
               ·refine zj (congrArg Value.bool hb3227) ?_
                refine zbs (zbr (zbn (zn (zf (za hO [] [(8, zqQ b66), (10, zqQ b142), (20, .slice A271 c266.length c272), (21, .bool c326), (24, zqP 0)] zqD fun j => ?_)))))
                refine zO ?_
                have hO := hO.sel [0, 1, 2, 3, 4, 5, 7] (by decide)
                refine zbo (fun (n : Nat) e' σ' => ∃ (k3360 : Nat) (A3361 : Option Addr) (c3362 : Nat) (o3363 : Ob) (x3364 : List Int) (x3367 : Int) (τ' : Hp), agr [(8, zqQ b66), (10, zqQ b142), (20, .slice A3361 k3360 c3362), (21, .bool c326), (24, zqP x3367)] e' ∧ Obs τ' σ' [some (b66, ⟨[.slice A195 c190.2.2.code.length c196, .int .i64 c190.2.2.pc, .int .i64 (c190.2.2.regs 0), .int .i64 (c190.2.2.regs 1), .int .i64 (c190.2.2.regs 2), .int .i64 (c190.2.2.regs 3), .int .i64 (c190.2.2.regs 4), .int .i64 (c190.2.2.regs 5), .int .i64 (c190.2.2.regs 6), .int .i64 (c190.2.2.regs 7), .int .i64 (c190.2.2.regs 8), .int .i64 (c190.2.2.regs 9), .int .i64 (c190.2.2.regs 10), .int .i64 (c190.2.2.regs 11), .int .i64 (c190.2.2.regs 12), .int .i64 (c190.2.2.regs 13), .int .i64 (c190.2.2.regs 14), .int .i64 (c190.2.2.regs 15), .slice A199 c190.2.2.words.length c200, .slice A204 c190.2.2.input.length c205, .slice A208 c190.2.2.out.length c209, .int .u8 (c190.2.2.how.toNat : Int), .int .i64 c190.2.2.halting], 58, 23, true⟩), o201, o210, some (b142, ⟨[.slice A221 c216.2.2.code.length c222, .int .i64 c216.2.2.pc, .int .i64 (c216.2.2.regs 0), .int .i64 (c216.2.2.regs 1), .int .i64 (c216.2.2.regs 2), .int .i64 (c216.2.2.regs 3), .int .i64 (c216.2.2.regs 4), .int .i64 (c216.2.2.regs 5), .int .i64 (c216.2.2.regs 6), .int .i64 (c216.2.2.regs 7), .int .i64 (c216.2.2.regs 8), .int .i64 (c216.2.2.regs 9), .int .i64 (c216.2.2.regs 10), .int .i64 (c216.2.2.regs 11), .int .i64 (c216.2.2.regs 12), .int .i64 (c216.2.2.regs 13), .int .i64 (c216.2.2.regs 14), .int .i64 (c216.2.2.regs 15), .slice A225 c216.2.2.words.length c226, .slice A230 c216.2.2.input.length c231, .slice A234 c216.2.2.out.length c235, .int .u8 (c216.2.2.how.toNat : Int), .int .i64 c216.2.2.halting], 58, 23, true⟩), o227, o236, o3363] ∧ Hp.le τ τ' ∧ RdT Ty.u8 τ' (.slice A195 c190.2.2.code.length c196) c190.2.2.code ∧ zd (Ty.int .i64) 2 τ' (.slice A199 c190.2.2.words.length c200) c190.2.2.words o201 ∧ RdT (Ty.int .i64) τ' (.slice A204 c190.2.2.input.length c205) c190.2.2.input ∧ zd (Ty.int .i64) 2 τ' (.slice A208 c190.2.2.out.length c209) c190.2.2.out o210 ∧ RdT Ty.u8 τ' (.slice A221 c216.2.2.code.length c222) c216.2.2.code ∧ zd (Ty.int .i64) 2 τ' (.slice A225 c216.2.2.words.length c226) c216.2.2.words o227 ∧ RdT (Ty.int .i64) τ' (.slice A230 c216.2.2.input.length c231) c216.2.2.input ∧ zd (Ty.int .i64) 2 τ' (.slice A234 c216.2.2.out.length c235) c216.2.2.out o236 ∧ k3360 = x3364.length ∧ zd (Ty.int .i64) 2 τ' (.slice A3361 k3360 c3362) x3364 o3363 ∧ zek c190 c216 c326 n x3364 x3367 = some rr) big ⟨c266.length, A271, c272, o273, c266, 0, _, zqO zqC, hO, hL, r2869, w2870, r2871, w2872, r2873, w2874, r2875, w2876, w2884.len, w2884, hF⟩ ?_
                clear hF hO hL
                rintro n3467 e σ ⟨k3360, A3361, c3362, o3363, x3364, x3367, _, hA, hO, hL, r3352, w3353, r3354, w3355, r3356, w3357, r3358, w3359, hk3365, w3366, hF⟩
                rw [← zB _ _ hA]
                cases n3467 with
                | zero => exact nomatch (show none = some rr from hF)
                | succ n3467 =>
                 replace hF : zfc (zek c190 c216 c326 n3467) c190 c216 c326 x3364 x3367 = some rr := hF
                 unfold zfc at hF
                 subst hk3365
                 refine zf (za hO [] [(8, zqQ b66), (10, zqQ b142), (20, .slice A3361 x3364.length c3362), (21, .bool c326), (24, zqP x3367), (198, .bool (decide (x3367 < (x3364.length : Int))))] zqE fun j => ?_)
                 rcases zi hF with ⟨hb3468, hF⟩ | ⟨hb3468, hF⟩
                 ·refine zl (congrArg Value.bool hb3468) ?_
                  refine zr (zO (zQ (zb hO 2 [] [(8, zqQ b66), (10, zqQ b142), (20, .slice A3361 x3364.length c3362), (21, .bool c326), (24, zqP x3367), (201, .slice A3361 x3364.length c3362), (202, zqP x3367)] zqF fun j => ?_)))
                  obtain ⟨y3469, g3470, hF⟩ := bind_some hF
                  refine zcs (T := (Ty.int .i64)) hO w3366 (i := 6) rfl rfl rfl g3470 (by decide) fun a3471 _ k3472 m3473 i3474 => ?_
                  have k3475 := k3472
                  obtain rfl : _ = ([.int .i64 y3469] : List Value) := k3475
                  refine zX rfl m3473.fst ?_
                  refine zb hO 1 [] [(8, zqQ b66), (10, zqQ b142), (20, .slice A3361 x3364.length c3362), (21, .bool c326), (24, zqP x3367), (201, .slice A3361 x3364.length c3362), (202, zqP x3367), (205, zqP (IntKind.i64.wrap (y3469 + 1)))] zqG fun j => ?_
                  obtain ⟨y3476, g3477, hF⟩ := bind_some hF
                  refine zcs (T := (Ty.int .i64)) hO w3366 (i := 6) rfl rfl rfl g3477 (by decide) fun a3478 _ k3479 m3480 i3481 => ?_
                  have k3482 := k3479
                  obtain rfl : _ = ([.int .i64 y3476] : List Value) := k3482
                  refine zeI (T := (Ty.int .i64)) (z' := (IntKind.i64.wrap (y3469 + 1))) (off := 0) (vs := [.int .i64 (IntKind.i64.wrap (y3469 + 1))]) hO w3366 (i := 6) rfl (by rw [add_zero]; rfl) i3481 g3477 k3479 m3480 rfl rfl rfl rfl (by decide) (show _ = _ from rfl) fun σ o3483 w3484 hO => ?_
                  have hO : Obs _ _ [_, _, _, _, _, _, _] := hO
                  refine zh (zg (zK (zn (zQ (za hO [] [(8, zqQ b66), (10, zqQ b142), (20, .slice A3361 x3364.length c3362), (21, .bool c326), (24, zqP (IntKind.i64.wrap (x3367 + 1)))] zqD fun j => ?_)))))
                  refine zg (zn ?_)
                  exact ⟨n3467, Nat.lt_succ_self _, x3364.length, A3361, c3362, o3483, (x3364.set (Int.toNat x3367) (IntKind.i64.wrap (y3469 + 1))), (IntKind.i64.wrap (x3367 + 1)), _, zqO zqC, hO, hL, r3352, w3353, r3354, w3355, r3356, w3357, r3358, w3359, w3484.len, w3484, hF⟩
                 ·refine zj (congrArg Value.bool hb3468) ?_
                  refine zbs (zbr (zbn (zn (zb hO 2 [] [(8, zqQ b66), (10, zqQ b142), (208, .bool c326)] zqB fun j => ?_))))
                  have hO := hO.sel [0, 1, 2, 3, 4, 5] (by decide)
                  have hO : Obs _ _ [_, _, _, _, _, _] := hO
                  obtain ⟨c3485, h3486, hF⟩ := bind_some hF
                  refine zbG 2 (fun e' σ' => ∃ (τ' : Hp), agr [(214, .bool c3485), (8, zqQ b66), (10, zqQ b142)] e' ∧ Obs τ' σ' [some (b66, ⟨[.slice A195 c190.2.2.code.length c196, .int .i64 c190.2.2.pc, .int .i64 (c190.2.2.regs 0), .int .i64 (c190.2.2.regs 1), .int .i64 (c190.2.2.regs 2), .int .i64 (c190.2.2.regs 3), .int .i64 (c190.2.2.regs 4), .int .i64 (c190.2.2.regs 5), .int .i64 (c190.2.2.regs 6), .int .i64 (c190.2.2.regs 7), .int .i64 (c190.2.2.regs 8), .int .i64 (c190.2.2.regs 9), .int .i64 (c190.2.2.regs 10), .int .i64 (c190.2.2.regs 11), .int .i64 (c190.2.2.regs 12), .int .i64 (c190.2.2.regs 13), .int .i64 (c190.2.2.regs 14), .int .i64 (c190.2.2.regs 15), .slice A199 c190.2.2.words.length c200, .slice A204 c190.2.2.input.length c205, .slice A208 c190.2.2.out.length c209, .int .u8 (c190.2.2.how.toNat : Int), .int .i64 c190.2.2.halting], 58, 23, true⟩), o201, o210, some (b142, ⟨[.slice A221 c216.2.2.code.length c222, .int .i64 c216.2.2.pc, .int .i64 (c216.2.2.regs 0), .int .i64 (c216.2.2.regs 1), .int .i64 (c216.2.2.regs 2), .int .i64 (c216.2.2.regs 3), .int .i64 (c216.2.2.regs 4), .int .i64 (c216.2.2.regs 5), .int .i64 (c216.2.2.regs 6), .int .i64 (c216.2.2.regs 7), .int .i64 (c216.2.2.regs 8), .int .i64 (c216.2.2.regs 9), .int .i64 (c216.2.2.regs 10), .int .i64 (c216.2.2.regs 11), .int .i64 (c216.2.2.regs 12), .int .i64 (c216.2.2.regs 13), .int .i64 (c216.2.2.regs 14), .int .i64 (c216.2.2.regs 15), .slice A225 c216.2.2.words.length c226, .slice A230 c216.2.2.input.length c231, .slice A234 c216.2.2.out.length c235, .int .u8 (c216.2.2.how.toNat : Int), .int .i64 c216.2.2.halting], 58, 23, true⟩), o227, o236] ∧ Hp.le τ τ' ∧ RdT Ty.u8 τ' (.slice A195 c190.2.2.code.length c196) c190.2.2.code ∧ zd (Ty.int .i64) 2 τ' (.slice A199 c190.2.2.words.length c200) c190.2.2.words o201 ∧ RdT (Ty.int .i64) τ' (.slice A204 c190.2.2.input.length c205) c190.2.2.input ∧ zd (Ty.int .i64) 2 τ' (.slice A208 c190.2.2.out.length c209) c190.2.2.out o210 ∧ RdT Ty.u8 τ' (.slice A221 c216.2.2.code.length c222) c216.2.2.code ∧ zd (Ty.int .i64) 2 τ' (.slice A225 c216.2.2.words.length c226) c216.2.2.words o227 ∧ RdT (Ty.int .i64) τ' (.slice A230 c216.2.2.input.length c231) c216.2.2.input ∧ zd (Ty.int .i64) 2 τ' (.slice A234 c216.2.2.out.length c235) c216.2.2.out o236) ?_ ?_
                  ·have hF := h3486
                   rcases zi hF with ⟨hb3487, hF⟩ | ⟨hb3487, hF⟩
                   ·refine zE (congrArg (fun x => isB (.bool x) true) hb3487) ?_
                    refine zb hO 1 [] [(8, zqQ b66), (10, zqQ b142), (208, .bool c326), (209, zqQ b66)] zqC fun j => ?_
                    obtain ⟨c3488, h3489, hF⟩ := bind_some hF
                    have hO := hO.sel [3, 4, 5, 0, 1, 2] (by decide)
                    refine zU (hs := [_, _, _]) (vs := [_, _, _]) hO (zhI (q0 := (⟨c190.2.2.code, c190.2.2.pc, c190.2.2.regs, c190.2.2.words, c190.2.2.input, c190.2.2.out, c190.2.2.how, c190.2.2.halting⟩ : ze)) r3352 w3353 r3354 w3355 h3489) rfl fun _ σ _ _ hO h3490 h3491 => ?_
                    have hL := hL.trans h3490
                    have r3356 := r3356.le h3490
                    have w3357 := w3357.le h3490
                    have r3358 := r3358.le h3490
                    have w3359 := w3359.le h3490
                    have r3352 := r3352.le h3490
                    have w3353 := w3353.le h3490
                    have r3354 := r3354.le h3490
                    have w3355 := w3355.le h3490
                    obtain ⟨v3492, o3495, rfl, rfl, w3496⟩ := h3491
                    obtain ⟨A3493, c3494, rfl, -⟩ := w3496.form
                    have hO : Obs _ _ [_, _, _, _, _, _, _] := hO
                    have hO := hO.sel [4, 5, 6, 0, 1, 2, 3] (by decide)
                    have hO : Obs _ _ [_, _, _, _, _, _, _] := hO
                    refine zb hO 1 [] [(8, zqQ b66), (10, zqQ b142), (208, .bool c326), (210, .slice A3493 c3488.length c3494), (211, zqQ b142)] zqD fun j => ?_
                    obtain ⟨c3497, h3498, hF⟩ := bind_some hF
                    have hO := hO.sel [0, 1, 2, 6, 3, 4, 5] (by decide)
                    refine zU (hs := [_, _, _, _]) (vs := [_, _, _]) hO (zhI (q0 := (⟨c216.2.2.code, c216.2.2.pc, c216.2.2.regs, c216.2.2.words, c216.2.2.input, c216.2.2.out, c216.2.2.how, c216.2.2.halting⟩ : ze)) r3356 w3357 r3358 w3359 h3498) rfl fun _ σ _ _ hO h3499 h3500 => ?_
                    have hL := hL.trans h3499
                    have w3496 := w3496.le h3499
                    have r3352 := r3352.le h3499
                    have w3353 := w3353.le h3499
                    have r3354 := r3354.le h3499
                    have w3355 := w3355.le h3499
                    have r3356 := r3356.le h3499
                    have w3357 := w3357.le h3499
                    have r3358 := r3358.le h3499
                    have w3359 := w3359.le h3499
                    obtain ⟨v3501, o3504, rfl, rfl, w3505⟩ := h3500
                    obtain ⟨A3502, c3503, rfl, -⟩ := w3505.form
                    have hO : Obs _ _ [_, _, _, _, _, _, _, _] := hO
                    have hO := hO.sel [0, 1, 2, 5, 6, 7, 3, 4] (by decide)
                    have hO : Obs _ _ [_, _, _, _, _, _, _, _] := hO
                    obtain ⟨c3506, h3507, hF⟩ := bind_some hF
                    refine zU (hs := [_, _, _, _, _, _]) (vs := [_, _]) hO (Ctr.lendG w3496 (zeJ (fun _ _ _ _ h => h)) fun _ lL0 rL0 => Ctr.lendG (w3505.le lL0) (fun _ _ _ _ h => h) fun _ lL1 rL1 => zet (rL0.le lL1) rL1 h3507) rfl fun _ σ _ _ hO h3508 h3509 => ?_
                    have hL := hL.trans h3508
                    have w3496 := w3496.le h3508
                    have w3505 := w3505.le h3508
                    have r3352 := r3352.le h3508
                    have w3353 := w3353.le h3508
                    have r3354 := r3354.le h3508
                    have w3355 := w3355.le h3508
                    have r3356 := r3356.le h3508
                    have w3357 := w3357.le h3508
                    have r3358 := r3358.le h3508
                    have w3359 := w3359.le h3508
                    obtain ⟨_, rfl, _, rfl, rfl, rfl⟩ := h3509
                    have hO : Obs _ _ [_, _, _, _, _, _, _, _] := hO
                    refine zz (congrArg Value.bool hb3487) ?_
                    refine zh ?_
                    injection hF with hF
                    subst hF
                    refine zg ?_
                    have hO := hO.sel [0, 1, 2, 3, 4, 5] (by decide)
                    exact ⟨rfl, _, zqO zqA, hO, hL, r3352, w3353, r3354, w3355, r3356, w3357, r3358, w3359⟩
                   ·refine zM (congrArg (fun x => isB (.bool x) true) hb3487) ?_
                    refine zz (congrArg Value.bool hb3487) ?_
                    refine zh ?_
                    injection hF with hF
                    subst hF
                    refine zg ?_
                    exact ⟨rfl, _, zqO zqA, hO, hL, r3352, w3353, r3354, w3355, r3356, w3357, r3358, w3359⟩
                  ·rintro e σ ⟨_, hA, hO, hL, r3352, w3353, r3354, w3355, r3356, w3357, r3358, w3359⟩
                   rw [← zB _ _ hA]
                   refine zb hO 1 [] [(8, zqQ b66), (10, zqQ b142), (215, .bool c3485)] zqB fun j => ?_
                   obtain ⟨c3510, h3511, hF⟩ := bind_some hF
                   refine zbG 2 (fun e' σ' => ∃ (τ' : Hp), agr [(221, .bool c3510), (8, zqQ b66), (10, zqQ b142)] e' ∧ Obs τ' σ' [some (b66, ⟨[.slice A195 c190.2.2.code.length c196, .int .i64 c190.2.2.pc, .int .i64 (c190.2.2.regs 0), .int .i64 (c190.2.2.regs 1), .int .i64 (c190.2.2.regs 2), .int .i64 (c190.2.2.regs 3), .int .i64 (c190.2.2.regs 4), .int .i64 (c190.2.2.regs 5), .int .i64 (c190.2.2.regs 6), .int .i64 (c190.2.2.regs 7), .int .i64 (c190.2.2.regs 8), .int .i64 (c190.2.2.regs 9), .int .i64 (c190.2.2.regs 10), .int .i64 (c190.2.2.regs 11), .int .i64 (c190.2.2.regs 12), .int .i64 (c190.2.2.regs 13), .int .i64 (c190.2.2.regs 14), .int .i64 (c190.2.2.regs 15), .slice A199 c190.2.2.words.length c200, .slice A204 c190.2.2.input.length c205, .slice A208 c190.2.2.out.length c209, .int .u8 (c190.2.2.how.toNat : Int), .int .i64 c190.2.2.halting], 58, 23, true⟩), o201, o210, some (b142, ⟨[.slice A221 c216.2.2.code.length c222, .int .i64 c216.2.2.pc, .int .i64 (c216.2.2.regs 0), .int .i64 (c216.2.2.regs 1), .int .i64 (c216.2.2.regs 2), .int .i64 (c216.2.2.regs 3), .int .i64 (c216.2.2.regs 4), .int .i64 (c216.2.2.regs 5), .int .i64 (c216.2.2.regs 6), .int .i64 (c216.2.2.regs 7), .int .i64 (c216.2.2.regs 8), .int .i64 (c216.2.2.regs 9), .int .i64 (c216.2.2.regs 10), .int .i64 (c216.2.2.regs 11), .int .i64 (c216.2.2.regs 12), .int .i64 (c216.2.2.regs 13), .int .i64 (c216.2.2.regs 14), .int .i64 (c216.2.2.regs 15), .slice A225 c216.2.2.words.length c226, .slice A230 c216.2.2.input.length c231, .slice A234 c216.2.2.out.length c235, .int .u8 (c216.2.2.how.toNat : Int), .int .i64 c216.2.2.halting], 58, 23, true⟩), o227, o236] ∧ Hp.le τ τ' ∧ RdT Ty.u8 τ' (.slice A195 c190.2.2.code.length c196) c190.2.2.code ∧ zd (Ty.int .i64) 2 τ' (.slice A199 c190.2.2.words.length c200) c190.2.2.words o201 ∧ RdT (Ty.int .i64) τ' (.slice A204 c190.2.2.input.length c205) c190.2.2.input ∧ zd (Ty.int .i64) 2 τ' (.slice A208 c190.2.2.out.length c209) c190.2.2.out o210 ∧ RdT Ty.u8 τ' (.slice A221 c216.2.2.code.length c222) c216.2.2.code ∧ zd (Ty.int .i64) 2 τ' (.slice A225 c216.2.2.words.length c226) c216.2.2.words o227 ∧ RdT (Ty.int .i64) τ' (.slice A230 c216.2.2.input.length c231) c216.2.2.input ∧ zd (Ty.int .i64) 2 τ' (.slice A234 c216.2.2.out.length c235) c216.2.2.out o236) ?_ ?_
                   ·have hF := h3511
                    rcases zi hF with ⟨hb3512, hF⟩ | ⟨hb3512, hF⟩
                    ·refine zE (congrArg (fun x => isB (.bool x) true) hb3512) ?_
                     refine zb hO 1 [] [(8, zqQ b66), (10, zqQ b142), (215, .bool c3485), (216, zqQ b66)] zqC fun j => ?_
                     obtain ⟨c3513, h3514, hF⟩ := bind_some hF
                     have hO := hO.sel [3, 4, 5, 0, 1, 2] (by decide)
                     refine zU (hs := [_, _, _]) (vs := [_, _, _]) hO (zic (q0 := (⟨c190.2.2.code, c190.2.2.pc, c190.2.2.regs, c190.2.2.words, c190.2.2.input, c190.2.2.out, c190.2.2.how, c190.2.2.halting⟩ : ze)) r3352 w3353 r3354 w3355 h3514) rfl fun _ σ _ _ hO h3515 h3516 => ?_
                     have hL := hL.trans h3515
                     have r3356 := r3356.le h3515
                     have w3357 := w3357.le h3515
                     have r3358 := r3358.le h3515
                     have w3359 := w3359.le h3515
                     have r3352 := r3352.le h3515
                     have w3353 := w3353.le h3515
                     have r3354 := r3354.le h3515
                     have w3355 := w3355.le h3515
                     obtain ⟨v3517, o3520, rfl, rfl, w3521⟩ := h3516
                     obtain ⟨A3518, c3519, rfl, -⟩ := w3521.form
                     have hO : Obs _ _ [_, _, _, _, _, _, _] := hO
                     have hO := hO.sel [4, 5, 6, 0, 1, 2, 3] (by decide)
                     have hO : Obs _ _ [_, _, _, _, _, _, _] := hO
                     refine zb hO 1 [] [(8, zqQ b66), (10, zqQ b142), (215, .bool c3485), (217, .slice A3518 c3513.length c3519), (218, zqQ b142)] zqD fun j => ?_
                     obtain ⟨c3522, h3523, hF⟩ := bind_some hF
                     have hO := hO.sel [0, 1, 2, 6, 3, 4, 5] (by decide)
                     refine zU (hs := [_, _, _, _]) (vs := [_, _, _]) hO (zic (q0 := (⟨c216.2.2.code, c216.2.2.pc, c216.2.2.regs, c216.2.2.words, c216.2.2.input, c216.2.2.out, c216.2.2.how, c216.2.2.halting⟩ : ze)) r3356 w3357 r3358 w3359 h3523) rfl fun _ σ _ _ hO h3524 h3525 => ?_
                     have hL := hL.trans h3524
                     have w3521 := w3521.le h3524
                     have r3352 := r3352.le h3524
                     have w3353 := w3353.le h3524
                     have r3354 := r3354.le h3524
                     have w3355 := w3355.le h3524
                     have r3356 := r3356.le h3524
                     have w3357 := w3357.le h3524
                     have r3358 := r3358.le h3524
                     have w3359 := w3359.le h3524
                     obtain ⟨v3526, o3529, rfl, rfl, w3530⟩ := h3525
                     obtain ⟨A3527, c3528, rfl, -⟩ := w3530.form
                     have hO : Obs _ _ [_, _, _, _, _, _, _, _] := hO
                     have hO := hO.sel [0, 1, 2, 5, 6, 7, 3, 4] (by decide)
                     have hO : Obs _ _ [_, _, _, _, _, _, _, _] := hO
                     obtain ⟨c3531, h3532, hF⟩ := bind_some hF
                     refine zU (hs := [_, _, _, _, _, _]) (vs := [_, _]) hO (Ctr.lendG w3521 (zeJ (fun _ _ _ _ h => h)) fun _ lL0 rL0 => Ctr.lendG (w3530.le lL0) (fun _ _ _ _ h => h) fun _ lL1 rL1 => zet (rL0.le lL1) rL1 h3532) rfl fun _ σ _ _ hO h3533 h3534 => ?_
                     have hL := hL.trans h3533
                     have w3521 := w3521.le h3533
                     have w3530 := w3530.le h3533
                     have r3352 := r3352.le h3533
                     have w3353 := w3353.le h3533
                     have r3354 := r3354.le h3533
                     have w3355 := w3355.le h3533
                     have r3356 := r3356.le h3533
                     have w3357 := w3357.le h3533
                     have r3358 := r3358.le h3533
                     have w3359 := w3359.le h3533
                     obtain ⟨_, rfl, _, rfl, rfl, rfl⟩ := h3534
                     have hO : Obs _ _ [_, _, _, _, _, _, _, _] := hO
                     refine zz (congrArg Value.bool hb3512) ?_
                     refine zh ?_
                     injection hF with hF
                     subst hF
                     refine zg ?_
                     have hO := hO.sel [0, 1, 2, 3, 4, 5] (by decide)
                     exact ⟨rfl, _, zqO zqA, hO, hL, r3352, w3353, r3354, w3355, r3356, w3357, r3358, w3359⟩
                    ·refine zM (congrArg (fun x => isB (.bool x) true) hb3512) ?_
                     refine zz (congrArg Value.bool hb3512) ?_
                     refine zh ?_
                     injection hF with hF
                     subst hF
                     refine zg ?_
                     exact ⟨rfl, _, zqO zqA, hO, hL, r3352, w3353, r3354, w3355, r3356, w3357, r3358, w3359⟩
                   ·rintro e σ ⟨_, hA, hO, hL, r3352, w3353, r3354, w3355, r3356, w3357, r3358, w3359⟩
                    rw [← zB _ _ hA]
                    refine zb hO 1 [] [(8, zqQ b66), (10, zqQ b142), (222, .bool c3510)] zqB fun j => ?_
                    obtain ⟨c3535, h3536, hF⟩ := bind_some hF
                    refine zbG 2 (fun e' σ' => ∃ (τ' : Hp), agr [(228, .bool c3535)] e' ∧ Obs τ' σ' [none, none, none, none, none, none] ∧ Hp.le τ τ') ?_ ?_
                    ·have hF := h3536
                     rcases zi hF with ⟨hb3537, hF⟩ | ⟨hb3537, hF⟩
                     ·refine zE (congrArg (fun x => isB (.bool x) true) hb3537) ?_
                      refine zb hO 1 [] [(10, zqQ b142), (222, .bool c3510), (223, zqQ b66)] zqB fun j => ?_
                      obtain ⟨c3538, h3539, hF⟩ := bind_some hF
                      have hO := hO.sel [3, 4, 5, 0, 1, 2] (by decide)
                      refine zU (hs := [_, _, _]) (vs := [_, _, _]) hO (zfC (q0 := (⟨c190.2.2.code, c190.2.2.pc, c190.2.2.regs, c190.2.2.words, c190.2.2.input, c190.2.2.out, c190.2.2.how, c190.2.2.halting⟩ : ze)) r3352 w3353 r3354 w3355 h3539) rfl fun _ σ _ _ hO h3540 h3541 => ?_
                      have hL := hL.trans h3540
                      have r3356 := r3356.le h3540
                      have w3357 := w3357.le h3540
                      have r3358 := r3358.le h3540
                      have w3359 := w3359.le h3540
                      have r3352 := r3352.le h3540
                      have w3353 := w3353.le h3540
                      have r3354 := r3354.le h3540
                      have w3355 := w3355.le h3540
                      obtain ⟨v3542, o3545, rfl, rfl, w3546⟩ := h3541
                      obtain ⟨A3543, c3544, rfl, -⟩ := w3546.form
                      have hO : Obs _ _ [_, _, _, _, _, _, _] := hO
                      have hO := hO.sel [4, 5, 6, 0, 1, 2, 3] (by decide)
                      have hO : Obs _ _ [_, _, _, _, _, _, _] := hO
                      refine zb hO 1 [] [(222, .bool c3510), (224, .slice A3543 c3538.length c3544), (225, zqQ b142)] zqB fun j => ?_
                      obtain ⟨c3547, h3548, hF⟩ := bind_some hF
                      have hO := hO.sel [0, 1, 2, 6, 3, 4, 5] (by decide)
                      refine zU (hs := [_, _, _, _]) (vs := [_, _, _]) hO (zfC (q0 := (⟨c216.2.2.code, c216.2.2.pc, c216.2.2.regs, c216.2.2.words, c216.2.2.input, c216.2.2.out, c216.2.2.how, c216.2.2.halting⟩ : ze)) r3356 w3357 r3358 w3359 h3548) rfl fun _ σ _ _ hO h3549 h3550 => ?_
                      have hL := hL.trans h3549
                      have w3546 := w3546.le h3549
                      have r3352 := r3352.le h3549
                      have w3353 := w3353.le h3549
                      have r3354 := r3354.le h3549
                      have w3355 := w3355.le h3549
                      have r3356 := r3356.le h3549
                      have w3357 := w3357.le h3549
                      have r3358 := r3358.le h3549
                      have w3359 := w3359.le h3549
                      obtain ⟨v3551, o3554, rfl, rfl, w3555⟩ := h3550
                      obtain ⟨A3552, c3553, rfl, -⟩ := w3555.form
                      have hO : Obs _ _ [_, _, _, _, _, _, _, _] := hO
                      have hO := hO.sel [0, 1, 2, 5, 6, 7, 3, 4] (by decide)
                      have hO : Obs _ _ [_, _, _, _, _, _, _, _] := hO
                      obtain ⟨c3556, h3557, hF⟩ := bind_some hF
                      refine zU (hs := [_, _, _, _, _, _]) (vs := [_, _]) hO (Ctr.lendG w3546 (zeJ (fun _ _ _ _ h => h)) fun _ lL0 rL0 => Ctr.lendG (w3555.le lL0) (fun _ _ _ _ h => h) fun _ lL1 rL1 => zet (rL0.le lL1) rL1 h3557) rfl fun _ σ _ _ hO h3558 h3559 => ?_
                      have hL := hL.trans h3558
                      have w3546 := w3546.le h3558
                      have w3555 := w3555.le h3558
                      have r3352 := r3352.le h3558
                      have w3353 := w3353.le h3558
                      have r3354 := r3354.le h3558
                      have w3355 := w3355.le h3558
                      have r3356 := r3356.le h3558
                      have w3357 := w3357.le h3558
                      have r3358 := r3358.le h3558
                      have w3359 := w3359.le h3558
                      obtain ⟨_, rfl, _, rfl, rfl, rfl⟩ := h3559
                      have hO : Obs _ _ [_, _, _, _, _, _, _, _] := hO
                      refine zz (congrArg Value.bool hb3537) ?_
                      refine zh ?_
                      injection hF with hF
                      subst hF
                      refine zg ?_
                      have hO := hO.sel [1000, 1001, 1002, 1003, 1004, 1005] (by decide)
                      exact ⟨rfl, _, zqO (trivial), hO, hL⟩
                     ·refine zM (congrArg (fun x => isB (.bool x) true) hb3537) ?_
                      refine zz (congrArg Value.bool hb3537) ?_
                      refine zh ?_
                      injection hF with hF
                      subst hF
                      refine zg ?_
                      have hO := hO.sel [1000, 1001, 1002, 1003, 1004, 1005] (by decide)
                      exact ⟨rfl, _, zqO (trivial), hO, hL⟩
                    ·rintro e σ ⟨_, hA, hO, hL⟩
                     rw [← zB _ _ hA]
                     refine zb hO 1 [] [(229, .bool c3535)] zqz fun j => ?_
                     have hO := hO.sel [] (by decide)
                     have hO : Obs _ _ [] := hO
                     obtain ⟨c3560, h3561, hF⟩ := bind_some hF
                     refine zbG 2 (fun e' σ' => ∃ (τ' : Hp), agr [(231, .bool c3560)] e' ∧ Obs τ' σ' [] ∧ Hp.le τ τ') ?_ ?_
                     ·have hF := h3561
                      rcases zi hF with ⟨hb3562, hF⟩ | ⟨hb3562, hF⟩
                      ·refine zE (congrArg (fun x => isB (.bool x) true) hb3562) ?_
                       obtain ⟨c3563, h3564, hF⟩ := bind_some hF
                       refine zs hO (zgZ h3564) rfl fun _ σ _ _ hO h3565 h3566 => ?_
                       have hL := hL.trans h3565
                       obtain ⟨rfl, rfl⟩ := h3566
                       have hO : Obs _ _ [] := hO
                       refine zz (congrArg Value.bool hb3562) ?_
                       refine zh ?_
                       injection hF with hF
                       subst hF
                       refine zg ?_
                       exact ⟨rfl, _, zqO (trivial), hO, hL⟩
                      ·refine zM (congrArg (fun x => isB (.bool x) true) hb3562) ?_
                       refine zz (congrArg Value.bool hb3562) ?_
                       refine zh ?_
                       injection hF with hF
                       subst hF
                       refine zg ?_
                       exact ⟨rfl, _, zqO (trivial), hO, hL⟩
                     ·rintro e σ ⟨_, hA, hO, hL⟩
                      rw [← zB _ _ hA]
                      refine za hO [] [(6, .bool c3560)] zqz fun j => ?_
                      refine zp ?_
                      injection hF with hF
                      subst hF
                      exact hQ _ _ _ _ _ rfl hO hL ⟨rfl, rfl⟩
end Go.Proofs.YtgkllgoelpfdkaaGreat
