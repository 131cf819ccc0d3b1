import Derived.Test.YtckcngkkofemjaaGreatG4
namespace Go.Proofs.YtckcngkkofemjaaGreat
open Go.Ab Go.RowKit
set_option linter.unusedVariables false
set_option linter.unusedSimpArgs false
set_option maxRecDepth 10000
set_option maxHeartbeats 1000000
theorem zpN {τ : Hp} {v0 : Value} {p0 : (List UInt8)} {p1 : Int} (r0 : RdT Ty.u8 τ v0 p0) {rr : (List zq) × Int × Int} (hF : zgK p0 p1 = some rr) :
  Ctr Tryz.prog 77 #[v0, .int .i64 p1] τ [] (fun v τ' vs' => ∃ (v0 : Value), v = .tuple #[v0, .int .i64 rr.2.1, .int .i64 rr.2.2] ∧ vs' = [] ∧ RdT zT τ' v0 rr.1) := by
 obtain ⟨A0, c0, rfl, -⟩ := r0.form
 refine zM (args := [.slice A0 p0.length c0, .int .i64 p1]) hm Tryz.func77 s77 rfl fun w0 σ hO Q hQ => ?_
 unfold zgK at hF
 have hL := Hp.le.refl τ
 show wpn _ _ a77.body _ _ _
 unfold a77
 dsimp only
 refine zc hO [] [(0, .slice A0 p0.length c0), (1, zqz p1)] zqk fun j => ?_
 refine ze (zc hO [] [(0, .slice A0 p0.length c0), (1, zqz p1), (29, .bool ((decide (p1 < 0)) || (decide (p1 > (p0.length : Int)))))] (And.intro (And.intro rfl rfl) (fun _ => zqy zqk)) fun j => ?_)
 rcases zi hF with ⟨hb3, hF⟩ | ⟨hb3, hF⟩
 ·refine zk (congrArg Value.bool hb3) ?_
  refine ze (zc hO [] [(4, .slice none 0 0), (5, zqz 0), (6, zqz 1)] zql fun j => ?_)
  refine zu ?_
  injection hF with hF
  subst hF
  exact hQ _ _ _ _ _ rfl hO hL ⟨_, rfl, rfl, (RdT.nil _ _)⟩
 ·refine zl (congrArg Value.bool hb3) ?_
  refine zm (zd hO 2 [] [(0, .slice A0 p0.length c0), (31, .slice A0 p0.length c0), (32, zqz p1)] zql fun j => ?_)
  obtain ⟨c4, h5, hF⟩ := bind_some hF
  refine zD hO (ziP r0 h5) rfl fun _ σ _ _ hO h6 h7 => ?_
  have hL := hL.trans h6
  have r0 := r0.le h6
  obtain ⟨rfl, rfl⟩ := h7
  have hO : Obs _ _ [] := hO
  refine zc hO [] [(0, .slice A0 p0.length c0), (7, zqz c4.1), (8, zqz c4.2.1), (9, .bool c4.2.2)] zqm fun j => ?_
  refine ze (zc hO [] [(0, .slice A0 p0.length c0), (7, zqz c4.1), (8, zqz c4.2.1), (42, .bool ((!c4.2.2) || (decide (c4.1 > 4000))))] (And.intro (And.intro rfl rfl) (fun _ => zqy zql)) fun j => ?_)
  rcases zi hF with ⟨hb8, hF⟩ | ⟨hb8, hF⟩
  ·refine zk (congrArg Value.bool hb8) ?_
   refine ze (zc hO [] [(4, .slice none 0 0), (5, zqz 0), (6, zqz 5)] zql fun j => ?_)
   refine zu ?_
   injection hF with hF
   subst hF
   exact hQ _ _ _ _ _ rfl hO hL ⟨_, rfl, rfl, (RdT.nil _ _)⟩
  ·refine zl (congrArg Value.bool hb8) ?_
   refine zm (zc hO [] [(0, .slice A0 p0.length c0), (7, zqz c4.1), (8, zqz c4.2.1), (10, .slice none 0 0)] zqm fun j => ?_)
   refine zc hO [] [(0, .slice A0 p0.length c0), (7, zqz c4.1), (8, zqz c4.2.1), (10, .slice none 0 0), (11, zqz 0)] zqn fun j => ?_
   refine ze (zc hO [] [(0, .slice A0 p0.length c0), (7, zqz c4.1), (8, zqz c4.2.1), (10, .slice none 0 0), (11, zqz 0), (12, zqz 0)] zqo fun j => ?_)
   refine zt ?_
   have hO := hO.no
   have hO : Obs _ _ [_] := hO
   refine zZ (fun (n : Nat) e' σ' => ∃ (x43 : Int) (A44 : Option Addr) (c45 : Nat) (o46 : Ob) (x47 : List zq) (x49 : Int) (x50 : Int) (τ' : Hp), agr [(0, .slice A0 p0.length c0), (7, zqz c4.1), (8, zqz x43), (10, .slice A44 x47.length c45), (11, zqz x49), (12, zqz x50)] e' ∧ Obs τ' σ' [o46] ∧ Hp.le τ τ' ∧ RdT Ty.u8 τ' (.slice A0 p0.length c0) p0 ∧ zr zT 99 τ' (.slice A44 x47.length c45) x47 o46 ∧ ze9 p0 c4 n x43 x47 x49 x50 = some rr) big ⟨c4.2.1, none, 0, none, [], 0, 0, _, zqy zqn, hO, hL, r0, zr.nil _ _ _, hF⟩ ?_
   clear hF hO hL
   rintro n84 e σ ⟨x43, A44, c45, o46, x47, x49, x50, _, hA, hO, hL, r42, w48, hF⟩
   rw [← zL _ _ hA]
   cases n84 with
   | zero => exact nomatch (show none = some rr from hF)
   | succ n84 =>
    replace hF : zdB (ze9 p0 c4 n84) p0 c4 x43 x47 x49 x50 = some rr := hF
    unfold zdB at hF
    refine ze (zc hO [] [(0, .slice A0 p0.length c0), (7, zqz c4.1), (8, zqz x43), (10, .slice A44 x47.length c45), (11, zqz x49), (12, zqz x50), (45, .bool (decide (x50 < c4.1)))] zqp fun j => ?_)
    rcases zi hF with ⟨hb85, hF⟩ | ⟨hb85, hF⟩
    ·refine zk (congrArg Value.bool hb85) ?_
     refine zm (zt (zd hO 2 [] [(0, .slice A0 p0.length c0), (7, zqz c4.1), (10, .slice A44 x47.length c45), (11, zqz x49), (12, zqz x50), (49, .slice A0 p0.length c0), (50, zqz x43)] zqp fun j => ?_))
     obtain ⟨c86, h87, hF⟩ := bind_some hF
     refine zD hO (ziP r42 h87) rfl fun _ σ _ _ hO h88 h89 => ?_
     have hL := hL.trans h88
     have r42 := r42.le h88
     have w48 := w48.le h88
     obtain ⟨rfl, rfl⟩ := h89
     have hO : Obs _ _ [_] := hO
     refine zc hO [] [(0, .slice A0 p0.length c0), (7, zqz c4.1), (10, .slice A44 x47.length c45), (11, zqz x49), (12, zqz x50), (13, zqz c86.1), (14, zqz c86.2.1), (15, .bool c86.2.2)] zqq fun j => ?_
     refine ze (zc hO [] [(0, .slice A0 p0.length c0), (7, zqz c4.1), (10, .slice A44 x47.length c45), (11, zqz x49), (12, zqz x50), (13, zqz c86.1), (14, zqz c86.2.1), (56, .bool (!c86.2.2))] zqq fun j => ?_)
     rcases zi hF with ⟨hb90, hF⟩ | ⟨hb90, hF⟩
     ·refine zk (congrArg Value.bool hb90) ?_
      refine ze (zc hO [] [(4, .slice none 0 0), (5, zqz 0), (6, zqz 5)] zql fun j => ?_)
      refine zu (zw (zn (zn (zw (zn ?_)))))
      injection hF with hF
      subst hF
      have hO := hO.sel [] (by decide)
      exact hQ _ _ _ _ _ rfl hO hL ⟨_, rfl, rfl, (RdT.nil _ _)⟩
     ·refine zl (congrArg Value.bool hb90) ?_
      refine zm (zd hO 2 [] [(0, .slice A0 p0.length c0), (7, zqz c4.1), (10, .slice A44 x47.length c45), (11, zqz x49), (12, zqz x50), (13, zqz c86.1), (58, .slice A0 p0.length c0), (59, zqz c86.2.1)] zqq fun j => ?_)
      obtain ⟨c91, h92, hF⟩ := bind_some hF
      refine zD hO (ziP r42 h92) rfl fun _ σ _ _ hO h93 h94 => ?_
      have hL := hL.trans h93
      have r42 := r42.le h93
      have w48 := w48.le h93
      obtain ⟨rfl, rfl⟩ := h94
      have hO : Obs _ _ [_] := hO
      refine zc hO [] [(0, .slice A0 p0.length c0), (7, zqz c4.1), (10, .slice A44 x47.length c45), (11, zqz x49), (12, zqz x50), (13, zqz c86.1), (16, zqz c91.1), (17, zqz c91.2.1), (18, .bool c91.2.2)] zqr fun j => ?_
      refine ze (zc hO [] [(0, .slice A0 p0.length c0), (7, zqz c4.1), (10, .slice A44 x47.length c45), (11, zqz x49), (12, zqz x50), (13, zqz c86.1), (16, zqz c91.1), (17, zqz c91.2.1), (65, .bool (!c91.2.2))] zqr fun j => ?_)
      rcases zi hF with ⟨hb95, hF⟩ | ⟨hb95, hF⟩
      ·refine zk (congrArg Value.bool hb95) ?_
       refine ze (zc hO [] [(4, .slice none 0 0), (5, zqz 0), (6, zqz 5)] zql fun j => ?_)
       refine zu (zw (zn (zn (zw (zn ?_)))))
       injection hF with hF
       subst hF
       have hO := hO.sel [] (by decide)
       exact hQ _ _ _ _ _ rfl hO hL ⟨_, rfl, rfl, (RdT.nil _ _)⟩
      ·refine zl (congrArg Value.bool hb95) ?_
       refine zm (zd hO 2 [] [(0, .slice A0 p0.length c0), (7, zqz c4.1), (10, .slice A44 x47.length c45), (11, zqz x49), (12, zqz x50), (13, zqz c86.1), (16, zqz c91.1), (67, .slice A0 p0.length c0), (68, zqz c91.2.1)] zqr fun j => ?_)
       obtain ⟨c96, h97, hF⟩ := bind_some hF
       refine zD hO (zmr r42 h97) rfl fun _ σ _ _ hO h98 h99 => ?_
       have hL := hL.trans h98
       have r42 := r42.le h98
       have w48 := w48.le h98
       obtain ⟨v100, rfl, rfl, r103⟩ := h99
       obtain ⟨A101, c102, rfl, -⟩ := r103.form
       have hO : Obs _ _ [_] := hO
       refine zc hO [] [(0, .slice A0 p0.length c0), (7, zqz c4.1), (10, .slice A44 x47.length c45), (11, zqz x49), (12, zqz x50), (13, zqz c86.1), (16, zqz c91.1), (19, .slice A101 c96.1.length c102), (20, zqz c96.2.1), (21, zqz c96.2.2)] zqs fun j => ?_
       refine ze (zc hO [] [(0, .slice A0 p0.length c0), (7, zqz c4.1), (10, .slice A44 x47.length c45), (11, zqz x49), (12, zqz x50), (13, zqz c86.1), (16, zqz c91.1), (19, .slice A101 c96.1.length c102), (20, zqz c96.2.1), (74, .bool (c96.2.2 != 0))] zqs fun j => ?_)
       rcases zi hF with ⟨hb104, hF⟩ | ⟨hb104, hF⟩
       ·refine zk (congrArg Value.bool hb104) ?_
        refine ze (zc hO [] [(4, .slice none 0 0), (5, zqz 0), (6, zqz 5)] zql fun j => ?_)
        refine zu (zw (zn (zn (zw (zn ?_)))))
        injection hF with hF
        subst hF
        have hO := hO.sel [] (by decide)
        exact hQ _ _ _ _ _ rfl hO hL ⟨_, rfl, rfl, (RdT.nil _ _)⟩
       ·refine zl (congrArg Value.bool hb104) ?_
        refine zm (zd hO 11 [] [(0, .slice A0 p0.length c0), (7, zqz c4.1), (11, zqz x49), (12, zqz x50), (13, zqz c86.1), (16, zqz c91.1), (20, zqz c96.2.1), (75, .slice A44 x47.length c45), (85, .agg #[(.int .i64 (IntKind.i64.wrap (x49 + c86.1))), (.int .i64 (IntKind.i64.wrap ((IntKind.i64.wrap (x49 + c86.1)) + c91.1))), (.slice A101 c96.1.length c102)])] zqr fun j => ?_)
        obtain ⟨_, hr109, hF⟩ := bind_some hF
        refine zbN (T := zT) (y := (⟨(IntKind.i64.wrap (x49 + c86.1)), (IntKind.i64.wrap ((IntKind.i64.wrap (x49 + c86.1)) + c91.1)), c96.1⟩ : zq)) hO w48 (i := 0) rfl rfl (fun _ => rfl) rfl ⟨_, rfl, r103⟩ rfl hr109 (by decide) fun u _ σ o107 w108 hO => ?_
        obtain ⟨A105, c106, rfl, -⟩ := w108.form
        have hO : Obs _ _ [_] := hO
        refine zc hO [] [(0, .slice A0 p0.length c0), (7, zqz c4.1), (10, .slice A105 (x47 ++ [(⟨(IntKind.i64.wrap (x49 + c86.1)), (IntKind.i64.wrap ((IntKind.i64.wrap (x49 + c86.1)) + c91.1)), c96.1⟩ : zq)]).length c106), (11, zqz x49), (12, zqz x50), (13, zqz c86.1), (16, zqz c91.1), (20, zqz c96.2.1)] zqq fun j => ?_
        refine zc hO [] [(0, .slice A0 p0.length c0), (7, zqz c4.1), (10, .slice A105 (x47 ++ [(⟨(IntKind.i64.wrap (x49 + c86.1)), (IntKind.i64.wrap ((IntKind.i64.wrap (x49 + c86.1)) + c91.1)), c96.1⟩ : zq)]).length c106), (11, zqz (IntKind.i64.wrap ((IntKind.i64.wrap (x49 + c86.1)) + c91.1))), (12, zqz x50), (20, zqz c96.2.1)] zqo fun j => ?_
        refine zc hO [] [(0, .slice A0 p0.length c0), (7, zqz c4.1), (8, zqz c96.2.1), (10, .slice A105 (x47 ++ [(⟨(IntKind.i64.wrap (x49 + c86.1)), (IntKind.i64.wrap ((IntKind.i64.wrap (x49 + c86.1)) + c91.1)), c96.1⟩ : zq)]).length c106), (11, zqz (IntKind.i64.wrap ((IntKind.i64.wrap (x49 + c86.1)) + c91.1))), (12, zqz x50)] zqo fun j => ?_
        refine zc hO [] [(0, .slice A0 p0.length c0), (7, zqz c4.1), (8, zqz c96.2.1), (10, .slice A105 (x47 ++ [(⟨(IntKind.i64.wrap (x49 + c86.1)), (IntKind.i64.wrap ((IntKind.i64.wrap (x49 + c86.1)) + c91.1)), c96.1⟩ : zq)]).length c106), (11, zqz (IntKind.i64.wrap ((IntKind.i64.wrap (x49 + c86.1)) + c91.1))), (12, zqz x50), (95, .bool (decide ((IntKind.i64.wrap ((IntKind.i64.wrap (x49 + c86.1)) + c91.1)) > 16777216)))] zqp fun j => ?_
        refine zbl ?_
        rcases zi hF with ⟨hb110, hF⟩ | ⟨hb110, hF⟩
        ·refine zk (congrArg Value.bool hb110) ?_
         refine ze (zc hO [] [(4, .slice none 0 0), (5, zqz 0), (6, zqz 5)] zql fun j => ?_)
         refine zu (zw (zn (zn (zw (zn ?_)))))
         injection hF with hF
         subst hF
         have hO := hO.sel [] (by decide)
         exact hQ _ _ _ _ _ rfl hO hL ⟨_, rfl, rfl, (RdT.nil _ _)⟩
        ·refine zl (congrArg Value.bool hb110) ?_
         refine zm (zg (zP (zj (zA (zc hO [] [(0, .slice A0 p0.length c0), (7, zqz c4.1), (8, zqz c96.2.1), (10, .slice A105 (x47 ++ [(⟨(IntKind.i64.wrap (x49 + c86.1)), (IntKind.i64.wrap ((IntKind.i64.wrap (x49 + c86.1)) + c91.1)), c96.1⟩ : zq)]).length c106), (11, zqz (IntKind.i64.wrap ((IntKind.i64.wrap (x49 + c86.1)) + c91.1))), (12, zqz (IntKind.i64.wrap (x50 + 1)))] zqo fun j => ?_)))))
         refine zg (zj ?_)
         exact ⟨n84, Nat.lt_succ_self _, c96.2.1, A105, c106, o107, (x47 ++ [(⟨(IntKind.i64.wrap (x49 + c86.1)), (IntKind.i64.wrap ((IntKind.i64.wrap (x49 + c86.1)) + c91.1)), c96.1⟩ : zq)]), (IntKind.i64.wrap ((IntKind.i64.wrap (x49 + c86.1)) + c91.1)), (IntKind.i64.wrap (x50 + 1)), _, zqy zqn, hO, hL, r42, w108, hF⟩
    ·refine zl (congrArg Value.bool hb85) ?_
     refine zU (zY (z0 (zj (ze (zd hO 1 [] [(8, zqz x43), (10, .slice A44 x47.length c45), (96, .slice A44 x47.length c45)] zql fun j => ?_)))))
     obtain ⟨_, h112, r111, hO⟩ := w48.share hO (i := 0) rfl
     have hL := hL.trans h112
     have hO : Obs _ _ [_] := hO
     obtain ⟨c113, h114, hF⟩ := bind_some hF
     refine zD hO (zle r111 h114) rfl fun _ σ _ _ hO h115 h116 => ?_
     have hL := hL.trans h115
     have r111 := r111.le h115
     obtain ⟨rfl, rfl⟩ := h116
     have hO : Obs _ _ [_] := hO
     refine zc hO [] [(8, zqz x43), (10, .slice A44 x47.length c45), (98, .bool (!c113))] zql fun j => ?_
     rcases zi hF with ⟨hb117, hF⟩ | ⟨hb117, hF⟩
     ·refine zk (congrArg Value.bool hb117) ?_
      refine ze (zc hO [] [(4, .slice none 0 0), (5, zqz 0), (6, zqz 5)] zql fun j => ?_)
      refine zu ?_
      injection hF with hF
      subst hF
      have hO := hO.sel [] (by decide)
      exact hQ _ _ _ _ _ rfl hO hL ⟨_, rfl, rfl, (RdT.nil _ _)⟩
     ·refine zl (congrArg Value.bool hb117) ?_
      refine zm (zc hO [] [(4, .slice A44 x47.length c45), (5, zqz x43), (6, zqz 0)] zql fun j => ?_)
      refine zK ?_
      injection hF with hF
      subst hF
      have hO := hO.sel [] (by decide)
      exact hQ _ _ _ _ _ rfl hO hL ⟨_, rfl, rfl, r111⟩
theorem zns {τ : Hp} {q0 : zI} {bm0 : Nat} {vm0_0 : Value} (rm0_0 : RdT Ty.u8 τ vm0_0 q0.B) {rr : (List zq) × zI} (hF : zgw q0 = some rr) :
  Ctr Tryz.prog 54 #[.pointer (some ⟨bm0, 0, none⟩)] τ [some (bm0, ⟨[vm0_0, .int .i64 q0.At, .bool q0.Failed], 96, 3, true⟩)] (fun v τ' vs' => ∃ (v0 : Value) (u0_0 : Value), v = v0 ∧ vs' = [some (bm0, ⟨[u0_0, .int .i64 rr.2.At, .bool rr.2.Failed], 96, 3, true⟩)] ∧ RdT zT τ' v0 rr.1 ∧ RdT Ty.u8 τ' u0_0 rr.2.B) := by
 obtain ⟨Am0_0, cm0_0, rfl, -⟩ := rm0_0.form
 refine zM (args := [.pointer (some ⟨bm0, 0, none⟩)]) hm Tryz.func54 s54 rfl fun w0 σ hO Q hQ => ?_
 unfold zgw at hF
 have hL := Hp.le.refl τ
 show wpn _ _ a54.body _ _ _
 unfold a54
 dsimp only
 refine zc hO [] [(0, zqA bm0)] zqj fun j => ?_
 refine ze (zc hO [0] [(0, zqA bm0), (9, .bool q0.Failed)] (And.intro (And.intro rfl rfl) zqk) fun j => ?_)
 rcases zi hF with ⟨hb2, hF⟩ | ⟨hb2, hF⟩
 ·refine zk (congrArg Value.bool hb2) ?_
  refine ze (zc hO [] [(0, zqA bm0), (2, .slice none 0 0)] zqk fun j => ?_)
  refine zu ?_
  injection hF with hF
  subst hF
  exact hQ _ _ _ _ _ rfl hO hL ⟨_, _, rfl, rfl, (RdT.nil _ _), rm0_0⟩
 ·refine zl (congrArg Value.bool hb2) ?_
  refine zm (zbr (zd hO 8 [0, 0] [(0, zqA bm0), (14, .slice Am0_0 q0.B.length cm0_0), (18, zqz q0.At)] (And.intro (And.intro rfl rfl) (And.intro (And.intro rfl rfl) zql)) fun j => ?_))
  obtain ⟨c3, h4, hF⟩ := bind_some hF
  refine zD hO (zpN rm0_0 h4) rfl fun _ σ _ _ hO h5 h6 => ?_
  have hL := hL.trans h5
  have rm0_0 := rm0_0.le h5
  obtain ⟨v7, rfl, rfl, r10⟩ := h6
  obtain ⟨A8, c9, rfl, -⟩ := r10.form
  have hO : Obs _ _ [_] := hO
  refine zc hO [] [(0, zqA bm0), (3, .slice A8 c3.1.length c9), (4, zqz c3.2.1), (5, zqz c3.2.2)] zqm fun j => ?_
  refine ze (zc hO [] [(0, zqA bm0), (3, .slice A8 c3.1.length c9), (4, zqz c3.2.1), (24, .bool (c3.2.2 != 0))] zqm fun j => ?_)
  rcases zi hF with ⟨hb11, hF⟩ | ⟨hb11, hF⟩
  ·refine zk (congrArg Value.bool hb11) ?_
   refine ze (zd hO 3 [] [(0, zqA bm0), (27, .pointer (some ⟨bm0, 2, none⟩))] zqk fun j => ?_)
   refine zO hO (i := 0) rfl (off := 2) rfl rfl rfl rfl (Nat.le_of_ble_eq_true rfl) rfl fun σ hO => ?_
   have hO : Obs _ _ [_] := hO
   refine zh (ze (zc hO [] [(0, zqA bm0), (2, .slice none 0 0)] zqk fun j => ?_))
   refine zu ?_
   injection hF with hF
   subst hF
   exact hQ _ _ _ _ _ rfl hO hL ⟨_, _, rfl, rfl, (RdT.nil _ _), rm0_0⟩
  ·refine zl (congrArg Value.bool hb11) ?_
   refine zm (zd hO 4 [] [(0, zqA bm0), (3, .slice A8 c3.1.length c9), (29, zqz c3.2.1), (31, .pointer (some ⟨bm0, 1, none⟩))] zqm fun j => ?_)
   refine zO hO (i := 0) rfl (off := 1) rfl rfl rfl rfl (Nat.le_of_ble_eq_true rfl) rfl fun σ hO => ?_
   have hO : Obs _ _ [_] := hO
   refine zh (zc hO [] [(0, zqA bm0), (2, .slice A8 c3.1.length c9)] zqk fun j => ?_)
   refine zK ?_
   injection hF with hF
   subst hF
   exact hQ _ _ _ _ _ rfl hO hL ⟨_, _, rfl, rfl, r10, rm0_0⟩
theorem zmT {τ : Hp} {v0 : Value} {p0 : (List UInt8)} {p1 : Int} (r0 : RdT Ty.u8 τ v0 p0) {rr : (List zo) × (List zB) × Int × Int} (hF : zfd p0 p1 = some rr) :
  Ctr Tryz.prog 20 #[v0, .int .i64 p1] τ [] (fun v τ' vs' => ∃ (v0 : Value) (v1 : Value), v = .tuple #[v0, v1, .int .i64 rr.2.2.1, .int .i64 rr.2.2.2] ∧ vs' = [] ∧ RdT zV τ' v0 rr.1 ∧ RdT zbg τ' v1 rr.2.1) := by
 obtain ⟨A0, c0, rfl, -⟩ := r0.form
 refine zM (args := [.slice A0 p0.length c0, .int .i64 p1]) hm Tryz.func20 s20 rfl fun w0 σ hO Q hQ => ?_
 unfold zfd at hF
 have hL := Hp.le.refl τ
 show wpn _ _ a20.body _ _ _
 unfold a20
 dsimp only
 refine zc hO [] [(0, .slice A0 p0.length c0), (1, zqz p1)] zqk fun j => ?_
 refine ze (zc hO [] [(0, .slice A0 p0.length c0), (1, zqz p1), (28, .bool ((decide (p1 < 0)) || (decide (p1 > (p0.length : Int)))))] (And.intro (And.intro rfl rfl) (fun _ => zqy zqk)) fun j => ?_)
 rcases zi hF with ⟨hb3, hF⟩ | ⟨hb3, hF⟩
 ·refine zk (congrArg Value.bool hb3) ?_
  refine ze (zc hO [] [(4, .slice none 0 0), (5, .slice none 0 0), (6, zqz 0), (7, zqz 1)] zqm fun j => ?_)
  refine zu ?_
  injection hF with hF
  subst hF
  exact hQ _ _ _ _ _ rfl hO hL ⟨_, _, rfl, rfl, (RdT.nil _ _), (RdT.nil _ _)⟩
 ·refine zl (congrArg Value.bool hb3) ?_
  refine zm (zd hO 3 [] [(31, .agg #[(.slice A0 p0.length c0), (.int .i64 p1), (.bool false)])] zqj fun j => ?_)
  refine zb2 (n := 3) hO rfl rfl fun b4 σ hO => ?_
  have hO : Obs _ _ [_] := hO
  refine zc hO [] [(8, zqA b4)] zqj fun j => ?_
  refine zc hO [] [(8, zqA b4), (9, .slice none 0 0)] zqk fun j => ?_
  refine zc hO [] [(8, zqA b4), (9, .slice none 0 0), (10, .slice none 0 0)] zql fun j => ?_
  refine zc hO [] [(8, zqA b4), (9, .slice none 0 0), (10, .slice none 0 0), (11, zqz 0)] zqm fun j => ?_
  refine zd hO 1 [] [(8, zqA b4), (9, .slice none 0 0), (10, .slice none 0 0), (11, zqz 0), (33, zqA b4)] zqn fun j => ?_
  obtain ⟨c5, h6, hF⟩ := bind_some hF
  refine zX (hs := []) (vs := [_]) hO (zcv (q0 := (⟨p0, p1, false⟩ : zI)) r0 h6) rfl fun _ σ _ _ hO h7 h8 => ?_
  have hL := hL.trans h7
  obtain ⟨v9, rfl, rfl, r12⟩ := h8
  obtain ⟨A10, c11, rfl, -⟩ := r12.form
  have hO : Obs _ _ [_] := hO
  refine zc hO [] [(8, zqA b4), (9, .slice none 0 0), (10, .slice none 0 0), (11, zqz 0), (12, zqz c5.1)] zqn fun j => ?_
  refine ze (zc hO [] [(8, zqA b4), (9, .slice none 0 0), (10, .slice none 0 0), (11, zqz 0), (12, zqz c5.1), (13, zqz 0)] zqo fun j => ?_)
  refine zt ?_
  have hO := hO.no
  have hO : Obs _ _ [_, _] := hO
  refine zZ (fun (n : Nat) e' σ' => ∃ (A655 : Option Addr) (c656 : Nat) (x657 : List UInt8) (x659 : Int) (x660 : Bool) (A661 : Option Addr) (c662 : Nat) (o663 : Ob) (x664 : List zo) (x666 : Int) (x667 : Int) (τ' : Hp), agr [(8, zqA b4), (9, .slice A661 x664.length c662), (10, .slice none 0 0), (11, zqz x666), (12, zqz c5.1), (13, zqz x667)] e' ∧ Obs τ' σ' [some (b4, ⟨[.slice A655 x657.length c656, .int .i64 x659, .bool x660], 96, 3, true⟩), o663] ∧ Hp.le τ τ' ∧ RdT Ty.u8 τ' (.slice A655 x657.length c656) x657 ∧ zr zV 48 τ' (.slice A661 x664.length c662) x664 o663 ∧ zb5 c5 n x657 x659 x660 x664 x666 x667 = some rr) big ⟨A10, c11, c5.2.B, c5.2.At, c5.2.Failed, none, 0, none, [], 0, 0, _, zqy zqn, hO, hL, r12, zr.nil _ _ _, hF⟩ ?_
  clear hF hO hL
  rintro n1367 e σ ⟨A655, c656, x657, x659, x660, A661, c662, o663, x664, x666, x667, _, hA, hO, hL, r658, w665, hF⟩
  rw [← zL _ _ hA]
  cases n1367 with
  | zero => exact nomatch (show none = some rr from hF)
  | succ n1367 =>
   replace hF : zgz (zb5 c5 n1367) c5 x657 x659 x660 x664 x666 x667 = some rr := hF
   unfold zgz at hF
   refine ze (zc hO [0] [(8, zqA b4), (9, .slice A661 x664.length c662), (10, .slice none 0 0), (11, zqz x666), (12, zqz c5.1), (13, zqz x667), (44, .bool ((decide (x667 < c5.1)) && (!x660)))] (And.intro (And.intro rfl rfl) (And.intro (And.intro rfl rfl) (fun _ => zqy zqo))) fun j => ?_)
   rcases zi hF with ⟨hb1368, hF⟩ | ⟨hb1368, hF⟩
   ·refine zk (congrArg Value.bool hb1368) ?_
    refine zm (zt (zd hO 1 [] [(8, zqA b4), (9, .slice A661 x664.length c662), (10, .slice none 0 0), (11, zqz x666), (12, zqz c5.1), (13, zqz x667), (47, zqA b4)] zqp fun j => ?_))
    obtain ⟨c1369, h1370, hF⟩ := bind_some hF
    have hO := hO.sel [1, 0] (by decide)
    refine zX (hs := [_]) (vs := [_]) hO (zhi (q0 := (⟨x657, x659, x660⟩ : zI)) r658 h1370) rfl fun _ σ _ _ hO h1371 h1372 => ?_
    have hL := hL.trans h1371
    have w665 := w665.le h1371
    obtain ⟨v1373, rfl, rfl, r1376⟩ := h1372
    obtain ⟨A1374, c1375, rfl, -⟩ := r1376.form
    have hO : Obs _ _ [_, _] := hO
    refine zd hO 1 [] [(8, zqA b4), (9, .slice A661 x664.length c662), (10, .slice none 0 0), (11, zqz x666), (12, zqz c5.1), (13, zqz x667), (49, .agg #[(.string c1369.1), (.int .i64 0), (.int .i64 0), (.slice none 0 0), (.slice none 0 0)])] zqp fun j => ?_
    refine zbq hO fun b1377 σ hO => ?_
    have hO : Obs _ _ [_, _, _] := hO
    refine zO hO (i := 2) rfl (off := 0) rfl rfl rfl rfl (Nat.le_of_ble_eq_true rfl) rfl fun σ hO => ?_
    have hO : Obs _ _ [_, _, _] := hO
    refine zh (zd hO 2 [] [(8, zqA b4), (9, .slice A661 x664.length c662), (10, .slice none 0 0), (12, zqz c5.1), (13, zqz x667), (14, zqA b1377), (50, zqz x666), (51, zqA b4)] zqq fun j => ?_)
    obtain ⟨c1378, h1379, hF⟩ := bind_some hF
    have hO := hO.sel [0, 2, 1] (by decide)
    refine zX (hs := [_, _]) (vs := [_]) hO (zcv (q0 := (⟨c1369.2.B, c1369.2.At, c1369.2.Failed⟩ : zI)) r1376 h1379) rfl fun _ σ _ _ hO h1380 h1381 => ?_
    have hL := hL.trans h1380
    have w665 := w665.le h1380
    obtain ⟨v1382, rfl, rfl, r1385⟩ := h1381
    obtain ⟨A1383, c1384, rfl, -⟩ := r1385.form
    have hO : Obs _ _ [_, _, _] := hO
    refine zd hO 2 [] [(8, zqA b4), (9, .slice A661 x664.length c662), (10, .slice none 0 0), (12, zqz c5.1), (13, zqz x667), (14, zqA b1377), (53, zqz (IntKind.i64.wrap (x666 + c1378.1))), (54, .pointer (some ⟨b1377, 1, none⟩))] zqq fun j => ?_
    refine zO hO (i := 1) rfl (off := 1) rfl rfl rfl rfl (Nat.le_of_ble_eq_true rfl) rfl fun σ hO => ?_
    have hO : Obs _ _ [_, _, _] := hO
    refine zh (zbr (zd hO 3 [1] [(8, zqA b4), (9, .slice A661 x664.length c662), (10, .slice none 0 0), (12, zqz c5.1), (13, zqz x667), (14, zqA b1377), (55, .pointer (some ⟨b1377, 1, none⟩)), (56, zqz (IntKind.i64.wrap (x666 + c1378.1))), (57, zqA b4)] (And.intro (And.intro rfl rfl) zqr) fun j => ?_))
    refine zbz ?_
    obtain ⟨c1386, h1387, hF⟩ := bind_some hF
    refine zX (hs := [_, _]) (vs := [_]) hO (zcv (q0 := (⟨c1378.2.B, c1378.2.At, c1378.2.Failed⟩ : zI)) r1385 h1387) rfl fun _ σ _ _ hO h1388 h1389 => ?_
    have hL := hL.trans h1388
    have w665 := w665.le h1388
    obtain ⟨v1390, rfl, rfl, r1393⟩ := h1389
    obtain ⟨A1391, c1392, rfl, -⟩ := r1393.form
    have hO : Obs _ _ [_, _, _] := hO
    refine zh (zbx ⟨(zbi rfl (hO.val (i := 1) (off := 1) (agg := false) (n := 1) rfl rfl) rfl), trivial⟩ ?_)
    refine zd hO 2 [] [(8, zqA b4), (9, .slice A661 x664.length c662), (10, .slice none 0 0), (12, zqz c5.1), (13, zqz x667), (14, zqA b1377), (59, zqz (IntKind.i64.wrap ((IntKind.i64.wrap (x666 + c1378.1)) + c1386.1))), (60, .pointer (some ⟨b1377, 2, none⟩))] zqq fun j => ?_
    refine zO hO (i := 1) rfl (off := 2) rfl rfl rfl rfl (Nat.le_of_ble_eq_true rfl) rfl fun σ hO => ?_
    have hO : Obs _ _ [_, _, _] := hO
    refine zh (zc hO [1] [(8, zqA b4), (9, .slice A661 x664.length c662), (10, .slice none 0 0), (11, zqz (IntKind.i64.wrap ((IntKind.i64.wrap (x666 + c1378.1)) + c1386.1))), (12, zqz c5.1), (13, zqz x667), (14, zqA b1377)] (And.intro (And.intro rfl rfl) zqp) fun j => ?_)
    refine ze (zc hO [] [(8, zqA b4), (9, .slice A661 x664.length c662), (10, .slice none 0 0), (11, zqz (IntKind.i64.wrap ((IntKind.i64.wrap (x666 + c1378.1)) + c1386.1))), (12, zqz c5.1), (13, zqz x667), (14, zqA b1377), (64, .bool (decide ((IntKind.i64.wrap ((IntKind.i64.wrap (x666 + c1378.1)) + c1386.1)) > 16777216)))] zqq fun j => ?_)
    refine zco (fun e' σ' => ∃ (x1396 : Bool) (A1397 : Option Addr) (c1398 : Nat) (o1399 : Ob) (x1400 : List zo) (τ' : Hp), agr [(8, zqA b4), (9, .slice A1397 x1400.length c1398), (10, .slice none 0 0), (11, zqz (IntKind.i64.wrap ((IntKind.i64.wrap (x666 + c1378.1)) + c1386.1))), (12, zqz c5.1), (13, zqz x667), (14, zqA b1377)] e' ∧ Obs τ' σ' [some (b4, ⟨[.slice A1391 c1386.2.B.length c1392, .int .i64 c1386.2.At, .bool x1396], 96, 3, true⟩), o1399, some (b1377, ⟨[.string c1369.1, .int .i64 (IntKind.i64.wrap (x666 + c1378.1)), .int .i64 (IntKind.i64.wrap ((IntKind.i64.wrap (x666 + c1378.1)) + c1386.1)), .slice none 0 0, .slice none 0 0], 48, 5, true⟩)] ∧ Hp.le τ τ' ∧ RdT Ty.u8 τ' (.slice A1391 c1386.2.B.length c1392) c1386.2.B ∧ zr zV 48 τ' (.slice A1397 x1400.length c1398) x1400 o1399 ∧ zdn (zb5 c5 n1367) x666 x667 c1369 c1378 c1386 x1396 x1400 = some rr) ?_ ?_
    ·refine zbl ?_
     rcases zi hF with ⟨hb1605, hF⟩ | ⟨hb1605, hF⟩
     ·refine zk (congrArg Value.bool hb1605) ?_
      refine zd hO 3 [] [(8, zqA b4), (9, .slice A661 x664.length c662), (10, .slice none 0 0), (11, zqz (IntKind.i64.wrap ((IntKind.i64.wrap (x666 + c1378.1)) + c1386.1))), (12, zqz c5.1), (13, zqz x667), (14, zqA b1377), (67, .pointer (some ⟨b4, 2, none⟩))] zqq fun j => ?_
      refine zO hO (i := 2) rfl (off := 2) rfl rfl rfl rfl (Nat.le_of_ble_eq_true rfl) rfl fun σ hO => ?_
      have hO : Obs _ _ [_, _, _] := hO
      refine zh (zg (zj ?_))
      have hO := hO.sel [2, 0, 1] (by decide)
      exact ⟨true, A661, c662, o663, x664, _, zqy zqo, hO, hL, r1393, w665, hF⟩
     ·refine zl (congrArg Value.bool hb1605) ?_
      refine zm (zg (zj ?_))
      have hO := hO.sel [2, 0, 1] (by decide)
      exact ⟨c1386.2.Failed, A661, c662, o663, x664, _, zqy zqo, hO, hL, r1393, w665, hF⟩
    ·rintro e σ ⟨x1396, A1397, c1398, o1399, x1400, _, hA, hO, hL, r1395, w1401, hF⟩
     rw [← zL _ _ hA]
     unfold zdn at hF
     refine zd hO 1 [] [(8, zqA b4), (9, .slice A1397 x1400.length c1398), (10, .slice none 0 0), (11, zqz (IntKind.i64.wrap ((IntKind.i64.wrap (x666 + c1378.1)) + c1386.1))), (12, zqz c5.1), (13, zqz x667), (14, zqA b1377), (68, zqA b4)] zqq fun j => ?_
     obtain ⟨c1402, h1403, hF⟩ := bind_some hF
     have hO := hO.sel [1, 2, 0] (by decide)
     refine zX (hs := [_, _]) (vs := [_]) hO (zcv (q0 := (⟨c1386.2.B, c1386.2.At, x1396⟩ : zI)) r1395 h1403) rfl fun _ σ _ _ hO h1404 h1405 => ?_
     have hL := hL.trans h1404
     have w1401 := w1401.le h1404
     obtain ⟨v1406, rfl, rfl, r1409⟩ := h1405
     obtain ⟨A1407, c1408, rfl, -⟩ := r1409.form
     have hO : Obs _ _ [_, _, _] := hO
     refine zc hO [] [(8, zqA b4), (9, .slice A1397 x1400.length c1398), (10, .slice none 0 0), (11, zqz (IntKind.i64.wrap ((IntKind.i64.wrap (x666 + c1378.1)) + c1386.1))), (12, zqz c5.1), (13, zqz x667), (14, zqA b1377), (15, zqz c1402.1)] zqq fun j => ?_
     refine ze (zc hO [] [(8, zqA b4), (9, .slice A1397 x1400.length c1398), (10, .slice none 0 0), (11, zqz (IntKind.i64.wrap ((IntKind.i64.wrap (x666 + c1378.1)) + c1386.1))), (12, zqz c5.1), (13, zqz x667), (14, zqA b1377), (15, zqz c1402.1), (16, zqz 0)] zqr fun j => ?_)
     refine zt ?_
     have hO := hO.no
     have hO : Obs _ _ [_, _, _, _] := hO
     have hO := hO.no
     have hO : Obs _ _ [_, _, _, _, _] := hO
     have hO := hO.sel [2, 0, 1, 3, 4] (by decide)
     refine zZ (fun (n : Nat) e' σ' => ∃ (A1470 : Option Addr) (c1471 : Nat) (x1472 : List UInt8) (x1474 : Int) (x1475 : Bool) (A1476 : Option Addr) (c1477 : Nat) (o1478 : Ob) (x1479 : List zo) (A1481 : Option Addr) (c1482 : Nat) (o1483 : Ob) (x1484 : List zG) (A1486 : Option Addr) (c1487 : Nat) (o1488 : Ob) (x1489 : List (List zq)) (x1491 : Int) (τ' : Hp), agr [(8, zqA b4), (9, .slice A1476 x1479.length c1477), (10, .slice none 0 0), (11, zqz (IntKind.i64.wrap ((IntKind.i64.wrap (x666 + c1378.1)) + c1386.1))), (12, zqz c5.1), (13, zqz x667), (14, zqA b1377), (15, zqz c1402.1), (16, zqz x1491)] e' ∧ Obs τ' σ' [some (b4, ⟨[.slice A1470 x1472.length c1471, .int .i64 x1474, .bool x1475], 96, 3, true⟩), o1478, some (b1377, ⟨[.string c1369.1, .int .i64 (IntKind.i64.wrap (x666 + c1378.1)), .int .i64 (IntKind.i64.wrap ((IntKind.i64.wrap (x666 + c1378.1)) + c1386.1)), .slice A1481 x1484.length c1482, .slice A1486 x1489.length c1487], 48, 5, true⟩), o1483, o1488] ∧ Hp.le τ τ' ∧ RdT Ty.u8 τ' (.slice A1470 x1472.length c1471) x1472 ∧ zr zV 48 τ' (.slice A1476 x1479.length c1477) x1479 o1478 ∧ zr zby 53 τ' (.slice A1481 x1484.length c1482) x1484 o1483 ∧ zr (Ty.slice zT) 54 τ' (.slice A1486 x1489.length c1487) x1489 o1488 ∧ zdD (zb5 c5 n1367) x666 x667 c1369 c1378 c1386 c1402 n x1472 x1474 x1475 x1479 x1484 x1489 x1491 = some rr) big ⟨A1407, c1408, c1402.2.B, c1402.2.At, c1402.2.Failed, A1397, c1398, o1399, x1400, none, 0, none, [], none, 0, none, [], 0, _, zqy zqq, hO, hL, r1409, w1401, zr.nil _ _ _, zr.nil _ _ _, hF⟩ ?_
     clear hF hO hL
     rintro n1548 e σ ⟨A1470, c1471, x1472, x1474, x1475, A1476, c1477, o1478, x1479, A1481, c1482, o1483, x1484, A1486, c1487, o1488, x1489, x1491, _, hA, hO, hL, r1473, w1480, w1485, w1490, hF⟩
     rw [← zL _ _ hA]
     cases n1548 with
     | zero => exact nomatch (show none = some rr from hF)
     | succ n1548 =>
      replace hF : zeN (zdD (zb5 c5 n1367) x666 x667 c1369 c1378 c1386 c1402 n1548) (zb5 c5 n1367) x666 x667 c1369 c1378 c1386 c1402 x1472 x1474 x1475 x1479 x1484 x1489 x1491 = some rr := hF
      unfold zeN at hF
      refine ze (zc hO [0] [(8, zqA b4), (9, .slice A1476 x1479.length c1477), (10, .slice none 0 0), (11, zqz (IntKind.i64.wrap ((IntKind.i64.wrap (x666 + c1378.1)) + c1386.1))), (12, zqz c5.1), (13, zqz x667), (14, zqA b1377), (15, zqz c1402.1), (16, zqz x1491), (79, .bool ((decide (x1491 < c1402.1)) && (!x1475)))] (And.intro (And.intro rfl rfl) (And.intro (And.intro rfl rfl) (fun _ => zqy zqr))) fun j => ?_)
      rcases zi hF with ⟨hb1549, hF⟩ | ⟨hb1549, hF⟩
      ·refine zk (congrArg Value.bool hb1549) ?_
       refine zm (zt (zbr (zd hO 3 [2] [(8, zqA b4), (9, .slice A1476 x1479.length c1477), (10, .slice none 0 0), (11, zqz (IntKind.i64.wrap ((IntKind.i64.wrap (x666 + c1378.1)) + c1386.1))), (12, zqz c5.1), (13, zqz x667), (14, zqA b1377), (15, zqz c1402.1), (16, zqz x1491), (82, .pointer (some ⟨b1377, 3, none⟩)), (83, .slice A1481 x1484.length c1482), (84, zqA b4)] (And.intro (And.intro rfl rfl) zqu) fun j => ?_)))
       refine zbz ?_
       obtain ⟨c1550, h1551, hF⟩ := bind_some hF
       have hO := hO.sel [1, 2, 3, 4, 0] (by decide)
       refine zX (hs := [_, _, _, _]) (vs := [_]) hO (zoW (q0 := (⟨x1472, x1474, x1475⟩ : zI)) r1473 h1551) rfl fun _ σ _ _ hO h1552 h1553 => ?_
       have hL := hL.trans h1552
       have w1480 := w1480.le h1552
       have w1485 := w1485.le h1552
       have w1490 := w1490.le h1552
       obtain ⟨v1554, v1558, rfl, rfl, r1555, r1561⟩ := h1553
       obtain ⟨A1556, c1557, rfl, -⟩ := r1555.form
       obtain ⟨A1559, c1560, rfl, -⟩ := r1561.form
       have hO : Obs _ _ [_, _, _, _, _] := hO
       refine zh (zbx ⟨(zbi rfl (hO.val (i := 1) (off := 3) (agg := false) (n := 1) rfl rfl) rfl), trivial⟩ ?_)
       refine zbz (zbX (T := zby) (l := ([(⟨c1550.1.Name, (⟨c1550.1.Type_.Kind, c1550.1.Type_.N, c1550.1.Type_.Name⟩ : zbp), c1550.1.Words, c1550.1.Fields⟩ : zG)] : List zG)) (cs := [.string c1550.1.Name, .int .u8 (c1550.1.Type_.Kind.toNat : Int), .int .i64 c1550.1.Type_.N, .string c1550.1.Type_.Name, .int .i64 c1550.1.Words, .slice A1556 c1550.1.Fields.length c1557]) hO rfl ⟨[.string c1550.1.Name, .int .u8 (c1550.1.Type_.Kind.toNat : Int), .int .i64 c1550.1.Type_.N, .string c1550.1.Type_.Name, .int .i64 c1550.1.Words, .slice A1556 c1550.1.Fields.length c1557], _, rfl, ⟨_, rfl, r1555⟩, rfl⟩ rfl (by decide) fun _ σ o1564 w1565 hO => ?_)
       obtain ⟨A1562, c1563, rfl, -⟩ := w1565.form
       have hO : Obs _ _ [_, _, _, _, _, _] := hO
       refine zh (zbx ⟨(zbi rfl (hO.val (i := 1) (off := 3) (agg := false) (n := 1) rfl rfl) rfl), trivial⟩ ?_)
       obtain ⟨_, h1567, r1566, hO⟩ := w1565.share hO (i := 5) rfl
       have hL := hL.trans h1567
       have w1480 := w1480.le h1567
       have w1485 := w1485.le h1567
       have r1555 := r1555.le h1567
       have w1490 := w1490.le h1567
       have r1561 := r1561.le h1567
       have hO : Obs _ _ [_, _, _, _, _, _] := hO
       obtain ⟨_, hr1572, hF⟩ := bind_some hF
       refine zd8 (T := zby) hO w1485 (i := 2) rfl rfl rfl r1566 hr1572 (by decide) fun _ σ o1570 w1571 hO => ?_
       obtain ⟨A1568, c1569, rfl, -⟩ := w1571.form
       have hO : Obs _ _ [_, _, _, _, _, _] := hO
       refine zd hO 1 [] [(8, zqA b4), (9, .slice A1476 x1479.length c1477), (10, .slice none 0 0), (11, zqz (IntKind.i64.wrap ((IntKind.i64.wrap (x666 + c1378.1)) + c1386.1))), (12, zqz c5.1), (13, zqz x667), (14, zqA b1377), (15, zqz c1402.1), (16, zqz x1491), (87, .slice A1568 (x1484 ++ ([(⟨c1550.1.Name, (⟨c1550.1.Type_.Kind, c1550.1.Type_.N, c1550.1.Type_.Name⟩ : zbp), c1550.1.Words, c1550.1.Fields⟩ : zG)] : List zG)).length c1569), (88, .pointer (some ⟨b1377, 3, none⟩))] zqt fun j => ?_
       refine zO hO (i := 1) rfl (off := 3) rfl rfl rfl rfl (Nat.le_of_ble_eq_true rfl) rfl fun σ hO => ?_
       have hO : Obs _ _ [_, _, _, _, _, _] := hO
       refine zh (zfw (zd hO 3 [1] [(8, zqA b4), (9, .slice A1476 x1479.length c1477), (10, .slice none 0 0), (11, zqz (IntKind.i64.wrap ((IntKind.i64.wrap (x666 + c1378.1)) + c1386.1))), (12, zqz c5.1), (13, zqz x667), (14, zqA b1377), (15, zqz c1402.1), (16, zqz x1491), (89, .pointer (some ⟨b1377, 4, none⟩)), (90, .slice A1486 x1489.length c1487), (91, zqA b4)] (And.intro (And.intro rfl rfl) zqu) fun j => ?_))
       refine zbz ?_
       obtain ⟨c1573, h1574, hF⟩ := bind_some hF
       have hO := hO.sel [0, 1, 2, 3, 5, 4] (by decide)
       refine zX (hs := [_, _, _, _, _]) (vs := [_]) hO (zns (q0 := (⟨c1550.2.B, c1550.2.At, c1550.2.Failed⟩ : zI)) r1561 h1574) rfl fun _ σ _ _ hO h1575 h1576 => ?_
       have hL := hL.trans h1575
       have w1480 := w1480.le h1575
       have w1490 := w1490.le h1575
       have w1571 := w1571.le h1575
       obtain ⟨v1577, v1581, rfl, rfl, r1580, r1584⟩ := h1576
       obtain ⟨A1578, c1579, rfl, -⟩ := r1580.form
       obtain ⟨A1582, c1583, rfl, -⟩ := r1584.form
       have hO : Obs _ _ [_, _, _, _, _, _] := hO
       refine zh (zbx ⟨(zbi rfl (hO.val (i := 1) (off := 4) (agg := false) (n := 1) rfl rfl) rfl), trivial⟩ ?_)
       refine zbz (zbX (T := (Ty.slice zT)) (l := ([c1573.1] : List (List zq))) (cs := [.slice A1578 c1573.1.length c1579]) hO rfl ⟨[.slice A1578 c1573.1.length c1579], _, rfl, ⟨_, rfl, r1580⟩, rfl⟩ rfl (by decide) fun _ σ o1587 w1588 hO => ?_)
       obtain ⟨A1585, c1586, rfl, -⟩ := w1588.form
       have hO : Obs _ _ [_, _, _, _, _, _, _] := hO
       refine zh (zbx ⟨(zbi rfl (hO.val (i := 1) (off := 4) (agg := false) (n := 1) rfl rfl) rfl), trivial⟩ ?_)
       obtain ⟨_, h1590, r1589, hO⟩ := w1588.share hO (i := 6) rfl
       have hL := hL.trans h1590
       have w1480 := w1480.le h1590
       have w1490 := w1490.le h1590
       have r1580 := r1580.le h1590
       have w1571 := w1571.le h1590
       have r1584 := r1584.le h1590
       have hO : Obs _ _ [_, _, _, _, _, _, _] := hO
       obtain ⟨_, hr1595, hF⟩ := bind_some hF
       refine zd8 (T := (Ty.slice zT)) hO w1490 (i := 3) rfl rfl rfl r1589 hr1595 (by decide) fun _ σ o1593 w1594 hO => ?_
       obtain ⟨A1591, c1592, rfl, -⟩ := w1594.form
       have hO : Obs _ _ [_, _, _, _, _, _, _] := hO
       refine zd hO 1 [] [(8, zqA b4), (9, .slice A1476 x1479.length c1477), (10, .slice none 0 0), (11, zqz (IntKind.i64.wrap ((IntKind.i64.wrap (x666 + c1378.1)) + c1386.1))), (12, zqz c5.1), (13, zqz x667), (14, zqA b1377), (15, zqz c1402.1), (16, zqz x1491), (94, .slice A1591 (x1489 ++ ([c1573.1] : List (List zq))).length c1592), (95, .pointer (some ⟨b1377, 4, none⟩))] zqt fun j => ?_
       refine zO hO (i := 1) rfl (off := 4) rfl rfl rfl rfl (Nat.le_of_ble_eq_true rfl) rfl fun σ hO => ?_
       have hO : Obs _ _ [_, _, _, _, _, _, _] := hO
       refine zh (zg (zP (zj (zA (zc hO [] [(8, zqA b4), (9, .slice A1476 x1479.length c1477), (10, .slice none 0 0), (11, zqz (IntKind.i64.wrap ((IntKind.i64.wrap (x666 + c1378.1)) + c1386.1))), (12, zqz c5.1), (13, zqz x667), (14, zqA b1377), (15, zqz c1402.1), (16, zqz (IntKind.i64.wrap (x1491 + 1)))] zqr fun j => ?_)))))
       refine zg (zj ?_)
       have hO := hO.sel [5, 0, 1, 2, 3] (by decide)
       exact ⟨n1548, Nat.lt_succ_self _, A1582, c1583, c1573.2.B, c1573.2.At, c1573.2.Failed, A1476, c1477, o1478, x1479, A1568, c1569, o1570, (x1484 ++ ([(⟨c1550.1.Name, (⟨c1550.1.Type_.Kind, c1550.1.Type_.N, c1550.1.Type_.Name⟩ : zbp), c1550.1.Words, c1550.1.Fields⟩ : zG)] : List zG)), A1591, c1592, o1593, (x1489 ++ ([c1573.1] : List (List zq))), (IntKind.i64.wrap (x1491 + 1)), _, zqy zqq, hO, hL, r1584, w1480, w1571, w1594, hF⟩
      ·refine zl (congrArg Value.bool hb1549) ?_
       refine zU (zY (z0 (zj (zA (zd hO 2 [2] [(8, zqA b4), (10, .slice none 0 0), (11, zqz (IntKind.i64.wrap ((IntKind.i64.wrap (x666 + c1378.1)) + c1386.1))), (12, zqz c5.1), (13, zqz x667), (96, .slice A1476 x1479.length c1477), (97, .agg #[(.string c1369.1), (.int .i64 (IntKind.i64.wrap (x666 + c1378.1))), (.int .i64 (IntKind.i64.wrap ((IntKind.i64.wrap (x666 + c1378.1)) + c1386.1))), (.slice A1481 x1484.length c1482), (.slice A1486 x1489.length c1487)])] (And.intro (And.intro rfl rfl) zqp) fun j => ?_)))))
       obtain ⟨_, h1597, r1596, hO⟩ := w1485.share hO (i := 3) rfl
       have hL := hL.trans h1597
       have w1480 := w1480.le h1597
       have w1490 := w1490.le h1597
       have r1473 := r1473.le h1597
       have hO : Obs _ _ [_, _, _, _, _] := hO
       obtain ⟨_, h1599, r1598, hO⟩ := w1490.share hO (i := 4) rfl
       have hL := hL.trans h1599
       have w1480 := w1480.le h1599
       have r1596 := r1596.le h1599
       have r1473 := r1473.le h1599
       have hO : Obs _ _ [_, _, _, _, _] := hO
       obtain ⟨_, hr1604, hF⟩ := bind_some hF
       refine zbN (T := zV) (y := (⟨c1369.1, (IntKind.i64.wrap (x666 + c1378.1)), (IntKind.i64.wrap ((IntKind.i64.wrap (x666 + c1378.1)) + c1386.1)), x1484, x1489⟩ : zo)) hO w1480 (i := 1) rfl rfl (fun _ => rfl) rfl ⟨_, _, rfl, r1596, r1598⟩ rfl hr1604 (by decide) fun u _ σ o1602 w1603 hO => ?_
       obtain ⟨A1600, c1601, rfl, -⟩ := w1603.form
       have hO : Obs _ _ [_, _, _, _, _] := hO
       refine zc hO [] [(8, zqA b4), (9, .slice A1600 (x1479 ++ [(⟨c1369.1, (IntKind.i64.wrap (x666 + c1378.1)), (IntKind.i64.wrap ((IntKind.i64.wrap (x666 + c1378.1)) + c1386.1)), x1484, x1489⟩ : zo)]).length c1601), (10, .slice none 0 0), (11, zqz (IntKind.i64.wrap ((IntKind.i64.wrap (x666 + c1378.1)) + c1386.1))), (12, zqz c5.1), (13, zqz x667)] zqo fun j => ?_
       refine zg (zP (zj (zA (zc hO [] [(8, zqA b4), (9, .slice A1600 (x1479 ++ [(⟨c1369.1, (IntKind.i64.wrap (x666 + c1378.1)), (IntKind.i64.wrap ((IntKind.i64.wrap (x666 + c1378.1)) + c1386.1)), x1484, x1489⟩ : zo)]).length c1601), (10, .slice none 0 0), (11, zqz (IntKind.i64.wrap ((IntKind.i64.wrap (x666 + c1378.1)) + c1386.1))), (12, zqz c5.1), (13, zqz (IntKind.i64.wrap (x667 + 1)))] zqo fun j => ?_))))
       refine zg (zj ?_)
       have hO := hO.sel [0, 1] (by decide)
       exact ⟨n1367, Nat.lt_succ_self _, A1470, c1471, x1472, x1474, x1475, A1600, c1601, o1602, (x1479 ++ [(⟨c1369.1, (IntKind.i64.wrap (x666 + c1378.1)), (IntKind.i64.wrap ((IntKind.i64.wrap (x666 + c1378.1)) + c1386.1)), x1484, x1489⟩ : zo)]), (IntKind.i64.wrap ((IntKind.i64.wrap (x666 + c1378.1)) + c1386.1)), (IntKind.i64.wrap (x667 + 1)), _, zqy zqn, hO, hL, r1473, w1603, hF⟩
   ·refine zl (congrArg Value.bool hb1368) ?_
    refine zU (zY (z0 (zj (zd hO 1 [] [(8, zqA b4), (9, .slice A661 x664.length c662), (10, .slice none 0 0), (100, zqA b4)] zqm fun j => ?_))))
    obtain ⟨c1606, h1607, hF⟩ := bind_some hF
    have hO := hO.sel [1, 0] (by decide)
    refine zX (hs := [_]) (vs := [_]) hO (zcv (q0 := (⟨x657, x659, x660⟩ : zI)) r658 h1607) rfl fun _ σ _ _ hO h1608 h1609 => ?_
    have hL := hL.trans h1608
    have w665 := w665.le h1608
    obtain ⟨v1610, rfl, rfl, r1613⟩ := h1609
    obtain ⟨A1611, c1612, rfl, -⟩ := r1613.form
    have hO : Obs _ _ [_, _] := hO
    refine zc hO [] [(8, zqA b4), (9, .slice A661 x664.length c662), (10, .slice none 0 0), (12, zqz c1606.1)] zqm fun j => ?_
    refine ze (zc hO [] [(8, zqA b4), (9, .slice A661 x664.length c662), (10, .slice none 0 0), (12, zqz c1606.1), (17, zqz 0)] zqn fun j => ?_)
    refine zt ?_
    have hO := hO.no
    have hO : Obs _ _ [_, _, _] := hO
    have hO := hO.sel [1, 0, 2] (by decide)
    refine zZ (fun (n : Nat) e' σ' => ∃ (A1757 : Option Addr) (c1758 : Nat) (x1759 : List UInt8) (x1761 : Int) (x1762 : Bool) (A1763 : Option Addr) (c1764 : Nat) (o1765 : Ob) (x1766 : List zo) (A1768 : Option Addr) (c1769 : Nat) (o1770 : Ob) (x1771 : List zB) (x1773 : Int) (τ' : Hp), agr [(8, zqA b4), (9, .slice A1763 x1766.length c1764), (10, .slice A1768 x1771.length c1769), (12, zqz c1606.1), (17, zqz x1773)] e' ∧ Obs τ' σ' [some (b4, ⟨[.slice A1757 x1759.length c1758, .int .i64 x1761, .bool x1762], 96, 3, true⟩), o1765, o1770] ∧ Hp.le τ τ' ∧ RdT Ty.u8 τ' (.slice A1757 x1759.length c1758) x1759 ∧ zr zV 48 τ' (.slice A1763 x1766.length c1764) x1766 o1765 ∧ zr zbg 58 τ' (.slice A1768 x1771.length c1769) x1771 o1770 ∧ zcj c1606 n x1759 x1761 x1762 x1766 x1771 x1773 = some rr) big ⟨A1611, c1612, c1606.2.B, c1606.2.At, c1606.2.Failed, A661, c662, o663, x664, none, 0, none, [], 0, _, zqy zqm, hO, hL, r1613, w665, zr.nil _ _ _, hF⟩ ?_
    clear hF hO hL
    rintro n1920 e σ ⟨A1757, c1758, x1759, x1761, x1762, A1763, c1764, o1765, x1766, A1768, c1769, o1770, x1771, x1773, _, hA, hO, hL, r1760, w1767, w1772, hF⟩
    rw [← zL _ _ hA]
    cases n1920 with
    | zero => exact nomatch (show none = some rr from hF)
    | succ n1920 =>
     replace hF : zeP (zcj c1606 n1920) c1606 x1759 x1761 x1762 x1766 x1771 x1773 = some rr := hF
     unfold zeP at hF
     refine ze (zc hO [0] [(8, zqA b4), (9, .slice A1763 x1766.length c1764), (10, .slice A1768 x1771.length c1769), (12, zqz c1606.1), (17, zqz x1773), (111, .bool ((decide (x1773 < c1606.1)) && (!x1762)))] (And.intro (And.intro rfl rfl) (And.intro (And.intro rfl rfl) (fun _ => zqy zqn))) fun j => ?_)
     rcases zi hF with ⟨hb1921, hF⟩ | ⟨hb1921, hF⟩
     ·refine zk (congrArg Value.bool hb1921) ?_
      refine zm (zt (zd hO 1 [] [(8, zqA b4), (9, .slice A1763 x1766.length c1764), (10, .slice A1768 x1771.length c1769), (12, zqz c1606.1), (17, zqz x1773), (114, zqA b4)] zqo fun j => ?_))
      obtain ⟨c1922, h1923, hF⟩ := bind_some hF
      have hO := hO.sel [1, 2, 0] (by decide)
      refine zX (hs := [_, _]) (vs := [_]) hO (zcv (q0 := (⟨x1759, x1761, x1762⟩ : zI)) r1760 h1923) rfl fun _ σ _ _ hO h1924 h1925 => ?_
      have hL := hL.trans h1924
      have w1767 := w1767.le h1924
      have w1772 := w1772.le h1924
      obtain ⟨v1926, rfl, rfl, r1929⟩ := h1925
      obtain ⟨A1927, c1928, rfl, -⟩ := r1929.form
      have hO : Obs _ _ [_, _, _] := hO
      refine zd hO 1 [] [(8, zqA b4), (9, .slice A1763 x1766.length c1764), (10, .slice A1768 x1771.length c1769), (12, zqz c1606.1), (17, zqz x1773), (115, zqz c1922.1), (116, zqA b4)] zqp fun j => ?_
      obtain ⟨c1930, h1931, hF⟩ := bind_some hF
      refine zX (hs := [_, _]) (vs := [_]) hO (zcv (q0 := (⟨c1922.2.B, c1922.2.At, c1922.2.Failed⟩ : zI)) r1929 h1931) rfl fun _ σ _ _ hO h1932 h1933 => ?_
      have hL := hL.trans h1932
      have w1767 := w1767.le h1932
      have w1772 := w1772.le h1932
      obtain ⟨v1934, rfl, rfl, r1937⟩ := h1933
      obtain ⟨A1935, c1936, rfl, -⟩ := r1937.form
      have hO : Obs _ _ [_, _, _] := hO
      refine zd hO 1 [] [(8, zqA b4), (9, .slice A1763 x1766.length c1764), (10, .slice A1768 x1771.length c1769), (12, zqz c1606.1), (17, zqz x1773), (118, .agg #[(.int .i64 c1922.1), (.int .i64 c1930.1), (.slice none 0 0)])] zqo fun j => ?_
      refine zbq hO fun b1938 σ hO => ?_
      have hO : Obs _ _ [_, _, _, _] := hO
      refine zO hO (i := 3) rfl (off := 0) rfl rfl rfl rfl (Nat.le_of_ble_eq_true rfl) rfl fun σ hO => ?_
      have hO : Obs _ _ [_, _, _, _] := hO
      refine zh (zd hO 1 [] [(8, zqA b4), (9, .slice A1763 x1766.length c1764), (10, .slice A1768 x1771.length c1769), (12, zqz c1606.1), (17, zqz x1773), (18, zqA b1938), (119, zqA b4)] zqp fun j => ?_)
      obtain ⟨c1939, h1940, hF⟩ := bind_some hF
      have hO := hO.sel [0, 1, 3, 2] (by decide)
      refine zX (hs := [_, _, _]) (vs := [_]) hO (zcv (q0 := (⟨c1930.2.B, c1930.2.At, c1930.2.Failed⟩ : zI)) r1937 h1940) rfl fun _ σ _ _ hO h1941 h1942 => ?_
      have hL := hL.trans h1941
      have w1767 := w1767.le h1941
      have w1772 := w1772.le h1941
      obtain ⟨v1943, rfl, rfl, r1946⟩ := h1942
      obtain ⟨A1944, c1945, rfl, -⟩ := r1946.form
      have hO : Obs _ _ [_, _, _, _] := hO
      refine zc hO [] [(8, zqA b4), (9, .slice A1763 x1766.length c1764), (10, .slice A1768 x1771.length c1769), (12, zqz c1606.1), (17, zqz x1773), (18, zqA b1938), (19, zqz c1939.1)] zqp fun j => ?_
      refine ze (zc hO [] [(8, zqA b4), (9, .slice A1763 x1766.length c1764), (10, .slice A1768 x1771.length c1769), (12, zqz c1606.1), (17, zqz x1773), (18, zqA b1938), (19, zqz c1939.1), (20, zqz 0)] zqq fun j => ?_)
      refine zt ?_
      have hO := hO.no
      have hO : Obs _ _ [_, _, _, _, _] := hO
      have hO := hO.sel [3, 0, 1, 2, 4] (by decide)
      refine zZ (fun (n : Nat) e' σ' => ∃ (A1982 : Option Addr) (c1983 : Nat) (x1984 : List UInt8) (x1986 : Int) (x1987 : Bool) (A1988 : Option Addr) (c1989 : Nat) (o1990 : Ob) (x1991 : List zo) (A1993 : Option Addr) (c1994 : Nat) (o1995 : Ob) (x1996 : List zB) (A1998 : Option Addr) (c1999 : Nat) (o2000 : Ob) (x2001 : List Int) (x2003 : Int) (τ' : Hp), agr [(8, zqA b4), (9, .slice A1988 x1991.length c1989), (10, .slice A1993 x1996.length c1994), (12, zqz c1606.1), (17, zqz x1773), (18, zqA b1938), (19, zqz c1939.1), (20, zqz x2003)] e' ∧ Obs τ' σ' [some (b4, ⟨[.slice A1982 x1984.length c1983, .int .i64 x1986, .bool x1987], 96, 3, true⟩), o1990, o1995, some (b1938, ⟨[.int .i64 c1922.1, .int .i64 c1930.1, .slice A1998 x2001.length c1999], 58, 3, true⟩), o2000] ∧ Hp.le τ τ' ∧ RdT Ty.u8 τ' (.slice A1982 x1984.length c1983) x1984 ∧ zr zV 48 τ' (.slice A1988 x1991.length c1989) x1991 o1990 ∧ zr zbg 58 τ' (.slice A1993 x1996.length c1994) x1996 o1995 ∧ zr (Ty.int .i64) 3 τ' (.slice A1998 x2001.length c1999) x2001 o2000 ∧ zfi (zcj c1606 n1920) x1773 c1922 c1930 c1939 n x1984 x1986 x1987 x1991 x1996 x2001 x2003 = some rr) big ⟨A1944, c1945, c1939.2.B, c1939.2.At, c1939.2.Failed, A1763, c1764, o1765, x1766, A1768, c1769, o1770, x1771, none, 0, none, [], 0, _, zqy zqp, hO, hL, r1946, w1767, w1772, zr.nil _ _ _, hF⟩ ?_
      clear hF hO hL
      rintro n2029 e σ ⟨A1982, c1983, x1984, x1986, x1987, A1988, c1989, o1990, x1991, A1993, c1994, o1995, x1996, A1998, c1999, o2000, x2001, x2003, _, hA, hO, hL, r1985, w1992, w1997, w2002, hF⟩
      rw [← zL _ _ hA]
      cases n2029 with
      | zero => exact nomatch (show none = some rr from hF)
      | succ n2029 =>
       replace hF : zi6 (zfi (zcj c1606 n1920) x1773 c1922 c1930 c1939 n2029) (zcj c1606 n1920) x1773 c1922 c1930 c1939 x1984 x1986 x1987 x1991 x1996 x2001 x2003 = some rr := hF
       unfold zi6 at hF
       refine ze (zc hO [0] [(8, zqA b4), (9, .slice A1988 x1991.length c1989), (10, .slice A1993 x1996.length c1994), (12, zqz c1606.1), (17, zqz x1773), (18, zqA b1938), (19, zqz c1939.1), (20, zqz x2003), (130, .bool ((decide (x2003 < c1939.1)) && (!x1987)))] (And.intro (And.intro rfl rfl) (And.intro (And.intro rfl rfl) (fun _ => zqy zqq))) fun j => ?_)
       rcases zi hF with ⟨hb2030, hF⟩ | ⟨hb2030, hF⟩
       ·refine zk (congrArg Value.bool hb2030) ?_
        refine zm (zt (zfw (zd hO 3 [3] [(8, zqA b4), (9, .slice A1988 x1991.length c1989), (10, .slice A1993 x1996.length c1994), (12, zqz c1606.1), (17, zqz x1773), (18, zqA b1938), (19, zqz c1939.1), (20, zqz x2003), (133, .pointer (some ⟨b1938, 2, none⟩)), (134, .slice A1998 x2001.length c1999), (135, zqA b4)] (And.intro (And.intro rfl rfl) zqt) fun j => ?_)))
        refine zbz ?_
        obtain ⟨c2031, h2032, hF⟩ := bind_some hF
        have hO := hO.sel [1, 2, 3, 4, 0] (by decide)
        refine zX (hs := [_, _, _, _]) (vs := [_]) hO (zcv (q0 := (⟨x1984, x1986, x1987⟩ : zI)) r1985 h2032) rfl fun _ σ _ _ hO h2033 h2034 => ?_
        have hL := hL.trans h2033
        have w1992 := w1992.le h2033
        have w1997 := w1997.le h2033
        have w2002 := w2002.le h2033
        obtain ⟨v2035, rfl, rfl, r2038⟩ := h2034
        obtain ⟨A2036, c2037, rfl, -⟩ := r2038.form
        have hO : Obs _ _ [_, _, _, _, _] := hO
        refine zh (zbx ⟨(zbi rfl (hO.val (i := 2) (off := 2) (agg := false) (n := 1) rfl rfl) rfl), trivial⟩ ?_)
        refine zbz (zbX (T := (Ty.int .i64)) (l := ([c2031.1] : List Int)) (cs := [.int .i64 c2031.1]) hO rfl ⟨[.int .i64 c2031.1], _, rfl, rfl, rfl⟩ rfl (by decide) fun _ σ o2041 w2042 hO => ?_)
        obtain ⟨A2039, c2040, rfl, -⟩ := w2042.form
        have hO : Obs _ _ [_, _, _, _, _, _] := hO
        refine zh (zbx ⟨(zbi rfl (hO.val (i := 2) (off := 2) (agg := false) (n := 1) rfl rfl) rfl), trivial⟩ ?_)
        obtain ⟨_, hr2047, hF⟩ := bind_some hF
        refine zjt (T := (Ty.int .i64)) (Ty.sc_flat _ _) hO w2002 (i := 3) rfl rfl rfl (w2042.rd hO (i := 5) rfl) hr2047 (by decide) fun _ σ o2045 w2046 hO => ?_
        obtain ⟨A2043, c2044, rfl, -⟩ := w2046.form
        have hO : Obs _ _ [_, _, _, _, _, _] := hO
        refine zd hO 1 [] [(8, zqA b4), (9, .slice A1988 x1991.length c1989), (10, .slice A1993 x1996.length c1994), (12, zqz c1606.1), (17, zqz x1773), (18, zqA b1938), (19, zqz c1939.1), (20, zqz x2003), (138, .slice A2043 (x2001 ++ ([c2031.1] : List Int)).length c2044), (139, .pointer (some ⟨b1938, 2, none⟩))] zqs fun j => ?_
        refine zO hO (i := 2) rfl (off := 2) rfl rfl rfl rfl (Nat.le_of_ble_eq_true rfl) rfl fun σ hO => ?_
        have hO : Obs _ _ [_, _, _, _, _, _] := hO
        refine zh (zg (zP (zj (zA (zc hO [] [(8, zqA b4), (9, .slice A1988 x1991.length c1989), (10, .slice A1993 x1996.length c1994), (12, zqz c1606.1), (17, zqz x1773), (18, zqA b1938), (19, zqz c1939.1), (20, zqz (IntKind.i64.wrap (x2003 + 1)))] zqq fun j => ?_)))))
        refine zg (zj ?_)
        have hO := hO.sel [4, 0, 1, 2, 3] (by decide)
        exact ⟨n2029, Nat.lt_succ_self _, A2036, c2037, c2031.2.B, c2031.2.At, c2031.2.Failed, A1988, c1989, o1990, x1991, A1993, c1994, o1995, x1996, A2043, c2044, o2045, (x2001 ++ ([c2031.1] : List Int)), (IntKind.i64.wrap (x2003 + 1)), _, zqy zqp, hO, hL, r2038, w1992, w1997, w2046, hF⟩
       ·refine zl (congrArg Value.bool hb2030) ?_
        refine zU (zY (z0 (zj (zA (zd hO 2 [3] [(8, zqA b4), (9, .slice A1988 x1991.length c1989), (12, zqz c1606.1), (17, zqz x1773), (140, .slice A1993 x1996.length c1994), (141, .agg #[(.int .i64 c1922.1), (.int .i64 c1930.1), (.slice A1998 x2001.length c1999)])] (And.intro (And.intro rfl rfl) zqo) fun j => ?_)))))
        obtain ⟨_, h2049, r2048, hO⟩ := w2002.share hO (i := 4) rfl
        have hL := hL.trans h2049
        have w1992 := w1992.le h2049
        have w1997 := w1997.le h2049
        have r1985 := r1985.le h2049
        have hO : Obs _ _ [_, _, _, _, _] := hO
        obtain ⟨_, hr2054, hF⟩ := bind_some hF
        refine zbN (T := zbg) (y := (⟨c1922.1, c1930.1, x2001⟩ : zB)) hO w1997 (i := 2) rfl rfl (fun _ => rfl) rfl ⟨_, rfl, r2048⟩ rfl hr2054 (by decide) fun u _ σ o2052 w2053 hO => ?_
        obtain ⟨A2050, c2051, rfl, -⟩ := w2053.form
        have hO : Obs _ _ [_, _, _, _, _] := hO
        refine zc hO [] [(8, zqA b4), (9, .slice A1988 x1991.length c1989), (10, .slice A2050 (x1996 ++ [(⟨c1922.1, c1930.1, x2001⟩ : zB)]).length c2051), (12, zqz c1606.1), (17, zqz x1773)] zqn fun j => ?_
        refine zg (zP (zj (zA (zc hO [] [(8, zqA b4), (9, .slice A1988 x1991.length c1989), (10, .slice A2050 (x1996 ++ [(⟨c1922.1, c1930.1, x2001⟩ : zB)]).length c2051), (12, zqz c1606.1), (17, zqz (IntKind.i64.wrap (x1773 + 1)))] zqn fun j => ?_))))
        refine zg (zj ?_)
        have hO := hO.sel [0, 1, 2] (by decide)
        exact ⟨n1920, Nat.lt_succ_self _, A1982, c1983, x1984, x1986, x1987, A1988, c1989, o1990, x1991, A2050, c2051, o2052, (x1996 ++ [(⟨c1922.1, c1930.1, x2001⟩ : zB)]), (IntKind.i64.wrap (x1773 + 1)), _, zqy zqm, hO, hL, r1985, w1992, w2053, hF⟩
     ·refine zl (congrArg Value.bool hb1921) ?_
      refine zU (zY (z0 (zj (ze (zd hO 5 [0] [(8, zqA b4), (9, .slice A1763 x1766.length c1764), (10, .slice A1768 x1771.length c1769), (148, .bool x1762)] (And.intro (And.intro rfl rfl) zqm) fun j => ?_)))))
      obtain ⟨_, h2056, r2055, hO⟩ := w1767.share hO (i := 1) rfl
      have hL := hL.trans h2056
      have w1772 := w1772.le h2056
      have r1760 := r1760.le h2056
      have hO : Obs _ _ [_, _, _] := hO
      obtain ⟨_, h2058, r2057, hO⟩ := w1772.share hO (i := 2) rfl
      have hL := hL.trans h2058
      have r2055 := r2055.le h2058
      have r1760 := r1760.le h2058
      have hO : Obs _ _ [_, _, _] := hO
      have hO := hO.sel [0] (by decide)
      have hO : Obs _ _ [_] := hO
      obtain ⟨c2059, h2060, hF⟩ := bind_some hF
      refine zbQ 2 (fun e' σ' => ∃ (τ' : Hp), agr [(153, .bool c2059), (8, zqA b4), (9, .slice A1763 x1766.length c1764), (10, .slice A1768 x1771.length c1769)] e' ∧ Obs τ' σ' [some (b4, ⟨[.slice A1757 x1759.length c1758, .int .i64 x1761, .bool x1762], 96, 3, true⟩)] ∧ Hp.le τ τ' ∧ RdT zV τ' (.slice A1763 x1766.length c1764) x1766 ∧ RdT zbg τ' (.slice A1768 x1771.length c1769) x1771 ∧ RdT Ty.u8 τ' (.slice A1757 x1759.length c1758) x1759) ?_ ?_
      ·have hF := h2060
       rcases zi hF with ⟨hb2061, hF⟩ | ⟨hb2061, hF⟩
       ·refine z9 (congrArg (fun x => isB (.bool x) false) hb2061) ?_
        refine zJ (congrArg Value.bool hb2061) ?_
        refine zh ?_
        injection hF with hF
        subst hF
        refine zg ?_
        exact ⟨rfl, _, zqy zql, hO, hL, r2055, r2057, r1760⟩
       ·refine z7 (congrArg (fun x => isB (.bool x) false) hb2061) ?_
        refine zd hO 2 [] [(8, zqA b4), (9, .slice A1763 x1766.length c1764), (10, .slice A1768 x1771.length c1769), (148, .bool x1762), (149, .slice A1763 x1766.length c1764), (150, .slice A1768 x1771.length c1769)] zqo fun j => ?_
        obtain ⟨c2062, h2063, hF⟩ := bind_some hF
        refine zD hO (zof r2055 r2057 h2063) rfl fun _ σ _ _ hO h2064 h2065 => ?_
        have hL := hL.trans h2064
        have r2055 := r2055.le h2064
        have r2057 := r2057.le h2064
        have r1760 := r1760.le h2064
        obtain ⟨rfl, rfl⟩ := h2065
        have hO : Obs _ _ [_] := hO
        refine zd hO 1 [] [(8, zqA b4), (9, .slice A1763 x1766.length c1764), (10, .slice A1768 x1771.length c1769), (148, .bool x1762), (152, .bool (!c2062))] zqn fun j => ?_
        refine zJ (congrArg Value.bool hb2061) ?_
        refine zh ?_
        injection hF with hF
        subst hF
        refine zg ?_
        exact ⟨rfl, _, zqy zql, hO, hL, r2055, r2057, r1760⟩
      ·rintro e σ ⟨_, hA, hO, hL, r2055, r2057, r1760⟩
       rw [← zL _ _ hA]
       refine zh ?_
       rcases zi hF with ⟨hb2066, hF⟩ | ⟨hb2066, hF⟩
       ·refine zk (congrArg Value.bool hb2066) ?_
        refine ze (zc hO [] [(4, .slice none 0 0), (5, .slice none 0 0), (6, zqz 0), (7, zqz 5)] zqm fun j => ?_)
        refine zu ?_
        injection hF with hF
        subst hF
        have hO := hO.sel [] (by decide)
        exact hQ _ _ _ _ _ rfl hO hL ⟨_, _, rfl, rfl, (RdT.nil _ _), (RdT.nil _ _)⟩
       ·refine zl (congrArg Value.bool hb2066) ?_
        refine zm (zbr (zc hO [0] [(4, .slice A1763 x1766.length c1764), (5, .slice A1768 x1771.length c1769), (6, zqz x1761), (7, zqz 0)] (And.intro (And.intro rfl rfl) zqm) fun j => ?_))
        refine zK ?_
        injection hF with hF
        subst hF
        have hO := hO.sel [] (by decide)
        exact hQ _ _ _ _ _ rfl hO hL ⟨_, _, rfl, rfl, r2055, r2057⟩
theorem zoZ {τ : Hp} {v0 : Value} {p0 : (List UInt8)} {p1 : Int} (r0 : RdT Ty.u8 τ v0 p0) {rr : Bool} (hF : zhg p0 p1 = some rr) :
  Ctr Tryz.prog 4 #[v0, .int .i64 p1] τ [] (fun v τ' vs' => v = .bool rr ∧ vs' = []) := by
 obtain ⟨A0, c0, rfl, -⟩ := r0.form
 refine zM (args := [.slice A0 p0.length c0, .int .i64 p1]) hm Tryz.func4 s4 rfl fun w0 σ hO Q hQ => ?_
 unfold zhg at hF
 have hL := Hp.le.refl τ
 show wpn _ _ a4.body _ _ _
 unfold a4
 dsimp only
 refine zc hO [] [(0, .slice A0 p0.length c0), (1, zqz p1)] zqk fun j => ?_
 refine ze (zc hO [] [(0, .slice A0 p0.length c0), (1, zqz p1), (16, .bool (decide ((p0.length : Int) > 8192)))] zql fun j => ?_)
 rcases zi hF with ⟨hb3, hF⟩ | ⟨hb3, hF⟩
 ·refine zk (congrArg Value.bool hb3) ?_
  refine ze ?_
  obtain ⟨c4, h5, hF⟩ := bind_some hF
  refine zD hO (zka h5) rfl fun _ σ _ _ hO h6 h7 => ?_
  have hL := hL.trans h6
  have r0 := r0.le h6
  obtain ⟨rfl, rfl⟩ := h7
  have hO : Obs _ _ [] := hO
  refine zc hO [] [(4, .bool c4)] zqj fun j => ?_
  refine zu ?_
  injection hF with hF
  subst hF
  exact hQ _ _ _ _ _ rfl hO hL ⟨rfl, rfl⟩
 ·refine zl (congrArg Value.bool hb3) ?_
  refine zm (zd hO 1 [] [(0, .slice A0 p0.length c0), (1, zqz p1), (18, .slice A0 p0.length c0)] zql fun j => ?_)
  obtain ⟨c8, h9, hF⟩ := bind_some hF
  refine zD hO (zpq r0 h9) rfl fun _ σ _ _ hO h10 h11 => ?_
  have hL := hL.trans h10
  have r0 := r0.le h10
  obtain ⟨v12, rfl, rfl, r15, f16⟩ := h11
  obtain ⟨A13, n17, rfl, f16⟩ := f16
  obtain ⟨_, _, h18, -⟩ := r15.form
  injection h18 with _ h18 _
  subst h18
  have f16 : Full Ty.u8 _ (.slice A13 c8.1.length c8.2.length) c8.2 := ⟨_, _, rfl, f16⟩
  have hO : Obs _ _ [] := hO
  refine zc hO [] [(0, .slice A0 p0.length c0), (1, zqz p1), (5, .slice A13 c8.1.length c8.2.length)] zql fun j => ?_
  refine zd hO 2 [] [(0, .slice A0 p0.length c0), (1, zqz p1), (5, .slice A13 c8.1.length c8.2.length), (21, .slice A13 c8.1.length c8.2.length), (22, zqz p1)] zqn fun j => ?_
  obtain ⟨c19, h20, hF⟩ := bind_some hF
  refine zD hO (zk3 r15 h20) rfl fun _ σ _ _ hO h21 h22 => ?_
  have hL := hL.trans h21
  have r0 := r0.le h21
  have r15 := r15.le h21
  have f16 := f16.le h21
  obtain ⟨v23, v27, rfl, rfl, r26, r30⟩ := h22
  obtain ⟨A24, c25, rfl, -⟩ := r26.form
  obtain ⟨A28, c29, rfl, -⟩ := r30.form
  have hO : Obs _ _ [] := hO
  refine zc hO [] [(0, .slice A0 p0.length c0), (1, zqz p1), (5, .slice A13 c8.1.length c8.2.length), (6, .slice A24 c19.1.length c25), (7, .slice A28 c19.2.1.length c29), (8, zqz c19.2.2.1), (9, zqz c19.2.2.2)] zqp fun j => ?_
  refine zd hO 2 [] [(0, .slice A0 p0.length c0), (5, .slice A13 c8.1.length c8.2.length), (6, .slice A24 c19.1.length c25), (7, .slice A28 c19.2.1.length c29), (8, zqz c19.2.2.1), (9, zqz c19.2.2.2), (29, .slice A0 p0.length c0), (30, zqz p1)] zqq fun j => ?_
  obtain ⟨c31, h32, hF⟩ := bind_some hF
  refine zD hO (zmT r0 h32) rfl fun _ σ _ _ hO h33 h34 => ?_
  have hL := hL.trans h33
  have r0 := r0.le h33
  have r15 := r15.le h33
  have f16 := f16.le h33
  have r26 := r26.le h33
  have r30 := r30.le h33
  obtain ⟨v35, v39, rfl, rfl, r38, r42⟩ := h34
  obtain ⟨A36, c37, rfl, -⟩ := r38.form
  obtain ⟨A40, c41, rfl, -⟩ := r42.form
  have hO : Obs _ _ [] := hO
  refine zc hO [] [(0, .slice A0 p0.length c0), (5, .slice A13 c8.1.length c8.2.length), (6, .slice A24 c19.1.length c25), (7, .slice A28 c19.2.1.length c29), (8, zqz c19.2.2.1), (9, zqz c19.2.2.2), (10, .slice A36 c31.1.length c37), (11, .slice A40 c31.2.1.length c41), (12, zqz c31.2.2.1), (13, zqz c31.2.2.2)] zqs fun j => ?_
  refine zd hO 2 [] [(0, .slice A0 p0.length c0), (5, .slice A13 c8.1.length c8.2.length), (7, .slice A28 c19.2.1.length c29), (8, zqz c19.2.2.1), (9, zqz c19.2.2.2), (11, .slice A40 c31.2.1.length c41), (12, zqz c31.2.2.1), (13, zqz c31.2.2.2), (36, .slice A24 c19.1.length c25), (37, .slice A36 c31.1.length c37)] zqs fun j => ?_
  obtain ⟨c43, h44, hF⟩ := bind_some hF
  refine zD hO (zjL r26 r38 h44) rfl fun _ σ _ _ hO h45 h46 => ?_
  have hL := hL.trans h45
  have r0 := r0.le h45
  have r15 := r15.le h45
  have f16 := f16.le h45
  have r30 := r30.le h45
  have r42 := r42.le h45
  have r26 := r26.le h45
  have r38 := r38.le h45
  obtain ⟨rfl, rfl⟩ := h46
  have hO : Obs _ _ [] := hO
  refine zd hO 1 [] [(0, .slice A0 p0.length c0), (5, .slice A13 c8.1.length c8.2.length), (7, .slice A28 c19.2.1.length c29), (8, zqz c19.2.2.1), (9, zqz c19.2.2.2), (11, .slice A40 c31.2.1.length c41), (12, zqz c31.2.2.1), (13, zqz c31.2.2.2), (39, .bool c43)] zqr fun j => ?_
  obtain ⟨c47, h48, hF⟩ := bind_some hF
  refine zbQ 2 (fun e' σ' => ∃ (τ' : Hp), agr [(43, .bool c47), (0, .slice A0 p0.length c0), (5, .slice A13 c8.1.length c8.2.length), (8, zqz c19.2.2.1), (9, zqz c19.2.2.2), (12, zqz c31.2.2.1), (13, zqz c31.2.2.2)] e' ∧ Obs τ' σ' [] ∧ Hp.le τ τ' ∧ RdT Ty.u8 τ' (.slice A0 p0.length c0) p0 ∧ RdT Ty.u8 τ' (.slice A13 c8.1.length c8.2.length) c8.1 ∧ Full Ty.u8 τ' (.slice A13 c8.1.length c8.2.length) c8.2) ?_ ?_
  ·have hF := h48
   rcases zi hF with ⟨hb49, hF⟩ | ⟨hb49, hF⟩
   ·refine z7 (congrArg (fun x => isB (.bool x) true) hb49) ?_
    refine zd hO 2 [] [(0, .slice A0 p0.length c0), (5, .slice A13 c8.1.length c8.2.length), (8, zqz c19.2.2.1), (9, zqz c19.2.2.2), (12, zqz c31.2.2.1), (13, zqz c31.2.2.2), (39, .bool c43), (40, .slice A28 c19.2.1.length c29), (41, .slice A40 c31.2.1.length c41)] zqr fun j => ?_
    obtain ⟨c50, h51, hF⟩ := bind_some hF
    refine zD hO (zkN r30 r42 h51) rfl fun _ σ _ _ hO h52 h53 => ?_
    have hL := hL.trans h52
    have r0 := r0.le h52
    have r15 := r15.le h52
    have f16 := f16.le h52
    have r30 := r30.le h52
    have r42 := r42.le h52
    obtain ⟨rfl, rfl⟩ := h53
    have hO : Obs _ _ [] := hO
    refine zJ (congrArg Value.bool hb49) ?_
    refine zh ?_
    injection hF with hF
    subst hF
    refine zg ?_
    exact ⟨rfl, _, zqy zqo, hO, hL, r0, r15, f16⟩
   ·refine z9 (congrArg (fun x => isB (.bool x) true) hb49) ?_
    refine zJ (congrArg Value.bool hb49) ?_
    refine zh ?_
    injection hF with hF
    subst hF
    refine zg ?_
    exact ⟨rfl, _, zqy zqo, hO, hL, r0, r15, f16⟩
  ·rintro e σ ⟨_, hA, hO, hL, r0, r15, f16⟩
   rw [← zL _ _ hA]
   refine zd hO 7 [] [(0, .slice A0 p0.length c0), (5, .slice A13 c8.1.length c8.2.length), (54, .bool ((c47 && (c19.2.2.1 == c31.2.2.1)) && (c19.2.2.2 == c31.2.2.2)))] (And.intro (And.intro rfl rfl) (fun _ => And.intro (And.intro rfl rfl) (fun _ => zqy zqk))) fun j => ?_
   obtain ⟨c54, h55, hF⟩ := bind_some hF
   refine zbQ 2 (fun e' σ' => ∃ (τ' : Hp), agr [(58, .bool c54)] e' ∧ Obs τ' σ' [] ∧ Hp.le τ τ') ?_ ?_
   ·have hF := h55
    rcases zi hF with ⟨hb56, hF⟩ | ⟨hb56, hF⟩
    ·refine z7 (congrArg (fun x => isB (.bool x) true) hb56) ?_
     refine zd hO 2 [] [(54, .bool ((c47 && (c19.2.2.1 == c31.2.2.1)) && (c19.2.2.2 == c31.2.2.2))), (55, .slice A13 c8.1.length c8.2.length), (56, .slice A0 p0.length c0)] zql fun j => ?_
     obtain ⟨c57, h58, hF⟩ := bind_some hF
     refine zD hO (zoE r15 f16 r0 h58) rfl fun _ σ _ _ hO h59 h60 => ?_
     have hL := hL.trans h59
     have r15 := r15.le h59
     have f16 := f16.le h59
     have r0 := r0.le h59
     obtain ⟨rfl, rfl⟩ := h60
     have hO : Obs _ _ [] := hO
     refine zJ (congrArg Value.bool hb56) ?_
     refine zh ?_
     injection hF with hF
     subst hF
     refine zg ?_
     exact ⟨rfl, _, zqy (trivial), hO, hL⟩
    ·refine z9 (congrArg (fun x => isB (.bool x) true) hb56) ?_
     refine zJ (congrArg Value.bool hb56) ?_
     refine zh ?_
     injection hF with hF
     subst hF
     refine zg ?_
     exact ⟨rfl, _, zqy (trivial), hO, hL⟩
   ·rintro e σ ⟨_, hA, hO, hL⟩
    rw [← zL _ _ hA]
    refine zd hO 1 [] [(59, .bool c54)] zqj fun j => ?_
    obtain ⟨c61, h62, hF⟩ := bind_some hF
    refine zbQ 2 (fun e' σ' => ∃ (τ' : Hp), agr [(61, .bool c61)] e' ∧ Obs τ' σ' [] ∧ Hp.le τ τ') ?_ ?_
    ·have hF := h62
     rcases zi hF with ⟨hb63, hF⟩ | ⟨hb63, hF⟩
     ·refine z7 (congrArg (fun x => isB (.bool x) true) hb63) ?_
      obtain ⟨c64, h65, hF⟩ := bind_some hF
      refine zD hO (zka h65) rfl fun _ σ _ _ hO h66 h67 => ?_
      have hL := hL.trans h66
      obtain ⟨rfl, rfl⟩ := h67
      have hO : Obs _ _ [] := hO
      refine zJ (congrArg Value.bool hb63) ?_
      refine zh ?_
      injection hF with hF
      subst hF
      refine zg ?_
      exact ⟨rfl, _, zqy (trivial), hO, hL⟩
     ·refine z9 (congrArg (fun x => isB (.bool x) true) hb63) ?_
      refine zJ (congrArg Value.bool hb63) ?_
      refine zh ?_
      injection hF with hF
      subst hF
      refine zg ?_
      exact ⟨rfl, _, zqy (trivial), hO, hL⟩
    ·rintro e σ ⟨_, hA, hO, hL⟩
     rw [← zL _ _ hA]
     refine zc hO [] [(4, .bool c61)] zqj fun j => ?_
     refine zK ?_
     injection hF with hF
     subst hF
     exact hQ _ _ _ _ _ rfl hO hL ⟨rfl, rfl⟩
end Go.Proofs.YtckcngkkofemjaaGreat
