import Derived.Test.YtgkllgoelpfdkaaGreatG0
namespace Go.Proofs.YtgkllgoelpfdkaaGreat
open Go.Ab Go.RowKit
set_option linter.unusedVariables false
set_option linter.unusedSimpArgs false
set_option maxRecDepth 10000
set_option maxHeartbeats 1000000
theorem zlo {τ : Hp} {p0 : Int}  {rr : (List zx) × Bool} (hF : zee p0 = some rr) :
  Ctr Tryz.prog 60 #[.int .u8 p0] τ [] (fun v τ' vs' => ∃ (v0 : Value) (o0 : Ob), v = .tuple #[v0, .bool rr.2] ∧ vs' = [o0] ∧ zd zbW 104 τ' v0 rr.1 o0) := by
 refine zw (args := [.int .u8 p0]) hm Tryz.func60 s60 rfl fun w0 σ hO Q hQ => ?_
 unfold zee at hF
 have hL := Hp.le.refl τ
 show wpn _ _ a60.body _ _ _
 unfold a60
 dsimp only
 refine za hO [] [(0, .int .u8 p0)] zqm fun j => ?_
 refine za hO [] [(0, .int .u8 p0), (4, .func (.func 73) #[] #[])] zqn fun j => ?_
 refine ze (za hO [] [(4, .func (.func 73) #[] #[]), (5, .int .u8 p0)] zqn fun j => ?_)
 refine zO (ze (za hO [] [(4, .func (.func 73) #[] #[]), (5, .int .u8 p0), (6, .bool (p0 == 1))] zqo fun j => ?_))
 refine zbK (fun e' σ' => ∃ (x3 : Bool) (τ' : Hp), agr [(4, .func (.func 73) #[] #[]), (5, .int .u8 p0), (6, .bool x3)] e' ∧ Obs τ' σ' [] ∧ Hp.le τ τ' ∧ zeT p0 x3 = some rr) ?_ ?_
 ·refine z2 ?_
  rcases zi hF with ⟨hb354, hF⟩ | ⟨hb354, hF⟩
  ·refine zl (congrArg Value.bool hb354) ?_
   refine zv (zg (zn ?_))
   exact ⟨(p0 == 1), _, zqB zqn, hO, hL, hF⟩
  ·refine zk (congrArg Value.bool hb354) ?_
   refine za hO [] [(4, .func (.func 73) #[] #[]), (5, .int .u8 p0), (6, .bool (p0 == 13))] zqo fun j => ?_
   refine zg (zn ?_)
   exact ⟨(p0 == 13), _, zqB zqn, hO, hL, hF⟩
 ·rintro e σ ⟨x3, _, hA, hO, hL, hF⟩
  rw [← zC _ _ hA]
  unfold zeT at hF
  refine z2 ?_
  rcases zi hF with ⟨hb4, hF⟩ | ⟨hb4, hF⟩
  ·refine zl (congrArg Value.bool hb4) ?_
   refine ze (za hO [] [(2, .slice none 0 0), (3, .bool true)] zqn fun j => ?_)
   refine zz (zJ (zE ?_))
   have hO := hO.no
   have hO : Obs _ _ [_] := hO
   injection hF with hF
   subst hF
   exact hQ _ _ _ _ _ rfl hO hL ⟨_, _, rfl, rfl, (zd.nil _ _ _)⟩
  ·refine zk (congrArg Value.bool hb4) ?_
   refine ze (za hO [] [(4, .func (.func 73) #[] #[]), (5, .int .u8 p0), (9, .bool (p0 == 2))] zqo fun j => ?_)
   rcases zi hF with ⟨hb5, hF⟩ | ⟨hb5, hF⟩
   ·refine zl (congrArg Value.bool hb5) ?_
    refine ze ?_
    obtain ⟨c6, h7, hF⟩ := bind_some hF
    refine zr hO (zjB h7) rfl fun _ σ _ _ hO h8 h9 => ?_
    have hL := hL.trans h8
    obtain ⟨f11, a12, c13, f14, a15, c16, f17, a18, c19, rfl, rfl, r10⟩ := h9
    have hO : Obs _ _ [] := hO
    refine zb hO 1 [] [(11, .agg #[(.func f11 a12 c13), (.func f14 a15 c16), (.func f17 a18 c19)]), (12, .func (.func 73) #[] #[])] zqn fun j => ?_
    obtain ⟨c20, h21, hF⟩ := bind_some hF
    refine zr hO (zmp h21) rfl fun _ σ _ _ hO h22 h23 => ?_
    have hL := hL.trans h22
    have r10 := r10.le h22
    obtain ⟨f25, a26, c27, f28, a29, c30, f31, a32, c33, rfl, rfl, r24⟩ := h23
    have hO : Obs _ _ [] := hO
    refine zbu (T := zbW) (l := ([c6, c20] : List zx)) (cs := [.func f11 a12 c13, .func f14 a15 c16, .func f17 a18 c19, .func f25 a26 c27, .func f28 a29 c30, .func f31 a32 c33]) hO rfl ⟨[.func f11 a12 c13, .func f14 a15 c16, .func f17 a18 c19], _, rfl, ⟨_, _, _, _, _, _, _, _, _, rfl, r10⟩, ⟨[.func f25 a26 c27, .func f28 a29 c30, .func f31 a32 c33], _, rfl, ⟨_, _, _, _, _, _, _, _, _, rfl, r24⟩, rfl⟩⟩ rfl (by decide) fun _ σ o36 w37 hO => ?_
    obtain ⟨A34, c35, rfl, -⟩ := w37.form
    have hO : Obs _ _ [_] := hO
    refine za hO [] [(2, .slice A34 ([c6, c20] : List zx).length c35), (3, .bool true)] zqn fun j => ?_
    refine zz (zJ (zE ?_))
    injection hF with hF
    subst hF
    exact hQ _ _ _ _ _ rfl hO hL ⟨_, _, rfl, rfl, w37⟩
   ·refine zk (congrArg Value.bool hb5) ?_
    refine ze (za hO [] [(5, .int .u8 p0), (15, .bool (p0 == 3))] zqn fun j => ?_)
    rcases zi hF with ⟨hb38, hF⟩ | ⟨hb38, hF⟩
    ·refine zl (congrArg Value.bool hb38) ?_
     refine ze ?_
     obtain ⟨c39, h40, hF⟩ := bind_some hF
     refine zr hO (zfX h40) rfl fun _ σ _ _ hO h41 h42 => ?_
     have hL := hL.trans h41
     obtain ⟨f44, a45, c46, f47, a48, c49, f50, a51, c52, rfl, rfl, r43⟩ := h42
     have hO : Obs _ _ [] := hO
     refine zbu (T := zbW) (l := ([c39] : List zx)) (cs := [.func f44 a45 c46, .func f47 a48 c49, .func f50 a51 c52]) hO rfl ⟨[.func f44 a45 c46, .func f47 a48 c49, .func f50 a51 c52], _, rfl, ⟨_, _, _, _, _, _, _, _, _, rfl, r43⟩, rfl⟩ rfl (by decide) fun _ σ o55 w56 hO => ?_
     obtain ⟨A53, c54, rfl, -⟩ := w56.form
     have hO : Obs _ _ [_] := hO
     refine za hO [] [(2, .slice A53 ([c39] : List zx).length c54), (3, .bool true)] zqn fun j => ?_
     refine zz (zJ (zE ?_))
     injection hF with hF
     subst hF
     exact hQ _ _ _ _ _ rfl hO hL ⟨_, _, rfl, rfl, w56⟩
    ·refine zk (congrArg Value.bool hb38) ?_
     refine ze (za hO [] [(5, .int .u8 p0), (19, .bool (p0 == 4))] zqn fun j => ?_)
     rcases zi hF with ⟨hb57, hF⟩ | ⟨hb57, hF⟩
     ·refine zl (congrArg Value.bool hb57) ?_
      refine ze ?_
      obtain ⟨c58, h59, hF⟩ := bind_some hF
      refine zr hO (zk0 h59) rfl fun _ σ _ _ hO h60 h61 => ?_
      have hL := hL.trans h60
      obtain ⟨f63, a64, c65, f66, a67, c68, f69, a70, c71, rfl, rfl, r62⟩ := h61
      have hO : Obs _ _ [] := hO
      obtain ⟨c72, h73, hF⟩ := bind_some hF
      refine zr hO (zfX h73) rfl fun _ σ _ _ hO h74 h75 => ?_
      have hL := hL.trans h74
      have r62 := r62.le h74
      obtain ⟨f77, a78, c79, f80, a81, c82, f83, a84, c85, rfl, rfl, r76⟩ := h75
      have hO : Obs _ _ [] := hO
      obtain ⟨c86, h87, hF⟩ := bind_some hF
      refine zr hO (zkd h87) rfl fun _ σ _ _ hO h88 h89 => ?_
      have hL := hL.trans h88
      have r62 := r62.le h88
      have r76 := r76.le h88
      obtain ⟨f91, a92, c93, f94, a95, c96, f97, a98, c99, rfl, rfl, r90⟩ := h89
      have hO : Obs _ _ [] := hO
      refine zbu (T := zbW) (l := ([c58, c72, c86] : List zx)) (cs := [.func f63 a64 c65, .func f66 a67 c68, .func f69 a70 c71, .func f77 a78 c79, .func f80 a81 c82, .func f83 a84 c85, .func f91 a92 c93, .func f94 a95 c96, .func f97 a98 c99]) hO rfl ⟨[.func f63 a64 c65, .func f66 a67 c68, .func f69 a70 c71], _, rfl, ⟨_, _, _, _, _, _, _, _, _, rfl, r62⟩, ⟨[.func f77 a78 c79, .func f80 a81 c82, .func f83 a84 c85], _, rfl, ⟨_, _, _, _, _, _, _, _, _, rfl, r76⟩, ⟨[.func f91 a92 c93, .func f94 a95 c96, .func f97 a98 c99], _, rfl, ⟨_, _, _, _, _, _, _, _, _, rfl, r90⟩, rfl⟩⟩⟩ rfl (by decide) fun _ σ o102 w103 hO => ?_
      obtain ⟨A100, c101, rfl, -⟩ := w103.form
      have hO : Obs _ _ [_] := hO
      refine za hO [] [(2, .slice A100 ([c58, c72, c86] : List zx).length c101), (3, .bool true)] zqn fun j => ?_
      refine zz (zJ (zE ?_))
      injection hF with hF
      subst hF
      exact hQ _ _ _ _ _ rfl hO hL ⟨_, _, rfl, rfl, w103⟩
     ·refine zk (congrArg Value.bool hb57) ?_
      refine ze (za hO [] [(5, .int .u8 p0), (25, .bool (p0 == 5))] zqn fun j => ?_)
      rcases zi hF with ⟨hb104, hF⟩ | ⟨hb104, hF⟩
      ·refine zl (congrArg Value.bool hb104) ?_
       refine ze ?_
       obtain ⟨c105, h106, hF⟩ := bind_some hF
       refine zr hO (zk0 h106) rfl fun _ σ _ _ hO h107 h108 => ?_
       have hL := hL.trans h107
       obtain ⟨f110, zea, c112, f113, zeb, c115, f116, zb3, c118, rfl, rfl, r109⟩ := h108
       have hO : Obs _ _ [] := hO
       obtain ⟨c119, h120, hF⟩ := bind_some hF
       refine zr hO (zfX h120) rfl fun _ σ _ _ hO h121 h122 => ?_
       have hL := hL.trans h121
       have r109 := r109.le h121
       obtain ⟨f124, zdB, c126, f127, zdM, c129, f130, a131, c132, rfl, rfl, r123⟩ := h122
       have hO : Obs _ _ [] := hO
       refine zbu (T := zbW) (l := ([c105, c119] : List zx)) (cs := [.func f110 zea c112, .func f113 zeb c115, .func f116 zb3 c118, .func f124 zdB c126, .func f127 zdM c129, .func f130 a131 c132]) hO rfl ⟨[.func f110 zea c112, .func f113 zeb c115, .func f116 zb3 c118], _, rfl, ⟨_, _, _, _, _, _, _, _, _, rfl, r109⟩, ⟨[.func f124 zdB c126, .func f127 zdM c129, .func f130 a131 c132], _, rfl, ⟨_, _, _, _, _, _, _, _, _, rfl, r123⟩, rfl⟩⟩ rfl (by decide) fun _ σ o135 w136 hO => ?_
       obtain ⟨A133, c134, rfl, -⟩ := w136.form
       have hO : Obs _ _ [_] := hO
       refine za hO [] [(2, .slice A133 ([c105, c119] : List zx).length c134), (3, .bool true)] zqn fun j => ?_
       refine zz (zJ (zE ?_))
       injection hF with hF
       subst hF
       exact hQ _ _ _ _ _ rfl hO hL ⟨_, _, rfl, rfl, w136⟩
      ·refine zk (congrArg Value.bool hb104) ?_
       refine ze (ze (za hO [] [(5, .int .u8 p0), (30, .bool (p0 == 6))] zqn fun j => ?_))
       refine zbK (fun e' σ' => ∃ (x138 : Bool) (τ' : Hp), agr [(5, .int .u8 p0), (30, .bool x138)] e' ∧ Obs τ' σ' [] ∧ Hp.le τ τ' ∧ zeN p0 x138 = some rr) ?_ ?_
       ·refine z2 ?_
        rcases zi hF with ⟨hb353, hF⟩ | ⟨hb353, hF⟩
        ·refine zl (congrArg Value.bool hb353) ?_
         refine zv (zg (zn ?_))
         exact ⟨(p0 == 6), _, zqB zqm, hO, hL, hF⟩
        ·refine zk (congrArg Value.bool hb353) ?_
         refine za hO [] [(5, .int .u8 p0), (30, .bool (p0 == 7))] zqn fun j => ?_
         refine zg (zn ?_)
         exact ⟨(p0 == 7), _, zqB zqm, hO, hL, hF⟩
       ·rintro e σ ⟨x138, _, hA, hO, hL, hF⟩
        rw [← zC _ _ hA]
        unfold zeN at hF
        rcases zi hF with ⟨hb139, hF⟩ | ⟨hb139, hF⟩
        ·refine zl (congrArg Value.bool hb139) ?_
         refine ze ?_
         obtain ⟨c140, h141, hF⟩ := bind_some hF
         refine zr hO (zfX h141) rfl fun _ σ _ _ hO h142 h143 => ?_
         have hL := hL.trans h142
         obtain ⟨f145, a146, c147, f148, a149, c150, f151, a152, c153, rfl, rfl, r144⟩ := h143
         have hO : Obs _ _ [] := hO
         obtain ⟨c154, h155, hF⟩ := bind_some hF
         refine zr hO (zjo h155) rfl fun _ σ _ _ hO h156 h157 => ?_
         have hL := hL.trans h156
         have r144 := r144.le h156
         obtain ⟨f159, a160, c161, f162, a163, c164, f165, a166, c167, rfl, rfl, r158⟩ := h157
         have hO : Obs _ _ [] := hO
         refine zbu (T := zbW) (l := ([c140, c154] : List zx)) (cs := [.func f145 a146 c147, .func f148 a149 c150, .func f151 a152 c153, .func f159 a160 c161, .func f162 a163 c164, .func f165 a166 c167]) hO rfl ⟨[.func f145 a146 c147, .func f148 a149 c150, .func f151 a152 c153], _, rfl, ⟨_, _, _, _, _, _, _, _, _, rfl, r144⟩, ⟨[.func f159 a160 c161, .func f162 a163 c164, .func f165 a166 c167], _, rfl, ⟨_, _, _, _, _, _, _, _, _, rfl, r158⟩, rfl⟩⟩ rfl (by decide) fun _ σ o170 w171 hO => ?_
         obtain ⟨A168, c169, rfl, -⟩ := w171.form
         have hO : Obs _ _ [_] := hO
         refine za hO [] [(2, .slice A168 ([c140, c154] : List zx).length c169), (3, .bool true)] zqn fun j => ?_
         refine zz (zJ (zE ?_))
         injection hF with hF
         subst hF
         exact hQ _ _ _ _ _ rfl hO hL ⟨_, _, rfl, rfl, w171⟩
        ·refine zk (congrArg Value.bool hb139) ?_
         refine ze (ze (za hO [] [(5, .int .u8 p0), (36, .bool (p0 == 8))] zqn fun j => ?_))
         refine zbK (fun e' σ' => ∃ (x173 : Bool) (τ' : Hp), agr [(5, .int .u8 p0), (36, .bool x173)] e' ∧ Obs τ' σ' [] ∧ Hp.le τ τ' ∧ zgk p0 x173 = some rr) ?_ ?_
         ·refine z2 ?_
          rcases zi hF with ⟨hb352, hF⟩ | ⟨hb352, hF⟩
          ·refine zl (congrArg Value.bool hb352) ?_
           refine zv (zg (zn ?_))
           exact ⟨(p0 == 8), _, zqB zqm, hO, hL, hF⟩
          ·refine zk (congrArg Value.bool hb352) ?_
           refine za hO [] [(5, .int .u8 p0), (36, .bool (p0 == 9))] zqn fun j => ?_
           refine zg (zn ?_)
           exact ⟨(p0 == 9), _, zqB zqm, hO, hL, hF⟩
         ·rintro e σ ⟨x173, _, hA, hO, hL, hF⟩
          rw [← zC _ _ hA]
          unfold zgk at hF
          rcases zi hF with ⟨hb174, hF⟩ | ⟨hb174, hF⟩
          ·refine zl (congrArg Value.bool hb174) ?_
           refine ze ?_
           obtain ⟨c175, h176, hF⟩ := bind_some hF
           refine zr hO (zfX h176) rfl fun _ σ _ _ hO h177 h178 => ?_
           have hL := hL.trans h177
           obtain ⟨f180, a181, c182, f183, a184, c185, f186, a187, c188, rfl, rfl, r179⟩ := h178
           have hO : Obs _ _ [] := hO
           obtain ⟨c189, h190, hF⟩ := bind_some hF
           refine zr hO (zkd h190) rfl fun _ σ _ _ hO h191 h192 => ?_
           have hL := hL.trans h191
           have r179 := r179.le h191
           obtain ⟨f194, a195, c196, f197, a198, c199, f200, a201, c202, rfl, rfl, r193⟩ := h192
           have hO : Obs _ _ [] := hO
           obtain ⟨c203, h204, hF⟩ := bind_some hF
           refine zr hO (zjo h204) rfl fun _ σ _ _ hO h205 h206 => ?_
           have hL := hL.trans h205
           have r179 := r179.le h205
           have r193 := r193.le h205
           obtain ⟨f208, a209, c210, f211, a212, c213, f214, a215, c216, rfl, rfl, r207⟩ := h206
           have hO : Obs _ _ [] := hO
           obtain ⟨c217, h218, hF⟩ := bind_some hF
           refine zr hO (znv h218) rfl fun _ σ _ _ hO h219 h220 => ?_
           have hL := hL.trans h219
           have r179 := r179.le h219
           have r193 := r193.le h219
           have r207 := r207.le h219
           obtain ⟨f222, a223, c224, f225, a226, c227, f228, a229, c230, rfl, rfl, r221⟩ := h220
           have hO : Obs _ _ [] := hO
           refine zbu (T := zbW) (l := ([c175, c189, c203, c217] : List zx)) (cs := [.func f180 a181 c182, .func f183 a184 c185, .func f186 a187 c188, .func f194 a195 c196, .func f197 a198 c199, .func f200 a201 c202, .func f208 a209 c210, .func f211 a212 c213, .func f214 a215 c216, .func f222 a223 c224, .func f225 a226 c227, .func f228 a229 c230]) hO rfl ⟨[.func f180 a181 c182, .func f183 a184 c185, .func f186 a187 c188], _, rfl, ⟨_, _, _, _, _, _, _, _, _, rfl, r179⟩, ⟨[.func f194 a195 c196, .func f197 a198 c199, .func f200 a201 c202], _, rfl, ⟨_, _, _, _, _, _, _, _, _, rfl, r193⟩, ⟨[.func f208 a209 c210, .func f211 a212 c213, .func f214 a215 c216], _, rfl, ⟨_, _, _, _, _, _, _, _, _, rfl, r207⟩, ⟨[.func f222 a223 c224, .func f225 a226 c227, .func f228 a229 c230], _, rfl, ⟨_, _, _, _, _, _, _, _, _, rfl, r221⟩, rfl⟩⟩⟩⟩ rfl (by decide) fun _ σ o233 w234 hO => ?_
           obtain ⟨A231, c232, rfl, -⟩ := w234.form
           have hO : Obs _ _ [_] := hO
           refine za hO [] [(2, .slice A231 ([c175, c189, c203, c217] : List zx).length c232), (3, .bool true)] zqn fun j => ?_
           refine zz (zJ (zE ?_))
           injection hF with hF
           subst hF
           exact hQ _ _ _ _ _ rfl hO hL ⟨_, _, rfl, rfl, w234⟩
          ·refine zk (congrArg Value.bool hb174) ?_
           refine ze (ze (za hO [] [(5, .int .u8 p0), (44, .bool (p0 == 10))] zqn fun j => ?_))
           refine zbK (fun e' σ' => ∃ (x236 : Bool) (τ' : Hp), agr [(5, .int .u8 p0), (44, .bool x236)] e' ∧ Obs τ' σ' [] ∧ Hp.le τ τ' ∧ zft p0 x236 = some rr) ?_ ?_
           ·refine z2 ?_
            rcases zi hF with ⟨hb351, hF⟩ | ⟨hb351, hF⟩
            ·refine zl (congrArg Value.bool hb351) ?_
             refine zv (zg (zn ?_))
             exact ⟨(p0 == 10), _, zqB zqm, hO, hL, hF⟩
            ·refine zk (congrArg Value.bool hb351) ?_
             refine za hO [] [(5, .int .u8 p0), (44, .bool (p0 == 12))] zqn fun j => ?_
             refine zg (zn ?_)
             exact ⟨(p0 == 12), _, zqB zqm, hO, hL, hF⟩
           ·rintro e σ ⟨x236, _, hA, hO, hL, hF⟩
            rw [← zC _ _ hA]
            unfold zft at hF
            rcases zi hF with ⟨hb237, hF⟩ | ⟨hb237, hF⟩
            ·refine zl (congrArg Value.bool hb237) ?_
             refine ze ?_
             obtain ⟨c238, h239, hF⟩ := bind_some hF
             refine zr hO (zkH h239) rfl fun _ σ _ _ hO h240 h241 => ?_
             have hL := hL.trans h240
             obtain ⟨f243, a244, c245, f246, a247, c248, f249, a250, c251, rfl, rfl, r242⟩ := h241
             have hO : Obs _ _ [] := hO
             refine zbu (T := zbW) (l := ([c238] : List zx)) (cs := [.func f243 a244 c245, .func f246 a247 c248, .func f249 a250 c251]) hO rfl ⟨[.func f243 a244 c245, .func f246 a247 c248, .func f249 a250 c251], _, rfl, ⟨_, _, _, _, _, _, _, _, _, rfl, r242⟩, rfl⟩ rfl (by decide) fun _ σ o254 w255 hO => ?_
             obtain ⟨A252, c253, rfl, -⟩ := w255.form
             have hO : Obs _ _ [_] := hO
             refine za hO [] [(2, .slice A252 ([c238] : List zx).length c253), (3, .bool true)] zqn fun j => ?_
             refine zz (zJ (zE ?_))
             injection hF with hF
             subst hF
             exact hQ _ _ _ _ _ rfl hO hL ⟨_, _, rfl, rfl, w255⟩
            ·refine zk (congrArg Value.bool hb237) ?_
             refine ze (za hO [] [(5, .int .u8 p0), (49, .bool (p0 == 11))] zqn fun j => ?_)
             rcases zi hF with ⟨hb256, hF⟩ | ⟨hb256, hF⟩
             ·refine zl (congrArg Value.bool hb256) ?_
              refine ze ?_
              obtain ⟨c257, h258, hF⟩ := bind_some hF
              refine zr hO (zjB h258) rfl fun _ σ _ _ hO h259 h260 => ?_
              have hL := hL.trans h259
              obtain ⟨f262, a263, c264, f265, a266, c267, f268, a269, c270, rfl, rfl, r261⟩ := h260
              have hO : Obs _ _ [] := hO
              obtain ⟨c271, h272, hF⟩ := bind_some hF
              refine zr hO (zkH h272) rfl fun _ σ _ _ hO h273 h274 => ?_
              have hL := hL.trans h273
              have r261 := r261.le h273
              obtain ⟨f276, a277, c278, f279, a280, c281, f282, a283, c284, rfl, rfl, r275⟩ := h274
              have hO : Obs _ _ [] := hO
              refine zbu (T := zbW) (l := ([c257, c271] : List zx)) (cs := [.func f262 a263 c264, .func f265 a266 c267, .func f268 a269 c270, .func f276 a277 c278, .func f279 a280 c281, .func f282 a283 c284]) hO rfl ⟨[.func f262 a263 c264, .func f265 a266 c267, .func f268 a269 c270], _, rfl, ⟨_, _, _, _, _, _, _, _, _, rfl, r261⟩, ⟨[.func f276 a277 c278, .func f279 a280 c281, .func f282 a283 c284], _, rfl, ⟨_, _, _, _, _, _, _, _, _, rfl, r275⟩, rfl⟩⟩ rfl (by decide) fun _ σ o287 w288 hO => ?_
              obtain ⟨A285, c286, rfl, -⟩ := w288.form
              have hO : Obs _ _ [_] := hO
              refine za hO [] [(2, .slice A285 ([c257, c271] : List zx).length c286), (3, .bool true)] zqn fun j => ?_
              refine zz (zJ (zE ?_))
              injection hF with hF
              subst hF
              exact hQ _ _ _ _ _ rfl hO hL ⟨_, _, rfl, rfl, w288⟩
             ·refine zk (congrArg Value.bool hb256) ?_
              refine ze (za hO [] [(5, .int .u8 p0), (54, .bool (p0 == 14))] zqn fun j => ?_)
              rcases zi hF with ⟨hb289, hF⟩ | ⟨hb289, hF⟩
              ·refine zl (congrArg Value.bool hb289) ?_
               refine ze ?_
               obtain ⟨c290, h291, hF⟩ := bind_some hF
               refine zr hO (zjo h291) rfl fun _ σ _ _ hO h292 h293 => ?_
               have hL := hL.trans h292
               obtain ⟨f295, a296, c297, f298, a299, c300, f301, a302, c303, rfl, rfl, r294⟩ := h293
               have hO : Obs _ _ [] := hO
               refine zbu (T := zbW) (l := ([c290] : List zx)) (cs := [.func f295 a296 c297, .func f298 a299 c300, .func f301 a302 c303]) hO rfl ⟨[.func f295 a296 c297, .func f298 a299 c300, .func f301 a302 c303], _, rfl, ⟨_, _, _, _, _, _, _, _, _, rfl, r294⟩, rfl⟩ rfl (by decide) fun _ σ o306 w307 hO => ?_
               obtain ⟨A304, c305, rfl, -⟩ := w307.form
               have hO : Obs _ _ [_] := hO
               refine za hO [] [(2, .slice A304 ([c290] : List zx).length c305), (3, .bool true)] zqn fun j => ?_
               refine zz (zJ (zE ?_))
               injection hF with hF
               subst hF
               exact hQ _ _ _ _ _ rfl hO hL ⟨_, _, rfl, rfl, w307⟩
              ·refine zk (congrArg Value.bool hb289) ?_
               refine ze (ze (za hO [] [(5, .int .u8 p0), (58, .bool (p0 == 15))] zqn fun j => ?_))
               refine zbK (fun e' σ' => ∃ (x310 : Bool) (τ' : Hp), agr [(5, .int .u8 p0), (58, .bool x310)] e' ∧ Obs τ' σ' [] ∧ Hp.le τ τ' ∧ zel p0 x310 = some rr) ?_ ?_
               ·refine z2 ?_
                rcases zi hF with ⟨hb349, hF⟩ | ⟨hb349, hF⟩
                ·refine zl (congrArg Value.bool hb349) ?_
                 refine zv (zg (zn ?_))
                 exact ⟨(p0 == 15), _, zqB zqm, hO, hL, hF⟩
                ·refine zk (congrArg Value.bool hb349) ?_
                 refine ze (za hO [] [(5, .int .u8 p0), (58, .bool (p0 == 16))] zqn fun j => ?_)
                 rcases zi hF with ⟨hb350, hF⟩ | ⟨hb350, hF⟩
                 ·refine zl (congrArg Value.bool hb350) ?_
                  refine zv (zg (zn ?_))
                  exact ⟨(p0 == 16), _, zqB zqm, hO, hL, hF⟩
                 ·refine zk (congrArg Value.bool hb350) ?_
                  refine za hO [] [(5, .int .u8 p0), (58, .bool (p0 == 17))] zqn fun j => ?_
                  refine zg (zn ?_)
                  exact ⟨(p0 == 17), _, zqB zqm, hO, hL, hF⟩
               ·rintro e σ ⟨x310, _, hA, hO, hL, hF⟩
                rw [← zC _ _ hA]
                unfold zel at hF
                rcases zi hF with ⟨hb311, hF⟩ | ⟨hb311, hF⟩
                ·refine zl (congrArg Value.bool hb311) ?_
                 refine ze ?_
                 obtain ⟨c312, h313, hF⟩ := bind_some hF
                 refine zr hO (zjB h313) rfl fun _ σ _ _ hO h314 h315 => ?_
                 have hL := hL.trans h314
                 obtain ⟨f317, a318, c319, f320, a321, c322, f323, a324, c325, rfl, rfl, r316⟩ := h315
                 have hO : Obs _ _ [] := hO
                 refine zbu (T := zbW) (l := ([c312] : List zx)) (cs := [.func f317 a318 c319, .func f320 a321 c322, .func f323 a324 c325]) hO rfl ⟨[.func f317 a318 c319, .func f320 a321 c322, .func f323 a324 c325], _, rfl, ⟨_, _, _, _, _, _, _, _, _, rfl, r316⟩, rfl⟩ rfl (by decide) fun _ σ o328 w329 hO => ?_
                 obtain ⟨A326, c327, rfl, -⟩ := w329.form
                 have hO : Obs _ _ [_] := hO
                 refine za hO [] [(2, .slice A326 ([c312] : List zx).length c327), (3, .bool true)] zqn fun j => ?_
                 refine zz (zJ (zE ?_))
                 injection hF with hF
                 subst hF
                 exact hQ _ _ _ _ _ rfl hO hL ⟨_, _, rfl, rfl, w329⟩
                ·refine zk (congrArg Value.bool hb311) ?_
                 refine ze (za hO [] [(64, .bool (p0 == 18))] zqm fun j => ?_)
                 rcases zi hF with ⟨hb330, hF⟩ | ⟨hb330, hF⟩
                 ·refine zl (congrArg Value.bool hb330) ?_
                  refine ze ?_
                  obtain ⟨c331, h332, hF⟩ := bind_some hF
                  refine zr hO (znj h332) rfl fun _ σ _ _ hO h333 h334 => ?_
                  have hL := hL.trans h333
                  obtain ⟨f336, a337, c338, f339, a340, c341, f342, a343, c344, rfl, rfl, r335⟩ := h334
                  have hO : Obs _ _ [] := hO
                  refine zbu (T := zbW) (l := ([c331] : List zx)) (cs := [.func f336 a337 c338, .func f339 a340 c341, .func f342 a343 c344]) hO rfl ⟨[.func f336 a337 c338, .func f339 a340 c341, .func f342 a343 c344], _, rfl, ⟨_, _, _, _, _, _, _, _, _, rfl, r335⟩, rfl⟩ rfl (by decide) fun _ σ o347 w348 hO => ?_
                  obtain ⟨A345, c346, rfl, -⟩ := w348.form
                  have hO : Obs _ _ [_] := hO
                  refine za hO [] [(2, .slice A345 ([c331] : List zx).length c346), (3, .bool true)] zqn fun j => ?_
                  refine zz (zJ (zE ?_))
                  injection hF with hF
                  subst hF
                  exact hQ _ _ _ _ _ rfl hO hL ⟨_, _, rfl, rfl, w348⟩
                 ·refine zk (congrArg Value.bool hb330) ?_
                  refine zv (zg (zK (zn (za hO [] [(2, .slice none 0 0), (3, .bool false)] zqn fun j => ?_))))
                  refine zp ?_
                  have hO := hO.no
                  have hO : Obs _ _ [_] := hO
                  injection hF with hF
                  subst hF
                  exact hQ _ _ _ _ _ rfl hO hL ⟨_, _, rfl, rfl, (zd.nil _ _ _)⟩
theorem zlV {τ : Hp} {v0 : Value} {p0 : (List UInt8)} {p1 : Int} {q2 : zc} {bm2 : Nat} {af0 : Addr} (r0 : RdT Ty.u8 τ v0 p0) (mf0 : At τ af0 [.func (.func 88) #[] #[]]) {rr : Int × Bool × zc} (hF : zeW p0 p1 q2 = some rr) :
  Ctr Tryz.prog 118 #[v0, .int .i64 p1, .pointer (some ⟨bm2, 0, none⟩), .pointer (some af0)] τ [some (bm2, ⟨[.int .u8 q2.Kind.toNat, .int .u8 q2.Op.toNat, .int .i64 q2.R, .int .i64 q2.S, .int .i64 q2.T, .int .i64 q2.N, .int .i64 q2.M], 54, 7, true⟩)] (fun v τ' vs' => v = .tuple #[.int .i64 rr.1, .bool rr.2.1] ∧ vs' = [some (bm2, ⟨[.int .u8 rr.2.2.Kind.toNat, .int .u8 rr.2.2.Op.toNat, .int .i64 rr.2.2.R, .int .i64 rr.2.2.S, .int .i64 rr.2.2.T, .int .i64 rr.2.2.N, .int .i64 rr.2.2.M], 54, 7, true⟩)]) := by
 obtain ⟨A0, c0, rfl, -⟩ := r0.form
 refine zw (args := [.slice A0 p0.length c0, .int .i64 p1, .pointer (some ⟨bm2, 0, none⟩), .pointer (some af0)]) hm Tryz.func118 zfL rfl fun w0 σ hO Q hQ => ?_
 unfold zeW at hF
 have hL := Hp.le.refl τ
 show wpn _ _ zcy.body _ _ _
 unfold zcy
 dsimp only
 refine za hO [] [(0, .slice A0 p0.length c0), (1, zqC p1), (2, zqD bm2), (3, .pointer (some af0))] zqp fun j => ?_
 refine zb hO 2 [] [(2, zqD bm2), (3, .pointer (some af0)), (13, .slice A0 p0.length c0), (14, zqC p1)] zqp fun j => ?_
 obtain ⟨c4, h5, hF⟩ := bind_some hF
 refine zr hO (zf1 r0 h5) rfl fun _ σ _ _ hO h6 h7 => ?_
 have hL := hL.trans h6
 have mf0 := mf0.le h6
 have r0 := r0.le h6
 obtain ⟨rfl, rfl⟩ := h7
 have hO : Obs _ _ [_] := hO
 refine za hO [] [(2, zqD bm2), (3, .pointer (some af0)), (9, .int .u8 c4.1), (10, zqC c4.2.1), (11, zqC c4.2.2)] zqq fun j => ?_
 refine zZ rfl (mf0.le hO.base).fst ?_
 refine zb hO 2 [] [(2, zqD bm2), (10, zqC c4.2.1), (11, zqC c4.2.2), (19, .func (.func 88) #[] #[]), (20, zqD bm2), (21, .int .u8 c4.1)] zqr fun j => ?_
 obtain ⟨c8, h9, hF⟩ := bind_some hF
 refine zcs (hs := []) (vs := [_]) rfl (by kernel_rfl) hO (zon (q0 := (⟨q2.Kind, q2.Op, q2.R, q2.S, q2.T, q2.N, q2.M⟩ : zc)) h9) rfl fun _ σ _ _ hO h10 h11 => ?_
 have hL := hL.trans h10
 obtain ⟨rfl, rfl⟩ := h11
 have hO : Obs _ _ [_] := hO
 refine zh (za hO [] [(2, zqD bm2), (7, zqC c4.2.1), (8, .bool (c4.2.2 == 0))] zqo fun j => ?_)
 refine zp ?_
 injection hF with hF
 subst hF
 exact hQ _ _ _ _ _ rfl hO hL ⟨rfl, rfl⟩
theorem zo8 {τ : Hp} {v0 : Value} {p0 : (List UInt8)} {p1 : Int} {q2 : zc} {bm2 : Nat} {af0 : Addr} (r0 : RdT Ty.u8 τ v0 p0) (mf0 : At τ af0 [.func (.func 96) #[] #[]]) {rr : Int × Bool × zc} (hF : ze2 p0 p1 q2 = some rr) :
  Ctr Tryz.prog 118 #[v0, .int .i64 p1, .pointer (some ⟨bm2, 0, none⟩), .pointer (some af0)] τ [some (bm2, ⟨[.int .u8 q2.Kind.toNat, .int .u8 q2.Op.toNat, .int .i64 q2.R, .int .i64 q2.S, .int .i64 q2.T, .int .i64 q2.N, .int .i64 q2.M], 54, 7, true⟩)] (fun v τ' vs' => v = .tuple #[.int .i64 rr.1, .bool rr.2.1] ∧ vs' = [some (bm2, ⟨[.int .u8 rr.2.2.Kind.toNat, .int .u8 rr.2.2.Op.toNat, .int .i64 rr.2.2.R, .int .i64 rr.2.2.S, .int .i64 rr.2.2.T, .int .i64 rr.2.2.N, .int .i64 rr.2.2.M], 54, 7, true⟩)]) := by
 obtain ⟨A0, c0, rfl, -⟩ := r0.form
 refine zw (args := [.slice A0 p0.length c0, .int .i64 p1, .pointer (some ⟨bm2, 0, none⟩), .pointer (some af0)]) hm Tryz.func118 zfL rfl fun w0 σ hO Q hQ => ?_
 unfold ze2 at hF
 have hL := Hp.le.refl τ
 show wpn _ _ zcy.body _ _ _
 unfold zcy
 dsimp only
 refine za hO [] [(0, .slice A0 p0.length c0), (1, zqC p1), (2, zqD bm2), (3, .pointer (some af0))] zqp fun j => ?_
 refine zb hO 2 [] [(2, zqD bm2), (3, .pointer (some af0)), (13, .slice A0 p0.length c0), (14, zqC p1)] zqp fun j => ?_
 obtain ⟨c4, h5, hF⟩ := bind_some hF
 refine zr hO (zf1 r0 h5) rfl fun _ σ _ _ hO h6 h7 => ?_
 have hL := hL.trans h6
 have mf0 := mf0.le h6
 have r0 := r0.le h6
 obtain ⟨rfl, rfl⟩ := h7
 have hO : Obs _ _ [_] := hO
 refine za hO [] [(2, zqD bm2), (3, .pointer (some af0)), (9, .int .u8 c4.1), (10, zqC c4.2.1), (11, zqC c4.2.2)] zqq fun j => ?_
 refine zZ rfl (mf0.le hO.base).fst ?_
 refine zb hO 2 [] [(2, zqD bm2), (10, zqC c4.2.1), (11, zqC c4.2.2), (19, .func (.func 96) #[] #[]), (20, zqD bm2), (21, .int .u8 c4.1)] zqr fun j => ?_
 obtain ⟨c8, h9, hF⟩ := bind_some hF
 refine zcs (hs := []) (vs := [_]) rfl (by kernel_rfl) hO (zpV (q0 := (⟨q2.Kind, q2.Op, q2.R, q2.S, q2.T, q2.N, q2.M⟩ : zc)) h9) rfl fun _ σ _ _ hO h10 h11 => ?_
 have hL := hL.trans h10
 obtain ⟨rfl, rfl⟩ := h11
 have hO : Obs _ _ [_] := hO
 refine zh (za hO [] [(2, zqD bm2), (7, zqC c4.2.1), (8, .bool (c4.2.2 == 0))] zqo fun j => ?_)
 refine zp ?_
 injection hF with hF
 subst hF
 exact hQ _ _ _ _ _ rfl hO hL ⟨rfl, rfl⟩
theorem zm8 {τ : Hp} {v0 : Value} {p0 : (List UInt8)} {p1 : Int} {q2 : zc} {bm2 : Nat} {af0 : Addr} (r0 : RdT Ty.u8 τ v0 p0) (mf0 : At τ af0 [.func (.func 100) #[] #[]]) {rr : Int × Bool × zc} (hF : zgz p0 p1 q2 = some rr) :
  Ctr Tryz.prog 118 #[v0, .int .i64 p1, .pointer (some ⟨bm2, 0, none⟩), .pointer (some af0)] τ [some (bm2, ⟨[.int .u8 q2.Kind.toNat, .int .u8 q2.Op.toNat, .int .i64 q2.R, .int .i64 q2.S, .int .i64 q2.T, .int .i64 q2.N, .int .i64 q2.M], 54, 7, true⟩)] (fun v τ' vs' => v = .tuple #[.int .i64 rr.1, .bool rr.2.1] ∧ vs' = [some (bm2, ⟨[.int .u8 rr.2.2.Kind.toNat, .int .u8 rr.2.2.Op.toNat, .int .i64 rr.2.2.R, .int .i64 rr.2.2.S, .int .i64 rr.2.2.T, .int .i64 rr.2.2.N, .int .i64 rr.2.2.M], 54, 7, true⟩)]) := by
 obtain ⟨A0, c0, rfl, -⟩ := r0.form
 refine zw (args := [.slice A0 p0.length c0, .int .i64 p1, .pointer (some ⟨bm2, 0, none⟩), .pointer (some af0)]) hm Tryz.func118 zfL rfl fun w0 σ hO Q hQ => ?_
 unfold zgz at hF
 have hL := Hp.le.refl τ
 show wpn _ _ zcy.body _ _ _
 unfold zcy
 dsimp only
 refine za hO [] [(0, .slice A0 p0.length c0), (1, zqC p1), (2, zqD bm2), (3, .pointer (some af0))] zqp fun j => ?_
 refine zb hO 2 [] [(2, zqD bm2), (3, .pointer (some af0)), (13, .slice A0 p0.length c0), (14, zqC p1)] zqp fun j => ?_
 obtain ⟨c4, h5, hF⟩ := bind_some hF
 refine zr hO (zf1 r0 h5) rfl fun _ σ _ _ hO h6 h7 => ?_
 have hL := hL.trans h6
 have mf0 := mf0.le h6
 have r0 := r0.le h6
 obtain ⟨rfl, rfl⟩ := h7
 have hO : Obs _ _ [_] := hO
 refine za hO [] [(2, zqD bm2), (3, .pointer (some af0)), (9, .int .u8 c4.1), (10, zqC c4.2.1), (11, zqC c4.2.2)] zqq fun j => ?_
 refine zZ rfl (mf0.le hO.base).fst ?_
 refine zb hO 2 [] [(2, zqD bm2), (10, zqC c4.2.1), (11, zqC c4.2.2), (19, .func (.func 100) #[] #[]), (20, zqD bm2), (21, .int .u8 c4.1)] zqr fun j => ?_
 obtain ⟨c8, h9, hF⟩ := bind_some hF
 refine zcs (hs := []) (vs := [_]) rfl (by kernel_rfl) hO (zo7 (q0 := (⟨q2.Kind, q2.Op, q2.R, q2.S, q2.T, q2.N, q2.M⟩ : zc)) h9) rfl fun _ σ _ _ hO h10 h11 => ?_
 have hL := hL.trans h10
 obtain ⟨rfl, rfl⟩ := h11
 have hO : Obs _ _ [_] := hO
 refine zh (za hO [] [(2, zqD bm2), (7, zqC c4.2.1), (8, .bool (c4.2.2 == 0))] zqo fun j => ?_)
 refine zp ?_
 injection hF with hF
 subst hF
 exact hQ _ _ _ _ _ rfl hO hL ⟨rfl, rfl⟩
theorem zm3 {τ : Hp} {v0 : Value} {p0 : (List UInt8)} {p1 : Int} {q2 : zc} {bm2 : Nat} {af0 : Addr} (r0 : RdT Ty.u8 τ v0 p0) (mf0 : At τ af0 [.func (.func 103) #[] #[]]) {rr : Int × Bool × zc} (hF : zfD p0 p1 q2 = some rr) :
  Ctr Tryz.prog 118 #[v0, .int .i64 p1, .pointer (some ⟨bm2, 0, none⟩), .pointer (some af0)] τ [some (bm2, ⟨[.int .u8 q2.Kind.toNat, .int .u8 q2.Op.toNat, .int .i64 q2.R, .int .i64 q2.S, .int .i64 q2.T, .int .i64 q2.N, .int .i64 q2.M], 54, 7, true⟩)] (fun v τ' vs' => v = .tuple #[.int .i64 rr.1, .bool rr.2.1] ∧ vs' = [some (bm2, ⟨[.int .u8 rr.2.2.Kind.toNat, .int .u8 rr.2.2.Op.toNat, .int .i64 rr.2.2.R, .int .i64 rr.2.2.S, .int .i64 rr.2.2.T, .int .i64 rr.2.2.N, .int .i64 rr.2.2.M], 54, 7, true⟩)]) := by
 obtain ⟨A0, c0, rfl, -⟩ := r0.form
 refine zw (args := [.slice A0 p0.length c0, .int .i64 p1, .pointer (some ⟨bm2, 0, none⟩), .pointer (some af0)]) hm Tryz.func118 zfL rfl fun w0 σ hO Q hQ => ?_
 unfold zfD at hF
 have hL := Hp.le.refl τ
 show wpn _ _ zcy.body _ _ _
 unfold zcy
 dsimp only
 refine za hO [] [(0, .slice A0 p0.length c0), (1, zqC p1), (2, zqD bm2), (3, .pointer (some af0))] zqp fun j => ?_
 refine zb hO 2 [] [(2, zqD bm2), (3, .pointer (some af0)), (13, .slice A0 p0.length c0), (14, zqC p1)] zqp fun j => ?_
 obtain ⟨c4, h5, hF⟩ := bind_some hF
 refine zr hO (zf1 r0 h5) rfl fun _ σ _ _ hO h6 h7 => ?_
 have hL := hL.trans h6
 have mf0 := mf0.le h6
 have r0 := r0.le h6
 obtain ⟨rfl, rfl⟩ := h7
 have hO : Obs _ _ [_] := hO
 refine za hO [] [(2, zqD bm2), (3, .pointer (some af0)), (9, .int .u8 c4.1), (10, zqC c4.2.1), (11, zqC c4.2.2)] zqq fun j => ?_
 refine zZ rfl (mf0.le hO.base).fst ?_
 refine zb hO 2 [] [(2, zqD bm2), (10, zqC c4.2.1), (11, zqC c4.2.2), (19, .func (.func 103) #[] #[]), (20, zqD bm2), (21, .int .u8 c4.1)] zqr fun j => ?_
 obtain ⟨c8, h9, hF⟩ := bind_some hF
 refine zcs (hs := []) (vs := [_]) rfl (by kernel_rfl) hO (znQ (q0 := (⟨q2.Kind, q2.Op, q2.R, q2.S, q2.T, q2.N, q2.M⟩ : zc)) h9) rfl fun _ σ _ _ hO h10 h11 => ?_
 have hL := hL.trans h10
 obtain ⟨rfl, rfl⟩ := h11
 have hO : Obs _ _ [_] := hO
 refine zh (za hO [] [(2, zqD bm2), (7, zqC c4.2.1), (8, .bool (c4.2.2 == 0))] zqo fun j => ?_)
 refine zp ?_
 injection hF with hF
 subst hF
 exact hQ _ _ _ _ _ rfl hO hL ⟨rfl, rfl⟩
theorem zm6 {τ : Hp} {v0 : Value} {p0 : (List UInt8)} {p1 : Int} {q2 : zc} {bm2 : Nat} {af0 : Addr} (r0 : RdT Ty.u8 τ v0 p0) (mf0 : At τ af0 [.func (.func 116) #[] #[]]) {rr : Int × Bool × zc} (hF : zeM p0 p1 q2 = some rr) :
  Ctr Tryz.prog 118 #[v0, .int .i64 p1, .pointer (some ⟨bm2, 0, none⟩), .pointer (some af0)] τ [some (bm2, ⟨[.int .u8 q2.Kind.toNat, .int .u8 q2.Op.toNat, .int .i64 q2.R, .int .i64 q2.S, .int .i64 q2.T, .int .i64 q2.N, .int .i64 q2.M], 54, 7, true⟩)] (fun v τ' vs' => v = .tuple #[.int .i64 rr.1, .bool rr.2.1] ∧ vs' = [some (bm2, ⟨[.int .u8 rr.2.2.Kind.toNat, .int .u8 rr.2.2.Op.toNat, .int .i64 rr.2.2.R, .int .i64 rr.2.2.S, .int .i64 rr.2.2.T, .int .i64 rr.2.2.N, .int .i64 rr.2.2.M], 54, 7, true⟩)]) := by
 obtain ⟨A0, c0, rfl, -⟩ := r0.form
 refine zw (args := [.slice A0 p0.length c0, .int .i64 p1, .pointer (some ⟨bm2, 0, none⟩), .pointer (some af0)]) hm Tryz.func118 zfL rfl fun w0 σ hO Q hQ => ?_
 unfold zeM at hF
 have hL := Hp.le.refl τ
 show wpn _ _ zcy.body _ _ _
 unfold zcy
 dsimp only
 refine za hO [] [(0, .slice A0 p0.length c0), (1, zqC p1), (2, zqD bm2), (3, .pointer (some af0))] zqp fun j => ?_
 refine zb hO 2 [] [(2, zqD bm2), (3, .pointer (some af0)), (13, .slice A0 p0.length c0), (14, zqC p1)] zqp fun j => ?_
 obtain ⟨c4, h5, hF⟩ := bind_some hF
 refine zr hO (zf1 r0 h5) rfl fun _ σ _ _ hO h6 h7 => ?_
 have hL := hL.trans h6
 have mf0 := mf0.le h6
 have r0 := r0.le h6
 obtain ⟨rfl, rfl⟩ := h7
 have hO : Obs _ _ [_] := hO
 refine za hO [] [(2, zqD bm2), (3, .pointer (some af0)), (9, .int .u8 c4.1), (10, zqC c4.2.1), (11, zqC c4.2.2)] zqq fun j => ?_
 refine zZ rfl (mf0.le hO.base).fst ?_
 refine zb hO 2 [] [(2, zqD bm2), (10, zqC c4.2.1), (11, zqC c4.2.2), (19, .func (.func 116) #[] #[]), (20, zqD bm2), (21, .int .u8 c4.1)] zqr fun j => ?_
 obtain ⟨c8, h9, hF⟩ := bind_some hF
 refine zcs (hs := []) (vs := [_]) rfl (by kernel_rfl) hO (zqa (q0 := (⟨q2.Kind, q2.Op, q2.R, q2.S, q2.T, q2.N, q2.M⟩ : zc)) h9) rfl fun _ σ _ _ hO h10 h11 => ?_
 have hL := hL.trans h10
 obtain ⟨rfl, rfl⟩ := h11
 have hO : Obs _ _ [_] := hO
 refine zh (za hO [] [(2, zqD bm2), (7, zqC c4.2.1), (8, .bool (c4.2.2 == 0))] zqo fun j => ?_)
 refine zp ?_
 injection hF with hF
 subst hF
 exact hQ _ _ _ _ _ rfl hO hL ⟨rfl, rfl⟩
theorem zpa {τ : Hp} {x : zx} {u0 u1 u2 : Value} (hx : zbw τ x u0 u1 u2) {v0 : Value} {p0 : (List UInt8)} {p1 : Int} {q2 : zc} {bm2 : Nat} (r0 : RdT Ty.u8 τ v0 p0) {rr : Int × Bool × zc} (hF : zc6 x p0 p1 q2 = some rr) :
  FnC Tryz.prog u2 #[v0, .int .i64 p1, .pointer (some ⟨bm2, 0, none⟩)] τ [some (bm2, ⟨[.int .u8 q2.Kind.toNat, .int .u8 q2.Op.toNat, .int .i64 q2.R, .int .i64 q2.S, .int .i64 q2.T, .int .i64 q2.N, .int .i64 q2.M], 54, 7, true⟩)] (fun v τ' vs' => v = .tuple #[.int .i64 rr.1, .bool rr.2.1] ∧ vs' = [some (bm2, ⟨[.int .u8 rr.2.2.Kind.toNat, .int .u8 rr.2.2.Op.toNat, .int .i64 rr.2.2.R, .int .i64 rr.2.2.S, .int .i64 rr.2.2.T, .int .i64 rr.2.2.N, .int .i64 rr.2.2.M], 54, 7, true⟩)]) := by
 cases x with
 | c_one_1 => obtain ⟨a1_0, a2_0, rfl, rfl, rfl, m0, m1⟩ := hx; exact ⟨118, #[], #[.pointer (some a2_0)], _, rfl, by kernel_rfl, rfl, zlV r0 m1 hF⟩
 | c_both_1 => obtain ⟨a1_0, a2_0, rfl, rfl, rfl, m0, m1⟩ := hx; exact ⟨118, #[], #[.pointer (some a2_0)], _, rfl, by kernel_rfl, rfl, zo8 r0 m1 hF⟩
 | c_op_1 x0 x1 => obtain ⟨a0_0, a0_1, a1_0, a2_0, rfl, rfl, rfl, m0, m1, m2, m3⟩ := hx; exact ⟨118, #[], #[.pointer (some a2_0)], _, rfl, by kernel_rfl, rfl, zm8 r0 m3 hF⟩
 | c_third_1 => obtain ⟨a1_0, a2_0, rfl, rfl, rfl, m0, m1⟩ := hx; exact ⟨118, #[], #[.pointer (some a2_0)], _, rfl, by kernel_rfl, rfl, zm3 r0 m1 hF⟩
 | c_bound_1 => obtain ⟨rfl, rfl, rfl⟩ := hx; exact ⟨107, #[], #[], _, rfl, by kernel_rfl, rfl, zmA r0 hF⟩
 | c_to_1 => obtain ⟨rfl, rfl, rfl⟩ := hx; exact ⟨112, #[], #[], _, rfl, by kernel_rfl, rfl, znr r0 hF⟩
 | c_how_1 => obtain ⟨a1_0, a2_0, rfl, rfl, rfl, m0, m1⟩ := hx; exact ⟨118, #[], #[.pointer (some a2_0)], _, rfl, by kernel_rfl, rfl, zm6 r0 m1 hF⟩
 | c_parts_1 => obtain ⟨rfl, rfl, rfl⟩ := hx; exact ⟨91, #[], #[], _, rfl, by kernel_rfl, rfl, zlt r0 hF⟩
 | c_within => obtain ⟨rfl, rfl, rfl⟩ := hx; exact ⟨91, #[], #[], _, rfl, by kernel_rfl, rfl, zlt r0 hF⟩
theorem zlI {τ : Hp} {v0 : Value} {p0 : (List UInt8)} {p1 : Int} (r0 : RdT Ty.u8 τ v0 p0) {rr : zc × Int × Bool} (hF : zc0 p0 p1 = some rr) :
  Ctr Tryz.prog 41 #[v0, .int .i64 p1] τ [] (fun v τ' vs' => v = .tuple #[.agg #[.int .u8 rr.1.Kind.toNat, .int .u8 rr.1.Op.toNat, .int .i64 rr.1.R, .int .i64 rr.1.S, .int .i64 rr.1.T, .int .i64 rr.1.N, .int .i64 rr.1.M], .int .i64 rr.2.1, .bool rr.2.2] ∧ vs' = []) := by
 obtain ⟨A0, c0, rfl, -⟩ := r0.form
 refine zw (args := [.slice A0 p0.length c0, .int .i64 p1]) hm Tryz.func41 s41 rfl fun w0 σ hO Q hQ => ?_
 unfold zc0 at hF
 have hL := Hp.le.refl τ
 show wpn _ _ a41.body _ _ _
 unfold a41
 dsimp only
 refine zbk hO fun b3 σ hO => ?_
 have hO : Obs _ _ [_] := hO
 refine za hO [] [(0, .slice A0 p0.length c0), (1, zqC p1), (4, zqD b3)] zqo fun j => ?_
 refine ze (za hO [] [(0, .slice A0 p0.length c0), (1, zqC p1), (4, zqD b3), (13, .bool (decide (p1 ≥ (p0.length : Int))))] zqp fun j => ?_)
 rcases zi hF with ⟨hb4, hF⟩ | ⟨hb4, hF⟩
 ·refine zl (congrArg Value.bool hb4) ?_
  refine ze (zb hO 1 [0] [(4, zqD b3), (14, .agg #[(.int .u8 0), (.int .u8 0), (.int .i64 0), (.int .i64 0), (.int .i64 0), (.int .i64 0), (.int .i64 0)])] (And.intro (And.intro rfl rfl) zqn) fun j => ?_)
  refine zH hO (i := 0) rfl (off := 0) rfl rfl rfl rfl (Nat.le_of_ble_eq_true rfl) rfl fun σ hO => ?_
  have hO : Obs _ _ [_] := hO
  refine za hO [] [(4, zqD b3), (5, zqC 0), (6, .bool false)] zqo fun j => ?_
  refine zz ?_
  injection hF with hF
  subst hF
  have hV0 := hO.val (i := 0) rfl (off := 0) (agg := true) (n := 7) rfl
  have hO := hO.sel [] (by decide)
  exact hQ _ _ _ _ _ (zbn rfl (hV0) (zcD (zcD rfl))) hO hL ⟨rfl, rfl⟩
 ·refine zk (congrArg Value.bool hb4) ?_
  refine zv (zb hO 2 [] [(0, .slice A0 p0.length c0), (1, zqC p1), (4, zqD b3), (15, .slice A0 p0.length c0), (16, zqC p1)] zqq fun j => ?_)
  obtain ⟨y5, g6, hF⟩ := bind_some hF
  refine zb6 (T := Ty.u8) r0 hO.base rfl rfl g6 (by decide) fun a7 _ k8 m9 => ?_
  obtain rfl : _ = ([.int .u8 y5.toNat] : List Value) := k8
  refine zZ rfl (m9.le hO.base).fst ?_
  refine zb hO 1 [] [(0, .slice A0 p0.length c0), (1, zqC p1), (4, zqD b3), (18, .int .u8 (y5.toNat : Int)), (19, zqD b3)] zqq fun j => ?_
  refine zH hO (i := 0) rfl (off := 0) rfl rfl rfl rfl (Nat.le_of_ble_eq_true rfl) rfl fun σ hO => ?_
  have hO : Obs _ _ [_] := hO
  refine zh (zb hO 2 [0] [(0, .slice A0 p0.length c0), (1, zqC p1), (4, zqD b3), (22, .int .u8 (y5.toNat : Int))] (And.intro (And.intro rfl rfl) zqp) fun j => ?_)
  obtain ⟨c10, h11, hF⟩ := bind_some hF
  refine zr hO (zlo h11) rfl fun _ σ _ _ hO h12 h13 => ?_
  have hL := hL.trans h12
  have r0 := r0.le h12
  obtain ⟨v14, o17, rfl, rfl, w18⟩ := h13
  obtain ⟨A15, c16, rfl, -⟩ := w18.form
  have hO : Obs _ _ [_, _] := hO
  refine za hO [] [(0, .slice A0 p0.length c0), (1, zqC p1), (4, zqD b3), (6, .bool c10.2), (7, .slice A15 c10.1.length c16)] zqq fun j => ?_
  refine za hO [] [(0, .slice A0 p0.length c0), (4, zqD b3), (5, zqC (IntKind.i64.wrap (p1 + 1))), (6, .bool c10.2), (7, .slice A15 c10.1.length c16)] zqq fun j => ?_
  refine ze (za hO [] [(0, .slice A0 p0.length c0), (4, zqD b3), (5, zqC (IntKind.i64.wrap (p1 + 1))), (6, .bool c10.2), (28, .slice A15 c10.1.length c16), (29, zqC (c10.1.length : Int)), (30, zqC 0)] zqs fun j => ?_)
  refine zO (zbr (fun (n : Nat) e' σ' => ∃ (x50 : UInt8) (x51 : UInt8) (x52 : Int) (x53 : Int) (x54 : Int) (x55 : Int) (x56 : Int) (x57 : Int) (x58 : Bool) (A59 : Option Addr) (c60 : Nat) (o61 : Ob) (x62 : List zx) (x64 : Int) (τ' : Hp), agr [(0, .slice A0 p0.length c0), (4, zqD b3), (5, zqC x57), (6, .bool x58), (28, .slice A59 x62.length c60), (29, zqC (c10.1.length : Int)), (30, zqC x64)] e' ∧ Obs τ' σ' [some (b3, ⟨[.int .u8 (x50.toNat : Int), .int .u8 (x51.toNat : Int), .int .i64 x52, .int .i64 x53, .int .i64 x54, .int .i64 x55, .int .i64 x56], 54, 7, true⟩), o61] ∧ Hp.le τ τ' ∧ RdT Ty.u8 τ' (.slice A0 p0.length c0) p0 ∧ zd zbW 104 τ' (.slice A59 x62.length c60) x62 o61 ∧ zes p0 c10 n x50 x51 x52 x53 x54 x55 x56 x57 x58 x62 x64 = some rr) big ⟨y5, (0 : UInt8), 0, 0, 0, 0, 0, (IntKind.i64.wrap (p1 + 1)), c10.2, A15, c16, o17, c10.1, 0, _, zqB zqr, hO, hL, r0, w18, hF⟩ ?_)
  clear hF hO hL
  rintro n89 e σ ⟨x50, x51, x52, x53, x54, x55, x56, x57, x58, A59, c60, o61, x62, x64, _, hA, hO, hL, r49, w63, hF⟩
  rw [← zC _ _ hA]
  cases n89 with
  | zero => exact nomatch (show none = some rr from hF)
  | succ n89 =>
   replace hF : zdE (zes p0 c10 n89) p0 c10 x50 x51 x52 x53 x54 x55 x56 x57 x58 x62 x64 = some rr := hF
   unfold zdE at hF
   refine za hO [] [(0, .slice A0 p0.length c0), (4, zqD b3), (5, zqC x57), (6, .bool x58), (28, .slice A59 x62.length c60), (29, zqC (c10.1.length : Int)), (30, zqC x64), (31, .bool (decide (x64 < (c10.1.length : Int))))] zqt fun j => ?_
   rcases zi hF with ⟨hb90, hF⟩ | ⟨hb90, hF⟩
   ·refine zl (congrArg Value.bool hb90) ?_
    refine zv (zO ?_)
    obtain ⟨y91, g92, hF⟩ := bind_some hF
    refine zen (T := zbW) hO w63 (i := 1) rfl rfl rfl g92 (by decide) fun a93 _ k94 m95 i96 => ?_
    have k97 := k94
    obtain ⟨f99, zfb, c101, f102, zg4, c104, f105, zfY, c107, rfl, r98⟩ := k97
    refine zZ rfl (m95.all rfl) ?_
    refine zbk hO fun b108 σ hO => ?_
    have hO : Obs _ _ [_, _, _] := hO
    refine zH hO (i := 2) rfl (off := 0) rfl rfl rfl rfl (Nat.le_of_ble_eq_true rfl) rfl fun σ hO => ?_
    have hO : Obs _ _ [_, _, _] := hO
    refine zh (za hO [] [(0, .slice A0 p0.length c0), (4, zqD b3), (5, zqC x57), (6, .bool x58), (9, zqD b108), (28, .slice A59 x62.length c60), (29, zqC (c10.1.length : Int)), (30, zqC x64), (34, .bool x58)] zqu fun j => ?_)
    refine z2 ?_
    rcases zi hF with ⟨hb109, hF⟩ | ⟨hb109, hF⟩
    ·refine zl (congrArg Value.bool hb109) ?_
     refine zb hO 4 [2] [(0, .slice A0 p0.length c0), (4, zqD b3), (28, .slice A59 x62.length c60), (29, zqC (c10.1.length : Int)), (30, zqC x64), (37, .func f105 zfY c107), (38, .slice A0 p0.length c0), (39, zqC x57)] (And.intro (And.intro rfl rfl) zqt) fun j => ?_
     obtain ⟨c110, h111, hF⟩ := bind_some hF
     have hO := hO.sel [1, 2, 0] (by decide)
     refine zh9 (hs := [_, _]) (vs := [_]) rfl hO (zpa r98 r49 h111) rfl fun _ σ _ _ hO h112 h113 => ?_
     have hL := hL.trans h112
     have r49 := r49.le h112
     have w63 := w63.le h112
     have r98 := r98.le h112
     obtain ⟨rfl, rfl⟩ := h113
     have hO : Obs _ _ [_, _, _] := hO
     refine za hO [] [(0, .slice A0 p0.length c0), (4, zqD b3), (5, zqC c110.1), (6, .bool c110.2.1), (28, .slice A59 x62.length c60), (29, zqC (c10.1.length : Int)), (30, zqC x64)] zqs fun j => ?_
     refine zg (zK (zn (zU (za hO [] [(0, .slice A0 p0.length c0), (4, zqD b3), (5, zqC c110.1), (6, .bool c110.2.1), (28, .slice A59 x62.length c60), (29, zqC (c10.1.length : Int)), (30, zqC (IntKind.i64.wrap (x64 + 1)))] zqs fun j => ?_))))
     refine zg (zn ?_)
     have hO := hO.sel [2, 0] (by decide)
     exact ⟨n89, Nat.lt_succ_self _, c110.2.2.Kind, c110.2.2.Op, c110.2.2.R, c110.2.2.S, c110.2.2.T, c110.2.2.N, c110.2.2.M, c110.1, c110.2.1, A59, c60, o61, x62, (IntKind.i64.wrap (x64 + 1)), _, zqB zqr, hO, hL, r49, w63, hF⟩
    ·refine zk (congrArg Value.bool hb109) ?_
     refine zv (zg (zK (zn (zU (za hO [] [(0, .slice A0 p0.length c0), (4, zqD b3), (5, zqC x57), (6, .bool x58), (28, .slice A59 x62.length c60), (29, zqC (c10.1.length : Int)), (30, zqC (IntKind.i64.wrap (x64 + 1)))] zqs fun j => ?_)))))
     refine zg (zn ?_)
     have hO := hO.sel [0, 1] (by decide)
     exact ⟨n89, Nat.lt_succ_self _, x50, x51, x52, x53, x54, x55, x56, x57, x58, A59, c60, o61, x62, (IntKind.i64.wrap (x64 + 1)), _, zqB zqr, hO, hL, r49, w63, hF⟩
   ·refine zk (congrArg Value.bool hb90) ?_
    refine zbq (zbm (zbp (zn (zb hO 3 [0] [(4, zqD b3), (44, .agg #[(.int .u8 (x50.toNat : Int)), (.int .u8 (x51.toNat : Int)), (.int .i64 x52), (.int .i64 x53), (.int .i64 x54), (.int .i64 x55), (.int .i64 x56)]), (45, zqC x57), (46, .bool x58)] (And.intro (And.intro rfl rfl) zqp) fun j => ?_))))
    refine zH hO (i := 0) rfl (off := 0) rfl rfl rfl rfl (Nat.le_of_ble_eq_true rfl) rfl fun σ hO => ?_
    have hO : Obs _ _ [_, _] := hO
    refine za hO [] [(4, zqD b3), (5, zqC x57), (6, .bool x58)] zqo fun j => ?_
    refine zp ?_
    injection hF with hF
    subst hF
    have hV0 := hO.val (i := 0) rfl (off := 0) (agg := true) (n := 7) rfl
    have hO := hO.sel [] (by decide)
    exact hQ _ _ _ _ _ (zbn rfl (hV0) (zcD (zcD rfl))) hO hL ⟨rfl, rfl⟩
theorem zpN {τ : Hp} {q0 : zc} {bm0 : Nat} {qf0 : Int} {af0 : Addr} {qf1 : Int} {af1 : Addr} (mf0 : At τ af0 [.int .u8 qf0]) (mf1 : At τ af1 [.int .u8 qf1]) {rr : Bool × zc} (hF : zhs q0 qf0 qf1 = some rr) :
  Ctr Tryz.prog 98 #[.pointer (some ⟨bm0, 0, none⟩), .pointer (some af0), .pointer (some af1)] τ [some (bm0, ⟨[.int .u8 q0.Kind.toNat, .int .u8 q0.Op.toNat, .int .i64 q0.R, .int .i64 q0.S, .int .i64 q0.T, .int .i64 q0.N, .int .i64 q0.M], 54, 7, true⟩)] (fun v τ' vs' => v = .bool rr.1 ∧ vs' = [some (bm0, ⟨[.int .u8 rr.2.Kind.toNat, .int .u8 rr.2.Op.toNat, .int .i64 rr.2.R, .int .i64 rr.2.S, .int .i64 rr.2.T, .int .i64 rr.2.N, .int .i64 rr.2.M], 54, 7, true⟩)]) := by
 refine zw (args := [.pointer (some ⟨bm0, 0, none⟩), .pointer (some af0), .pointer (some af1)]) hm Tryz.func98 s98 rfl fun w0 σ hO Q hQ => ?_
 unfold zhs at hF
 have hL := Hp.le.refl τ
 show wpn _ _ a98.body _ _ _
 unfold a98
 dsimp only
 refine za hO [] [(0, zqD bm0), (1, .pointer (some af0)), (2, .pointer (some af1))] zqo fun j => ?_
 refine zbD (zb hO 4 [0] [(0, zqD bm0), (1, .pointer (some af0)), (2, .pointer (some af1)), (8, .int .u8 (q0.Op.toNat : Int))] (And.intro (And.intro rfl rfl) zqp) fun j => ?_)
 refine zZ rfl (mf0.le hO.base).fst ?_
 refine zb hO 2 [] [(0, zqD bm0), (2, .pointer (some af1)), (11, .bool (decide ((q0.Op.toNat : Int) ≥ qf0)))] zqo fun j => ?_
 obtain ⟨c2, h3, hF⟩ := bind_some hF
 refine zdR 2 [(18, .bool c2), (0, zqD bm0)] (fun Q hQ => ?_) fun j => ?_
 ·have hF := h3
  rcases zi hF with ⟨hb4, hF⟩ | ⟨hb4, hF⟩
  ·refine zP (congrArg (fun x => isB (.bool x) true) hb4) ?_
   refine zb hO 4 [0] [(0, zqD bm0), (2, .pointer (some af1)), (11, .bool (decide ((q0.Op.toNat : Int) ≥ qf0))), (15, .int .u8 (q0.Op.toNat : Int))] (And.intro (And.intro rfl rfl) zqp) fun j => ?_
   refine zZ rfl (mf1.le hO.base).fst ?_
   refine zb hO 1 [] [(0, zqD bm0), (11, .bool (decide ((q0.Op.toNat : Int) ≥ qf0))), (17, .bool (decide ((q0.Op.toNat : Int) ≤ qf1)))] zqo fun j => ?_
   refine zA (congrArg Value.bool hb4) ?_
   refine zh ?_
   injection hF with hF
   subst hF
   refine zg ?_
   exact hQ _ zqn
  ·refine zX (congrArg (fun x => isB (.bool x) true) hb4) ?_
   refine zA (congrArg Value.bool hb4) ?_
   refine zh ?_
   injection hF with hF
   subst hF
   refine zg ?_
   exact hQ _ zqn
 ·refine za hO [] [(0, zqD bm0), (4, .bool c2)] zqn fun j => ?_
  refine zp ?_
  injection hF with hF
  subst hF
  exact hQ _ _ _ _ _ rfl hO hL ⟨rfl, rfl⟩
theorem znW {τ : Hp} {x : zx} {u0 u1 u2 : Value} (hx : zbw τ x u0 u1 u2) {q0 : zc} {bm0 : Nat}  {rr : Bool × zc} (hF : zhe x q0 = some rr) :
  FnC Tryz.prog u0 #[.pointer (some ⟨bm0, 0, none⟩)] τ [some (bm0, ⟨[.int .u8 q0.Kind.toNat, .int .u8 q0.Op.toNat, .int .i64 q0.R, .int .i64 q0.S, .int .i64 q0.T, .int .i64 q0.N, .int .i64 q0.M], 54, 7, true⟩)] (fun v τ' vs' => v = .bool rr.1 ∧ vs' = [some (bm0, ⟨[.int .u8 rr.2.Kind.toNat, .int .u8 rr.2.Op.toNat, .int .i64 rr.2.R, .int .i64 rr.2.S, .int .i64 rr.2.T, .int .i64 rr.2.N, .int .i64 rr.2.M], 54, 7, true⟩)]) := by
 cases x with
 | c_one_1 => obtain ⟨a1_0, a2_0, rfl, rfl, rfl, m0, m1⟩ := hx; exact ⟨85, #[], #[], _, rfl, by kernel_rfl, rfl, znJ  hF⟩
 | c_both_1 => obtain ⟨a1_0, a2_0, rfl, rfl, rfl, m0, m1⟩ := hx; exact ⟨93, #[], #[], _, rfl, by kernel_rfl, rfl, zmN  hF⟩
 | c_op_1 x0 x1 => obtain ⟨a0_0, a0_1, a1_0, a2_0, rfl, rfl, rfl, m0, m1, m2, m3⟩ := hx; exact ⟨98, #[], #[.pointer (some a0_0), .pointer (some a0_1)], _, rfl, by kernel_rfl, rfl, zpN m0 m1 hF⟩
 | c_third_1 => obtain ⟨a1_0, a2_0, rfl, rfl, rfl, m0, m1⟩ := hx; exact ⟨101, #[], #[], _, rfl, by kernel_rfl, rfl, znE  hF⟩
 | c_bound_1 => obtain ⟨rfl, rfl, rfl⟩ := hx; exact ⟨104, #[], #[], _, rfl, by kernel_rfl, rfl, zmT  hF⟩
 | c_to_1 => obtain ⟨rfl, rfl, rfl⟩ := hx; exact ⟨109, #[], #[], _, rfl, by kernel_rfl, rfl, zoW  hF⟩
 | c_how_1 => obtain ⟨a1_0, a2_0, rfl, rfl, rfl, m0, m1⟩ := hx; exact ⟨114, #[], #[], _, rfl, by kernel_rfl, rfl, zl4  hF⟩
 | c_parts_1 => obtain ⟨rfl, rfl, rfl⟩ := hx; exact ⟨73, #[], #[], _, rfl, by kernel_rfl, rfl, znd  hF⟩
 | c_within => obtain ⟨rfl, rfl, rfl⟩ := hx; exact ⟨79, #[], #[], _, rfl, by kernel_rfl, rfl, zmw  hF⟩
theorem zm2 {τ : Hp} {v0 : Value} {p0 : (List UInt8)} {o0 : Ob} {q1 : zc} {bm1 : Nat} {af0 : Addr} (wp0 : zd Ty.u8 5 τ v0 p0 o0) (mf0 : At τ af0 [.func (.func 87) #[] #[]]) {rr : (List UInt8) × zc} (hF : zhM p0 q1 = some rr) :
  Ctr Tryz.prog 117 #[v0, .pointer (some ⟨bm1, 0, none⟩), .pointer (some af0)] τ [o0, some (bm1, ⟨[.int .u8 q1.Kind.toNat, .int .u8 q1.Op.toNat, .int .i64 q1.R, .int .i64 q1.S, .int .i64 q1.T, .int .i64 q1.N, .int .i64 q1.M], 54, 7, true⟩)] (fun v τ' vs' => ∃ (v0 : Value) (o0 : Ob), v = v0 ∧ vs' = [o0, some (bm1, ⟨[.int .u8 rr.2.Kind.toNat, .int .u8 rr.2.Op.toNat, .int .i64 rr.2.R, .int .i64 rr.2.S, .int .i64 rr.2.T, .int .i64 rr.2.N, .int .i64 rr.2.M], 54, 7, true⟩)] ∧ zd Ty.u8 5 τ' v0 rr.1 o0) := by
 obtain ⟨A0, c0, rfl, -⟩ := wp0.form
 refine zw (args := [.slice A0 p0.length c0, .pointer (some ⟨bm1, 0, none⟩), .pointer (some af0)]) hm Tryz.func117 zgm rfl fun w0 σ hO Q hQ => ?_
 unfold zhM at hF
 have hL := Hp.le.refl τ
 show wpn _ _ zb3.body _ _ _
 unfold zb3
 dsimp only
 refine za hO [] [(0, .slice A0 p0.length c0), (1, zqD bm1), (2, .pointer (some af0))] zqo fun j => ?_
 refine zb hO 1 [] [(1, zqD bm1), (2, .pointer (some af0)), (6, .slice A0 p0.length c0)] zqo fun j => ?_
 refine zZ rfl (mf0.le hO.base).fst ?_
 refine zb hO 1 [] [(1, zqD bm1), (6, .slice A0 p0.length c0), (7, .func (.func 87) #[] #[]), (8, zqD bm1)] zqp fun j => ?_
 obtain ⟨c3, h4, hF⟩ := bind_some hF
 refine zcs (hs := [_]) (vs := [_]) rfl (by kernel_rfl) hO (zoi (q0 := (⟨q1.Kind, q1.Op, q1.R, q1.S, q1.T, q1.N, q1.M⟩ : zc)) h4) rfl fun _ σ _ _ hO h5 h6 => ?_
 have hL := hL.trans h5
 have wp0 := wp0.le h5
 obtain ⟨rfl, rfl⟩ := h6
 have hO : Obs _ _ [_, _] := hO
 obtain ⟨z7, hz7, hF⟩ := bind_some hF
 obtain ⟨_, hr12, hF⟩ := bind_some hF
 refine zbI (T := Ty.u8) (y := z7) hO wp0 (i := 0) rfl rfl (fun _ => rfl) rfl (u8R hz7) rfl hr12 (by decide) fun u _ σ o10 w11 hO => ?_
 obtain ⟨A8, c9, rfl, -⟩ := w11.form
 have hO : Obs _ _ [_, _] := hO
 refine za hO [] [(1, zqD bm1), (5, .slice A8 (p0 ++ [z7]).length c9)] zqn fun j => ?_
 refine zp ?_
 injection hF with hF
 subst hF
 exact hQ _ _ _ _ _ rfl hO hL ⟨_, _, rfl, rfl, w11⟩
theorem zow {τ : Hp} {v0 : Value} {p0 : (List UInt8)} {o0 : Ob} {q1 : zc} {bm1 : Nat} {af0 : Addr} (wp0 : zd Ty.u8 5 τ v0 p0 o0) (mf0 : At τ af0 [.func (.func 94) #[] #[]]) {rr : (List UInt8) × zc} (hF : zgD p0 q1 = some rr) :
  Ctr Tryz.prog 117 #[v0, .pointer (some ⟨bm1, 0, none⟩), .pointer (some af0)] τ [o0, some (bm1, ⟨[.int .u8 q1.Kind.toNat, .int .u8 q1.Op.toNat, .int .i64 q1.R, .int .i64 q1.S, .int .i64 q1.T, .int .i64 q1.N, .int .i64 q1.M], 54, 7, true⟩)] (fun v τ' vs' => ∃ (v0 : Value) (o0 : Ob), v = v0 ∧ vs' = [o0, some (bm1, ⟨[.int .u8 rr.2.Kind.toNat, .int .u8 rr.2.Op.toNat, .int .i64 rr.2.R, .int .i64 rr.2.S, .int .i64 rr.2.T, .int .i64 rr.2.N, .int .i64 rr.2.M], 54, 7, true⟩)] ∧ zd Ty.u8 5 τ' v0 rr.1 o0) := by
 obtain ⟨A0, c0, rfl, -⟩ := wp0.form
 refine zw (args := [.slice A0 p0.length c0, .pointer (some ⟨bm1, 0, none⟩), .pointer (some af0)]) hm Tryz.func117 zgm rfl fun w0 σ hO Q hQ => ?_
 unfold zgD at hF
 have hL := Hp.le.refl τ
 show wpn _ _ zb3.body _ _ _
 unfold zb3
 dsimp only
 refine za hO [] [(0, .slice A0 p0.length c0), (1, zqD bm1), (2, .pointer (some af0))] zqo fun j => ?_
 refine zb hO 1 [] [(1, zqD bm1), (2, .pointer (some af0)), (6, .slice A0 p0.length c0)] zqo fun j => ?_
 refine zZ rfl (mf0.le hO.base).fst ?_
 refine zb hO 1 [] [(1, zqD bm1), (6, .slice A0 p0.length c0), (7, .func (.func 94) #[] #[]), (8, zqD bm1)] zqp fun j => ?_
 obtain ⟨c3, h4, hF⟩ := bind_some hF
 refine zcs (hs := [_]) (vs := [_]) rfl (by kernel_rfl) hO (zlS (q0 := (⟨q1.Kind, q1.Op, q1.R, q1.S, q1.T, q1.N, q1.M⟩ : zc)) h4) rfl fun _ σ _ _ hO h5 h6 => ?_
 have hL := hL.trans h5
 have wp0 := wp0.le h5
 obtain ⟨rfl, rfl⟩ := h6
 have hO : Obs _ _ [_, _] := hO
 obtain ⟨z7, hz7, hF⟩ := bind_some hF
 obtain ⟨_, hr12, hF⟩ := bind_some hF
 refine zbI (T := Ty.u8) (y := z7) hO wp0 (i := 0) rfl rfl (fun _ => rfl) rfl (u8R hz7) rfl hr12 (by decide) fun u _ σ o10 w11 hO => ?_
 obtain ⟨A8, c9, rfl, -⟩ := w11.form
 have hO : Obs _ _ [_, _] := hO
 refine za hO [] [(1, zqD bm1), (5, .slice A8 (p0 ++ [z7]).length c9)] zqn fun j => ?_
 refine zp ?_
 injection hF with hF
 subst hF
 exact hQ _ _ _ _ _ rfl hO hL ⟨_, _, rfl, rfl, w11⟩
theorem zn8 {τ : Hp} {v0 : Value} {p0 : (List UInt8)} {o0 : Ob} {q1 : zc} {bm1 : Nat} {af0 : Addr} (wp0 : zd Ty.u8 5 τ v0 p0 o0) (mf0 : At τ af0 [.func (.func 99) #[] #[]]) {rr : (List UInt8) × zc} (hF : zhF p0 q1 = some rr) :
  Ctr Tryz.prog 117 #[v0, .pointer (some ⟨bm1, 0, none⟩), .pointer (some af0)] τ [o0, some (bm1, ⟨[.int .u8 q1.Kind.toNat, .int .u8 q1.Op.toNat, .int .i64 q1.R, .int .i64 q1.S, .int .i64 q1.T, .int .i64 q1.N, .int .i64 q1.M], 54, 7, true⟩)] (fun v τ' vs' => ∃ (v0 : Value) (o0 : Ob), v = v0 ∧ vs' = [o0, some (bm1, ⟨[.int .u8 rr.2.Kind.toNat, .int .u8 rr.2.Op.toNat, .int .i64 rr.2.R, .int .i64 rr.2.S, .int .i64 rr.2.T, .int .i64 rr.2.N, .int .i64 rr.2.M], 54, 7, true⟩)] ∧ zd Ty.u8 5 τ' v0 rr.1 o0) := by
 obtain ⟨A0, c0, rfl, -⟩ := wp0.form
 refine zw (args := [.slice A0 p0.length c0, .pointer (some ⟨bm1, 0, none⟩), .pointer (some af0)]) hm Tryz.func117 zgm rfl fun w0 σ hO Q hQ => ?_
 unfold zhF at hF
 have hL := Hp.le.refl τ
 show wpn _ _ zb3.body _ _ _
 unfold zb3
 dsimp only
 refine za hO [] [(0, .slice A0 p0.length c0), (1, zqD bm1), (2, .pointer (some af0))] zqo fun j => ?_
 refine zb hO 1 [] [(1, zqD bm1), (2, .pointer (some af0)), (6, .slice A0 p0.length c0)] zqo fun j => ?_
 refine zZ rfl (mf0.le hO.base).fst ?_
 refine zb hO 1 [] [(1, zqD bm1), (6, .slice A0 p0.length c0), (7, .func (.func 99) #[] #[]), (8, zqD bm1)] zqp fun j => ?_
 obtain ⟨c3, h4, hF⟩ := bind_some hF
 refine zcs (hs := [_]) (vs := [_]) rfl (by kernel_rfl) hO (zpm (q0 := (⟨q1.Kind, q1.Op, q1.R, q1.S, q1.T, q1.N, q1.M⟩ : zc)) h4) rfl fun _ σ _ _ hO h5 h6 => ?_
 have hL := hL.trans h5
 have wp0 := wp0.le h5
 obtain ⟨rfl, rfl⟩ := h6
 have hO : Obs _ _ [_, _] := hO
 obtain ⟨z7, hz7, hF⟩ := bind_some hF
 obtain ⟨_, hr12, hF⟩ := bind_some hF
 refine zbI (T := Ty.u8) (y := z7) hO wp0 (i := 0) rfl rfl (fun _ => rfl) rfl (u8R hz7) rfl hr12 (by decide) fun u _ σ o10 w11 hO => ?_
 obtain ⟨A8, c9, rfl, -⟩ := w11.form
 have hO : Obs _ _ [_, _] := hO
 refine za hO [] [(1, zqD bm1), (5, .slice A8 (p0 ++ [z7]).length c9)] zqn fun j => ?_
 refine zp ?_
 injection hF with hF
 subst hF
 exact hQ _ _ _ _ _ rfl hO hL ⟨_, _, rfl, rfl, w11⟩
theorem zoe {τ : Hp} {v0 : Value} {p0 : (List UInt8)} {o0 : Ob} {q1 : zc} {bm1 : Nat} {af0 : Addr} (wp0 : zd Ty.u8 5 τ v0 p0 o0) (mf0 : At τ af0 [.func (.func 102) #[] #[]]) {rr : (List UInt8) × zc} (hF : zhW p0 q1 = some rr) :
  Ctr Tryz.prog 117 #[v0, .pointer (some ⟨bm1, 0, none⟩), .pointer (some af0)] τ [o0, some (bm1, ⟨[.int .u8 q1.Kind.toNat, .int .u8 q1.Op.toNat, .int .i64 q1.R, .int .i64 q1.S, .int .i64 q1.T, .int .i64 q1.N, .int .i64 q1.M], 54, 7, true⟩)] (fun v τ' vs' => ∃ (v0 : Value) (o0 : Ob), v = v0 ∧ vs' = [o0, some (bm1, ⟨[.int .u8 rr.2.Kind.toNat, .int .u8 rr.2.Op.toNat, .int .i64 rr.2.R, .int .i64 rr.2.S, .int .i64 rr.2.T, .int .i64 rr.2.N, .int .i64 rr.2.M], 54, 7, true⟩)] ∧ zd Ty.u8 5 τ' v0 rr.1 o0) := by
 obtain ⟨A0, c0, rfl, -⟩ := wp0.form
 refine zw (args := [.slice A0 p0.length c0, .pointer (some ⟨bm1, 0, none⟩), .pointer (some af0)]) hm Tryz.func117 zgm rfl fun w0 σ hO Q hQ => ?_
 unfold zhW at hF
 have hL := Hp.le.refl τ
 show wpn _ _ zb3.body _ _ _
 unfold zb3
 dsimp only
 refine za hO [] [(0, .slice A0 p0.length c0), (1, zqD bm1), (2, .pointer (some af0))] zqo fun j => ?_
 refine zb hO 1 [] [(1, zqD bm1), (2, .pointer (some af0)), (6, .slice A0 p0.length c0)] zqo fun j => ?_
 refine zZ rfl (mf0.le hO.base).fst ?_
 refine zb hO 1 [] [(1, zqD bm1), (6, .slice A0 p0.length c0), (7, .func (.func 102) #[] #[]), (8, zqD bm1)] zqp fun j => ?_
 obtain ⟨c3, h4, hF⟩ := bind_some hF
 refine zcs (hs := [_]) (vs := [_]) rfl (by kernel_rfl) hO (znO (q0 := (⟨q1.Kind, q1.Op, q1.R, q1.S, q1.T, q1.N, q1.M⟩ : zc)) h4) rfl fun _ σ _ _ hO h5 h6 => ?_
 have hL := hL.trans h5
 have wp0 := wp0.le h5
 obtain ⟨rfl, rfl⟩ := h6
 have hO : Obs _ _ [_, _] := hO
 obtain ⟨z7, hz7, hF⟩ := bind_some hF
 obtain ⟨_, hr12, hF⟩ := bind_some hF
 refine zbI (T := Ty.u8) (y := z7) hO wp0 (i := 0) rfl rfl (fun _ => rfl) rfl (u8R hz7) rfl hr12 (by decide) fun u _ σ o10 w11 hO => ?_
 obtain ⟨A8, c9, rfl, -⟩ := w11.form
 have hO : Obs _ _ [_, _] := hO
 refine za hO [] [(1, zqD bm1), (5, .slice A8 (p0 ++ [z7]).length c9)] zqn fun j => ?_
 refine zp ?_
 injection hF with hF
 subst hF
 exact hQ _ _ _ _ _ rfl hO hL ⟨_, _, rfl, rfl, w11⟩
theorem zpt {τ : Hp} {v0 : Value} {p0 : (List UInt8)} {o0 : Ob} {q1 : zc} {bm1 : Nat} (wp0 : zd Ty.u8 5 τ v0 p0 o0) {rr : (List UInt8) × zc} (hF : zg6 p0 q1 = some rr) :
  Ctr Tryz.prog 105 #[v0, .pointer (some ⟨bm1, 0, none⟩)] τ [o0, some (bm1, ⟨[.int .u8 q1.Kind.toNat, .int .u8 q1.Op.toNat, .int .i64 q1.R, .int .i64 q1.S, .int .i64 q1.T, .int .i64 q1.N, .int .i64 q1.M], 54, 7, true⟩)] (fun v τ' vs' => ∃ (v0 : Value) (o0 : Ob), v = v0 ∧ vs' = [o0, some (bm1, ⟨[.int .u8 rr.2.Kind.toNat, .int .u8 rr.2.Op.toNat, .int .i64 rr.2.R, .int .i64 rr.2.S, .int .i64 rr.2.T, .int .i64 rr.2.N, .int .i64 rr.2.M], 54, 7, true⟩)] ∧ zd Ty.u8 5 τ' v0 rr.1 o0) := by
 obtain ⟨A0, c0, rfl, -⟩ := wp0.form
 refine zw (args := [.slice A0 p0.length c0, .pointer (some ⟨bm1, 0, none⟩)]) hm Tryz.func105 zlY rfl fun w0 σ hO Q hQ => ?_
 unfold zg6 at hF
 have hL := Hp.le.refl τ
 show wpn _ _ ziI.body _ _ _
 unfold ziI
 dsimp only
 refine za hO [] [(0, .slice A0 p0.length c0), (1, zqD bm1)] zqn fun j => ?_
 refine zb hO 6 [1] [(1, zqD bm1), (5, .slice A0 p0.length c0), (10, .int .u64 (IntKind.u64.wrap q1.M))] (And.intro (And.intro rfl rfl) zqo) fun j => ?_
 obtain ⟨_, h4, r3, hO⟩ := wp0.share hO (i := 0) rfl
 have hL := hL.trans h4
 have hO : Obs _ _ [_, _] := hO
 obtain ⟨c5, h6, hF⟩ := bind_some hF
 refine zr hO (zjW r3 h6) rfl fun _ σ _ _ hO h7 h8 => ?_
 have hL := hL.trans h7
 have r3 := r3.le h7
 obtain ⟨v9, o12, rfl, rfl, w13⟩ := h8
 obtain ⟨A10, c11, rfl, -⟩ := w13.form
 have hO : Obs _ _ [_, _, _] := hO
 refine za hO [] [(1, zqD bm1), (4, .slice A10 c5.length c11)] zqn fun j => ?_
 refine zp ?_
 injection hF with hF
 subst hF
 have hO := hO.sel [2, 1] (by decide)
 exact hQ _ _ _ _ _ rfl hO hL ⟨_, _, rfl, rfl, w13⟩
theorem zqd {τ : Hp} {v0 : Value} {p0 : (List UInt8)} {o0 : Ob} {q1 : zc} {bm1 : Nat} (wp0 : zd Ty.u8 5 τ v0 p0 o0) {rr : (List UInt8) × zc} (hF : zhG p0 q1 = some rr) :
  Ctr Tryz.prog 110 #[v0, .pointer (some ⟨bm1, 0, none⟩)] τ [o0, some (bm1, ⟨[.int .u8 q1.Kind.toNat, .int .u8 q1.Op.toNat, .int .i64 q1.R, .int .i64 q1.S, .int .i64 q1.T, .int .i64 q1.N, .int .i64 q1.M], 54, 7, true⟩)] (fun v τ' vs' => ∃ (v0 : Value) (o0 : Ob), v = v0 ∧ vs' = [o0, some (bm1, ⟨[.int .u8 rr.2.Kind.toNat, .int .u8 rr.2.Op.toNat, .int .i64 rr.2.R, .int .i64 rr.2.S, .int .i64 rr.2.T, .int .i64 rr.2.N, .int .i64 rr.2.M], 54, 7, true⟩)] ∧ zd Ty.u8 5 τ' v0 rr.1 o0) := by
 obtain ⟨A0, c0, rfl, -⟩ := wp0.form
 refine zw (args := [.slice A0 p0.length c0, .pointer (some ⟨bm1, 0, none⟩)]) hm Tryz.func110 zmL rfl fun w0 σ hO Q hQ => ?_
 unfold zhG at hF
 have hL := Hp.le.refl τ
 show wpn _ _ zi5.body _ _ _
 unfold zi5
 dsimp only
 refine za hO [] [(0, .slice A0 p0.length c0), (1, zqD bm1)] zqn fun j => ?_
 refine zb hO 5 [1] [(1, zqD bm1), (8, .slice A0 p0.length c0), (12, zqC q1.N)] (And.intro (And.intro rfl rfl) zqo) fun j => ?_
 obtain ⟨_, h4, r3, hO⟩ := wp0.share hO (i := 0) rfl
 have hL := hL.trans h4
 have hO : Obs _ _ [_, _] := hO
 obtain ⟨c5, h6, hF⟩ := bind_some hF
 refine zr hO (znY r3 h6) rfl fun _ σ _ _ hO h7 h8 => ?_
 have hL := hL.trans h7
 have r3 := r3.le h7
 obtain ⟨v9, o12, rfl, rfl, w13⟩ := h8
 obtain ⟨A10, c11, rfl, -⟩ := w13.form
 have hO : Obs _ _ [_, _, _] := hO
 refine za hO [] [(1, zqD bm1), (5, .slice A10 c5.1.length c11)] zqn fun j => ?_
 refine za hO [] [(1, zqD bm1), (4, .slice A10 c5.1.length c11)] zqn fun j => ?_
 refine zp ?_
 injection hF with hF
 subst hF
 have hO := hO.sel [2, 1] (by decide)
 exact hQ _ _ _ _ _ rfl hO hL ⟨_, _, rfl, rfl, w13⟩
theorem zmk {τ : Hp} {v0 : Value} {p0 : (List UInt8)} {o0 : Ob} {q1 : zc} {bm1 : Nat} {af0 : Addr} (wp0 : zd Ty.u8 5 τ v0 p0 o0) (mf0 : At τ af0 [.func (.func 115) #[] #[]]) {rr : (List UInt8) × zc} (hF : zgN p0 q1 = some rr) :
  Ctr Tryz.prog 117 #[v0, .pointer (some ⟨bm1, 0, none⟩), .pointer (some af0)] τ [o0, some (bm1, ⟨[.int .u8 q1.Kind.toNat, .int .u8 q1.Op.toNat, .int .i64 q1.R, .int .i64 q1.S, .int .i64 q1.T, .int .i64 q1.N, .int .i64 q1.M], 54, 7, true⟩)] (fun v τ' vs' => ∃ (v0 : Value) (o0 : Ob), v = v0 ∧ vs' = [o0, some (bm1, ⟨[.int .u8 rr.2.Kind.toNat, .int .u8 rr.2.Op.toNat, .int .i64 rr.2.R, .int .i64 rr.2.S, .int .i64 rr.2.T, .int .i64 rr.2.N, .int .i64 rr.2.M], 54, 7, true⟩)] ∧ zd Ty.u8 5 τ' v0 rr.1 o0) := by
 obtain ⟨A0, c0, rfl, -⟩ := wp0.form
 refine zw (args := [.slice A0 p0.length c0, .pointer (some ⟨bm1, 0, none⟩), .pointer (some af0)]) hm Tryz.func117 zgm rfl fun w0 σ hO Q hQ => ?_
 unfold zgN at hF
 have hL := Hp.le.refl τ
 show wpn _ _ zb3.body _ _ _
 unfold zb3
 dsimp only
 refine za hO [] [(0, .slice A0 p0.length c0), (1, zqD bm1), (2, .pointer (some af0))] zqo fun j => ?_
 refine zb hO 1 [] [(1, zqD bm1), (2, .pointer (some af0)), (6, .slice A0 p0.length c0)] zqo fun j => ?_
 refine zZ rfl (mf0.le hO.base).fst ?_
 refine zb hO 1 [] [(1, zqD bm1), (6, .slice A0 p0.length c0), (7, .func (.func 115) #[] #[]), (8, zqD bm1)] zqp fun j => ?_
 obtain ⟨c3, h4, hF⟩ := bind_some hF
 refine zcs (hs := [_]) (vs := [_]) rfl (by kernel_rfl) hO (znA (q0 := (⟨q1.Kind, q1.Op, q1.R, q1.S, q1.T, q1.N, q1.M⟩ : zc)) h4) rfl fun _ σ _ _ hO h5 h6 => ?_
 have hL := hL.trans h5
 have wp0 := wp0.le h5
 obtain ⟨rfl, rfl⟩ := h6
 have hO : Obs _ _ [_, _] := hO
 obtain ⟨z7, hz7, hF⟩ := bind_some hF
 obtain ⟨_, hr12, hF⟩ := bind_some hF
 refine zbI (T := Ty.u8) (y := z7) hO wp0 (i := 0) rfl rfl (fun _ => rfl) rfl (u8R hz7) rfl hr12 (by decide) fun u _ σ o10 w11 hO => ?_
 obtain ⟨A8, c9, rfl, -⟩ := w11.form
 have hO : Obs _ _ [_, _] := hO
 refine za hO [] [(1, zqD bm1), (5, .slice A8 (p0 ++ [z7]).length c9)] zqn fun j => ?_
 refine zp ?_
 injection hF with hF
 subst hF
 exact hQ _ _ _ _ _ rfl hO hL ⟨_, _, rfl, rfl, w11⟩
theorem zlK {τ : Hp} {v0 : Value} {p0 : (List UInt8)} {o0 : Ob} {q1 : zc} {bm1 : Nat} (wp0 : zd Ty.u8 5 τ v0 p0 o0) {rr : (List UInt8) × zc} (hF : zeD p0 q1 = some rr) :
  Ctr Tryz.prog 89 #[v0, .pointer (some ⟨bm1, 0, none⟩)] τ [o0, some (bm1, ⟨[.int .u8 q1.Kind.toNat, .int .u8 q1.Op.toNat, .int .i64 q1.R, .int .i64 q1.S, .int .i64 q1.T, .int .i64 q1.N, .int .i64 q1.M], 54, 7, true⟩)] (fun v τ' vs' => ∃ (v0 : Value) (o0 : Ob), v = v0 ∧ vs' = [o0, some (bm1, ⟨[.int .u8 rr.2.Kind.toNat, .int .u8 rr.2.Op.toNat, .int .i64 rr.2.R, .int .i64 rr.2.S, .int .i64 rr.2.T, .int .i64 rr.2.N, .int .i64 rr.2.M], 54, 7, true⟩)] ∧ zd Ty.u8 5 τ' v0 rr.1 o0) := by
 obtain ⟨A0, c0, rfl, -⟩ := wp0.form
 refine zw (args := [.slice A0 p0.length c0, .pointer (some ⟨bm1, 0, none⟩)]) hm Tryz.func89 s89 rfl fun w0 σ hO Q hQ => ?_
 unfold zeD at hF
 have hL := Hp.le.refl τ
 show wpn _ _ a89.body _ _ _
 unfold a89
 dsimp only
 refine za hO [] [(0, .slice A0 p0.length c0), (1, zqD bm1)] zqn fun j => ?_
 refine zb hO 5 [1] [(1, zqD bm1), (5, .slice A0 p0.length c0), (9, zqC q1.N)] (And.intro (And.intro rfl rfl) zqo) fun j => ?_
 obtain ⟨_, h4, r3, hO⟩ := wp0.share hO (i := 0) rfl
 have hL := hL.trans h4
 have hO : Obs _ _ [_, _] := hO
 obtain ⟨c5, h6, hF⟩ := bind_some hF
 refine zr hO (zk2 r3 h6) rfl fun _ σ _ _ hO h7 h8 => ?_
 have hL := hL.trans h7
 have r3 := r3.le h7
 obtain ⟨v9, o12, rfl, rfl, w13⟩ := h8
 obtain ⟨A10, c11, rfl, -⟩ := w13.form
 have hO : Obs _ _ [_, _, _] := hO
 refine za hO [] [(1, zqD bm1), (4, .slice A10 c5.length c11)] zqn fun j => ?_
 refine zp ?_
 injection hF with hF
 subst hF
 have hO := hO.sel [2, 1] (by decide)
 exact hQ _ _ _ _ _ rfl hO hL ⟨_, _, rfl, rfl, w13⟩
theorem zoj {τ : Hp} {x : zx} {u0 u1 u2 : Value} (hx : zbw τ x u0 u1 u2) {v0 : Value} {p0 : (List UInt8)} {o0 : Ob} {q1 : zc} {bm1 : Nat} (wp0 : zd Ty.u8 5 τ v0 p0 o0) {rr : (List UInt8) × zc} (hF : zgX x p0 q1 = some rr) :
  FnC Tryz.prog u1 #[v0, .pointer (some ⟨bm1, 0, none⟩)] τ [o0, some (bm1, ⟨[.int .u8 q1.Kind.toNat, .int .u8 q1.Op.toNat, .int .i64 q1.R, .int .i64 q1.S, .int .i64 q1.T, .int .i64 q1.N, .int .i64 q1.M], 54, 7, true⟩)] (fun v τ' vs' => ∃ (v0 : Value) (o0 : Ob), v = v0 ∧ vs' = [o0, some (bm1, ⟨[.int .u8 rr.2.Kind.toNat, .int .u8 rr.2.Op.toNat, .int .i64 rr.2.R, .int .i64 rr.2.S, .int .i64 rr.2.T, .int .i64 rr.2.N, .int .i64 rr.2.M], 54, 7, true⟩)] ∧ zd Ty.u8 5 τ' v0 rr.1 o0) := by
 cases x with
 | c_one_1 => obtain ⟨a1_0, a2_0, rfl, rfl, rfl, m0, m1⟩ := hx; exact ⟨117, #[], #[.pointer (some a1_0)], _, rfl, by kernel_rfl, rfl, zm2 wp0 m0 hF⟩
 | c_both_1 => obtain ⟨a1_0, a2_0, rfl, rfl, rfl, m0, m1⟩ := hx; exact ⟨117, #[], #[.pointer (some a1_0)], _, rfl, by kernel_rfl, rfl, zow wp0 m0 hF⟩
 | c_op_1 x0 x1 => obtain ⟨a0_0, a0_1, a1_0, a2_0, rfl, rfl, rfl, m0, m1, m2, m3⟩ := hx; exact ⟨117, #[], #[.pointer (some a1_0)], _, rfl, by kernel_rfl, rfl, zn8 wp0 m2 hF⟩
 | c_third_1 => obtain ⟨a1_0, a2_0, rfl, rfl, rfl, m0, m1⟩ := hx; exact ⟨117, #[], #[.pointer (some a1_0)], _, rfl, by kernel_rfl, rfl, zoe wp0 m0 hF⟩
 | c_bound_1 => obtain ⟨rfl, rfl, rfl⟩ := hx; exact ⟨105, #[], #[], _, rfl, by kernel_rfl, rfl, zpt wp0 hF⟩
 | c_to_1 => obtain ⟨rfl, rfl, rfl⟩ := hx; exact ⟨110, #[], #[], _, rfl, by kernel_rfl, rfl, zqd wp0 hF⟩
 | c_how_1 => obtain ⟨a1_0, a2_0, rfl, rfl, rfl, m0, m1⟩ := hx; exact ⟨117, #[], #[.pointer (some a1_0)], _, rfl, by kernel_rfl, rfl, zmk wp0 m0 hF⟩
 | c_parts_1 => obtain ⟨rfl, rfl, rfl⟩ := hx; exact ⟨89, #[], #[], _, rfl, by kernel_rfl, rfl, zlK wp0 hF⟩
 | c_within => obtain ⟨rfl, rfl, rfl⟩ := hx; exact ⟨89, #[], #[], _, rfl, by kernel_rfl, rfl, zlK wp0 hF⟩
theorem zjN {τ : Hp} {p0 : zc}  {rr : (List UInt8) × Bool} (hF : zc5 p0 = some rr) :
  Ctr Tryz.prog 61 #[.agg #[.int .u8 p0.Kind.toNat, .int .u8 p0.Op.toNat, .int .i64 p0.R, .int .i64 p0.S, .int .i64 p0.T, .int .i64 p0.N, .int .i64 p0.M]] τ [] (fun v τ' vs' => ∃ (v0 : Value) (o0 : Ob), v = .tuple #[v0, .bool rr.2] ∧ vs' = [o0] ∧ zd Ty.u8 5 τ' v0 rr.1 o0) := by
 refine zw (args := [.agg #[.int .u8 p0.Kind.toNat, .int .u8 p0.Op.toNat, .int .i64 p0.R, .int .i64 p0.S, .int .i64 p0.T, .int .i64 p0.N, .int .i64 p0.M]]) hm Tryz.func61 s61 rfl fun w0 σ hO Q hQ => ?_
 unfold zc5 at hF
 have hL := Hp.le.refl τ
 show wpn _ _ a61.body _ _ _
 unfold a61
 dsimp only
 refine zba (n := 7) hO rfl rfl fun b2 σ hO => ?_
 have hO : Obs _ _ [_] := hO
 refine za hO [] [(1, zqD b2)] zqm fun j => ?_
 refine zb hO 2 [0] [(1, zqD b2), (11, .int .u8 (p0.Kind.toNat : Int))] (And.intro (And.intro rfl rfl) zqn) fun j => ?_
 obtain ⟨c3, h4, hF⟩ := bind_some hF
 refine zr hO (zlo h4) rfl fun _ σ _ _ hO h5 h6 => ?_
 have hL := hL.trans h5
 obtain ⟨v7, o10, rfl, rfl, w11⟩ := h6
 obtain ⟨A8, c9, rfl, -⟩ := w11.form
 have hO : Obs _ _ [_, _] := hO
 refine za hO [] [(1, zqD b2), (4, .slice A8 c3.1.length c9), (5, .bool c3.2)] zqo fun j => ?_
 refine ze (za hO [] [(1, zqD b2), (4, .slice A8 c3.1.length c9), (16, .bool (!c3.2))] zqo fun j => ?_)
 rcases zi hF with ⟨hb12, hF⟩ | ⟨hb12, hF⟩
 ·refine zl (congrArg Value.bool hb12) ?_
  refine ze (za hO [] [(2, .slice none 0 0), (3, .bool false)] zqn fun j => ?_)
  refine zz ?_
  have hO := hO.no
  have hO : Obs _ _ [_, _, _] := hO
  injection hF with hF
  subst hF
  have hO := hO.sel [2] (by decide)
  exact hQ _ _ _ _ _ rfl hO hL ⟨_, _, rfl, rfl, (zd.nil _ _ _)⟩
 ·refine zk (congrArg Value.bool hb12) ?_
  refine zv (zb hO 2 [0] [(1, zqD b2), (4, .slice A8 c3.1.length c9), (18, .int .u8 (p0.Kind.toNat : Int))] (And.intro (And.intro rfl rfl) zqo) fun j => ?_)
  refine zbu (T := Ty.u8) (l := ([p0.Kind] : List UInt8)) (cs := [.int .u8 (p0.Kind.toNat : Int)]) hO rfl ⟨[.int .u8 (p0.Kind.toNat : Int)], _, rfl, rfl, rfl⟩ rfl (by decide) fun _ σ o15 w16 hO => ?_
  obtain ⟨A13, c14, rfl, -⟩ := w16.form
  have hO : Obs _ _ [_, _, _] := hO
  refine za hO [] [(1, zqD b2), (4, .slice A8 c3.1.length c9), (6, .slice A13 ([p0.Kind] : List UInt8).length c14)] zqo fun j => ?_
  refine ze (za hO [] [(1, zqD b2), (6, .slice A13 ([p0.Kind] : List UInt8).length c14), (20, .slice A8 c3.1.length c9), (21, zqC (c3.1.length : Int)), (22, zqC 0)] zqq fun j => ?_)
  refine zO ?_
  have hO := hO.sel [0, 2, 1] (by decide)
  refine zbr (fun (n : Nat) e' σ' => ∃ (x60 : UInt8) (x61 : UInt8) (x62 : Int) (x63 : Int) (x64 : Int) (x65 : Int) (x66 : Int) (A67 : Option Addr) (c68 : Nat) (o69 : Ob) (x70 : List UInt8) (A72 : Option Addr) (c73 : Nat) (o74 : Ob) (x75 : List zx) (x77 : Int) (τ' : Hp), agr [(1, zqD b2), (6, .slice A67 x70.length c68), (20, .slice A72 x75.length c73), (21, zqC (c3.1.length : Int)), (22, zqC x77)] e' ∧ Obs τ' σ' [some (b2, ⟨[.int .u8 (x60.toNat : Int), .int .u8 (x61.toNat : Int), .int .i64 x62, .int .i64 x63, .int .i64 x64, .int .i64 x65, .int .i64 x66], 54, 7, true⟩), o69, o74] ∧ Hp.le τ τ' ∧ zd Ty.u8 5 τ' (.slice A67 x70.length c68) x70 o69 ∧ zd zbW 104 τ' (.slice A72 x75.length c73) x75 o74 ∧ zgA c3 n x60 x61 x62 x63 x64 x65 x66 x70 x75 x77 = some rr) big ⟨p0.Kind, p0.Op, p0.R, p0.S, p0.T, p0.N, p0.M, A13, c14, o15, ([p0.Kind] : List UInt8), A8, c9, o10, c3.1, 0, _, zqB zqp, hO, hL, w16, w11, hF⟩ ?_
  clear hF hO hL
  rintro n111 e σ ⟨x60, x61, x62, x63, x64, x65, x66, A67, c68, o69, x70, A72, c73, o74, x75, x77, _, hA, hO, hL, w71, w76, hF⟩
  rw [← zC _ _ hA]
  cases n111 with
  | zero => exact nomatch (show none = some rr from hF)
  | succ n111 =>
   replace hF : zf0 (zgA c3 n111) c3 x60 x61 x62 x63 x64 x65 x66 x70 x75 x77 = some rr := hF
   unfold zf0 at hF
   refine za hO [] [(1, zqD b2), (6, .slice A67 x70.length c68), (20, .slice A72 x75.length c73), (21, zqC (c3.1.length : Int)), (22, zqC x77), (23, .bool (decide (x77 < (c3.1.length : Int))))] zqr fun j => ?_
   rcases zi hF with ⟨hb112, hF⟩ | ⟨hb112, hF⟩
   ·refine zl (congrArg Value.bool hb112) ?_
    refine zv (zO ?_)
    obtain ⟨y113, g114, hF⟩ := bind_some hF
    refine zen (T := zbW) hO w76 (i := 2) rfl rfl rfl g114 (by decide) fun zhr _ k116 m117 i118 => ?_
    have k119 := k116
    obtain ⟨f121, zfP, c123, f124, zdB, c126, f127, zdM, c129, rfl, r120⟩ := k119
    refine zZ rfl (m117.all rfl) ?_
    refine zbk hO fun b130 σ hO => ?_
    have hO : Obs _ _ [_, _, _, _] := hO
    refine zH hO (i := 3) rfl (off := 0) rfl rfl rfl rfl (Nat.le_of_ble_eq_true rfl) rfl fun σ hO => ?_
    have hO : Obs _ _ [_, _, _, _] := hO
    refine zh (ze (zb hO 2 [3] [(1, zqD b2), (6, .slice A67 x70.length c68), (8, zqD b130), (20, .slice A72 x75.length c73), (21, zqC (c3.1.length : Int)), (22, zqC x77), (27, .func f121 zfP c123)] (And.intro (And.intro rfl rfl) zqs) fun j => ?_))
    obtain ⟨c131, h132, hF⟩ := bind_some hF
    have hO := hO.sel [1, 2, 3, 0] (by decide)
    refine zh9 (hs := [_, _, _]) (vs := [_]) rfl hO (znW r120 h132) rfl fun _ σ _ _ hO h133 h134 => ?_
    have hL := hL.trans h133
    have w71 := w71.le h133
    have w76 := w76.le h133
    have r120 := r120.le h133
    obtain ⟨rfl, rfl⟩ := h134
    have hO : Obs _ _ [_, _, _, _] := hO
    refine za hO [] [(1, zqD b2), (6, .slice A67 x70.length c68), (8, zqD b130), (20, .slice A72 x75.length c73), (21, zqC (c3.1.length : Int)), (22, zqC x77), (29, .bool (!c131.1))] zqs fun j => ?_
    rcases zi hF with ⟨hb135, hF⟩ | ⟨hb135, hF⟩
    ·refine zl (congrArg Value.bool hb135) ?_
     refine ze (za hO [] [(2, .slice none 0 0), (3, .bool false)] zqn fun j => ?_)
     refine zz (zJ (zE (zE (zJ (zE ?_)))))
     have hO := hO.no
     have hO : Obs _ _ [_, _, _, _, _] := hO
     injection hF with hF
     subst hF
     have hO := hO.sel [4] (by decide)
     exact hQ _ _ _ _ _ rfl hO hL ⟨_, _, rfl, rfl, (zd.nil _ _ _)⟩
    ·refine zk (congrArg Value.bool hb135) ?_
     refine zv (zU (zb hO 3 [2] [(1, zqD b2), (20, .slice A72 x75.length c73), (21, zqC (c3.1.length : Int)), (22, zqC x77), (31, .func f124 zdB c126), (32, .slice A67 x70.length c68)] (And.intro (And.intro rfl rfl) zqr) fun j => ?_))
     obtain ⟨c136, h137, hF⟩ := bind_some hF
     have hO := hO.sel [1, 2, 0, 3] (by decide)
     refine zh9 (hs := [_, _]) (vs := [_, _]) rfl hO (zoj r120 w71 h137) rfl fun _ σ _ _ hO h138 h139 => ?_
     have hL := hL.trans h138
     have w76 := w76.le h138
     have r120 := r120.le h138
     obtain ⟨v140, o143, rfl, rfl, w144⟩ := h139
     obtain ⟨A141, c142, rfl, -⟩ := w144.form
     have hO : Obs _ _ [_, _, _, _] := hO
     refine za hO [] [(1, zqD b2), (6, .slice A141 c136.1.length c142), (20, .slice A72 x75.length c73), (21, zqC (c3.1.length : Int)), (22, zqC x77)] zqq fun j => ?_
     refine zg (zK (zn (zU (za hO [] [(1, zqD b2), (6, .slice A141 c136.1.length c142), (20, .slice A72 x75.length c73), (21, zqC (c3.1.length : Int)), (22, zqC (IntKind.i64.wrap (x77 + 1)))] zqq fun j => ?_))))
     refine zg (zn ?_)
     have hO := hO.sel [3, 2, 0] (by decide)
     exact ⟨n111, Nat.lt_succ_self _, c136.2.Kind, c136.2.Op, c136.2.R, c136.2.S, c136.2.T, c136.2.N, c136.2.M, A141, c142, o143, c136.1, A72, c73, o74, x75, (IntKind.i64.wrap (x77 + 1)), _, zqB zqp, hO, hL, w144, w76, hF⟩
   ·refine zk (congrArg Value.bool hb112) ?_
    refine zbq (zbm (zbp (zn (za hO [] [(2, .slice A67 x70.length c68), (3, .bool true)] zqn fun j => ?_))))
    refine zp ?_
    injection hF with hF
    subst hF
    have hO := hO.sel [1] (by decide)
    exact hQ _ _ _ _ _ rfl hO hL ⟨_, _, rfl, rfl, w71⟩
theorem zjY {τ : Hp} {p0 : zc}  {rr : Bool} (hF : zdd p0 = some rr) :
  Ctr Tryz.prog 42 #[.agg #[.int .u8 p0.Kind.toNat, .int .u8 p0.Op.toNat, .int .i64 p0.R, .int .i64 p0.S, .int .i64 p0.T, .int .i64 p0.N, .int .i64 p0.M]] τ [] (fun v τ' vs' => v = .bool rr ∧ vs' = []) := by
 refine zw (args := [.agg #[.int .u8 p0.Kind.toNat, .int .u8 p0.Op.toNat, .int .i64 p0.R, .int .i64 p0.S, .int .i64 p0.T, .int .i64 p0.N, .int .i64 p0.M]]) hm Tryz.func42 s42 rfl fun w0 σ hO Q hQ => ?_
 unfold zdd at hF
 have hL := Hp.le.refl τ
 show wpn _ _ a42.body _ _ _
 unfold a42
 dsimp only
 refine zba (n := 7) hO rfl rfl fun b2 σ hO => ?_
 have hO : Obs _ _ [_] := hO
 refine za hO [] [(1, zqD b2)] zqm fun j => ?_
 refine zb hO 1 [0] [(1, zqD b2), (8, .agg #[(.int .u8 (p0.Kind.toNat : Int)), (.int .u8 (p0.Op.toNat : Int)), (.int .i64 p0.R), (.int .i64 p0.S), (.int .i64 p0.T), (.int .i64 p0.N), (.int .i64 p0.M)])] (And.intro (And.intro rfl rfl) zqn) fun j => ?_
 obtain ⟨c3, h4, hF⟩ := bind_some hF
 refine zr hO (zjN (p0 := (⟨p0.Kind, p0.Op, p0.R, p0.S, p0.T, p0.N, p0.M⟩ : zc)) h4) rfl fun _ σ _ _ hO h5 h6 => ?_
 have hL := hL.trans h5
 obtain ⟨v7, o10, rfl, rfl, w11⟩ := h6
 obtain ⟨A8, c9, rfl, -⟩ := w11.form
 have hO : Obs _ _ [_, _] := hO
 refine za hO [] [(1, zqD b2), (3, .slice A8 c3.1.length c9), (4, .bool c3.2)] zqo fun j => ?_
 refine ze (za hO [] [(1, zqD b2), (3, .slice A8 c3.1.length c9), (13, .bool (!c3.2))] zqo fun j => ?_)
 rcases zi hF with ⟨hb12, hF⟩ | ⟨hb12, hF⟩
 ·refine zl (congrArg Value.bool hb12) ?_
  refine ze (za hO [] [(2, .bool false)] zqm fun j => ?_)
  refine zz ?_
  injection hF with hF
  subst hF
  have hO := hO.sel [] (by decide)
  exact hQ _ _ _ _ _ rfl hO hL ⟨rfl, rfl⟩
 ·refine zk (congrArg Value.bool hb12) ?_
  refine zv (zb hO 1 [] [(1, zqD b2), (15, .slice A8 c3.1.length c9)] zqn fun j => ?_)
  obtain ⟨_, h14, r13, hO⟩ := w11.share hO (i := 1) rfl
  have hL := hL.trans h14
  have hO : Obs _ _ [_, _] := hO
  obtain ⟨c15, h16, hF⟩ := bind_some hF
  refine zr hO (zlI r13 h16) rfl fun _ σ _ _ hO h17 h18 => ?_
  have hL := hL.trans h17
  have r13 := r13.le h17
  obtain ⟨rfl, rfl⟩ := h18
  have hO : Obs _ _ [_, _] := hO
  refine zb hO 4 [] [(1, zqD b2), (17, .agg #[(.int .u8 (c15.1.Kind.toNat : Int)), (.int .u8 (c15.1.Op.toNat : Int)), (.int .i64 c15.1.R), (.int .i64 c15.1.S), (.int .i64 c15.1.T), (.int .i64 c15.1.N), (.int .i64 c15.1.M)]), (18, zqC c15.2.1), (19, .bool c15.2.2)] zqp fun j => ?_
  refine zbk hO fun b19 σ hO => ?_
  have hO : Obs _ _ [_, _, _] := hO
  refine zH hO (i := 2) rfl (off := 0) rfl rfl rfl rfl (Nat.le_of_ble_eq_true rfl) rfl fun σ hO => ?_
  have hO : Obs _ _ [_, _, _] := hO
  refine za hO [] [(1, zqD b2), (4, .bool c15.2.2), (5, zqD b19)] zqo fun j => ?_
  refine za hO [2, 0] [(2, .bool (c15.2.2 && (( (c15.1.Kind.toNat : Int) == (p0.Kind.toNat : Int)) && (( (c15.1.Op.toNat : Int) == (p0.Op.toNat : Int)) && (( c15.1.R == p0.R) && (( c15.1.S == p0.S) && (( c15.1.T == p0.T) && (( c15.1.N == p0.N) && (( c15.1.M == p0.M) && true)))))))))] (And.intro (And.intro rfl rfl) (And.intro (And.intro rfl rfl) (And.intro (And.intro rfl rfl) (fun _ => zqB trivial)))) fun j => ?_
  refine zp ?_
  injection hF with hF
  subst hF
  have hO := hO.sel [] (by decide)
  exact hQ _ _ _ _ _ rfl hO hL ⟨rfl, rfl⟩
theorem zpK {τ : Hp} {v0 : Value} {p0 : (List UInt8)} {v1 : Value} {p1 : (List UInt8)} (r0 : RdT Ty.u8 τ v0 p0) (r1 : RdT Ty.u8 τ v1 p1) {rr : Bool} (hF : zeU p0 p1 = some rr) :
  Ctr Tryz.prog 43 #[v0, v1] τ [] (fun v τ' vs' => v = .bool rr ∧ vs' = []) := by
 obtain ⟨A0, c0, rfl, -⟩ := r0.form
 obtain ⟨A1, c1, rfl, -⟩ := r1.form
 refine zw (args := [.slice A0 p0.length c0, .slice A1 p1.length c1]) hm Tryz.func43 s43 rfl fun w0 σ hO Q hQ => ?_
 unfold zeU at hF
 have hL := Hp.le.refl τ
 show wpn _ _ a43.body _ _ _
 unfold a43
 dsimp only
 refine za hO [] [(0, .slice A0 p0.length c0), (1, .slice A1 p1.length c1)] zqn fun j => ?_
 refine zb hO 1 [] [(1, .slice A1 p1.length c1), (5, .slice A0 p0.length c0)] zqn fun j => ?_
 refine zli (l := p0) (r0.le hO.base) rfl ?_
 refine zb hO 1 [] [(6, .string (⟨p0.toArray⟩ : ByteArray)), (7, .slice A1 p1.length c1)] zqn fun j => ?_
 refine zli (l := p1) (r1.le hO.base) rfl ?_
 refine za hO [] [(4, .bool (zhy (⟨p0.toArray⟩ : ByteArray) (⟨p1.toArray⟩ : ByteArray)))] zqm fun j => ?_
 refine zp ?_
 injection hF with hF
 subst hF
 exact hQ _ _ _ _ _ rfl hO hL ⟨rfl, rfl⟩
theorem zpF {τ : Hp} {v0 : Value} {p0 : (List UInt8)} {p1 : zc} (r0 : RdT Ty.u8 τ v0 p0) {rr : (List UInt8)} (hF : zek p0 p1 = some rr) :
  Ctr Tryz.prog 44 #[v0, .agg #[.int .u8 p1.Kind.toNat, .int .u8 p1.Op.toNat, .int .i64 p1.R, .int .i64 p1.S, .int .i64 p1.T, .int .i64 p1.N, .int .i64 p1.M]] τ [] (fun v τ' vs' => ∃ (v0 : Value) (o0 : Ob), v = v0 ∧ vs' = [o0] ∧ zd Ty.u8 5 τ' v0 rr o0) := by
 obtain ⟨A0, c0, rfl, -⟩ := r0.form
 refine zw (args := [.slice A0 p0.length c0, .agg #[.int .u8 p1.Kind.toNat, .int .u8 p1.Op.toNat, .int .i64 p1.R, .int .i64 p1.S, .int .i64 p1.T, .int .i64 p1.N, .int .i64 p1.M]]) hm Tryz.func44 s44 rfl fun w0 σ hO Q hQ => ?_
 unfold zek at hF
 have hL := Hp.le.refl τ
 show wpn _ _ a44.body _ _ _
 unfold a44
 dsimp only
 refine zba (n := 7) hO rfl rfl fun b3 σ hO => ?_
 have hO : Obs _ _ [_] := hO
 refine za hO [] [(0, .slice A0 p0.length c0), (3, zqD b3)] zqn fun j => ?_
 refine zb hO 1 [] [(3, zqD b3), (8, .slice A0 p0.length c0)] zqn fun j => ?_
 obtain ⟨c4, h5, hF⟩ := bind_some hF
 refine zr hO (ze6 r0 h5) rfl fun _ σ _ _ hO h6 h7 => ?_
 have hL := hL.trans h6
 have r0 := r0.le h6
 obtain ⟨v8, o11, rfl, rfl, w12⟩ := h7
 obtain ⟨A9, c10, rfl, -⟩ := w12.form
 have hO : Obs _ _ [_, _] := hO
 refine za hO [] [(3, zqD b3), (5, .slice A9 c4.length c10)] zqn fun j => ?_
 refine ze (zb hO 1 [0] [(3, zqD b3), (5, .slice A9 c4.length c10), (10, .agg #[(.int .u8 (p1.Kind.toNat : Int)), (.int .u8 (p1.Op.toNat : Int)), (.int .i64 p1.R), (.int .i64 p1.S), (.int .i64 p1.T), (.int .i64 p1.N), (.int .i64 p1.M)])] (And.intro (And.intro rfl rfl) zqo) fun j => ?_)
 obtain ⟨c13, h14, hF⟩ := bind_some hF
 refine zr hO (zjY (p0 := (⟨p1.Kind, p1.Op, p1.R, p1.S, p1.T, p1.N, p1.M⟩ : zc)) h14) rfl fun _ σ _ _ hO h15 h16 => ?_
 have hL := hL.trans h15
 have w12 := w12.le h15
 obtain ⟨rfl, rfl⟩ := h16
 have hO : Obs _ _ [_, _] := hO
 refine za hO [] [(3, zqD b3), (5, .slice A9 c4.length c10), (12, .bool (!c13))] zqo fun j => ?_
 rcases zi hF with ⟨hb17, hF⟩ | ⟨hb17, hF⟩
 ·refine zl (congrArg Value.bool hb17) ?_
  refine ze (za hO [] [(4, .slice A9 c4.length c10)] zqm fun j => ?_)
  refine zz ?_
  injection hF with hF
  subst hF
  have hO := hO.sel [1] (by decide)
  exact hQ _ _ _ _ _ rfl hO hL ⟨_, _, rfl, rfl, w12⟩
 ·refine zk (congrArg Value.bool hb17) ?_
  refine zv (zb hO 1 [0] [(5, .slice A9 c4.length c10), (15, .agg #[(.int .u8 (p1.Kind.toNat : Int)), (.int .u8 (p1.Op.toNat : Int)), (.int .i64 p1.R), (.int .i64 p1.S), (.int .i64 p1.T), (.int .i64 p1.N), (.int .i64 p1.M)])] (And.intro (And.intro rfl rfl) zqn) fun j => ?_)
  obtain ⟨c18, h19, hF⟩ := bind_some hF
  refine zr hO (zjN (p0 := (⟨p1.Kind, p1.Op, p1.R, p1.S, p1.T, p1.N, p1.M⟩ : zc)) h19) rfl fun _ σ _ _ hO h20 h21 => ?_
  have hL := hL.trans h20
  have w12 := w12.le h20
  obtain ⟨v22, o25, rfl, rfl, w26⟩ := h21
  obtain ⟨A23, c24, rfl, -⟩ := w26.form
  have hO : Obs _ _ [_, _, _] := hO
  refine za hO [] [(5, .slice A9 c4.length c10), (6, .slice A23 c18.1.length c24)] zqn fun j => ?_
  refine zb hO 2 [] [(19, .slice A9 c4.length c10), (20, .slice A23 c18.1.length c24)] zqn fun j => ?_
  obtain ⟨_, hr31, hF⟩ := bind_some hF
  refine ziN (T := Ty.u8) zlw hO w12 (i := 1) rfl rfl rfl (w26.rd hO (i := 2) rfl) hr31 (by decide) fun _ σ o29 w30 hO => ?_
  obtain ⟨A27, c28, rfl, -⟩ := w30.form
  have hO : Obs _ _ [_, _, _] := hO
  refine za hO [] [(4, .slice A27 (c4 ++ c18.1).length c28)] zqm fun j => ?_
  refine zp ?_
  injection hF with hF
  subst hF
  have hO := hO.sel [1] (by decide)
  exact hQ _ _ _ _ _ rfl hO hL ⟨_, _, rfl, rfl, w30⟩
theorem zk6 {τ : Hp} {v0 : Value} {p0 : (List UInt8)} {p1 : Int} (r0 : RdT Ty.u8 τ v0 p0) {rr : zc × Int × Int} (hF : zd1 p0 p1 = some rr) :
  Ctr Tryz.prog 30 #[v0, .int .i64 p1] τ [] (fun v τ' vs' => v = .tuple #[.agg #[.int .u8 rr.1.Kind.toNat, .int .u8 rr.1.Op.toNat, .int .i64 rr.1.R, .int .i64 rr.1.S, .int .i64 rr.1.T, .int .i64 rr.1.N, .int .i64 rr.1.M], .int .i64 rr.2.1, .int .i64 rr.2.2] ∧ vs' = []) := by
 obtain ⟨A0, c0, rfl, -⟩ := r0.form
 refine zw (args := [.slice A0 p0.length c0, .int .i64 p1]) hm Tryz.func30 s30 rfl fun w0 σ hO Q hQ => ?_
 unfold zd1 at hF
 have hL := Hp.le.refl τ
 show wpn _ _ a30.body _ _ _
 unfold a30
 dsimp only
 refine zbk hO fun b3 σ hO => ?_
 have hO : Obs _ _ [_] := hO
 refine za hO [] [(0, .slice A0 p0.length c0), (1, zqC p1), (4, zqD b3)] zqo fun j => ?_
 refine ze (za hO [] [(0, .slice A0 p0.length c0), (1, zqC p1), (4, zqD b3), (17, .bool ((decide (p1 < 0)) || (decide (p1 > (p0.length : Int)))))] (And.intro (And.intro rfl rfl) (fun _ => zqB zqo)) fun j => ?_)
 rcases zi hF with ⟨hb4, hF⟩ | ⟨hb4, hF⟩
 ·refine zl (congrArg Value.bool hb4) ?_
  refine ze (zb hO 1 [0] [(4, zqD b3), (18, .agg #[(.int .u8 0), (.int .u8 0), (.int .i64 0), (.int .i64 0), (.int .i64 0), (.int .i64 0), (.int .i64 0)])] (And.intro (And.intro rfl rfl) zqn) fun j => ?_)
  refine zH hO (i := 0) rfl (off := 0) rfl rfl rfl rfl (Nat.le_of_ble_eq_true rfl) rfl fun σ hO => ?_
  have hO : Obs _ _ [_] := hO
  refine za hO [] [(4, zqD b3), (5, zqC 0), (6, zqC 1)] zqo fun j => ?_
  refine zz ?_
  injection hF with hF
  subst hF
  have hV0 := hO.val (i := 0) rfl (off := 0) (agg := true) (n := 7) rfl
  have hO := hO.sel [] (by decide)
  exact hQ _ _ _ _ _ (zbn rfl (hV0) (zcD (zcD rfl))) hO hL ⟨rfl, rfl⟩
 ·refine zk (congrArg Value.bool hb4) ?_
  refine zv (zb hO 2 [] [(0, .slice A0 p0.length c0), (1, zqC p1), (4, zqD b3), (20, .slice A0 p0.length c0), (21, zqC p1)] zqq fun j => ?_)
  obtain ⟨c5, h6, hF⟩ := bind_some hF
  refine zr hO (zlI r0 h6) rfl fun _ σ _ _ hO h7 h8 => ?_
  have hL := hL.trans h7
  have r0 := r0.le h7
  obtain ⟨rfl, rfl⟩ := h8
  have hO : Obs _ _ [_] := hO
  refine zb hO 4 [] [(0, .slice A0 p0.length c0), (1, zqC p1), (4, zqD b3), (23, .agg #[(.int .u8 (c5.1.Kind.toNat : Int)), (.int .u8 (c5.1.Op.toNat : Int)), (.int .i64 c5.1.R), (.int .i64 c5.1.S), (.int .i64 c5.1.T), (.int .i64 c5.1.N), (.int .i64 c5.1.M)]), (24, zqC c5.2.1), (25, .bool c5.2.2)] zqr fun j => ?_
  refine zbk hO fun b9 σ hO => ?_
  have hO : Obs _ _ [_, _] := hO
  refine zH hO (i := 1) rfl (off := 0) rfl rfl rfl rfl (Nat.le_of_ble_eq_true rfl) rfl fun σ hO => ?_
  have hO : Obs _ _ [_, _] := hO
  refine za hO [] [(0, .slice A0 p0.length c0), (1, zqC p1), (4, zqD b3), (7, zqD b9), (8, zqC c5.2.1), (9, .bool c5.2.2)] zqr fun j => ?_
  refine ze (zbD (zb hO 3 [] [(0, .slice A0 p0.length c0), (1, zqC p1), (4, zqD b3), (7, zqD b9), (8, zqC c5.2.1), (28, .bool (!c5.2.2))] zqr fun j => ?_))
  obtain ⟨c10, h11, hF⟩ := bind_some hF
  refine zbC 2 (fun e' σ' => ∃ (τ' : Hp), agr [(32, .bool c10), (0, .slice A0 p0.length c0), (1, zqC p1), (4, zqD b3), (7, zqD b9), (8, zqC c5.2.1)] e' ∧ Obs τ' σ' [some (b3, ⟨[.int .u8 0, .int .u8 0, .int .i64 0, .int .i64 0, .int .i64 0, .int .i64 0, .int .i64 0], 54, 7, true⟩), some (b9, ⟨[.int .u8 (c5.1.Kind.toNat : Int), .int .u8 (c5.1.Op.toNat : Int), .int .i64 c5.1.R, .int .i64 c5.1.S, .int .i64 c5.1.T, .int .i64 c5.1.N, .int .i64 c5.1.M], 54, 7, true⟩)] ∧ Hp.le τ τ' ∧ RdT Ty.u8 τ' (.slice A0 p0.length c0) p0) ?_ ?_
  ·have hF := h11
   rcases zi hF with ⟨hb12, hF⟩ | ⟨hb12, hF⟩
   ·refine zX (congrArg (fun x => isB (.bool x) false) hb12) ?_
    refine zA (congrArg Value.bool hb12) ?_
    refine zh ?_
    injection hF with hF
    subst hF
    refine zg ?_
    exact ⟨rfl, _, zqB zqq, hO, hL, r0⟩
   ·refine zP (congrArg (fun x => isB (.bool x) false) hb12) ?_
    refine zb hO 1 [1] [(0, .slice A0 p0.length c0), (1, zqC p1), (4, zqD b3), (7, zqD b9), (8, zqC c5.2.1), (28, .bool (!c5.2.2)), (29, .agg #[(.int .u8 (c5.1.Kind.toNat : Int)), (.int .u8 (c5.1.Op.toNat : Int)), (.int .i64 c5.1.R), (.int .i64 c5.1.S), (.int .i64 c5.1.T), (.int .i64 c5.1.N), (.int .i64 c5.1.M)])] (And.intro (And.intro rfl rfl) zqs) fun j => ?_
    obtain ⟨c13, h14, hF⟩ := bind_some hF
    refine zr hO (zjY (p0 := (⟨c5.1.Kind, c5.1.Op, c5.1.R, c5.1.S, c5.1.T, c5.1.N, c5.1.M⟩ : zc)) h14) rfl fun _ σ _ _ hO h15 h16 => ?_
    have hL := hL.trans h15
    have r0 := r0.le h15
    obtain ⟨rfl, rfl⟩ := h16
    have hO : Obs _ _ [_, _] := hO
    refine zb hO 1 [] [(0, .slice A0 p0.length c0), (1, zqC p1), (4, zqD b3), (7, zqD b9), (8, zqC c5.2.1), (28, .bool (!c5.2.2)), (31, .bool (!c13))] zqs fun j => ?_
    refine zA (congrArg Value.bool hb12) ?_
    refine zh ?_
    injection hF with hF
    subst hF
    refine zg ?_
    exact ⟨rfl, _, zqB zqq, hO, hL, r0⟩
  ·rintro e σ ⟨_, hA, hO, hL, r0⟩
   rw [← zC _ _ hA]
   refine zb hO 1 [] [(0, .slice A0 p0.length c0), (1, zqC p1), (4, zqD b3), (7, zqD b9), (8, zqC c5.2.1), (33, .bool c10)] zqr fun j => ?_
   obtain ⟨c17, h18, hF⟩ := bind_some hF
   refine zbC 2 (fun e' σ' => ∃ (τ' : Hp), agr [(42, .bool c17), (4, zqD b3), (7, zqD b9), (8, zqC c5.2.1)] e' ∧ Obs τ' σ' [some (b3, ⟨[.int .u8 0, .int .u8 0, .int .i64 0, .int .i64 0, .int .i64 0, .int .i64 0, .int .i64 0], 54, 7, true⟩), some (b9, ⟨[.int .u8 (c5.1.Kind.toNat : Int), .int .u8 (c5.1.Op.toNat : Int), .int .i64 c5.1.R, .int .i64 c5.1.S, .int .i64 c5.1.T, .int .i64 c5.1.N, .int .i64 c5.1.M], 54, 7, true⟩)] ∧ Hp.le τ τ') ?_ ?_
   ·have hF := h18
    rcases zi hF with ⟨hb19, hF⟩ | ⟨hb19, hF⟩
    ·refine zX (congrArg (fun x => isB (.bool x) false) hb19) ?_
     refine zA (congrArg Value.bool hb19) ?_
     refine zh ?_
     injection hF with hF
     subst hF
     refine zg ?_
     exact ⟨rfl, _, zqB zqo, hO, hL⟩
    ·refine zP (congrArg (fun x => isB (.bool x) false) hb19) ?_
     refine zb hO 4 [1] [(4, zqD b3), (7, zqD b9), (8, zqC c5.2.1), (33, .bool c10), (34, .agg #[(.int .u8 (c5.1.Kind.toNat : Int)), (.int .u8 (c5.1.Op.toNat : Int)), (.int .i64 c5.1.R), (.int .i64 c5.1.S), (.int .i64 c5.1.T), (.int .i64 c5.1.N), (.int .i64 c5.1.M)]), (36, .slice A0 p0.length c0), (37, zqC p1), (38, zqC c5.2.1)] (And.intro (And.intro rfl rfl) zqt) fun j => ?_
     obtain ⟨y20, g21, hF⟩ := bind_some hF
     refine zc9 (T := Ty.u8) r0 rfl rfl rfl g21 fun _ r22 => ?_
     obtain ⟨A23, c24, rfl, -⟩ := r22.form
     obtain ⟨c25, h26, hF⟩ := bind_some hF
     refine zr hO (zpF (p1 := (⟨c5.1.Kind, c5.1.Op, c5.1.R, c5.1.S, c5.1.T, c5.1.N, c5.1.M⟩ : zc)) (RdT.nil Ty.u8 _) h26) rfl fun _ σ _ _ hO h27 h28 => ?_
     have hL := hL.trans h27
     have r0 := r0.le h27
     have r22 := r22.le h27
     obtain ⟨v29, o32, rfl, rfl, w33⟩ := h28
     obtain ⟨A30, c31, rfl, -⟩ := w33.form
     have hO : Obs _ _ [_, _, _] := hO
     obtain ⟨_, h35, r34, hO⟩ := w33.share hO (i := 2) rfl
     have hL := hL.trans h35
     have r0 := r0.le h35
     have r22 := r22.le h35
     have hO : Obs _ _ [_, _, _] := hO
     obtain ⟨c36, h37, hF⟩ := bind_some hF
     refine zr hO (zpK r34 r22 h37) rfl fun _ σ _ _ hO h38 h39 => ?_
     have hL := hL.trans h38
     have r34 := r34.le h38
     have r0 := r0.le h38
     have r22 := r22.le h38
     obtain ⟨rfl, rfl⟩ := h39
     have hO : Obs _ _ [_, _, _] := hO
     refine zb hO 1 [] [(4, zqD b3), (7, zqD b9), (8, zqC c5.2.1), (33, .bool c10), (41, .bool (!c36))] zqq fun j => ?_
     refine zA (congrArg Value.bool hb19) ?_
     refine zh ?_
     injection hF with hF
     subst hF
     refine zg ?_
     have hO := hO.sel [0, 1] (by decide)
     exact ⟨rfl, _, zqB zqo, hO, hL⟩
   ·rintro e σ ⟨_, hA, hO, hL⟩
    rw [← zC _ _ hA]
    refine zh ?_
    rcases zi hF with ⟨hb40, hF⟩ | ⟨hb40, hF⟩
    ·refine zl (congrArg Value.bool hb40) ?_
     refine ze (zb hO 1 [0] [(4, zqD b3), (43, .agg #[(.int .u8 0), (.int .u8 0), (.int .i64 0), (.int .i64 0), (.int .i64 0), (.int .i64 0), (.int .i64 0)])] (And.intro (And.intro rfl rfl) zqn) fun j => ?_)
     refine zH hO (i := 0) rfl (off := 0) rfl rfl rfl rfl (Nat.le_of_ble_eq_true rfl) rfl fun σ hO => ?_
     have hO : Obs _ _ [_, _] := hO
     refine za hO [] [(4, zqD b3), (5, zqC 0), (6, zqC 5)] zqo fun j => ?_
     refine zz ?_
     injection hF with hF
     subst hF
     have hV0 := hO.val (i := 0) rfl (off := 0) (agg := true) (n := 7) rfl
     have hO := hO.sel [] (by decide)
     exact hQ _ _ _ _ _ (zbn rfl (hV0) (zcD (zcD rfl))) hO hL ⟨rfl, rfl⟩
    ·refine zk (congrArg Value.bool hb40) ?_
     refine zv (zb hO 2 [1] [(4, zqD b3), (44, .agg #[(.int .u8 (c5.1.Kind.toNat : Int)), (.int .u8 (c5.1.Op.toNat : Int)), (.int .i64 c5.1.R), (.int .i64 c5.1.S), (.int .i64 c5.1.T), (.int .i64 c5.1.N), (.int .i64 c5.1.M)]), (45, zqC c5.2.1)] (And.intro (And.intro rfl rfl) zqo) fun j => ?_)
     refine zH hO (i := 0) rfl (off := 0) rfl rfl rfl rfl (Nat.le_of_ble_eq_true rfl) rfl fun σ hO => ?_
     have hO : Obs _ _ [_, _] := hO
     refine za hO [] [(4, zqD b3), (5, zqC c5.2.1), (6, zqC 0)] zqo fun j => ?_
     refine zp ?_
     injection hF with hF
     subst hF
     have hV0 := hO.val (i := 0) rfl (off := 0) (agg := true) (n := 7) rfl
     have hO := hO.sel [] (by decide)
     exact hQ _ _ _ _ _ (zbn rfl (hV0) (zcD (zcD rfl))) hO hL ⟨rfl, rfl⟩
theorem zby {τ : Hp} {p0 : Int}  {rr : Except (Value) (Unit)} (hF : zb2 p0 = some rr) :
  zbA Tryz.prog 31 #[.int .u8 p0] τ [] (fun v τ' vs' => match rr with | .ok rr => v = .tuple #[] ∧ vs' = [] | .error _ => False) (fun ch τ' vs' => match rr with | .ok _ => False | .error ee => ch = [{ v := ee, recovered := false }] ∧ vs' = []) := by
 refine zcn (args := [.int .u8 p0]) hm Tryz.func31 s31 rfl fun w0 σ hP hO Q hQ => ?_
 unfold zb2 at hF
 have hL := Hp.le.refl τ
 show wpn _ _ a31.body _ _ _
 unfold a31
 dsimp only
 refine zU (zb hO 2 [] [(3, .iface 59 (.int .u8 p0))] zqm fun j => ?_)
 refine zni rfl ?_
 injection hF with hF
 subst hF
 exact hP _ _ _ _ hO hL ⟨rfl, rfl⟩
theorem zg3 {τ : Hp} {q0 : zf} {bm0 : Nat} {vm0_0 : Value} {vm0_18 : Value} {om0_18 : Ob} {vm0_19 : Value} {vm0_20 : Value} {om0_20 : Ob} {p1 : Int} (rm0_0 : RdT Ty.u8 τ vm0_0 q0.code) (wm0_18 : zd (Ty.int .i64) 2 τ vm0_18 q0.words om0_18) (rm0_19 : RdT (Ty.int .i64) τ vm0_19 q0.input) (wm0_20 : zd (Ty.int .i64) 2 τ vm0_20 q0.out om0_20) {rr : Except (Value) (Int)} (hF : zd8 q0 p1 = some rr) :
  zbA Tryz.prog 62 #[.pointer (some ⟨bm0, 0, none⟩), .int .i64 p1] τ [some (bm0, ⟨[vm0_0, .int .i64 q0.pc, .int .i64 (q0.regs 0), .int .i64 (q0.regs 1), .int .i64 (q0.regs 2), .int .i64 (q0.regs 3), .int .i64 (q0.regs 4), .int .i64 (q0.regs 5), .int .i64 (q0.regs 6), .int .i64 (q0.regs 7), .int .i64 (q0.regs 8), .int .i64 (q0.regs 9), .int .i64 (q0.regs 10), .int .i64 (q0.regs 11), .int .i64 (q0.regs 12), .int .i64 (q0.regs 13), .int .i64 (q0.regs 14), .int .i64 (q0.regs 15), vm0_18, vm0_19, vm0_20, .int .u8 q0.how.toNat, .int .i64 q0.halting], 58, 23, true⟩), om0_18, om0_20] (fun v τ' vs' => match rr with | .ok rr => v = .int .i64 rr ∧ vs' = [some (bm0, ⟨[vm0_0, .int .i64 q0.pc, .int .i64 (q0.regs 0), .int .i64 (q0.regs 1), .int .i64 (q0.regs 2), .int .i64 (q0.regs 3), .int .i64 (q0.regs 4), .int .i64 (q0.regs 5), .int .i64 (q0.regs 6), .int .i64 (q0.regs 7), .int .i64 (q0.regs 8), .int .i64 (q0.regs 9), .int .i64 (q0.regs 10), .int .i64 (q0.regs 11), .int .i64 (q0.regs 12), .int .i64 (q0.regs 13), .int .i64 (q0.regs 14), .int .i64 (q0.regs 15), vm0_18, vm0_19, vm0_20, .int .u8 q0.how.toNat, .int .i64 q0.halting], 58, 23, true⟩), om0_18, om0_20] | .error _ => False) (fun ch τ' vs' => match rr with | .ok _ => False | .error ee => ch = [{ v := ee, recovered := false }] ∧ vs' = [some (bm0, ⟨[vm0_0, .int .i64 q0.pc, .int .i64 (q0.regs 0), .int .i64 (q0.regs 1), .int .i64 (q0.regs 2), .int .i64 (q0.regs 3), .int .i64 (q0.regs 4), .int .i64 (q0.regs 5), .int .i64 (q0.regs 6), .int .i64 (q0.regs 7), .int .i64 (q0.regs 8), .int .i64 (q0.regs 9), .int .i64 (q0.regs 10), .int .i64 (q0.regs 11), .int .i64 (q0.regs 12), .int .i64 (q0.regs 13), .int .i64 (q0.regs 14), .int .i64 (q0.regs 15), vm0_18, vm0_19, vm0_20, .int .u8 q0.how.toNat, .int .i64 q0.halting], 58, 23, true⟩), om0_18, om0_20]) := by
 obtain ⟨Am0_0, cm0_0, rfl, -⟩ := rm0_0.form
 obtain ⟨Am0_18, cm0_18, rfl, -⟩ := wm0_18.form
 obtain ⟨Am0_19, cm0_19, rfl, -⟩ := rm0_19.form
 obtain ⟨Am0_20, cm0_20, rfl, -⟩ := wm0_20.form
 refine zcn (args := [.pointer (some ⟨bm0, 0, none⟩), .int .i64 p1]) hm Tryz.func62 s62 rfl fun w0 σ hP hO Q hQ => ?_
 unfold zd8 at hF
 have hL := Hp.le.refl τ
 show wpn _ _ a62.body _ _ _
 unfold a62
 dsimp only
 refine za hO [] [(0, zqD bm0), (1, zqC p1)] zqn fun j => ?_
 refine za hO [0] [(0, zqD bm0), (5, zqC (IntKind.i64.wrap ((q0.regs 15) - p1)))] (And.intro (And.intro rfl rfl) zqn) fun j => ?_
 refine ze (za hO [] [(0, zqD bm0), (5, zqC (IntKind.i64.wrap ((q0.regs 15) - p1))), (14, .bool (decide ((IntKind.i64.wrap ((q0.regs 15) - p1)) < 0)))] zqo fun j => ?_)
 rcases zi hF with ⟨hb3, hF⟩ | ⟨hb3, hF⟩
 ·refine zl (congrArg Value.bool hb3) ?_
  rcases z9 hF with ⟨x8, h9, hF⟩ | ⟨c4, h5, hF⟩
  ·refine zco hO (zby h9) (fun _ _ _ h => False.elim h) rfl fun _ σ _ _ hO h10 h11 => ?_
   have hL := hL.trans h10
   have rm0_0 := rm0_0.le h10
   have wm0_18 := wm0_18.le h10
   have rm0_19 := rm0_19.le h10
   have wm0_20 := wm0_20.le h10
   obtain ⟨rfl, rfl⟩ := h11
   have hO : Obs _ _ [_, _, _] := hO
   injection hF with hF
   subst hF
   exact hP _ _ _ _ hO hL ⟨rfl, rfl⟩
  ·refine zcg hO (zby h5) (fun _ _ _ h => False.elim h) rfl fun _ σ _ _ hO h6 h7 => ?_
   have hL := hL.trans h6
   have rm0_0 := rm0_0.le h6
   have wm0_18 := wm0_18.le h6
   have rm0_19 := rm0_19.le h6
   have wm0_20 := wm0_20.le h6
   obtain ⟨rfl, rfl⟩ := h7
   have hO : Obs _ _ [_, _, _] := hO
   refine zh (za hO [] [(0, zqD bm0), (4, zqC (IntKind.i64.wrap ((q0.regs 15) - p1)))] zqn fun j => ?_)
   refine zp ?_
   injection hF with hF
   subst hF
   exact (hQ _ _ _ _ _ rfl hO hL ⟨rfl, rfl⟩).1
 ·refine zk (congrArg Value.bool hb3) ?_
  refine zv (za hO [] [(0, zqD bm0), (4, zqC (IntKind.i64.wrap ((q0.regs 15) - p1)))] zqn fun j => ?_)
  refine zp ?_
  injection hF with hF
  subst hF
  exact (hQ _ _ _ _ _ rfl hO hL ⟨rfl, rfl⟩).1
theorem zdk {τ : Hp} {q0 : zf} {bm0 : Nat} {vm0_0 : Value} {vm0_18 : Value} {om0_18 : Ob} {vm0_19 : Value} {vm0_20 : Value} {om0_20 : Ob} {p1 : Int} (rm0_0 : RdT Ty.u8 τ vm0_0 q0.code) (wm0_18 : zd (Ty.int .i64) 2 τ vm0_18 q0.words om0_18) (rm0_19 : RdT (Ty.int .i64) τ vm0_19 q0.input) (wm0_20 : zd (Ty.int .i64) 2 τ vm0_20 q0.out om0_20) {rr : Except (Value) (Int)} (hF : zc4 q0 p1 = some rr) :
  zbA Tryz.prog 63 #[.pointer (some ⟨bm0, 0, none⟩), .int .i64 p1] τ [some (bm0, ⟨[vm0_0, .int .i64 q0.pc, .int .i64 (q0.regs 0), .int .i64 (q0.regs 1), .int .i64 (q0.regs 2), .int .i64 (q0.regs 3), .int .i64 (q0.regs 4), .int .i64 (q0.regs 5), .int .i64 (q0.regs 6), .int .i64 (q0.regs 7), .int .i64 (q0.regs 8), .int .i64 (q0.regs 9), .int .i64 (q0.regs 10), .int .i64 (q0.regs 11), .int .i64 (q0.regs 12), .int .i64 (q0.regs 13), .int .i64 (q0.regs 14), .int .i64 (q0.regs 15), vm0_18, vm0_19, vm0_20, .int .u8 q0.how.toNat, .int .i64 q0.halting], 58, 23, true⟩), om0_18, om0_20] (fun v τ' vs' => match rr with | .ok rr => v = .pointer ((slA vm0_18).map (fun x => x.add (Int.toNat rr * 1))) ∧ vs' = [some (bm0, ⟨[vm0_0, .int .i64 q0.pc, .int .i64 (q0.regs 0), .int .i64 (q0.regs 1), .int .i64 (q0.regs 2), .int .i64 (q0.regs 3), .int .i64 (q0.regs 4), .int .i64 (q0.regs 5), .int .i64 (q0.regs 6), .int .i64 (q0.regs 7), .int .i64 (q0.regs 8), .int .i64 (q0.regs 9), .int .i64 (q0.regs 10), .int .i64 (q0.regs 11), .int .i64 (q0.regs 12), .int .i64 (q0.regs 13), .int .i64 (q0.regs 14), .int .i64 (q0.regs 15), vm0_18, vm0_19, vm0_20, .int .u8 q0.how.toNat, .int .i64 q0.halting], 58, 23, true⟩), om0_18, om0_20] | .error _ => False) (fun ch τ' vs' => match rr with | .ok _ => False | .error ee => ch = [{ v := ee, recovered := false }] ∧ vs' = [some (bm0, ⟨[vm0_0, .int .i64 q0.pc, .int .i64 (q0.regs 0), .int .i64 (q0.regs 1), .int .i64 (q0.regs 2), .int .i64 (q0.regs 3), .int .i64 (q0.regs 4), .int .i64 (q0.regs 5), .int .i64 (q0.regs 6), .int .i64 (q0.regs 7), .int .i64 (q0.regs 8), .int .i64 (q0.regs 9), .int .i64 (q0.regs 10), .int .i64 (q0.regs 11), .int .i64 (q0.regs 12), .int .i64 (q0.regs 13), .int .i64 (q0.regs 14), .int .i64 (q0.regs 15), vm0_18, vm0_19, vm0_20, .int .u8 q0.how.toNat, .int .i64 q0.halting], 58, 23, true⟩), om0_18, om0_20]) := by
 obtain ⟨Am0_0, cm0_0, rfl, -⟩ := rm0_0.form
 obtain ⟨Am0_18, cm0_18, rfl, -⟩ := wm0_18.form
 obtain ⟨Am0_19, cm0_19, rfl, -⟩ := rm0_19.form
 obtain ⟨Am0_20, cm0_20, rfl, -⟩ := wm0_20.form
 refine zcn (args := [.pointer (some ⟨bm0, 0, none⟩), .int .i64 p1]) hm Tryz.func63 s63 rfl fun w0 σ hP hO Q hQ => ?_
 unfold zc4 at hF
 have hL := Hp.le.refl τ
 show wpn _ _ a63.body _ _ _
 unfold a63
 dsimp only
 refine za hO [] [(0, zqD bm0), (1, zqC p1)] zqn fun j => ?_
 refine ze (za hO [0] [(0, zqD bm0), (1, zqC p1), (15, .bool ((decide (p1 < 0)) || (decide (p1 ≥ (q0.words.length : Int)))))] (And.intro (And.intro rfl rfl) (And.intro (And.intro rfl rfl) (fun _ => zqB zqn))) fun j => ?_)
 rcases zi hF with ⟨hb3, hF⟩ | ⟨hb3, hF⟩
 ·refine zl (congrArg Value.bool hb3) ?_
  rcases z9 hF with ⟨x8, h9, hF⟩ | ⟨c4, h5, hF⟩
  ·refine zco hO (zby h9) (fun _ _ _ h => False.elim h) rfl fun _ σ _ _ hO h10 h11 => ?_
   have hL := hL.trans h10
   have rm0_0 := rm0_0.le h10
   have wm0_18 := wm0_18.le h10
   have rm0_19 := rm0_19.le h10
   have wm0_20 := wm0_20.le h10
   obtain ⟨rfl, rfl⟩ := h11
   have hO : Obs _ _ [_, _, _] := hO
   injection hF with hF
   subst hF
   exact hP _ _ _ _ hO hL ⟨rfl, rfl⟩
  ·refine zcg hO (zby h5) (fun _ _ _ h => False.elim h) rfl fun _ σ _ _ hO h6 h7 => ?_
   have hL := hL.trans h6
   have rm0_0 := rm0_0.le h6
   have wm0_18 := wm0_18.le h6
   have rm0_19 := rm0_19.le h6
   have wm0_20 := wm0_20.le h6
   obtain ⟨rfl, rfl⟩ := h7
   have hO : Obs _ _ [_, _, _] := hO
   refine zh (zb hO 5 [0] [(0, zqD bm0), (20, .slice Am0_18 q0.words.length cm0_18), (21, zqC p1)] (And.intro (And.intro rfl rfl) zqo) fun j => ?_)
   obtain ⟨y12, g13, hF⟩ := bind_some hF
   refine zen (T := (Ty.int .i64)) hO wm0_18 (i := 1) rfl rfl rfl g13 (by decide) fun a14 _ k15 m16 i17 => ?_
   have k18 := k15
   obtain rfl : _ = ([.int .i64 y12] : List Value) := k18
   refine za hO [] [(0, zqD bm0), (4, .pointer (some a14))] zqn fun j => ?_
   refine zp ?_
   injection hF with hF
   subst hF
   refine (hQ _ _ _ _ _ rfl hO hL ?_).1
   exact ⟨(congrArg Value.pointer (zd.ptr wm0_18 i17 rfl)), rfl⟩
 ·refine zk (congrArg Value.bool hb3) ?_
  refine zv (zb hO 5 [0] [(0, zqD bm0), (20, .slice Am0_18 q0.words.length cm0_18), (21, zqC p1)] (And.intro (And.intro rfl rfl) zqo) fun j => ?_)
  obtain ⟨y19, g20, hF⟩ := bind_some hF
  refine zen (T := (Ty.int .i64)) hO wm0_18 (i := 1) rfl rfl rfl g20 (by decide) fun a21 _ k22 m23 i24 => ?_
  have k25 := k22
  obtain rfl : _ = ([.int .i64 y19] : List Value) := k25
  refine za hO [] [(0, zqD bm0), (4, .pointer (some a21))] zqn fun j => ?_
  refine zp ?_
  injection hF with hF
  subst hF
  refine (hQ _ _ _ _ _ rfl hO hL ?_).1
  exact ⟨(congrArg Value.pointer (zd.ptr wm0_18 i24 rfl)), rfl⟩
theorem zj2 {τ : Hp} {q0 : zf} {bm0 : Nat} {vm0_0 : Value} {vm0_18 : Value} {om0_18 : Ob} {vm0_19 : Value} {vm0_20 : Value} {om0_20 : Ob} {p1 : Int} {p2 : Int} (rm0_0 : RdT Ty.u8 τ vm0_0 q0.code) (wm0_18 : zd (Ty.int .i64) 2 τ vm0_18 q0.words om0_18) (rm0_19 : RdT (Ty.int .i64) τ vm0_19 q0.input) (wm0_20 : zd (Ty.int .i64) 2 τ vm0_20 q0.out om0_20) {rr : Except (Value × zf) (Int × zf)} (hF : zhK q0 p1 p2 = some rr) :
  zbA Tryz.prog 45 #[.pointer (some ⟨bm0, 0, none⟩), .int .i64 p1, .int .i64 p2] τ [some (bm0, ⟨[vm0_0, .int .i64 q0.pc, .int .i64 (q0.regs 0), .int .i64 (q0.regs 1), .int .i64 (q0.regs 2), .int .i64 (q0.regs 3), .int .i64 (q0.regs 4), .int .i64 (q0.regs 5), .int .i64 (q0.regs 6), .int .i64 (q0.regs 7), .int .i64 (q0.regs 8), .int .i64 (q0.regs 9), .int .i64 (q0.regs 10), .int .i64 (q0.regs 11), .int .i64 (q0.regs 12), .int .i64 (q0.regs 13), .int .i64 (q0.regs 14), .int .i64 (q0.regs 15), vm0_18, vm0_19, vm0_20, .int .u8 q0.how.toNat, .int .i64 q0.halting], 58, 23, true⟩), om0_18, om0_20] (fun v τ' vs' => match rr with | .ok rr => ∃ (u0_0 : Value) (u0_18 : Value) (y0_18 : Ob) (u0_19 : Value) (u0_20 : Value) (y0_20 : Ob), v = .int .i64 rr.1 ∧ vs' = [some (bm0, ⟨[u0_0, .int .i64 rr.2.pc, .int .i64 (rr.2.regs 0), .int .i64 (rr.2.regs 1), .int .i64 (rr.2.regs 2), .int .i64 (rr.2.regs 3), .int .i64 (rr.2.regs 4), .int .i64 (rr.2.regs 5), .int .i64 (rr.2.regs 6), .int .i64 (rr.2.regs 7), .int .i64 (rr.2.regs 8), .int .i64 (rr.2.regs 9), .int .i64 (rr.2.regs 10), .int .i64 (rr.2.regs 11), .int .i64 (rr.2.regs 12), .int .i64 (rr.2.regs 13), .int .i64 (rr.2.regs 14), .int .i64 (rr.2.regs 15), u0_18, u0_19, u0_20, .int .u8 rr.2.how.toNat, .int .i64 rr.2.halting], 58, 23, true⟩), y0_18, y0_20] ∧ RdT Ty.u8 τ' u0_0 rr.2.code ∧ zd (Ty.int .i64) 2 τ' u0_18 rr.2.words y0_18 ∧ RdT (Ty.int .i64) τ' u0_19 rr.2.input ∧ zd (Ty.int .i64) 2 τ' u0_20 rr.2.out y0_20 | .error _ => False) (fun ch τ' vs' => match rr with | .ok _ => False | .error ee => ∃ (u0_0 : Value) (u0_18 : Value) (y0_18 : Ob) (u0_19 : Value) (u0_20 : Value) (y0_20 : Ob), ch = [{ v := ee.1, recovered := false }] ∧ vs' = [some (bm0, ⟨[u0_0, .int .i64 ee.2.pc, .int .i64 (ee.2.regs 0), .int .i64 (ee.2.regs 1), .int .i64 (ee.2.regs 2), .int .i64 (ee.2.regs 3), .int .i64 (ee.2.regs 4), .int .i64 (ee.2.regs 5), .int .i64 (ee.2.regs 6), .int .i64 (ee.2.regs 7), .int .i64 (ee.2.regs 8), .int .i64 (ee.2.regs 9), .int .i64 (ee.2.regs 10), .int .i64 (ee.2.regs 11), .int .i64 (ee.2.regs 12), .int .i64 (ee.2.regs 13), .int .i64 (ee.2.regs 14), .int .i64 (ee.2.regs 15), u0_18, u0_19, u0_20, .int .u8 ee.2.how.toNat, .int .i64 ee.2.halting], 58, 23, true⟩), y0_18, y0_20] ∧ RdT Ty.u8 τ' u0_0 ee.2.code ∧ zd (Ty.int .i64) 2 τ' u0_18 ee.2.words y0_18 ∧ RdT (Ty.int .i64) τ' u0_19 ee.2.input ∧ zd (Ty.int .i64) 2 τ' u0_20 ee.2.out y0_20) := by
 obtain ⟨Am0_0, cm0_0, rfl, -⟩ := rm0_0.form
 obtain ⟨Am0_18, cm0_18, rfl, -⟩ := wm0_18.form
 obtain ⟨Am0_19, cm0_19, rfl, -⟩ := rm0_19.form
 obtain ⟨Am0_20, cm0_20, rfl, -⟩ := wm0_20.form
 refine zcn (args := [.pointer (some ⟨bm0, 0, none⟩), .int .i64 p1, .int .i64 p2]) hm Tryz.func45 s45 rfl fun w0 σ hP hO Q hQ => ?_
 unfold zhK at hF
 have hL := Hp.le.refl τ
 show wpn _ _ a45.body _ _ _
 unfold a45
 dsimp only
 refine za hO [] [(0, zqD bm0), (1, zqC p1), (2, zqC p2)] zqo fun j => ?_
 refine zb hO 1 [] [(0, zqD bm0), (1, zqC p1), (2, zqC p2), (8, zqD bm0)] zqp fun j => ?_
 rcases z9 hF with ⟨x8, h9, hF⟩ | ⟨c4, h5, hF⟩
 ·refine zbQ (hs := []) (vs := [_, _, _]) hO (zg3 (q0 := (⟨q0.code, q0.pc, q0.regs, q0.words, q0.input, q0.out, q0.how, q0.halting⟩ : zf)) rm0_0 wm0_18 rm0_19 wm0_20 h9) (fun _ _ _ h => False.elim h) rfl fun _ σ _ _ hO h10 h11 => ?_
  have hL := hL.trans h10
  have rm0_0 := rm0_0.le h10
  have wm0_18 := wm0_18.le h10
  have rm0_19 := rm0_19.le h10
  have wm0_20 := wm0_20.le h10
  obtain ⟨rfl, rfl⟩ := h11
  have hO : Obs _ _ [_, _, _] := hO
  injection hF with hF
  subst hF
  exact hP _ _ _ _ hO hL ⟨_, _, _, _, _, _, rfl, rfl, rm0_0, wm0_18, rm0_19, wm0_20⟩
 ·refine zbT (hs := []) (vs := [_, _, _]) hO (zg3 (q0 := (⟨q0.code, q0.pc, q0.regs, q0.words, q0.input, q0.out, q0.how, q0.halting⟩ : zf)) rm0_0 wm0_18 rm0_19 wm0_20 h5) (fun _ _ _ h => False.elim h) rfl fun _ σ _ _ hO h6 h7 => ?_
  have hL := hL.trans h6
  have rm0_0 := rm0_0.le h6
  have wm0_18 := wm0_18.le h6
  have rm0_19 := rm0_19.le h6
  have wm0_20 := wm0_20.le h6
  obtain ⟨rfl, rfl⟩ := h7
  have hO : Obs _ _ [_, _, _] := hO
  refine za hO [] [(0, zqD bm0), (1, zqC p1), (2, zqC p2), (7, zqC c4)] zqp fun j => ?_
  refine zb hO 2 [] [(0, zqD bm0), (1, zqC p1), (2, zqC p2), (7, zqC c4), (10, zqD bm0), (11, zqC c4)] zqr fun j => ?_
  rcases z9 hF with ⟨x16, h17, hF⟩ | ⟨c12, h13, hF⟩
  ·refine zbQ (hs := []) (vs := [_, _, _]) hO (zdk (q0 := (⟨q0.code, q0.pc, q0.regs, q0.words, q0.input, q0.out, q0.how, q0.halting⟩ : zf)) rm0_0 wm0_18 rm0_19 wm0_20 h17) (fun _ _ _ h => False.elim h) rfl fun _ σ _ _ hO h18 h19 => ?_
   have hL := hL.trans h18
   have rm0_0 := rm0_0.le h18
   have wm0_18 := wm0_18.le h18
   have rm0_19 := rm0_19.le h18
   have wm0_20 := wm0_20.le h18
   obtain ⟨rfl, rfl⟩ := h19
   have hO : Obs _ _ [_, _, _] := hO
   injection hF with hF
   subst hF
   exact hP _ _ _ _ hO hL ⟨_, _, _, _, _, _, rfl, rfl, rm0_0, wm0_18, rm0_19, wm0_20⟩
  ·refine zbT (hs := []) (vs := [_, _, _]) hO (zdk (q0 := (⟨q0.code, q0.pc, q0.regs, q0.words, q0.input, q0.out, q0.how, q0.halting⟩ : zf)) rm0_0 wm0_18 rm0_19 wm0_20 h13) (fun _ _ _ h => False.elim h) rfl fun _ σ _ _ hO h14 h15 => ?_
   have hL := hL.trans h14
   have rm0_0 := rm0_0.le h14
   have wm0_18 := wm0_18.le h14
   have rm0_19 := rm0_19.le h14
   have wm0_20 := wm0_20.le h14
   obtain ⟨h20, rfl⟩ := h15
   have hO : Obs _ _ [_, _, _] := hO
   obtain ⟨y21, g22, hF⟩ := bind_some hF
   obtain ⟨a23, _, h25, k24, m26, i27⟩ := zd.at_ hO wm0_18 (i := 1) rfl g22 (n := 1) rfl
   have h20 : _ = Value.pointer (some a23) := h20.trans (congrArg Value.pointer h25)
   subst h20
   have k28 := k24
   obtain rfl : _ = ([.int .i64 y21] : List Value) := k28
   refine zb hO 2 [] [(0, zqD bm0), (1, zqC p1), (7, zqC c4), (13, zqC p2), (14, .pointer (some a23))] zqq fun j => ?_
   refine zju (T := (Ty.int .i64)) (z' := p2) (off := 0) (vs := [.int .i64 p2]) hO wm0_18 (i := 1) rfl (by rw [add_zero]; rfl) i27 g22 k24 m26 rfl rfl rfl rfl (by decide) (show _ = _ from rfl) fun σ o29 w30 hO => ?_
   have hO : Obs _ _ [_, _, _] := hO
   refine zh (zb hO 5 [] [(0, zqD bm0), (1, zqC p1), (16, zqC c4), (19, .pointer (some ⟨bm0, 17, none⟩))] zqp fun j => ?_)
   refine zH hO (i := 0) rfl (off := 17) rfl rfl rfl rfl (Nat.le_of_ble_eq_true rfl) rfl fun σ hO => ?_
   have hO : Obs _ _ [_, _, _] := hO
   refine zh (za hO [] [(0, zqD bm0), (6, zqC p1)] zqn fun j => ?_)
   refine zp ?_
   injection hF with hF
   subst hF
   exact (hQ _ _ _ _ _ rfl hO hL ⟨_, _, _, _, _, _, rfl, rfl, rm0_0, w30, rm0_19, wm0_20⟩).1
theorem zlk {τ : Hp} {q0 : zf} {bm0 : Nat} {vm0_0 : Value} {vm0_18 : Value} {om0_18 : Ob} {vm0_19 : Value} {vm0_20 : Value} {om0_20 : Ob} (rm0_0 : RdT Ty.u8 τ vm0_0 q0.code) (wm0_18 : zd (Ty.int .i64) 2 τ vm0_18 q0.words om0_18) (rm0_19 : RdT (Ty.int .i64) τ vm0_19 q0.input) (wm0_20 : zd (Ty.int .i64) 2 τ vm0_20 q0.out om0_20) {rr : Except (Value × zf) (Int × zf)} (hF : zh3 q0 = some rr) :
  zbA Tryz.prog 46 #[.pointer (some ⟨bm0, 0, none⟩)] τ [some (bm0, ⟨[vm0_0, .int .i64 q0.pc, .int .i64 (q0.regs 0), .int .i64 (q0.regs 1), .int .i64 (q0.regs 2), .int .i64 (q0.regs 3), .int .i64 (q0.regs 4), .int .i64 (q0.regs 5), .int .i64 (q0.regs 6), .int .i64 (q0.regs 7), .int .i64 (q0.regs 8), .int .i64 (q0.regs 9), .int .i64 (q0.regs 10), .int .i64 (q0.regs 11), .int .i64 (q0.regs 12), .int .i64 (q0.regs 13), .int .i64 (q0.regs 14), .int .i64 (q0.regs 15), vm0_18, vm0_19, vm0_20, .int .u8 q0.how.toNat, .int .i64 q0.halting], 58, 23, true⟩), om0_18, om0_20] (fun v τ' vs' => match rr with | .ok rr => ∃ (u0_0 : Value) (u0_18 : Value) (y0_18 : Ob) (u0_19 : Value) (u0_20 : Value) (y0_20 : Ob), v = .int .i64 rr.1 ∧ vs' = [some (bm0, ⟨[u0_0, .int .i64 rr.2.pc, .int .i64 (rr.2.regs 0), .int .i64 (rr.2.regs 1), .int .i64 (rr.2.regs 2), .int .i64 (rr.2.regs 3), .int .i64 (rr.2.regs 4), .int .i64 (rr.2.regs 5), .int .i64 (rr.2.regs 6), .int .i64 (rr.2.regs 7), .int .i64 (rr.2.regs 8), .int .i64 (rr.2.regs 9), .int .i64 (rr.2.regs 10), .int .i64 (rr.2.regs 11), .int .i64 (rr.2.regs 12), .int .i64 (rr.2.regs 13), .int .i64 (rr.2.regs 14), .int .i64 (rr.2.regs 15), u0_18, u0_19, u0_20, .int .u8 rr.2.how.toNat, .int .i64 rr.2.halting], 58, 23, true⟩), y0_18, y0_20] ∧ RdT Ty.u8 τ' u0_0 rr.2.code ∧ zd (Ty.int .i64) 2 τ' u0_18 rr.2.words y0_18 ∧ RdT (Ty.int .i64) τ' u0_19 rr.2.input ∧ zd (Ty.int .i64) 2 τ' u0_20 rr.2.out y0_20 | .error _ => False) (fun ch τ' vs' => match rr with | .ok _ => False | .error ee => ∃ (u0_0 : Value) (u0_18 : Value) (y0_18 : Ob) (u0_19 : Value) (u0_20 : Value) (y0_20 : Ob), ch = [{ v := ee.1, recovered := false }] ∧ vs' = [some (bm0, ⟨[u0_0, .int .i64 ee.2.pc, .int .i64 (ee.2.regs 0), .int .i64 (ee.2.regs 1), .int .i64 (ee.2.regs 2), .int .i64 (ee.2.regs 3), .int .i64 (ee.2.regs 4), .int .i64 (ee.2.regs 5), .int .i64 (ee.2.regs 6), .int .i64 (ee.2.regs 7), .int .i64 (ee.2.regs 8), .int .i64 (ee.2.regs 9), .int .i64 (ee.2.regs 10), .int .i64 (ee.2.regs 11), .int .i64 (ee.2.regs 12), .int .i64 (ee.2.regs 13), .int .i64 (ee.2.regs 14), .int .i64 (ee.2.regs 15), u0_18, u0_19, u0_20, .int .u8 ee.2.how.toNat, .int .i64 ee.2.halting], 58, 23, true⟩), y0_18, y0_20] ∧ RdT Ty.u8 τ' u0_0 ee.2.code ∧ zd (Ty.int .i64) 2 τ' u0_18 ee.2.words y0_18 ∧ RdT (Ty.int .i64) τ' u0_19 ee.2.input ∧ zd (Ty.int .i64) 2 τ' u0_20 ee.2.out y0_20) := by
 obtain ⟨Am0_0, cm0_0, rfl, -⟩ := rm0_0.form
 obtain ⟨Am0_18, cm0_18, rfl, -⟩ := wm0_18.form
 obtain ⟨Am0_19, cm0_19, rfl, -⟩ := rm0_19.form
 obtain ⟨Am0_20, cm0_20, rfl, -⟩ := wm0_20.form
 refine zcn (args := [.pointer (some ⟨bm0, 0, none⟩)]) hm Tryz.func46 s46 rfl fun w0 σ hP hO Q hQ => ?_
 unfold zh3 at hF
 have hL := Hp.le.refl τ
 show wpn _ _ a46.body _ _ _
 unfold a46
 dsimp only
 refine za hO [] [(0, zqD bm0)] zqm fun j => ?_
 refine zb hO 6 [0] [(0, zqD bm0), (4, zqD bm0), (9, zqC (q0.regs 15))] (And.intro (And.intro rfl rfl) zqo) fun j => ?_
 rcases z9 hF with ⟨x6, h7, hF⟩ | ⟨c2, h3, hF⟩
 ·refine zbQ (hs := []) (vs := [_, _, _]) hO (zdk (q0 := (⟨q0.code, q0.pc, q0.regs, q0.words, q0.input, q0.out, q0.how, q0.halting⟩ : zf)) rm0_0 wm0_18 rm0_19 wm0_20 h7) (fun _ _ _ h => False.elim h) rfl fun _ σ _ _ hO h8 h9 => ?_
  have hL := hL.trans h8
  have rm0_0 := rm0_0.le h8
  have wm0_18 := wm0_18.le h8
  have rm0_19 := rm0_19.le h8
  have wm0_20 := wm0_20.le h8
  obtain ⟨rfl, rfl⟩ := h9
  have hO : Obs _ _ [_, _, _] := hO
  injection hF with hF
  subst hF
  exact hP _ _ _ _ hO hL ⟨_, _, _, _, _, _, rfl, rfl, rm0_0, wm0_18, rm0_19, wm0_20⟩
 ·refine zbT (hs := []) (vs := [_, _, _]) hO (zdk (q0 := (⟨q0.code, q0.pc, q0.regs, q0.words, q0.input, q0.out, q0.how, q0.halting⟩ : zf)) rm0_0 wm0_18 rm0_19 wm0_20 h3) (fun _ _ _ h => False.elim h) rfl fun _ σ _ _ hO h4 h5 => ?_
  have hL := hL.trans h4
  have rm0_0 := rm0_0.le h4
  have wm0_18 := wm0_18.le h4
  have rm0_19 := rm0_19.le h4
  have wm0_20 := wm0_20.le h4
  obtain ⟨h10, rfl⟩ := h5
  have hO : Obs _ _ [_, _, _] := hO
  obtain ⟨y11, g12, hF⟩ := bind_some hF
  obtain ⟨a13, _, h15, k14, m16, i17⟩ := zd.at_ hO wm0_18 (i := 1) rfl g12 (n := 1) rfl
  have h10 : _ = Value.pointer (some a13) := h10.trans (congrArg Value.pointer h15)
  subst h10
  have k18 := k14
  obtain rfl : _ = ([.int .i64 y11] : List Value) := k18
  refine zb hO 1 [] [(0, zqD bm0), (11, .pointer (some a13))] zqn fun j => ?_
  refine zZ rfl m16.fst ?_
  refine za hO [] [(0, zqD bm0), (3, zqC y11)] zqn fun j => ?_
  refine ze (za hO [] [(0, zqD bm0), (3, zqC y11), (18, .bool ((decide (y11 < 0)) || (decide (y11 ≥ 16777216))))] (And.intro (And.intro rfl rfl) (fun _ => zqB zqn)) fun j => ?_)
  refine zbK (fun e' σ' => ∃ (τ' : Hp), agr [(0, zqD bm0), (3, zqC y11)] e' ∧ Obs τ' σ' [some (bm0, ⟨[.slice Am0_0 q0.code.length cm0_0, .int .i64 q0.pc, .int .i64 (q0.regs 0), .int .i64 (q0.regs 1), .int .i64 (q0.regs 2), .int .i64 (q0.regs 3), .int .i64 (q0.regs 4), .int .i64 (q0.regs 5), .int .i64 (q0.regs 6), .int .i64 (q0.regs 7), .int .i64 (q0.regs 8), .int .i64 (q0.regs 9), .int .i64 (q0.regs 10), .int .i64 (q0.regs 11), .int .i64 (q0.regs 12), .int .i64 (q0.regs 13), .int .i64 (q0.regs 14), .int .i64 (q0.regs 15), .slice Am0_18 q0.words.length cm0_18, .slice Am0_19 q0.input.length cm0_19, .slice Am0_20 q0.out.length cm0_20, .int .u8 (q0.how.toNat : Int), .int .i64 q0.halting], 58, 23, true⟩), om0_18, om0_20] ∧ Hp.le τ τ' ∧ RdT Ty.u8 τ' (.slice Am0_0 q0.code.length cm0_0) q0.code ∧ zd (Ty.int .i64) 2 τ' (.slice Am0_18 q0.words.length cm0_18) q0.words om0_18 ∧ RdT (Ty.int .i64) τ' (.slice Am0_19 q0.input.length cm0_19) q0.input ∧ zd (Ty.int .i64) 2 τ' (.slice Am0_20 q0.out.length cm0_20) q0.out om0_20 ∧ zfJ q0 y11 = some rr) ?_ ?_
  ·refine z2 ?_
   rcases zi hF with ⟨hb32, hF⟩ | ⟨hb32, hF⟩
   ·refine zl (congrArg Value.bool hb32) ?_
    rcases z9 hF with ⟨x37, h38, hF⟩ | ⟨c33, h34, hF⟩
    ·refine zco hO (zby h38) (fun _ _ _ h => False.elim h) rfl fun _ σ _ _ hO h39 h40 => ?_
     have hL := hL.trans h39
     have rm0_0 := rm0_0.le h39
     have wm0_18 := wm0_18.le h39
     have rm0_19 := rm0_19.le h39
     have wm0_20 := wm0_20.le h39
     obtain ⟨rfl, rfl⟩ := h40
     have hO : Obs _ _ [_, _, _] := hO
     injection hF with hF
     subst hF
     exact hP _ _ _ _ hO hL ⟨_, _, _, _, _, _, rfl, rfl, rm0_0, wm0_18, rm0_19, wm0_20⟩
    ·refine zcg hO (zby h34) (fun _ _ _ h => False.elim h) rfl fun _ σ _ _ hO h35 h36 => ?_
     have hL := hL.trans h35
     have rm0_0 := rm0_0.le h35
     have wm0_18 := wm0_18.le h35
     have rm0_19 := rm0_19.le h35
     have wm0_20 := wm0_20.le h35
     obtain ⟨rfl, rfl⟩ := h36
     have hO : Obs _ _ [_, _, _] := hO
     refine zh (zg (zn ?_))
     exact ⟨_, zqB zqm, hO, hL, rm0_0, wm0_18, rm0_19, wm0_20, hF⟩
   ·refine zk (congrArg Value.bool hb32) ?_
    refine zv (zg (zn ?_))
    exact ⟨_, zqB zqm, hO, hL, rm0_0, wm0_18, rm0_19, wm0_20, hF⟩
  ·rintro e σ ⟨_, hA, hO, hL, r28, w29, r30, w31, hF⟩
   rw [← zC _ _ hA]
   unfold zfJ at hF
   refine zbD (zb hO 9 [0] [(0, zqD bm0), (3, zqC y11), (25, zqC (IntKind.i64.wrap ((q0.regs 15) + 1))), (28, .pointer (some ⟨bm0, 17, none⟩))] (And.intro (And.intro rfl rfl) zqp) fun j => ?_)
   refine zH hO (i := 0) rfl (off := 17) rfl rfl rfl rfl (Nat.le_of_ble_eq_true rfl) rfl fun σ hO => ?_
   have hO : Obs _ _ [_, _, _] := hO
   refine zh (za hO [] [(0, zqD bm0), (2, zqC y11)] zqn fun j => ?_)
   refine zp ?_
   injection hF with hF
   subst hF
   exact (hQ _ _ _ _ _ rfl hO hL ⟨_, _, _, _, _, _, rfl, rfl, r28, w29, r30, w31⟩).1
theorem zdQ {τ : Hp} {p0 : Bool}  {rr : Int} (hF : zcG p0 = some rr) :
  Ctr Tryz.prog 65 #[.bool p0] τ [] (fun v τ' vs' => v = .int .i64 rr ∧ vs' = []) := by
 refine zw (args := [.bool p0]) hm Tryz.func65 s65 rfl fun w0 σ hO Q hQ => ?_
 unfold zcG at hF
 have hL := Hp.le.refl τ
 show wpn _ _ a65.body _ _ _
 unfold a65
 dsimp only
 refine za hO [] [(0, .bool p0)] zqm fun j => ?_
 refine ze (za hO [] [(3, .bool p0)] zqm fun j => ?_)
 rcases zi hF with ⟨hb2, hF⟩ | ⟨hb2, hF⟩
 ·refine zl (congrArg Value.bool hb2) ?_
  refine ze (za hO [] [(2, zqC 1)] zqm fun j => ?_)
  refine zz ?_
  injection hF with hF
  subst hF
  exact hQ _ _ _ _ _ rfl hO hL ⟨rfl, rfl⟩
 ·refine zk (congrArg Value.bool hb2) ?_
  refine zv (za hO [] [(2, zqC 0)] zqm fun j => ?_)
  refine zp ?_
  injection hF with hF
  subst hF
  exact hQ _ _ _ _ _ rfl hO hL ⟨rfl, rfl⟩
theorem zkk {τ : Hp} {p0 : Int} {p1 : Int} {p2 : Int}  {rr : Except (Value) (Int)} (hF : zhP p0 p1 p2 = some rr) :
  zbA Tryz.prog 83 #[.int .u8 p0, .int .i64 p1, .int .i64 p2] τ [] (fun v τ' vs' => match rr with | .ok rr => v = .int .i64 rr ∧ vs' = [] | .error _ => False) (fun ch τ' vs' => match rr with | .ok _ => False | .error ee => ch = [{ v := ee, recovered := false }] ∧ vs' = []) := by
 refine zcn (args := [.int .u8 p0, .int .i64 p1, .int .i64 p2]) hm Tryz.func83 s83 rfl fun w0 σ hP hO Q hQ => ?_
 unfold zhP at hF
 have hL := Hp.le.refl τ
 show wpn _ _ a83.body _ _ _
 unfold a83
 dsimp only
 refine za hO [] [(0, .int .u8 p0), (1, zqC p1), (2, zqC p2)] zqo fun j => ?_
 refine ze (za hO [] [(0, .int .u8 p0), (1, zqC p1), (2, zqC p2), (8, .bool (p2 == 0))] zqp fun j => ?_)
 refine zbK (fun e' σ' => ∃ (τ' : Hp), agr [(0, .int .u8 p0), (1, zqC p1), (2, zqC p2)] e' ∧ Obs τ' σ' [] ∧ Hp.le τ τ' ∧ zfT p0 p1 p2 = some rr) ?_ ?_
 ·refine z2 ?_
  rcases zi hF with ⟨hb18, hF⟩ | ⟨hb18, hF⟩
  ·refine zl (congrArg Value.bool hb18) ?_
   rcases z9 hF with ⟨x23, h24, hF⟩ | ⟨c19, h20, hF⟩
   ·refine zco hO (zby h24) (fun _ _ _ h => False.elim h) rfl fun _ σ _ _ hO h25 h26 => ?_
    have hL := hL.trans h25
    obtain ⟨rfl, rfl⟩ := h26
    have hO : Obs _ _ [] := hO
    injection hF with hF
    subst hF
    exact hP _ _ _ _ hO hL ⟨rfl, rfl⟩
   ·refine zcg hO (zby h20) (fun _ _ _ h => False.elim h) rfl fun _ σ _ _ hO h21 h22 => ?_
    have hL := hL.trans h21
    obtain ⟨rfl, rfl⟩ := h22
    have hO : Obs _ _ [] := hO
    refine zh (zg (zn ?_))
    exact ⟨_, zqB zqn, hO, hL, hF⟩
  ·refine zk (congrArg Value.bool hb18) ?_
   refine zv (zg (zn ?_))
   exact ⟨_, zqB zqn, hO, hL, hF⟩
 ·rintro e σ ⟨_, hA, hO, hL, hF⟩
  rw [← zC _ _ hA]
  unfold zfT at hF
  refine ze (za hO [] [(1, zqC p1), (2, zqC p2), (11, .bool (p0 == 4))] zqo fun j => ?_)
  rcases zi hF with ⟨hb13, hF⟩ | ⟨hb13, hF⟩
  ·refine zl (congrArg Value.bool hb13) ?_
   refine ze (zb hO 2 [] [(12, zqC p1), (13, zqC p2)] zqn fun j => ?_)
   obtain ⟨y14, g15, hF⟩ := bind_some hF
   refine zcW (zoU g15) ?_
   refine za hO [] [(6, zqC y14)] zqm fun j => ?_
   refine zz ?_
   injection hF with hF
   subst hF
   exact (hQ _ _ _ _ _ rfl hO hL ⟨rfl, rfl⟩).1
  ·refine zk (congrArg Value.bool hb13) ?_
   refine zv (zb hO 2 [] [(15, zqC p1), (16, zqC p2)] zqn fun j => ?_)
   obtain ⟨y16, g17, hF⟩ := bind_some hF
   refine zcW (zo1 g17) ?_
   refine za hO [] [(6, zqC y16)] zqm fun j => ?_
   refine zp ?_
   injection hF with hF
   subst hF
   exact (hQ _ _ _ _ _ rfl hO hL ⟨rfl, rfl⟩).1
theorem zlz {τ : Hp} {p0 : Int} {p1 : Int} {p2 : Int}  {rr : Except (Value) (Int)} (hF : zex p0 p1 p2 = some rr) :
  zbA Tryz.prog 64 #[.int .u8 p0, .int .i64 p1, .int .i64 p2] τ [] (fun v τ' vs' => match rr with | .ok rr => v = .int .i64 rr ∧ vs' = [] | .error _ => False) (fun ch τ' vs' => match rr with | .ok _ => False | .error ee => ch = [{ v := ee, recovered := false }] ∧ vs' = []) := by
 refine zcn (args := [.int .u8 p0, .int .i64 p1, .int .i64 p2]) hm Tryz.func64 s64 rfl fun w0 σ hP hO Q hQ => ?_
 unfold zex at hF
 have hL := Hp.le.refl τ
 show wpn _ _ a64.body _ _ _
 unfold a64
 dsimp only
 refine za hO [] [(0, .int .u8 p0), (1, zqC p1), (2, zqC p2)] zqo fun j => ?_
 refine ze (za hO [] [(0, .int .u8 p0), (1, zqC p1), (2, zqC p2), (7, .int .u8 p0)] zqp fun j => ?_)
 refine zO (za hO [] [(0, .int .u8 p0), (1, zqC p1), (2, zqC p2), (7, .int .u8 p0), (8, .bool (p0 == 1))] zqq fun j => ?_)
 refine z2 ?_
 rcases zi hF with ⟨hb4, hF⟩ | ⟨hb4, hF⟩
 ·refine zl (congrArg Value.bool hb4) ?_
  refine ze (za hO [] [(6, zqC (IntKind.i64.wrap (p1 + p2)))] zqm fun j => ?_)
  refine zz (zJ (zE ?_))
  injection hF with hF
  subst hF
  exact (hQ _ _ _ _ _ rfl hO hL ⟨rfl, rfl⟩).1
 ·refine zk (congrArg Value.bool hb4) ?_
  refine ze (za hO [] [(0, .int .u8 p0), (1, zqC p1), (2, zqC p2), (7, .int .u8 p0), (13, .bool (p0 == 2))] zqq fun j => ?_)
  rcases zi hF with ⟨hb5, hF⟩ | ⟨hb5, hF⟩
  ·refine zl (congrArg Value.bool hb5) ?_
   refine ze (za hO [] [(6, zqC (IntKind.i64.wrap (p1 - p2)))] zqm fun j => ?_)
   refine zz (zJ (zE ?_))
   injection hF with hF
   subst hF
   exact (hQ _ _ _ _ _ rfl hO hL ⟨rfl, rfl⟩).1
  ·refine zk (congrArg Value.bool hb5) ?_
   refine ze (za hO [] [(0, .int .u8 p0), (1, zqC p1), (2, zqC p2), (7, .int .u8 p0), (18, .bool (p0 == 3))] zqq fun j => ?_)
   rcases zi hF with ⟨hb6, hF⟩ | ⟨hb6, hF⟩
   ·refine zl (congrArg Value.bool hb6) ?_
    refine ze (za hO [] [(6, zqC (IntKind.i64.wrap (p1 * p2)))] zqm fun j => ?_)
    refine zz (zJ (zE ?_))
    injection hF with hF
    subst hF
    exact (hQ _ _ _ _ _ rfl hO hL ⟨rfl, rfl⟩).1
   ·refine zk (congrArg Value.bool hb6) ?_
    refine ze (ze (za hO [] [(0, .int .u8 p0), (1, zqC p1), (2, zqC p2), (7, .int .u8 p0), (23, .bool (p0 == 4))] zqq fun j => ?_))
    refine zbK (fun e' σ' => ∃ (x8 : Bool) (τ' : Hp), agr [(0, .int .u8 p0), (1, zqC p1), (2, zqC p2), (7, .int .u8 p0), (23, .bool x8)] e' ∧ Obs τ' σ' [] ∧ Hp.le τ τ' ∧ zeE p0 p1 p2 x8 = some rr) ?_ ?_
    ·refine z2 ?_
     rcases zi hF with ⟨hb49, hF⟩ | ⟨hb49, hF⟩
     ·refine zl (congrArg Value.bool hb49) ?_
      refine zv (zg (zn ?_))
      exact ⟨(p0 == 4), _, zqB zqp, hO, hL, hF⟩
     ·refine zk (congrArg Value.bool hb49) ?_
      refine za hO [] [(0, .int .u8 p0), (1, zqC p1), (2, zqC p2), (7, .int .u8 p0), (23, .bool (p0 == 5))] zqq fun j => ?_
      refine zg (zn ?_)
      exact ⟨(p0 == 5), _, zqB zqp, hO, hL, hF⟩
    ·rintro e σ ⟨x8, _, hA, hO, hL, hF⟩
     rw [← zC _ _ hA]
     unfold zeE at hF
     rcases zi hF with ⟨hb9, hF⟩ | ⟨hb9, hF⟩
     ·refine zl (congrArg Value.bool hb9) ?_
      refine ze (zb hO 3 [] [(26, .int .u8 p0), (27, zqC p1), (28, zqC p2)] zqo fun j => ?_)
      rcases z9 hF with ⟨x14, h15, hF⟩ | ⟨c10, h11, hF⟩
      ·refine zco hO (zkk h15) (fun _ _ _ h => False.elim h) rfl fun _ σ _ _ hO h16 h17 => ?_
       have hL := hL.trans h16
       obtain ⟨rfl, rfl⟩ := h17
       have hO : Obs _ _ [] := hO
       injection hF with hF
       subst hF
       exact hP _ _ _ _ hO hL ⟨rfl, rfl⟩
      ·refine zcg hO (zkk h11) (fun _ _ _ h => False.elim h) rfl fun _ σ _ _ hO h12 h13 => ?_
       have hL := hL.trans h12
       obtain ⟨rfl, rfl⟩ := h13
       have hO : Obs _ _ [] := hO
       refine za hO [] [(6, zqC c10)] zqm fun j => ?_
       refine zz (zJ (zE ?_))
       injection hF with hF
       subst hF
       exact (hQ _ _ _ _ _ rfl hO hL ⟨rfl, rfl⟩).1
     ·refine zk (congrArg Value.bool hb9) ?_
      refine ze (za hO [] [(1, zqC p1), (2, zqC p2), (7, .int .u8 p0), (30, .bool (p0 == 6))] zqp fun j => ?_)
      rcases zi hF with ⟨hb18, hF⟩ | ⟨hb18, hF⟩
      ·refine zl (congrArg Value.bool hb18) ?_
       refine ze (zb hO 3 [] [(34, .bool (p1 == p2))] zqm fun j => ?_)
       obtain ⟨c19, h20, hF⟩ := bind_some hF
       refine zr hO (zdQ h20) rfl fun _ σ _ _ hO h21 h22 => ?_
       have hL := hL.trans h21
       obtain ⟨rfl, rfl⟩ := h22
       have hO : Obs _ _ [] := hO
       refine za hO [] [(6, zqC c19)] zqm fun j => ?_
       refine zz (zJ (zE ?_))
       injection hF with hF
       subst hF
       exact (hQ _ _ _ _ _ rfl hO hL ⟨rfl, rfl⟩).1
      ·refine zk (congrArg Value.bool hb18) ?_
       refine ze (za hO [] [(1, zqC p1), (2, zqC p2), (7, .int .u8 p0), (36, .bool (p0 == 7))] zqp fun j => ?_)
       rcases zi hF with ⟨hb23, hF⟩ | ⟨hb23, hF⟩
       ·refine zl (congrArg Value.bool hb23) ?_
        refine ze (zb hO 3 [] [(40, .bool (p1 != p2))] zqm fun j => ?_)
        obtain ⟨c24, h25, hF⟩ := bind_some hF
        refine zr hO (zdQ h25) rfl fun _ σ _ _ hO h26 h27 => ?_
        have hL := hL.trans h26
        obtain ⟨rfl, rfl⟩ := h27
        have hO : Obs _ _ [] := hO
        refine za hO [] [(6, zqC c24)] zqm fun j => ?_
        refine zz (zJ (zE ?_))
        injection hF with hF
        subst hF
        exact (hQ _ _ _ _ _ rfl hO hL ⟨rfl, rfl⟩).1
       ·refine zk (congrArg Value.bool hb23) ?_
        refine ze (za hO [] [(1, zqC p1), (2, zqC p2), (7, .int .u8 p0), (42, .bool (p0 == 8))] zqp fun j => ?_)
        rcases zi hF with ⟨hb28, hF⟩ | ⟨hb28, hF⟩
        ·refine zl (congrArg Value.bool hb28) ?_
         refine ze (zb hO 3 [] [(46, .bool (decide (p1 < p2)))] zqm fun j => ?_)
         obtain ⟨c29, h30, hF⟩ := bind_some hF
         refine zr hO (zdQ h30) rfl fun _ σ _ _ hO h31 h32 => ?_
         have hL := hL.trans h31
         obtain ⟨rfl, rfl⟩ := h32
         have hO : Obs _ _ [] := hO
         refine za hO [] [(6, zqC c29)] zqm fun j => ?_
         refine zz (zJ (zE ?_))
         injection hF with hF
         subst hF
         exact (hQ _ _ _ _ _ rfl hO hL ⟨rfl, rfl⟩).1
        ·refine zk (congrArg Value.bool hb28) ?_
         refine ze (za hO [] [(1, zqC p1), (2, zqC p2), (7, .int .u8 p0), (48, .bool (p0 == 9))] zqp fun j => ?_)
         rcases zi hF with ⟨hb33, hF⟩ | ⟨hb33, hF⟩
         ·refine zl (congrArg Value.bool hb33) ?_
          refine ze (zb hO 3 [] [(52, .bool (decide (p1 ≤ p2)))] zqm fun j => ?_)
          obtain ⟨c34, h35, hF⟩ := bind_some hF
          refine zr hO (zdQ h35) rfl fun _ σ _ _ hO h36 h37 => ?_
          have hL := hL.trans h36
          obtain ⟨rfl, rfl⟩ := h37
          have hO : Obs _ _ [] := hO
          refine za hO [] [(6, zqC c34)] zqm fun j => ?_
          refine zz (zJ (zE ?_))
          injection hF with hF
          subst hF
          exact (hQ _ _ _ _ _ rfl hO hL ⟨rfl, rfl⟩).1
         ·refine zk (congrArg Value.bool hb33) ?_
          refine ze (za hO [] [(1, zqC p1), (2, zqC p2), (7, .int .u8 p0), (54, .bool (p0 == 10))] zqp fun j => ?_)
          rcases zi hF with ⟨hb38, hF⟩ | ⟨hb38, hF⟩
          ·refine zl (congrArg Value.bool hb38) ?_
           refine ze (zb hO 3 [] [(58, .bool (decide (p1 > p2)))] zqm fun j => ?_)
           obtain ⟨c39, h40, hF⟩ := bind_some hF
           refine zr hO (zdQ h40) rfl fun _ σ _ _ hO h41 h42 => ?_
           have hL := hL.trans h41
           obtain ⟨rfl, rfl⟩ := h42
           have hO : Obs _ _ [] := hO
           refine za hO [] [(6, zqC c39)] zqm fun j => ?_
           refine zz (zJ (zE ?_))
           injection hF with hF
           subst hF
           exact (hQ _ _ _ _ _ rfl hO hL ⟨rfl, rfl⟩).1
          ·refine zk (congrArg Value.bool hb38) ?_
           refine ze (za hO [] [(1, zqC p1), (2, zqC p2), (7, .int .u8 p0), (60, .bool (p0 == 11))] zqp fun j => ?_)
           rcases zi hF with ⟨hb43, hF⟩ | ⟨hb43, hF⟩
           ·refine zl (congrArg Value.bool hb43) ?_
            refine ze (zb hO 3 [] [(64, .bool (decide (p1 ≥ p2)))] zqm fun j => ?_)
            obtain ⟨c44, h45, hF⟩ := bind_some hF
            refine zr hO (zdQ h45) rfl fun _ σ _ _ hO h46 h47 => ?_
            have hL := hL.trans h46
            obtain ⟨rfl, rfl⟩ := h47
            have hO : Obs _ _ [] := hO
            refine za hO [] [(6, zqC c44)] zqm fun j => ?_
            refine zz (zJ (zE ?_))
            injection hF with hF
            subst hF
            exact (hQ _ _ _ _ _ rfl hO hL ⟨rfl, rfl⟩).1
           ·refine zk (congrArg Value.bool hb43) ?_
            refine ze (za hO [] [(1, zqC p1), (2, zqC p2), (66, .bool (p0 == 12))] zqo fun j => ?_)
            rcases zi hF with ⟨hb48, hF⟩ | ⟨hb48, hF⟩
            ·refine zl (congrArg Value.bool hb48) ?_
             refine ze (za hO [] [(6, zqC (zca .i64 p1 p2))] zqm fun j => ?_)
             refine zz (zJ (zE ?_))
             injection hF with hF
             subst hF
             exact (hQ _ _ _ _ _ rfl hO hL ⟨rfl, rfl⟩).1
            ·refine zk (congrArg Value.bool hb48) ?_
             refine zv (zg (zK (zn (za hO [] [(6, zqC (orI .i64 p1 p2))] zqm fun j => ?_))))
             refine zp ?_
             injection hF with hF
             subst hF
             exact (hQ _ _ _ _ _ rfl hO hL ⟨rfl, rfl⟩).1
end Go.Proofs.YtgkllgoelpfdkaaGreat
