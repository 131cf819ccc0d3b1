import Derived.Test.YtgkllgoelpfdkaaGreatG0
namespace Go.Proofs.YtgkllgoelpfdkaaGreat
open Go.Ab Go.RowKit
set_option linter.unusedVariables false
set_option linter.unusedSimpArgs false
set_option maxRecDepth 10000
set_option maxHeartbeats 1000000
theorem zkQ {τ : Hp} {p0 : Int}  {rr : (List zx) × Bool} (hF : zeK p0 = some rr) :
  Ctr Tryz.prog 60 #[.int .u8 p0] τ [] (fun v τ' vs' => ∃ (v0 : Value) (o0 : Ob), v = .tuple #[v0, .bool rr.2] ∧ vs' = [o0] ∧ zd zbV 104 τ' v0 rr.1 o0) := by
 refine zw (args := [.int .u8 p0]) hm Tryz.func60 s60 rfl fun w0 σ hO Q hQ => ?_
 unfold zeK at hF
 have hL := Hp.le.refl τ
 show wpn _ _ a60.body _ _ _
 unfold a60
 dsimp only
 refine za hO [] [(0, .int .u8 p0)] zqz fun j => ?_
 refine za hO [] [(0, .int .u8 p0), (4, .func (.func 73) #[] #[])] zqA fun j => ?_
 refine zf (za hO [] [(4, .func (.func 73) #[] #[]), (5, .int .u8 p0)] zqA fun j => ?_)
 refine zO (zf (za hO [] [(4, .func (.func 73) #[] #[]), (5, .int .u8 p0), (6, .bool (p0 == 1))] zqB fun j => ?_))
 refine zbL (fun e' σ' => ∃ (x3 : Bool) (τ' : Hp), agr [(4, .func (.func 73) #[] #[]), (5, .int .u8 p0), (6, .bool x3)] e' ∧ Obs τ' σ' [] ∧ Hp.le τ τ' ∧ zge p0 x3 = some rr) ?_ ?_
 ·refine z8 ?_
  rcases zi hF with ⟨hb354, hF⟩ | ⟨hb354, hF⟩
  ·refine zl (congrArg Value.bool hb354) ?_
   refine zr (zg (zn ?_))
   exact ⟨(p0 == 1), _, zqO zqA, hO, hL, hF⟩
  ·refine zj (congrArg Value.bool hb354) ?_
   refine za hO [] [(4, .func (.func 73) #[] #[]), (5, .int .u8 p0), (6, .bool (p0 == 13))] zqB fun j => ?_
   refine zg (zn ?_)
   exact ⟨(p0 == 13), _, zqO zqA, hO, hL, hF⟩
 ·rintro e σ ⟨x3, _, hA, hO, hL, hF⟩
  rw [← zB _ _ hA]
  unfold zge at hF
  refine z8 ?_
  rcases zi hF with ⟨hb4, hF⟩ | ⟨hb4, hF⟩
  ·refine zl (congrArg Value.bool hb4) ?_
   refine zf (za hO [] [(2, .slice none 0 0), (3, .bool true)] zqA fun j => ?_)
   refine zA (zR (zJ ?_))
   have hO := hO.no
   have hO : Obs _ _ [_] := hO
   injection hF with hF
   subst hF
   exact hQ _ _ _ _ _ rfl hO hL ⟨_, _, rfl, rfl, (zd.nil _ _ _)⟩
  ·refine zj (congrArg Value.bool hb4) ?_
   refine zf (za hO [] [(4, .func (.func 73) #[] #[]), (5, .int .u8 p0), (9, .bool (p0 == 2))] zqB fun j => ?_)
   rcases zi hF with ⟨hb5, hF⟩ | ⟨hb5, hF⟩
   ·refine zl (congrArg Value.bool hb5) ?_
    refine zf ?_
    obtain ⟨c6, h7, hF⟩ := bind_some hF
    refine zs hO (ziC h7) rfl fun _ σ _ _ hO h8 h9 => ?_
    have hL := hL.trans h8
    obtain ⟨f11, a12, c13, f14, a15, c16, f17, a18, c19, rfl, rfl, r10⟩ := h9
    have hO : Obs _ _ [] := hO
    refine zb hO 1 [] [(11, .agg #[(.func f11 a12 c13), (.func f14 a15 c16), (.func f17 a18 c19)]), (12, .func (.func 73) #[] #[])] zqA fun j => ?_
    obtain ⟨c20, h21, hF⟩ := bind_some hF
    refine zs hO (znS h21) rfl fun _ σ _ _ hO h22 h23 => ?_
    have hL := hL.trans h22
    have r10 := r10.le h22
    obtain ⟨f25, a26, c27, f28, a29, c30, f31, a32, c33, rfl, rfl, r24⟩ := h23
    have hO : Obs _ _ [] := hO
    refine zby (T := zbV) (l := ([c6, c20] : List zx)) (cs := [.func f11 a12 c13, .func f14 a15 c16, .func f17 a18 c19, .func f25 a26 c27, .func f28 a29 c30, .func f31 a32 c33]) hO rfl ⟨[.func f11 a12 c13, .func f14 a15 c16, .func f17 a18 c19], _, rfl, ⟨_, _, _, _, _, _, _, _, _, rfl, r10⟩, ⟨[.func f25 a26 c27, .func f28 a29 c30, .func f31 a32 c33], _, rfl, ⟨_, _, _, _, _, _, _, _, _, rfl, r24⟩, rfl⟩⟩ rfl (by decide) fun _ σ o36 w37 hO => ?_
    obtain ⟨A34, c35, rfl, -⟩ := w37.form
    have hO : Obs _ _ [_] := hO
    refine za hO [] [(2, .slice A34 ([c6, c20] : List zx).length c35), (3, .bool true)] zqA fun j => ?_
    refine zA (zR (zJ ?_))
    injection hF with hF
    subst hF
    exact hQ _ _ _ _ _ rfl hO hL ⟨_, _, rfl, rfl, w37⟩
   ·refine zj (congrArg Value.bool hb5) ?_
    refine zf (za hO [] [(5, .int .u8 p0), (15, .bool (p0 == 3))] zqA fun j => ?_)
    rcases zi hF with ⟨hb38, hF⟩ | ⟨hb38, hF⟩
    ·refine zl (congrArg Value.bool hb38) ?_
     refine zf ?_
     obtain ⟨c39, h40, hF⟩ := bind_some hF
     refine zs hO (zfb h40) rfl fun _ σ _ _ hO h41 h42 => ?_
     have hL := hL.trans h41
     obtain ⟨f44, a45, c46, f47, a48, c49, f50, a51, c52, rfl, rfl, r43⟩ := h42
     have hO : Obs _ _ [] := hO
     refine zby (T := zbV) (l := ([c39] : List zx)) (cs := [.func f44 a45 c46, .func f47 a48 c49, .func f50 a51 c52]) hO rfl ⟨[.func f44 a45 c46, .func f47 a48 c49, .func f50 a51 c52], _, rfl, ⟨_, _, _, _, _, _, _, _, _, rfl, r43⟩, rfl⟩ rfl (by decide) fun _ σ o55 w56 hO => ?_
     obtain ⟨A53, c54, rfl, -⟩ := w56.form
     have hO : Obs _ _ [_] := hO
     refine za hO [] [(2, .slice A53 ([c39] : List zx).length c54), (3, .bool true)] zqA fun j => ?_
     refine zA (zR (zJ ?_))
     injection hF with hF
     subst hF
     exact hQ _ _ _ _ _ rfl hO hL ⟨_, _, rfl, rfl, w56⟩
    ·refine zj (congrArg Value.bool hb38) ?_
     refine zf (za hO [] [(5, .int .u8 p0), (19, .bool (p0 == 4))] zqA fun j => ?_)
     rcases zi hF with ⟨hb57, hF⟩ | ⟨hb57, hF⟩
     ·refine zl (congrArg Value.bool hb57) ?_
      refine zf ?_
      obtain ⟨c58, h59, hF⟩ := bind_some hF
      refine zs hO (zk6 h59) rfl fun _ σ _ _ hO h60 h61 => ?_
      have hL := hL.trans h60
      obtain ⟨f63, a64, c65, f66, a67, c68, f69, a70, c71, rfl, rfl, r62⟩ := h61
      have hO : Obs _ _ [] := hO
      obtain ⟨c72, h73, hF⟩ := bind_some hF
      refine zs hO (zfb h73) rfl fun _ σ _ _ hO h74 h75 => ?_
      have hL := hL.trans h74
      have r62 := r62.le h74
      obtain ⟨f77, a78, c79, f80, a81, c82, f83, a84, c85, rfl, rfl, r76⟩ := h75
      have hO : Obs _ _ [] := hO
      obtain ⟨c86, h87, hF⟩ := bind_some hF
      refine zs hO (zkq h87) rfl fun _ σ _ _ hO h88 h89 => ?_
      have hL := hL.trans h88
      have r62 := r62.le h88
      have r76 := r76.le h88
      obtain ⟨f91, a92, c93, f94, a95, c96, f97, a98, c99, rfl, rfl, r90⟩ := h89
      have hO : Obs _ _ [] := hO
      refine zby (T := zbV) (l := ([c58, c72, c86] : List zx)) (cs := [.func f63 a64 c65, .func f66 a67 c68, .func f69 a70 c71, .func f77 a78 c79, .func f80 a81 c82, .func f83 a84 c85, .func f91 a92 c93, .func f94 a95 c96, .func f97 a98 c99]) hO rfl ⟨[.func f63 a64 c65, .func f66 a67 c68, .func f69 a70 c71], _, rfl, ⟨_, _, _, _, _, _, _, _, _, rfl, r62⟩, ⟨[.func f77 a78 c79, .func f80 a81 c82, .func f83 a84 c85], _, rfl, ⟨_, _, _, _, _, _, _, _, _, rfl, r76⟩, ⟨[.func f91 a92 c93, .func f94 a95 c96, .func f97 a98 c99], _, rfl, ⟨_, _, _, _, _, _, _, _, _, rfl, r90⟩, rfl⟩⟩⟩ rfl (by decide) fun _ σ o102 w103 hO => ?_
      obtain ⟨A100, c101, rfl, -⟩ := w103.form
      have hO : Obs _ _ [_] := hO
      refine za hO [] [(2, .slice A100 ([c58, c72, c86] : List zx).length c101), (3, .bool true)] zqA fun j => ?_
      refine zA (zR (zJ ?_))
      injection hF with hF
      subst hF
      exact hQ _ _ _ _ _ rfl hO hL ⟨_, _, rfl, rfl, w103⟩
     ·refine zj (congrArg Value.bool hb57) ?_
      refine zf (za hO [] [(5, .int .u8 p0), (25, .bool (p0 == 5))] zqA fun j => ?_)
      rcases zi hF with ⟨hb104, hF⟩ | ⟨hb104, hF⟩
      ·refine zl (congrArg Value.bool hb104) ?_
       refine zf ?_
       obtain ⟨c105, h106, hF⟩ := bind_some hF
       refine zs hO (zk6 h106) rfl fun _ σ _ _ hO h107 h108 => ?_
       have hL := hL.trans h107
       obtain ⟨f110, zem, c112, f113, zeU, c115, f116, zb6, c118, rfl, rfl, r109⟩ := h108
       have hO : Obs _ _ [] := hO
       obtain ⟨c119, h120, hF⟩ := bind_some hF
       refine zs hO (zfb h120) rfl fun _ σ _ _ hO h121 h122 => ?_
       have hL := hL.trans h121
       have r109 := r109.le h121
       obtain ⟨f124, zdl, c126, f127, zdU, c129, f130, a131, c132, rfl, rfl, r123⟩ := h122
       have hO : Obs _ _ [] := hO
       refine zby (T := zbV) (l := ([c105, c119] : List zx)) (cs := [.func f110 zem c112, .func f113 zeU c115, .func f116 zb6 c118, .func f124 zdl c126, .func f127 zdU c129, .func f130 a131 c132]) hO rfl ⟨[.func f110 zem c112, .func f113 zeU c115, .func f116 zb6 c118], _, rfl, ⟨_, _, _, _, _, _, _, _, _, rfl, r109⟩, ⟨[.func f124 zdl c126, .func f127 zdU c129, .func f130 a131 c132], _, rfl, ⟨_, _, _, _, _, _, _, _, _, rfl, r123⟩, rfl⟩⟩ rfl (by decide) fun _ σ o135 w136 hO => ?_
       obtain ⟨A133, c134, rfl, -⟩ := w136.form
       have hO : Obs _ _ [_] := hO
       refine za hO [] [(2, .slice A133 ([c105, c119] : List zx).length c134), (3, .bool true)] zqA fun j => ?_
       refine zA (zR (zJ ?_))
       injection hF with hF
       subst hF
       exact hQ _ _ _ _ _ rfl hO hL ⟨_, _, rfl, rfl, w136⟩
      ·refine zj (congrArg Value.bool hb104) ?_
       refine zf (zf (za hO [] [(5, .int .u8 p0), (30, .bool (p0 == 6))] zqA fun j => ?_))
       refine zbL (fun e' σ' => ∃ (x138 : Bool) (τ' : Hp), agr [(5, .int .u8 p0), (30, .bool x138)] e' ∧ Obs τ' σ' [] ∧ Hp.le τ τ' ∧ zgP p0 x138 = some rr) ?_ ?_
       ·refine z8 ?_
        rcases zi hF with ⟨hb353, hF⟩ | ⟨hb353, hF⟩
        ·refine zl (congrArg Value.bool hb353) ?_
         refine zr (zg (zn ?_))
         exact ⟨(p0 == 6), _, zqO zqz, hO, hL, hF⟩
        ·refine zj (congrArg Value.bool hb353) ?_
         refine za hO [] [(5, .int .u8 p0), (30, .bool (p0 == 7))] zqA fun j => ?_
         refine zg (zn ?_)
         exact ⟨(p0 == 7), _, zqO zqz, hO, hL, hF⟩
       ·rintro e σ ⟨x138, _, hA, hO, hL, hF⟩
        rw [← zB _ _ hA]
        unfold zgP at hF
        rcases zi hF with ⟨hb139, hF⟩ | ⟨hb139, hF⟩
        ·refine zl (congrArg Value.bool hb139) ?_
         refine zf ?_
         obtain ⟨c140, h141, hF⟩ := bind_some hF
         refine zs hO (zfb h141) rfl fun _ σ _ _ hO h142 h143 => ?_
         have hL := hL.trans h142
         obtain ⟨f145, a146, c147, f148, a149, c150, f151, a152, c153, rfl, rfl, r144⟩ := h143
         have hO : Obs _ _ [] := hO
         obtain ⟨c154, h155, hF⟩ := bind_some hF
         refine zs hO (zi9 h155) rfl fun _ σ _ _ hO h156 h157 => ?_
         have hL := hL.trans h156
         have r144 := r144.le h156
         obtain ⟨f159, a160, c161, f162, a163, c164, f165, a166, c167, rfl, rfl, r158⟩ := h157
         have hO : Obs _ _ [] := hO
         refine zby (T := zbV) (l := ([c140, c154] : List zx)) (cs := [.func f145 a146 c147, .func f148 a149 c150, .func f151 a152 c153, .func f159 a160 c161, .func f162 a163 c164, .func f165 a166 c167]) hO rfl ⟨[.func f145 a146 c147, .func f148 a149 c150, .func f151 a152 c153], _, rfl, ⟨_, _, _, _, _, _, _, _, _, rfl, r144⟩, ⟨[.func f159 a160 c161, .func f162 a163 c164, .func f165 a166 c167], _, rfl, ⟨_, _, _, _, _, _, _, _, _, rfl, r158⟩, rfl⟩⟩ rfl (by decide) fun _ σ o170 w171 hO => ?_
         obtain ⟨A168, c169, rfl, -⟩ := w171.form
         have hO : Obs _ _ [_] := hO
         refine za hO [] [(2, .slice A168 ([c140, c154] : List zx).length c169), (3, .bool true)] zqA fun j => ?_
         refine zA (zR (zJ ?_))
         injection hF with hF
         subst hF
         exact hQ _ _ _ _ _ rfl hO hL ⟨_, _, rfl, rfl, w171⟩
        ·refine zj (congrArg Value.bool hb139) ?_
         refine zf (zf (za hO [] [(5, .int .u8 p0), (36, .bool (p0 == 8))] zqA fun j => ?_))
         refine zbL (fun e' σ' => ∃ (x173 : Bool) (τ' : Hp), agr [(5, .int .u8 p0), (36, .bool x173)] e' ∧ Obs τ' σ' [] ∧ Hp.le τ τ' ∧ zfR p0 x173 = some rr) ?_ ?_
         ·refine z8 ?_
          rcases zi hF with ⟨hb352, hF⟩ | ⟨hb352, hF⟩
          ·refine zl (congrArg Value.bool hb352) ?_
           refine zr (zg (zn ?_))
           exact ⟨(p0 == 8), _, zqO zqz, hO, hL, hF⟩
          ·refine zj (congrArg Value.bool hb352) ?_
           refine za hO [] [(5, .int .u8 p0), (36, .bool (p0 == 9))] zqA fun j => ?_
           refine zg (zn ?_)
           exact ⟨(p0 == 9), _, zqO zqz, hO, hL, hF⟩
         ·rintro e σ ⟨x173, _, hA, hO, hL, hF⟩
          rw [← zB _ _ hA]
          unfold zfR at hF
          rcases zi hF with ⟨hb174, hF⟩ | ⟨hb174, hF⟩
          ·refine zl (congrArg Value.bool hb174) ?_
           refine zf ?_
           obtain ⟨c175, h176, hF⟩ := bind_some hF
           refine zs hO (zfb h176) rfl fun _ σ _ _ hO h177 h178 => ?_
           have hL := hL.trans h177
           obtain ⟨f180, a181, c182, f183, a184, c185, f186, a187, c188, rfl, rfl, r179⟩ := h178
           have hO : Obs _ _ [] := hO
           obtain ⟨c189, h190, hF⟩ := bind_some hF
           refine zs hO (zkq h190) rfl fun _ σ _ _ hO h191 h192 => ?_
           have hL := hL.trans h191
           have r179 := r179.le h191
           obtain ⟨f194, a195, c196, f197, a198, c199, f200, a201, c202, rfl, rfl, r193⟩ := h192
           have hO : Obs _ _ [] := hO
           obtain ⟨c203, h204, hF⟩ := bind_some hF
           refine zs hO (zi9 h204) rfl fun _ σ _ _ hO h205 h206 => ?_
           have hL := hL.trans h205
           have r179 := r179.le h205
           have r193 := r193.le h205
           obtain ⟨f208, a209, c210, f211, a212, c213, f214, a215, c216, rfl, rfl, r207⟩ := h206
           have hO : Obs _ _ [] := hO
           obtain ⟨c217, h218, hF⟩ := bind_some hF
           refine zs hO (zpo h218) rfl fun _ σ _ _ hO h219 h220 => ?_
           have hL := hL.trans h219
           have r179 := r179.le h219
           have r193 := r193.le h219
           have r207 := r207.le h219
           obtain ⟨f222, a223, c224, f225, a226, c227, f228, a229, c230, rfl, rfl, r221⟩ := h220
           have hO : Obs _ _ [] := hO
           refine zby (T := zbV) (l := ([c175, c189, c203, c217] : List zx)) (cs := [.func f180 a181 c182, .func f183 a184 c185, .func f186 a187 c188, .func f194 a195 c196, .func f197 a198 c199, .func f200 a201 c202, .func f208 a209 c210, .func f211 a212 c213, .func f214 a215 c216, .func f222 a223 c224, .func f225 a226 c227, .func f228 a229 c230]) hO rfl ⟨[.func f180 a181 c182, .func f183 a184 c185, .func f186 a187 c188], _, rfl, ⟨_, _, _, _, _, _, _, _, _, rfl, r179⟩, ⟨[.func f194 a195 c196, .func f197 a198 c199, .func f200 a201 c202], _, rfl, ⟨_, _, _, _, _, _, _, _, _, rfl, r193⟩, ⟨[.func f208 a209 c210, .func f211 a212 c213, .func f214 a215 c216], _, rfl, ⟨_, _, _, _, _, _, _, _, _, rfl, r207⟩, ⟨[.func f222 a223 c224, .func f225 a226 c227, .func f228 a229 c230], _, rfl, ⟨_, _, _, _, _, _, _, _, _, rfl, r221⟩, rfl⟩⟩⟩⟩ rfl (by decide) fun _ σ o233 w234 hO => ?_
           obtain ⟨A231, c232, rfl, -⟩ := w234.form
           have hO : Obs _ _ [_] := hO
           refine za hO [] [(2, .slice A231 ([c175, c189, c203, c217] : List zx).length c232), (3, .bool true)] zqA fun j => ?_
           refine zA (zR (zJ ?_))
           injection hF with hF
           subst hF
           exact hQ _ _ _ _ _ rfl hO hL ⟨_, _, rfl, rfl, w234⟩
          ·refine zj (congrArg Value.bool hb174) ?_
           refine zf (zf (za hO [] [(5, .int .u8 p0), (44, .bool (p0 == 10))] zqA fun j => ?_))
           refine zbL (fun e' σ' => ∃ (x236 : Bool) (τ' : Hp), agr [(5, .int .u8 p0), (44, .bool x236)] e' ∧ Obs τ' σ' [] ∧ Hp.le τ τ' ∧ zgx p0 x236 = some rr) ?_ ?_
           ·refine z8 ?_
            rcases zi hF with ⟨hb351, hF⟩ | ⟨hb351, hF⟩
            ·refine zl (congrArg Value.bool hb351) ?_
             refine zr (zg (zn ?_))
             exact ⟨(p0 == 10), _, zqO zqz, hO, hL, hF⟩
            ·refine zj (congrArg Value.bool hb351) ?_
             refine za hO [] [(5, .int .u8 p0), (44, .bool (p0 == 12))] zqA fun j => ?_
             refine zg (zn ?_)
             exact ⟨(p0 == 12), _, zqO zqz, hO, hL, hF⟩
           ·rintro e σ ⟨x236, _, hA, hO, hL, hF⟩
            rw [← zB _ _ hA]
            unfold zgx at hF
            rcases zi hF with ⟨hb237, hF⟩ | ⟨hb237, hF⟩
            ·refine zl (congrArg Value.bool hb237) ?_
             refine zf ?_
             obtain ⟨c238, h239, hF⟩ := bind_some hF
             refine zs hO (zkX h239) rfl fun _ σ _ _ hO h240 h241 => ?_
             have hL := hL.trans h240
             obtain ⟨f243, a244, c245, f246, a247, c248, f249, a250, c251, rfl, rfl, r242⟩ := h241
             have hO : Obs _ _ [] := hO
             refine zby (T := zbV) (l := ([c238] : List zx)) (cs := [.func f243 a244 c245, .func f246 a247 c248, .func f249 a250 c251]) hO rfl ⟨[.func f243 a244 c245, .func f246 a247 c248, .func f249 a250 c251], _, rfl, ⟨_, _, _, _, _, _, _, _, _, rfl, r242⟩, rfl⟩ rfl (by decide) fun _ σ o254 w255 hO => ?_
             obtain ⟨A252, c253, rfl, -⟩ := w255.form
             have hO : Obs _ _ [_] := hO
             refine za hO [] [(2, .slice A252 ([c238] : List zx).length c253), (3, .bool true)] zqA fun j => ?_
             refine zA (zR (zJ ?_))
             injection hF with hF
             subst hF
             exact hQ _ _ _ _ _ rfl hO hL ⟨_, _, rfl, rfl, w255⟩
            ·refine zj (congrArg Value.bool hb237) ?_
             refine zf (za hO [] [(5, .int .u8 p0), (49, .bool (p0 == 11))] zqA fun j => ?_)
             rcases zi hF with ⟨hb256, hF⟩ | ⟨hb256, hF⟩
             ·refine zl (congrArg Value.bool hb256) ?_
              refine zf ?_
              obtain ⟨c257, h258, hF⟩ := bind_some hF
              refine zs hO (ziC h258) rfl fun _ σ _ _ hO h259 h260 => ?_
              have hL := hL.trans h259
              obtain ⟨f262, a263, c264, f265, a266, c267, f268, a269, c270, rfl, rfl, r261⟩ := h260
              have hO : Obs _ _ [] := hO
              obtain ⟨c271, h272, hF⟩ := bind_some hF
              refine zs hO (zkX h272) rfl fun _ σ _ _ hO h273 h274 => ?_
              have hL := hL.trans h273
              have r261 := r261.le h273
              obtain ⟨f276, a277, c278, f279, a280, c281, f282, a283, c284, rfl, rfl, r275⟩ := h274
              have hO : Obs _ _ [] := hO
              refine zby (T := zbV) (l := ([c257, c271] : List zx)) (cs := [.func f262 a263 c264, .func f265 a266 c267, .func f268 a269 c270, .func f276 a277 c278, .func f279 a280 c281, .func f282 a283 c284]) hO rfl ⟨[.func f262 a263 c264, .func f265 a266 c267, .func f268 a269 c270], _, rfl, ⟨_, _, _, _, _, _, _, _, _, rfl, r261⟩, ⟨[.func f276 a277 c278, .func f279 a280 c281, .func f282 a283 c284], _, rfl, ⟨_, _, _, _, _, _, _, _, _, rfl, r275⟩, rfl⟩⟩ rfl (by decide) fun _ σ o287 w288 hO => ?_
              obtain ⟨A285, c286, rfl, -⟩ := w288.form
              have hO : Obs _ _ [_] := hO
              refine za hO [] [(2, .slice A285 ([c257, c271] : List zx).length c286), (3, .bool true)] zqA fun j => ?_
              refine zA (zR (zJ ?_))
              injection hF with hF
              subst hF
              exact hQ _ _ _ _ _ rfl hO hL ⟨_, _, rfl, rfl, w288⟩
             ·refine zj (congrArg Value.bool hb256) ?_
              refine zf (za hO [] [(5, .int .u8 p0), (54, .bool (p0 == 14))] zqA fun j => ?_)
              rcases zi hF with ⟨hb289, hF⟩ | ⟨hb289, hF⟩
              ·refine zl (congrArg Value.bool hb289) ?_
               refine zf ?_
               obtain ⟨c290, h291, hF⟩ := bind_some hF
               refine zs hO (zi9 h291) rfl fun _ σ _ _ hO h292 h293 => ?_
               have hL := hL.trans h292
               obtain ⟨f295, a296, c297, f298, a299, c300, f301, a302, c303, rfl, rfl, r294⟩ := h293
               have hO : Obs _ _ [] := hO
               refine zby (T := zbV) (l := ([c290] : List zx)) (cs := [.func f295 a296 c297, .func f298 a299 c300, .func f301 a302 c303]) hO rfl ⟨[.func f295 a296 c297, .func f298 a299 c300, .func f301 a302 c303], _, rfl, ⟨_, _, _, _, _, _, _, _, _, rfl, r294⟩, rfl⟩ rfl (by decide) fun _ σ o306 w307 hO => ?_
               obtain ⟨A304, c305, rfl, -⟩ := w307.form
               have hO : Obs _ _ [_] := hO
               refine za hO [] [(2, .slice A304 ([c290] : List zx).length c305), (3, .bool true)] zqA fun j => ?_
               refine zA (zR (zJ ?_))
               injection hF with hF
               subst hF
               exact hQ _ _ _ _ _ rfl hO hL ⟨_, _, rfl, rfl, w307⟩
              ·refine zj (congrArg Value.bool hb289) ?_
               refine zf (zf (za hO [] [(5, .int .u8 p0), (58, .bool (p0 == 15))] zqA fun j => ?_))
               refine zbL (fun e' σ' => ∃ (x310 : Bool) (τ' : Hp), agr [(5, .int .u8 p0), (58, .bool x310)] e' ∧ Obs τ' σ' [] ∧ Hp.le τ τ' ∧ zee p0 x310 = some rr) ?_ ?_
               ·refine z8 ?_
                rcases zi hF with ⟨hb349, hF⟩ | ⟨hb349, hF⟩
                ·refine zl (congrArg Value.bool hb349) ?_
                 refine zr (zg (zn ?_))
                 exact ⟨(p0 == 15), _, zqO zqz, hO, hL, hF⟩
                ·refine zj (congrArg Value.bool hb349) ?_
                 refine zf (za hO [] [(5, .int .u8 p0), (58, .bool (p0 == 16))] zqA fun j => ?_)
                 rcases zi hF with ⟨hb350, hF⟩ | ⟨hb350, hF⟩
                 ·refine zl (congrArg Value.bool hb350) ?_
                  refine zr (zg (zn ?_))
                  exact ⟨(p0 == 16), _, zqO zqz, hO, hL, hF⟩
                 ·refine zj (congrArg Value.bool hb350) ?_
                  refine za hO [] [(5, .int .u8 p0), (58, .bool (p0 == 17))] zqA fun j => ?_
                  refine zg (zn ?_)
                  exact ⟨(p0 == 17), _, zqO zqz, hO, hL, hF⟩
               ·rintro e σ ⟨x310, _, hA, hO, hL, hF⟩
                rw [← zB _ _ hA]
                unfold zee at hF
                rcases zi hF with ⟨hb311, hF⟩ | ⟨hb311, hF⟩
                ·refine zl (congrArg Value.bool hb311) ?_
                 refine zf ?_
                 obtain ⟨c312, h313, hF⟩ := bind_some hF
                 refine zs hO (ziC h313) rfl fun _ σ _ _ hO h314 h315 => ?_
                 have hL := hL.trans h314
                 obtain ⟨f317, a318, c319, f320, a321, c322, f323, a324, c325, rfl, rfl, r316⟩ := h315
                 have hO : Obs _ _ [] := hO
                 refine zby (T := zbV) (l := ([c312] : List zx)) (cs := [.func f317 a318 c319, .func f320 a321 c322, .func f323 a324 c325]) hO rfl ⟨[.func f317 a318 c319, .func f320 a321 c322, .func f323 a324 c325], _, rfl, ⟨_, _, _, _, _, _, _, _, _, rfl, r316⟩, rfl⟩ rfl (by decide) fun _ σ o328 w329 hO => ?_
                 obtain ⟨A326, c327, rfl, -⟩ := w329.form
                 have hO : Obs _ _ [_] := hO
                 refine za hO [] [(2, .slice A326 ([c312] : List zx).length c327), (3, .bool true)] zqA fun j => ?_
                 refine zA (zR (zJ ?_))
                 injection hF with hF
                 subst hF
                 exact hQ _ _ _ _ _ rfl hO hL ⟨_, _, rfl, rfl, w329⟩
                ·refine zj (congrArg Value.bool hb311) ?_
                 refine zf (za hO [] [(64, .bool (p0 == 18))] zqz fun j => ?_)
                 rcases zi hF with ⟨hb330, hF⟩ | ⟨hb330, hF⟩
                 ·refine zl (congrArg Value.bool hb330) ?_
                  refine zf ?_
                  obtain ⟨c331, h332, hF⟩ := bind_some hF
                  refine zs hO (zmz h332) rfl fun _ σ _ _ hO h333 h334 => ?_
                  have hL := hL.trans h333
                  obtain ⟨f336, a337, c338, f339, a340, c341, f342, a343, c344, rfl, rfl, r335⟩ := h334
                  have hO : Obs _ _ [] := hO
                  refine zby (T := zbV) (l := ([c331] : List zx)) (cs := [.func f336 a337 c338, .func f339 a340 c341, .func f342 a343 c344]) hO rfl ⟨[.func f336 a337 c338, .func f339 a340 c341, .func f342 a343 c344], _, rfl, ⟨_, _, _, _, _, _, _, _, _, rfl, r335⟩, rfl⟩ rfl (by decide) fun _ σ o347 w348 hO => ?_
                  obtain ⟨A345, c346, rfl, -⟩ := w348.form
                  have hO : Obs _ _ [_] := hO
                  refine za hO [] [(2, .slice A345 ([c331] : List zx).length c346), (3, .bool true)] zqA fun j => ?_
                  refine zA (zR (zJ ?_))
                  injection hF with hF
                  subst hF
                  exact hQ _ _ _ _ _ rfl hO hL ⟨_, _, rfl, rfl, w348⟩
                 ·refine zj (congrArg Value.bool hb330) ?_
                  refine zr (zg (zK (zn (za hO [] [(2, .slice none 0 0), (3, .bool false)] zqA fun j => ?_))))
                  refine zp ?_
                  have hO := hO.no
                  have hO : Obs _ _ [_] := hO
                  injection hF with hF
                  subst hF
                  exact hQ _ _ _ _ _ rfl hO hL ⟨_, _, rfl, rfl, (zd.nil _ _ _)⟩
theorem zl3 {τ : Hp} {v0 : Value} {p0 : (List UInt8)} {p1 : Int} {q2 : zc} {bm2 : Nat} {af0 : Addr} (r0 : RdT Ty.u8 τ v0 p0) (mf0 : At τ af0 [.func (.func 88) #[] #[]]) {rr : Int × Bool × zc} (hF : zgM p0 p1 q2 = some rr) :
  Ctr Tryz.prog 118 #[v0, .int .i64 p1, .pointer (some ⟨bm2, 0, none⟩), .pointer (some af0)] τ [some (bm2, ⟨[.int .u8 q2.Kind.toNat, .int .u8 q2.Op.toNat, .int .i64 q2.R, .int .i64 q2.S, .int .i64 q2.T, .int .i64 q2.N, .int .i64 q2.M], 54, 7, true⟩)] (fun v τ' vs' => v = .tuple #[.int .i64 rr.1, .bool rr.2.1] ∧ vs' = [some (bm2, ⟨[.int .u8 rr.2.2.Kind.toNat, .int .u8 rr.2.2.Op.toNat, .int .i64 rr.2.2.R, .int .i64 rr.2.2.S, .int .i64 rr.2.2.T, .int .i64 rr.2.2.N, .int .i64 rr.2.2.M], 54, 7, true⟩)]) := by
 obtain ⟨A0, c0, rfl, -⟩ := r0.form
 refine zw (args := [.slice A0 p0.length c0, .int .i64 p1, .pointer (some ⟨bm2, 0, none⟩), .pointer (some af0)]) hm Tryz.func118 ze6 rfl fun w0 σ hO Q hQ => ?_
 unfold zgM at hF
 have hL := Hp.le.refl τ
 show wpn _ _ zcx.body _ _ _
 unfold zcx
 dsimp only
 refine za hO [] [(0, .slice A0 p0.length c0), (1, zqP p1), (2, zqQ bm2), (3, .pointer (some af0))] zqC fun j => ?_
 refine zb hO 2 [] [(2, zqQ bm2), (3, .pointer (some af0)), (13, .slice A0 p0.length c0), (14, zqP p1)] zqC fun j => ?_
 obtain ⟨c4, h5, hF⟩ := bind_some hF
 refine zs hO (zf5 r0 h5) rfl fun _ σ _ _ hO h6 h7 => ?_
 have hL := hL.trans h6
 have mf0 := mf0.le h6
 have r0 := r0.le h6
 obtain ⟨rfl, rfl⟩ := h7
 have hO : Obs _ _ [_] := hO
 refine za hO [] [(2, zqQ bm2), (3, .pointer (some af0)), (9, .int .u8 c4.1), (10, zqP c4.2.1), (11, zqP c4.2.2)] zqD fun j => ?_
 refine zX rfl (mf0.le hO.base).fst ?_
 refine zb hO 2 [] [(2, zqQ bm2), (10, zqP c4.2.1), (11, zqP c4.2.2), (19, .func (.func 88) #[] #[]), (20, zqQ bm2), (21, .int .u8 c4.1)] zqE fun j => ?_
 obtain ⟨c8, h9, hF⟩ := bind_some hF
 refine zcD (hs := []) (vs := [_]) rfl (by kernel_rfl) hO (znv (q0 := (⟨q2.Kind, q2.Op, q2.R, q2.S, q2.T, q2.N, q2.M⟩ : zc)) h9) rfl fun _ σ _ _ hO h10 h11 => ?_
 have hL := hL.trans h10
 obtain ⟨rfl, rfl⟩ := h11
 have hO : Obs _ _ [_] := hO
 refine zh (za hO [] [(2, zqQ bm2), (7, zqP c4.2.1), (8, .bool (c4.2.2 == 0))] zqB fun j => ?_)
 refine zp ?_
 injection hF with hF
 subst hF
 exact hQ _ _ _ _ _ rfl hO hL ⟨rfl, rfl⟩
theorem zme {τ : Hp} {v0 : Value} {p0 : (List UInt8)} {p1 : Int} {q2 : zc} {bm2 : Nat} {af0 : Addr} (r0 : RdT Ty.u8 τ v0 p0) (mf0 : At τ af0 [.func (.func 96) #[] #[]]) {rr : Int × Bool × zc} (hF : ze2 p0 p1 q2 = some rr) :
  Ctr Tryz.prog 118 #[v0, .int .i64 p1, .pointer (some ⟨bm2, 0, none⟩), .pointer (some af0)] τ [some (bm2, ⟨[.int .u8 q2.Kind.toNat, .int .u8 q2.Op.toNat, .int .i64 q2.R, .int .i64 q2.S, .int .i64 q2.T, .int .i64 q2.N, .int .i64 q2.M], 54, 7, true⟩)] (fun v τ' vs' => v = .tuple #[.int .i64 rr.1, .bool rr.2.1] ∧ vs' = [some (bm2, ⟨[.int .u8 rr.2.2.Kind.toNat, .int .u8 rr.2.2.Op.toNat, .int .i64 rr.2.2.R, .int .i64 rr.2.2.S, .int .i64 rr.2.2.T, .int .i64 rr.2.2.N, .int .i64 rr.2.2.M], 54, 7, true⟩)]) := by
 obtain ⟨A0, c0, rfl, -⟩ := r0.form
 refine zw (args := [.slice A0 p0.length c0, .int .i64 p1, .pointer (some ⟨bm2, 0, none⟩), .pointer (some af0)]) hm Tryz.func118 ze6 rfl fun w0 σ hO Q hQ => ?_
 unfold ze2 at hF
 have hL := Hp.le.refl τ
 show wpn _ _ zcx.body _ _ _
 unfold zcx
 dsimp only
 refine za hO [] [(0, .slice A0 p0.length c0), (1, zqP p1), (2, zqQ bm2), (3, .pointer (some af0))] zqC fun j => ?_
 refine zb hO 2 [] [(2, zqQ bm2), (3, .pointer (some af0)), (13, .slice A0 p0.length c0), (14, zqP p1)] zqC fun j => ?_
 obtain ⟨c4, h5, hF⟩ := bind_some hF
 refine zs hO (zf5 r0 h5) rfl fun _ σ _ _ hO h6 h7 => ?_
 have hL := hL.trans h6
 have mf0 := mf0.le h6
 have r0 := r0.le h6
 obtain ⟨rfl, rfl⟩ := h7
 have hO : Obs _ _ [_] := hO
 refine za hO [] [(2, zqQ bm2), (3, .pointer (some af0)), (9, .int .u8 c4.1), (10, zqP c4.2.1), (11, zqP c4.2.2)] zqD fun j => ?_
 refine zX rfl (mf0.le hO.base).fst ?_
 refine zb hO 2 [] [(2, zqQ bm2), (10, zqP c4.2.1), (11, zqP c4.2.2), (19, .func (.func 96) #[] #[]), (20, zqQ bm2), (21, .int .u8 c4.1)] zqE fun j => ?_
 obtain ⟨c8, h9, hF⟩ := bind_some hF
 refine zcD (hs := []) (vs := [_]) rfl (by kernel_rfl) hO (zms (q0 := (⟨q2.Kind, q2.Op, q2.R, q2.S, q2.T, q2.N, q2.M⟩ : zc)) h9) rfl fun _ σ _ _ hO h10 h11 => ?_
 have hL := hL.trans h10
 obtain ⟨rfl, rfl⟩ := h11
 have hO : Obs _ _ [_] := hO
 refine zh (za hO [] [(2, zqQ bm2), (7, zqP c4.2.1), (8, .bool (c4.2.2 == 0))] zqB fun j => ?_)
 refine zp ?_
 injection hF with hF
 subst hF
 exact hQ _ _ _ _ _ rfl hO hL ⟨rfl, rfl⟩
theorem zqp {τ : Hp} {v0 : Value} {p0 : (List UInt8)} {p1 : Int} {q2 : zc} {bm2 : Nat} {af0 : Addr} (r0 : RdT Ty.u8 τ v0 p0) (mf0 : At τ af0 [.func (.func 100) #[] #[]]) {rr : Int × Bool × zc} (hF : zgB p0 p1 q2 = some rr) :
  Ctr Tryz.prog 118 #[v0, .int .i64 p1, .pointer (some ⟨bm2, 0, none⟩), .pointer (some af0)] τ [some (bm2, ⟨[.int .u8 q2.Kind.toNat, .int .u8 q2.Op.toNat, .int .i64 q2.R, .int .i64 q2.S, .int .i64 q2.T, .int .i64 q2.N, .int .i64 q2.M], 54, 7, true⟩)] (fun v τ' vs' => v = .tuple #[.int .i64 rr.1, .bool rr.2.1] ∧ vs' = [some (bm2, ⟨[.int .u8 rr.2.2.Kind.toNat, .int .u8 rr.2.2.Op.toNat, .int .i64 rr.2.2.R, .int .i64 rr.2.2.S, .int .i64 rr.2.2.T, .int .i64 rr.2.2.N, .int .i64 rr.2.2.M], 54, 7, true⟩)]) := by
 obtain ⟨A0, c0, rfl, -⟩ := r0.form
 refine zw (args := [.slice A0 p0.length c0, .int .i64 p1, .pointer (some ⟨bm2, 0, none⟩), .pointer (some af0)]) hm Tryz.func118 ze6 rfl fun w0 σ hO Q hQ => ?_
 unfold zgB at hF
 have hL := Hp.le.refl τ
 show wpn _ _ zcx.body _ _ _
 unfold zcx
 dsimp only
 refine za hO [] [(0, .slice A0 p0.length c0), (1, zqP p1), (2, zqQ bm2), (3, .pointer (some af0))] zqC fun j => ?_
 refine zb hO 2 [] [(2, zqQ bm2), (3, .pointer (some af0)), (13, .slice A0 p0.length c0), (14, zqP p1)] zqC fun j => ?_
 obtain ⟨c4, h5, hF⟩ := bind_some hF
 refine zs hO (zf5 r0 h5) rfl fun _ σ _ _ hO h6 h7 => ?_
 have hL := hL.trans h6
 have mf0 := mf0.le h6
 have r0 := r0.le h6
 obtain ⟨rfl, rfl⟩ := h7
 have hO : Obs _ _ [_] := hO
 refine za hO [] [(2, zqQ bm2), (3, .pointer (some af0)), (9, .int .u8 c4.1), (10, zqP c4.2.1), (11, zqP c4.2.2)] zqD fun j => ?_
 refine zX rfl (mf0.le hO.base).fst ?_
 refine zb hO 2 [] [(2, zqQ bm2), (10, zqP c4.2.1), (11, zqP c4.2.2), (19, .func (.func 100) #[] #[]), (20, zqQ bm2), (21, .int .u8 c4.1)] zqE fun j => ?_
 obtain ⟨c8, h9, hF⟩ := bind_some hF
 refine zcD (hs := []) (vs := [_]) rfl (by kernel_rfl) hO (zni (q0 := (⟨q2.Kind, q2.Op, q2.R, q2.S, q2.T, q2.N, q2.M⟩ : zc)) h9) rfl fun _ σ _ _ hO h10 h11 => ?_
 have hL := hL.trans h10
 obtain ⟨rfl, rfl⟩ := h11
 have hO : Obs _ _ [_] := hO
 refine zh (za hO [] [(2, zqQ bm2), (7, zqP c4.2.1), (8, .bool (c4.2.2 == 0))] zqB fun j => ?_)
 refine zp ?_
 injection hF with hF
 subst hF
 exact hQ _ _ _ _ _ rfl hO hL ⟨rfl, rfl⟩
theorem zl9 {τ : Hp} {v0 : Value} {p0 : (List UInt8)} {p1 : Int} {q2 : zc} {bm2 : Nat} {af0 : Addr} (r0 : RdT Ty.u8 τ v0 p0) (mf0 : At τ af0 [.func (.func 103) #[] #[]]) {rr : Int × Bool × zc} (hF : zgp p0 p1 q2 = some rr) :
  Ctr Tryz.prog 118 #[v0, .int .i64 p1, .pointer (some ⟨bm2, 0, none⟩), .pointer (some af0)] τ [some (bm2, ⟨[.int .u8 q2.Kind.toNat, .int .u8 q2.Op.toNat, .int .i64 q2.R, .int .i64 q2.S, .int .i64 q2.T, .int .i64 q2.N, .int .i64 q2.M], 54, 7, true⟩)] (fun v τ' vs' => v = .tuple #[.int .i64 rr.1, .bool rr.2.1] ∧ vs' = [some (bm2, ⟨[.int .u8 rr.2.2.Kind.toNat, .int .u8 rr.2.2.Op.toNat, .int .i64 rr.2.2.R, .int .i64 rr.2.2.S, .int .i64 rr.2.2.T, .int .i64 rr.2.2.N, .int .i64 rr.2.2.M], 54, 7, true⟩)]) := by
 obtain ⟨A0, c0, rfl, -⟩ := r0.form
 refine zw (args := [.slice A0 p0.length c0, .int .i64 p1, .pointer (some ⟨bm2, 0, none⟩), .pointer (some af0)]) hm Tryz.func118 ze6 rfl fun w0 σ hO Q hQ => ?_
 unfold zgp at hF
 have hL := Hp.le.refl τ
 show wpn _ _ zcx.body _ _ _
 unfold zcx
 dsimp only
 refine za hO [] [(0, .slice A0 p0.length c0), (1, zqP p1), (2, zqQ bm2), (3, .pointer (some af0))] zqC fun j => ?_
 refine zb hO 2 [] [(2, zqQ bm2), (3, .pointer (some af0)), (13, .slice A0 p0.length c0), (14, zqP p1)] zqC fun j => ?_
 obtain ⟨c4, h5, hF⟩ := bind_some hF
 refine zs hO (zf5 r0 h5) rfl fun _ σ _ _ hO h6 h7 => ?_
 have hL := hL.trans h6
 have mf0 := mf0.le h6
 have r0 := r0.le h6
 obtain ⟨rfl, rfl⟩ := h7
 have hO : Obs _ _ [_] := hO
 refine za hO [] [(2, zqQ bm2), (3, .pointer (some af0)), (9, .int .u8 c4.1), (10, zqP c4.2.1), (11, zqP c4.2.2)] zqD fun j => ?_
 refine zX rfl (mf0.le hO.base).fst ?_
 refine zb hO 2 [] [(2, zqQ bm2), (10, zqP c4.2.1), (11, zqP c4.2.2), (19, .func (.func 103) #[] #[]), (20, zqQ bm2), (21, .int .u8 c4.1)] zqE fun j => ?_
 obtain ⟨c8, h9, hF⟩ := bind_some hF
 refine zcD (hs := []) (vs := [_]) rfl (by kernel_rfl) hO (znB (q0 := (⟨q2.Kind, q2.Op, q2.R, q2.S, q2.T, q2.N, q2.M⟩ : zc)) h9) rfl fun _ σ _ _ hO h10 h11 => ?_
 have hL := hL.trans h10
 obtain ⟨rfl, rfl⟩ := h11
 have hO : Obs _ _ [_] := hO
 refine zh (za hO [] [(2, zqQ bm2), (7, zqP c4.2.1), (8, .bool (c4.2.2 == 0))] zqB fun j => ?_)
 refine zp ?_
 injection hF with hF
 subst hF
 exact hQ _ _ _ _ _ rfl hO hL ⟨rfl, rfl⟩
theorem zl7 {τ : Hp} {v0 : Value} {p0 : (List UInt8)} {p1 : Int} {q2 : zc} {bm2 : Nat} {af0 : Addr} (r0 : RdT Ty.u8 τ v0 p0) (mf0 : At τ af0 [.func (.func 116) #[] #[]]) {rr : Int × Bool × zc} (hF : zgK p0 p1 q2 = some rr) :
  Ctr Tryz.prog 118 #[v0, .int .i64 p1, .pointer (some ⟨bm2, 0, none⟩), .pointer (some af0)] τ [some (bm2, ⟨[.int .u8 q2.Kind.toNat, .int .u8 q2.Op.toNat, .int .i64 q2.R, .int .i64 q2.S, .int .i64 q2.T, .int .i64 q2.N, .int .i64 q2.M], 54, 7, true⟩)] (fun v τ' vs' => v = .tuple #[.int .i64 rr.1, .bool rr.2.1] ∧ vs' = [some (bm2, ⟨[.int .u8 rr.2.2.Kind.toNat, .int .u8 rr.2.2.Op.toNat, .int .i64 rr.2.2.R, .int .i64 rr.2.2.S, .int .i64 rr.2.2.T, .int .i64 rr.2.2.N, .int .i64 rr.2.2.M], 54, 7, true⟩)]) := by
 obtain ⟨A0, c0, rfl, -⟩ := r0.form
 refine zw (args := [.slice A0 p0.length c0, .int .i64 p1, .pointer (some ⟨bm2, 0, none⟩), .pointer (some af0)]) hm Tryz.func118 ze6 rfl fun w0 σ hO Q hQ => ?_
 unfold zgK at hF
 have hL := Hp.le.refl τ
 show wpn _ _ zcx.body _ _ _
 unfold zcx
 dsimp only
 refine za hO [] [(0, .slice A0 p0.length c0), (1, zqP p1), (2, zqQ bm2), (3, .pointer (some af0))] zqC fun j => ?_
 refine zb hO 2 [] [(2, zqQ bm2), (3, .pointer (some af0)), (13, .slice A0 p0.length c0), (14, zqP p1)] zqC fun j => ?_
 obtain ⟨c4, h5, hF⟩ := bind_some hF
 refine zs hO (zf5 r0 h5) rfl fun _ σ _ _ hO h6 h7 => ?_
 have hL := hL.trans h6
 have mf0 := mf0.le h6
 have r0 := r0.le h6
 obtain ⟨rfl, rfl⟩ := h7
 have hO : Obs _ _ [_] := hO
 refine za hO [] [(2, zqQ bm2), (3, .pointer (some af0)), (9, .int .u8 c4.1), (10, zqP c4.2.1), (11, zqP c4.2.2)] zqD fun j => ?_
 refine zX rfl (mf0.le hO.base).fst ?_
 refine zb hO 2 [] [(2, zqQ bm2), (10, zqP c4.2.1), (11, zqP c4.2.2), (19, .func (.func 116) #[] #[]), (20, zqQ bm2), (21, .int .u8 c4.1)] zqE fun j => ?_
 obtain ⟨c8, h9, hF⟩ := bind_some hF
 refine zcD (hs := []) (vs := [_]) rfl (by kernel_rfl) hO (zpt (q0 := (⟨q2.Kind, q2.Op, q2.R, q2.S, q2.T, q2.N, q2.M⟩ : zc)) h9) rfl fun _ σ _ _ hO h10 h11 => ?_
 have hL := hL.trans h10
 obtain ⟨rfl, rfl⟩ := h11
 have hO : Obs _ _ [_] := hO
 refine zh (za hO [] [(2, zqQ bm2), (7, zqP c4.2.1), (8, .bool (c4.2.2 == 0))] zqB fun j => ?_)
 refine zp ?_
 injection hF with hF
 subst hF
 exact hQ _ _ _ _ _ rfl hO hL ⟨rfl, rfl⟩
theorem znQ {τ : Hp} {x : zx} {u0 u1 u2 : Value} (hx : zbz τ x u0 u1 u2) {v0 : Value} {p0 : (List UInt8)} {p1 : Int} {q2 : zc} {bm2 : Nat} (r0 : RdT Ty.u8 τ v0 p0) {rr : Int × Bool × zc} (hF : zdk x p0 p1 q2 = some rr) :
  FnC Tryz.prog u2 #[v0, .int .i64 p1, .pointer (some ⟨bm2, 0, none⟩)] τ [some (bm2, ⟨[.int .u8 q2.Kind.toNat, .int .u8 q2.Op.toNat, .int .i64 q2.R, .int .i64 q2.S, .int .i64 q2.T, .int .i64 q2.N, .int .i64 q2.M], 54, 7, true⟩)] (fun v τ' vs' => v = .tuple #[.int .i64 rr.1, .bool rr.2.1] ∧ vs' = [some (bm2, ⟨[.int .u8 rr.2.2.Kind.toNat, .int .u8 rr.2.2.Op.toNat, .int .i64 rr.2.2.R, .int .i64 rr.2.2.S, .int .i64 rr.2.2.T, .int .i64 rr.2.2.N, .int .i64 rr.2.2.M], 54, 7, true⟩)]) := by
 cases x with
 | c_one_1 => obtain ⟨a1_0, a2_0, rfl, rfl, rfl, m0, m1⟩ := hx; exact ⟨118, #[], #[.pointer (some a2_0)], _, rfl, by kernel_rfl, rfl, zl3 r0 m1 hF⟩
 | c_both_1 => obtain ⟨a1_0, a2_0, rfl, rfl, rfl, m0, m1⟩ := hx; exact ⟨118, #[], #[.pointer (some a2_0)], _, rfl, by kernel_rfl, rfl, zme r0 m1 hF⟩
 | c_op_1 x0 x1 => obtain ⟨a0_0, a0_1, a1_0, a2_0, rfl, rfl, rfl, m0, m1, m2, m3⟩ := hx; exact ⟨118, #[], #[.pointer (some a2_0)], _, rfl, by kernel_rfl, rfl, zqp r0 m3 hF⟩
 | c_third_1 => obtain ⟨a1_0, a2_0, rfl, rfl, rfl, m0, m1⟩ := hx; exact ⟨118, #[], #[.pointer (some a2_0)], _, rfl, by kernel_rfl, rfl, zl9 r0 m1 hF⟩
 | c_bound_1 => obtain ⟨rfl, rfl, rfl⟩ := hx; exact ⟨107, #[], #[], _, rfl, by kernel_rfl, rfl, zoK r0 hF⟩
 | c_to_1 => obtain ⟨rfl, rfl, rfl⟩ := hx; exact ⟨112, #[], #[], _, rfl, by kernel_rfl, rfl, zmw r0 hF⟩
 | c_how_1 => obtain ⟨a1_0, a2_0, rfl, rfl, rfl, m0, m1⟩ := hx; exact ⟨118, #[], #[.pointer (some a2_0)], _, rfl, by kernel_rfl, rfl, zl7 r0 m1 hF⟩
 | c_parts_1 => obtain ⟨rfl, rfl, rfl⟩ := hx; exact ⟨91, #[], #[], _, rfl, by kernel_rfl, rfl, zlV r0 hF⟩
 | c_within => obtain ⟨rfl, rfl, rfl⟩ := hx; exact ⟨91, #[], #[], _, rfl, by kernel_rfl, rfl, zlV r0 hF⟩
theorem zkp {τ : Hp} {v0 : Value} {p0 : (List UInt8)} {p1 : Int} (r0 : RdT Ty.u8 τ v0 p0) {rr : zc × Int × Bool} (hF : zc4 p0 p1 = some rr) :
  Ctr Tryz.prog 41 #[v0, .int .i64 p1] τ [] (fun v τ' vs' => v = .tuple #[.agg #[.int .u8 rr.1.Kind.toNat, .int .u8 rr.1.Op.toNat, .int .i64 rr.1.R, .int .i64 rr.1.S, .int .i64 rr.1.T, .int .i64 rr.1.N, .int .i64 rr.1.M], .int .i64 rr.2.1, .bool rr.2.2] ∧ vs' = []) := by
 obtain ⟨A0, c0, rfl, -⟩ := r0.form
 refine zw (args := [.slice A0 p0.length c0, .int .i64 p1]) hm Tryz.func41 s41 rfl fun w0 σ hO Q hQ => ?_
 unfold zc4 at hF
 have hL := Hp.le.refl τ
 show wpn _ _ a41.body _ _ _
 unfold a41
 dsimp only
 refine zbp hO fun b3 σ hO => ?_
 have hO : Obs _ _ [_] := hO
 refine za hO [] [(0, .slice A0 p0.length c0), (1, zqP p1), (4, zqQ b3)] zqB fun j => ?_
 refine zf (za hO [] [(0, .slice A0 p0.length c0), (1, zqP p1), (4, zqQ b3), (13, .bool (decide (p1 ≥ (p0.length : Int))))] zqC fun j => ?_)
 rcases zi hF with ⟨hb4, hF⟩ | ⟨hb4, hF⟩
 ·refine zl (congrArg Value.bool hb4) ?_
  refine zf (zb hO 1 [0] [(4, zqQ b3), (14, .agg #[(.int .u8 0), (.int .u8 0), (.int .i64 0), (.int .i64 0), (.int .i64 0), (.int .i64 0), (.int .i64 0)])] (And.intro (And.intro rfl rfl) zqA) fun j => ?_)
  refine zI hO (i := 0) rfl (off := 0) rfl rfl rfl rfl (Nat.le_of_ble_eq_true rfl) rfl fun σ hO => ?_
  have hO : Obs _ _ [_] := hO
  refine za hO [] [(4, zqQ b3), (5, zqP 0), (6, .bool false)] zqB fun j => ?_
  refine zA ?_
  injection hF with hF
  subst hF
  have hV0 := hO.val (i := 0) rfl (off := 0) (agg := true) (n := 7) rfl
  have hO := hO.sel [] (by decide)
  exact hQ _ _ _ _ _ (zbu rfl (hV0) (zcK (zcK rfl))) hO hL ⟨rfl, rfl⟩
 ·refine zj (congrArg Value.bool hb4) ?_
  refine zr (zb hO 2 [] [(0, .slice A0 p0.length c0), (1, zqP p1), (4, zqQ b3), (15, .slice A0 p0.length c0), (16, zqP p1)] zqD fun j => ?_)
  obtain ⟨y5, g6, hF⟩ := bind_some hF
  refine zb9 (T := Ty.u8) r0 hO.base rfl rfl g6 (by decide) fun a7 _ k8 m9 => ?_
  obtain rfl : _ = ([.int .u8 y5.toNat] : List Value) := k8
  refine zX rfl (m9.le hO.base).fst ?_
  refine zb hO 1 [] [(0, .slice A0 p0.length c0), (1, zqP p1), (4, zqQ b3), (18, .int .u8 (y5.toNat : Int)), (19, zqQ b3)] zqD fun j => ?_
  refine zI hO (i := 0) rfl (off := 0) rfl rfl rfl rfl (Nat.le_of_ble_eq_true rfl) rfl fun σ hO => ?_
  have hO : Obs _ _ [_] := hO
  refine zh (zb hO 2 [0] [(0, .slice A0 p0.length c0), (1, zqP p1), (4, zqQ b3), (22, .int .u8 (y5.toNat : Int))] (And.intro (And.intro rfl rfl) zqC) fun j => ?_)
  obtain ⟨c10, h11, hF⟩ := bind_some hF
  refine zs hO (zkQ h11) rfl fun _ σ _ _ hO h12 h13 => ?_
  have hL := hL.trans h12
  have r0 := r0.le h12
  obtain ⟨v14, o17, rfl, rfl, w18⟩ := h13
  obtain ⟨A15, c16, rfl, -⟩ := w18.form
  have hO : Obs _ _ [_, _] := hO
  refine za hO [] [(0, .slice A0 p0.length c0), (1, zqP p1), (4, zqQ b3), (6, .bool c10.2), (7, .slice A15 c10.1.length c16)] zqD fun j => ?_
  refine za hO [] [(0, .slice A0 p0.length c0), (4, zqQ b3), (5, zqP (IntKind.i64.wrap (p1 + 1))), (6, .bool c10.2), (7, .slice A15 c10.1.length c16)] zqD fun j => ?_
  refine zf (za hO [] [(0, .slice A0 p0.length c0), (4, zqQ b3), (5, zqP (IntKind.i64.wrap (p1 + 1))), (6, .bool c10.2), (28, .slice A15 c10.1.length c16), (29, zqP (c10.1.length : Int)), (30, zqP 0)] zqF fun j => ?_)
  refine zO (zbo (fun (n : Nat) e' σ' => ∃ (x50 : UInt8) (x51 : UInt8) (x52 : Int) (x53 : Int) (x54 : Int) (x55 : Int) (x56 : Int) (x57 : Int) (x58 : Bool) (A59 : Option Addr) (c60 : Nat) (o61 : Ob) (x62 : List zx) (x64 : Int) (τ' : Hp), agr [(0, .slice A0 p0.length c0), (4, zqQ b3), (5, zqP x57), (6, .bool x58), (28, .slice A59 x62.length c60), (29, zqP (c10.1.length : Int)), (30, zqP x64)] e' ∧ Obs τ' σ' [some (b3, ⟨[.int .u8 (x50.toNat : Int), .int .u8 (x51.toNat : Int), .int .i64 x52, .int .i64 x53, .int .i64 x54, .int .i64 x55, .int .i64 x56], 54, 7, true⟩), o61] ∧ Hp.le τ τ' ∧ RdT Ty.u8 τ' (.slice A0 p0.length c0) p0 ∧ zd zbV 104 τ' (.slice A59 x62.length c60) x62 o61 ∧ zeH p0 c10 n x50 x51 x52 x53 x54 x55 x56 x57 x58 x62 x64 = some rr) big ⟨y5, (0 : UInt8), 0, 0, 0, 0, 0, (IntKind.i64.wrap (p1 + 1)), c10.2, A15, c16, o17, c10.1, 0, _, zqO zqE, hO, hL, r0, w18, hF⟩ ?_)
  clear hF hO hL
  rintro n89 e σ ⟨x50, x51, x52, x53, x54, x55, x56, x57, x58, A59, c60, o61, x62, x64, _, hA, hO, hL, r49, w63, hF⟩
  rw [← zB _ _ hA]
  cases n89 with
  | zero => exact nomatch (show none = some rr from hF)
  | succ n89 =>
   replace hF : zea (zeH p0 c10 n89) p0 c10 x50 x51 x52 x53 x54 x55 x56 x57 x58 x62 x64 = some rr := hF
   unfold zea at hF
   refine za hO [] [(0, .slice A0 p0.length c0), (4, zqQ b3), (5, zqP x57), (6, .bool x58), (28, .slice A59 x62.length c60), (29, zqP (c10.1.length : Int)), (30, zqP x64), (31, .bool (decide (x64 < (c10.1.length : Int))))] zqG fun j => ?_
   rcases zi hF with ⟨hb90, hF⟩ | ⟨hb90, hF⟩
   ·refine zl (congrArg Value.bool hb90) ?_
    refine zr (zO ?_)
    obtain ⟨y91, g92, hF⟩ := bind_some hF
    refine zcs (T := zbV) hO w63 (i := 1) rfl rfl rfl g92 (by decide) fun a93 _ k94 m95 i96 => ?_
    have k97 := k94
    obtain ⟨f99, zf4, c101, f102, zht, c104, f105, zfB, c107, rfl, r98⟩ := k97
    refine zX rfl (m95.all rfl) ?_
    refine zbp hO fun b108 σ hO => ?_
    have hO : Obs _ _ [_, _, _] := hO
    refine zI hO (i := 2) rfl (off := 0) rfl rfl rfl rfl (Nat.le_of_ble_eq_true rfl) rfl fun σ hO => ?_
    have hO : Obs _ _ [_, _, _] := hO
    refine zh (za hO [] [(0, .slice A0 p0.length c0), (4, zqQ b3), (5, zqP x57), (6, .bool x58), (9, zqQ b108), (28, .slice A59 x62.length c60), (29, zqP (c10.1.length : Int)), (30, zqP x64), (34, .bool x58)] zqH fun j => ?_)
    refine z8 ?_
    rcases zi hF with ⟨hb109, hF⟩ | ⟨hb109, hF⟩
    ·refine zl (congrArg Value.bool hb109) ?_
     refine zb hO 4 [2] [(0, .slice A0 p0.length c0), (4, zqQ b3), (28, .slice A59 x62.length c60), (29, zqP (c10.1.length : Int)), (30, zqP x64), (37, .func f105 zfB c107), (38, .slice A0 p0.length c0), (39, zqP x57)] (And.intro (And.intro rfl rfl) zqG) fun j => ?_
     obtain ⟨c110, h111, hF⟩ := bind_some hF
     have hO := hO.sel [1, 2, 0] (by decide)
     refine ziK (hs := [_, _]) (vs := [_]) rfl hO (znQ r98 r49 h111) rfl fun _ σ _ _ hO h112 h113 => ?_
     have hL := hL.trans h112
     have r49 := r49.le h112
     have w63 := w63.le h112
     have r98 := r98.le h112
     obtain ⟨rfl, rfl⟩ := h113
     have hO : Obs _ _ [_, _, _] := hO
     refine za hO [] [(0, .slice A0 p0.length c0), (4, zqQ b3), (5, zqP c110.1), (6, .bool c110.2.1), (28, .slice A59 x62.length c60), (29, zqP (c10.1.length : Int)), (30, zqP x64)] zqF fun j => ?_
     refine zg (zK (zn (zQ (za hO [] [(0, .slice A0 p0.length c0), (4, zqQ b3), (5, zqP c110.1), (6, .bool c110.2.1), (28, .slice A59 x62.length c60), (29, zqP (c10.1.length : Int)), (30, zqP (IntKind.i64.wrap (x64 + 1)))] zqF fun j => ?_))))
     refine zg (zn ?_)
     have hO := hO.sel [2, 0] (by decide)
     exact ⟨n89, Nat.lt_succ_self _, c110.2.2.Kind, c110.2.2.Op, c110.2.2.R, c110.2.2.S, c110.2.2.T, c110.2.2.N, c110.2.2.M, c110.1, c110.2.1, A59, c60, o61, x62, (IntKind.i64.wrap (x64 + 1)), _, zqO zqE, hO, hL, r49, w63, hF⟩
    ·refine zj (congrArg Value.bool hb109) ?_
     refine zr (zg (zK (zn (zQ (za hO [] [(0, .slice A0 p0.length c0), (4, zqQ b3), (5, zqP x57), (6, .bool x58), (28, .slice A59 x62.length c60), (29, zqP (c10.1.length : Int)), (30, zqP (IntKind.i64.wrap (x64 + 1)))] zqF fun j => ?_)))))
     refine zg (zn ?_)
     have hO := hO.sel [0, 1] (by decide)
     exact ⟨n89, Nat.lt_succ_self _, x50, x51, x52, x53, x54, x55, x56, x57, x58, A59, c60, o61, x62, (IntKind.i64.wrap (x64 + 1)), _, zqO zqE, hO, hL, r49, w63, hF⟩
   ·refine zj (congrArg Value.bool hb90) ?_
    refine zbs (zbr (zbn (zn (zb hO 3 [0] [(4, zqQ b3), (44, .agg #[(.int .u8 (x50.toNat : Int)), (.int .u8 (x51.toNat : Int)), (.int .i64 x52), (.int .i64 x53), (.int .i64 x54), (.int .i64 x55), (.int .i64 x56)]), (45, zqP x57), (46, .bool x58)] (And.intro (And.intro rfl rfl) zqC) fun j => ?_))))
    refine zI hO (i := 0) rfl (off := 0) rfl rfl rfl rfl (Nat.le_of_ble_eq_true rfl) rfl fun σ hO => ?_
    have hO : Obs _ _ [_, _] := hO
    refine za hO [] [(4, zqQ b3), (5, zqP x57), (6, .bool x58)] zqB fun j => ?_
    refine zp ?_
    injection hF with hF
    subst hF
    have hV0 := hO.val (i := 0) rfl (off := 0) (agg := true) (n := 7) rfl
    have hO := hO.sel [] (by decide)
    exact hQ _ _ _ _ _ (zbu rfl (hV0) (zcK (zcK rfl))) hO hL ⟨rfl, rfl⟩
theorem zow {τ : Hp} {q0 : zc} {bm0 : Nat} {qf0 : Int} {af0 : Addr} {qf1 : Int} {af1 : Addr} (mf0 : At τ af0 [.int .u8 qf0]) (mf1 : At τ af1 [.int .u8 qf1]) {rr : Bool × zc} (hF : zh4 q0 qf0 qf1 = some rr) :
  Ctr Tryz.prog 98 #[.pointer (some ⟨bm0, 0, none⟩), .pointer (some af0), .pointer (some af1)] τ [some (bm0, ⟨[.int .u8 q0.Kind.toNat, .int .u8 q0.Op.toNat, .int .i64 q0.R, .int .i64 q0.S, .int .i64 q0.T, .int .i64 q0.N, .int .i64 q0.M], 54, 7, true⟩)] (fun v τ' vs' => v = .bool rr.1 ∧ vs' = [some (bm0, ⟨[.int .u8 rr.2.Kind.toNat, .int .u8 rr.2.Op.toNat, .int .i64 rr.2.R, .int .i64 rr.2.S, .int .i64 rr.2.T, .int .i64 rr.2.N, .int .i64 rr.2.M], 54, 7, true⟩)]) := by
 refine zw (args := [.pointer (some ⟨bm0, 0, none⟩), .pointer (some af0), .pointer (some af1)]) hm Tryz.func98 s98 rfl fun w0 σ hO Q hQ => ?_
 unfold zh4 at hF
 have hL := Hp.le.refl τ
 show wpn _ _ a98.body _ _ _
 unfold a98
 dsimp only
 refine za hO [] [(0, zqQ bm0), (1, .pointer (some af0)), (2, .pointer (some af1))] zqB fun j => ?_
 refine zbK (zb hO 4 [0] [(0, zqQ bm0), (1, .pointer (some af0)), (2, .pointer (some af1)), (8, .int .u8 (q0.Op.toNat : Int))] (And.intro (And.intro rfl rfl) zqC) fun j => ?_)
 refine zX rfl (mf0.le hO.base).fst ?_
 refine zb hO 2 [] [(0, zqQ bm0), (2, .pointer (some af1)), (11, .bool (decide ((q0.Op.toNat : Int) ≥ qf0)))] zqB fun j => ?_
 obtain ⟨c2, h3, hF⟩ := bind_some hF
 refine zcS 2 [(18, .bool c2), (0, zqQ bm0)] (fun Q hQ => ?_) fun j => ?_
 ·have hF := h3
  rcases zi hF with ⟨hb4, hF⟩ | ⟨hb4, hF⟩
  ·refine zE (congrArg (fun x => isB (.bool x) true) hb4) ?_
   refine zb hO 4 [0] [(0, zqQ bm0), (2, .pointer (some af1)), (11, .bool (decide ((q0.Op.toNat : Int) ≥ qf0))), (15, .int .u8 (q0.Op.toNat : Int))] (And.intro (And.intro rfl rfl) zqC) fun j => ?_
   refine zX rfl (mf1.le hO.base).fst ?_
   refine zb hO 1 [] [(0, zqQ bm0), (11, .bool (decide ((q0.Op.toNat : Int) ≥ qf0))), (17, .bool (decide ((q0.Op.toNat : Int) ≤ qf1)))] zqB fun j => ?_
   refine zz (congrArg Value.bool hb4) ?_
   refine zh ?_
   injection hF with hF
   subst hF
   refine zg ?_
   exact hQ _ zqA
  ·refine zM (congrArg (fun x => isB (.bool x) true) hb4) ?_
   refine zz (congrArg Value.bool hb4) ?_
   refine zh ?_
   injection hF with hF
   subst hF
   refine zg ?_
   exact hQ _ zqA
 ·refine za hO [] [(0, zqQ bm0), (4, .bool c2)] zqA fun j => ?_
  refine zp ?_
  injection hF with hF
  subst hF
  exact hQ _ _ _ _ _ rfl hO hL ⟨rfl, rfl⟩
theorem zn9 {τ : Hp} {x : zx} {u0 u1 u2 : Value} (hx : zbz τ x u0 u1 u2) {q0 : zc} {bm0 : Nat}  {rr : Bool × zc} (hF : zgY x q0 = some rr) :
  FnC Tryz.prog u0 #[.pointer (some ⟨bm0, 0, none⟩)] τ [some (bm0, ⟨[.int .u8 q0.Kind.toNat, .int .u8 q0.Op.toNat, .int .i64 q0.R, .int .i64 q0.S, .int .i64 q0.T, .int .i64 q0.N, .int .i64 q0.M], 54, 7, true⟩)] (fun v τ' vs' => v = .bool rr.1 ∧ vs' = [some (bm0, ⟨[.int .u8 rr.2.Kind.toNat, .int .u8 rr.2.Op.toNat, .int .i64 rr.2.R, .int .i64 rr.2.S, .int .i64 rr.2.T, .int .i64 rr.2.N, .int .i64 rr.2.M], 54, 7, true⟩)]) := by
 cases x with
 | c_one_1 => obtain ⟨a1_0, a2_0, rfl, rfl, rfl, m0, m1⟩ := hx; exact ⟨85, #[], #[], _, rfl, by kernel_rfl, rfl, zno  hF⟩
 | c_both_1 => obtain ⟨a1_0, a2_0, rfl, rfl, rfl, m0, m1⟩ := hx; exact ⟨93, #[], #[], _, rfl, by kernel_rfl, rfl, znb  hF⟩
 | c_op_1 x0 x1 => obtain ⟨a0_0, a0_1, a1_0, a2_0, rfl, rfl, rfl, m0, m1, m2, m3⟩ := hx; exact ⟨98, #[], #[.pointer (some a0_0), .pointer (some a0_1)], _, rfl, by kernel_rfl, rfl, zow m0 m1 hF⟩
 | c_third_1 => obtain ⟨a1_0, a2_0, rfl, rfl, rfl, m0, m1⟩ := hx; exact ⟨101, #[], #[], _, rfl, by kernel_rfl, rfl, zp5  hF⟩
 | c_bound_1 => obtain ⟨rfl, rfl, rfl⟩ := hx; exact ⟨104, #[], #[], _, rfl, by kernel_rfl, rfl, zoW  hF⟩
 | c_to_1 => obtain ⟨rfl, rfl, rfl⟩ := hx; exact ⟨109, #[], #[], _, rfl, by kernel_rfl, rfl, zmb  hF⟩
 | c_how_1 => obtain ⟨a1_0, a2_0, rfl, rfl, rfl, m0, m1⟩ := hx; exact ⟨114, #[], #[], _, rfl, by kernel_rfl, rfl, zmc  hF⟩
 | c_parts_1 => obtain ⟨rfl, rfl, rfl⟩ := hx; exact ⟨73, #[], #[], _, rfl, by kernel_rfl, rfl, znw  hF⟩
 | c_within => obtain ⟨rfl, rfl, rfl⟩ := hx; exact ⟨79, #[], #[], _, rfl, by kernel_rfl, rfl, zmW  hF⟩
theorem zp0 {τ : Hp} {v0 : Value} {p0 : (List UInt8)} {o0 : Ob} {q1 : zc} {bm1 : Nat} {af0 : Addr} (wp0 : zd Ty.u8 5 τ v0 p0 o0) (mf0 : At τ af0 [.func (.func 87) #[] #[]]) {rr : (List UInt8) × zc} (hF : zg0 p0 q1 = some rr) :
  Ctr Tryz.prog 117 #[v0, .pointer (some ⟨bm1, 0, none⟩), .pointer (some af0)] τ [o0, some (bm1, ⟨[.int .u8 q1.Kind.toNat, .int .u8 q1.Op.toNat, .int .i64 q1.R, .int .i64 q1.S, .int .i64 q1.T, .int .i64 q1.N, .int .i64 q1.M], 54, 7, true⟩)] (fun v τ' vs' => ∃ (v0 : Value) (o0 : Ob), v = v0 ∧ vs' = [o0, some (bm1, ⟨[.int .u8 rr.2.Kind.toNat, .int .u8 rr.2.Op.toNat, .int .i64 rr.2.R, .int .i64 rr.2.S, .int .i64 rr.2.T, .int .i64 rr.2.N, .int .i64 rr.2.M], 54, 7, true⟩)] ∧ zd Ty.u8 5 τ' v0 rr.1 o0) := by
 obtain ⟨A0, c0, rfl, -⟩ := wp0.form
 refine zw (args := [.slice A0 p0.length c0, .pointer (some ⟨bm1, 0, none⟩), .pointer (some af0)]) hm Tryz.func117 zfa rfl fun w0 σ hO Q hQ => ?_
 unfold zg0 at hF
 have hL := Hp.le.refl τ
 show wpn _ _ zb6.body _ _ _
 unfold zb6
 dsimp only
 refine za hO [] [(0, .slice A0 p0.length c0), (1, zqQ bm1), (2, .pointer (some af0))] zqB fun j => ?_
 refine zb hO 1 [] [(1, zqQ bm1), (2, .pointer (some af0)), (6, .slice A0 p0.length c0)] zqB fun j => ?_
 refine zX rfl (mf0.le hO.base).fst ?_
 refine zb hO 1 [] [(1, zqQ bm1), (6, .slice A0 p0.length c0), (7, .func (.func 87) #[] #[]), (8, zqQ bm1)] zqC fun j => ?_
 obtain ⟨c3, h4, hF⟩ := bind_some hF
 refine zcD (hs := [_]) (vs := [_]) rfl (by kernel_rfl) hO (zpk (q0 := (⟨q1.Kind, q1.Op, q1.R, q1.S, q1.T, q1.N, q1.M⟩ : zc)) h4) rfl fun _ σ _ _ hO h5 h6 => ?_
 have hL := hL.trans h5
 have wp0 := wp0.le h5
 obtain ⟨rfl, rfl⟩ := h6
 have hO : Obs _ _ [_, _] := hO
 obtain ⟨z7, hz7, hF⟩ := bind_some hF
 obtain ⟨_, hr12, hF⟩ := bind_some hF
 refine zbM (T := Ty.u8) (y := z7) hO wp0 (i := 0) rfl rfl (fun _ => rfl) rfl (u8R hz7) rfl hr12 (by decide) fun u _ σ o10 w11 hO => ?_
 obtain ⟨A8, c9, rfl, -⟩ := w11.form
 have hO : Obs _ _ [_, _] := hO
 refine za hO [] [(1, zqQ bm1), (5, .slice A8 (p0 ++ [z7]).length c9)] zqA fun j => ?_
 refine zp ?_
 injection hF with hF
 subst hF
 exact hQ _ _ _ _ _ rfl hO hL ⟨_, _, rfl, rfl, w11⟩
theorem zph {τ : Hp} {v0 : Value} {p0 : (List UInt8)} {o0 : Ob} {q1 : zc} {bm1 : Nat} {af0 : Addr} (wp0 : zd Ty.u8 5 τ v0 p0 o0) (mf0 : At τ af0 [.func (.func 94) #[] #[]]) {rr : (List UInt8) × zc} (hF : zhi p0 q1 = some rr) :
  Ctr Tryz.prog 117 #[v0, .pointer (some ⟨bm1, 0, none⟩), .pointer (some af0)] τ [o0, some (bm1, ⟨[.int .u8 q1.Kind.toNat, .int .u8 q1.Op.toNat, .int .i64 q1.R, .int .i64 q1.S, .int .i64 q1.T, .int .i64 q1.N, .int .i64 q1.M], 54, 7, true⟩)] (fun v τ' vs' => ∃ (v0 : Value) (o0 : Ob), v = v0 ∧ vs' = [o0, some (bm1, ⟨[.int .u8 rr.2.Kind.toNat, .int .u8 rr.2.Op.toNat, .int .i64 rr.2.R, .int .i64 rr.2.S, .int .i64 rr.2.T, .int .i64 rr.2.N, .int .i64 rr.2.M], 54, 7, true⟩)] ∧ zd Ty.u8 5 τ' v0 rr.1 o0) := by
 obtain ⟨A0, c0, rfl, -⟩ := wp0.form
 refine zw (args := [.slice A0 p0.length c0, .pointer (some ⟨bm1, 0, none⟩), .pointer (some af0)]) hm Tryz.func117 zfa rfl fun w0 σ hO Q hQ => ?_
 unfold zhi at hF
 have hL := Hp.le.refl τ
 show wpn _ _ zb6.body _ _ _
 unfold zb6
 dsimp only
 refine za hO [] [(0, .slice A0 p0.length c0), (1, zqQ bm1), (2, .pointer (some af0))] zqB fun j => ?_
 refine zb hO 1 [] [(1, zqQ bm1), (2, .pointer (some af0)), (6, .slice A0 p0.length c0)] zqB fun j => ?_
 refine zX rfl (mf0.le hO.base).fst ?_
 refine zb hO 1 [] [(1, zqQ bm1), (6, .slice A0 p0.length c0), (7, .func (.func 94) #[] #[]), (8, zqQ bm1)] zqC fun j => ?_
 obtain ⟨c3, h4, hF⟩ := bind_some hF
 refine zcD (hs := [_]) (vs := [_]) rfl (by kernel_rfl) hO (zqk (q0 := (⟨q1.Kind, q1.Op, q1.R, q1.S, q1.T, q1.N, q1.M⟩ : zc)) h4) rfl fun _ σ _ _ hO h5 h6 => ?_
 have hL := hL.trans h5
 have wp0 := wp0.le h5
 obtain ⟨rfl, rfl⟩ := h6
 have hO : Obs _ _ [_, _] := hO
 obtain ⟨z7, hz7, hF⟩ := bind_some hF
 obtain ⟨_, hr12, hF⟩ := bind_some hF
 refine zbM (T := Ty.u8) (y := z7) hO wp0 (i := 0) rfl rfl (fun _ => rfl) rfl (u8R hz7) rfl hr12 (by decide) fun u _ σ o10 w11 hO => ?_
 obtain ⟨A8, c9, rfl, -⟩ := w11.form
 have hO : Obs _ _ [_, _] := hO
 refine za hO [] [(1, zqQ bm1), (5, .slice A8 (p0 ++ [z7]).length c9)] zqA fun j => ?_
 refine zp ?_
 injection hF with hF
 subst hF
 exact hQ _ _ _ _ _ rfl hO hL ⟨_, _, rfl, rfl, w11⟩
theorem zm7 {τ : Hp} {v0 : Value} {p0 : (List UInt8)} {o0 : Ob} {q1 : zc} {bm1 : Nat} {af0 : Addr} (wp0 : zd Ty.u8 5 τ v0 p0 o0) (mf0 : At τ af0 [.func (.func 99) #[] #[]]) {rr : (List UInt8) × zc} (hF : zgV p0 q1 = some rr) :
  Ctr Tryz.prog 117 #[v0, .pointer (some ⟨bm1, 0, none⟩), .pointer (some af0)] τ [o0, some (bm1, ⟨[.int .u8 q1.Kind.toNat, .int .u8 q1.Op.toNat, .int .i64 q1.R, .int .i64 q1.S, .int .i64 q1.T, .int .i64 q1.N, .int .i64 q1.M], 54, 7, true⟩)] (fun v τ' vs' => ∃ (v0 : Value) (o0 : Ob), v = v0 ∧ vs' = [o0, some (bm1, ⟨[.int .u8 rr.2.Kind.toNat, .int .u8 rr.2.Op.toNat, .int .i64 rr.2.R, .int .i64 rr.2.S, .int .i64 rr.2.T, .int .i64 rr.2.N, .int .i64 rr.2.M], 54, 7, true⟩)] ∧ zd Ty.u8 5 τ' v0 rr.1 o0) := by
 obtain ⟨A0, c0, rfl, -⟩ := wp0.form
 refine zw (args := [.slice A0 p0.length c0, .pointer (some ⟨bm1, 0, none⟩), .pointer (some af0)]) hm Tryz.func117 zfa rfl fun w0 σ hO Q hQ => ?_
 unfold zgV at hF
 have hL := Hp.le.refl τ
 show wpn _ _ zb6.body _ _ _
 unfold zb6
 dsimp only
 refine za hO [] [(0, .slice A0 p0.length c0), (1, zqQ bm1), (2, .pointer (some af0))] zqB fun j => ?_
 refine zb hO 1 [] [(1, zqQ bm1), (2, .pointer (some af0)), (6, .slice A0 p0.length c0)] zqB fun j => ?_
 refine zX rfl (mf0.le hO.base).fst ?_
 refine zb hO 1 [] [(1, zqQ bm1), (6, .slice A0 p0.length c0), (7, .func (.func 99) #[] #[]), (8, zqQ bm1)] zqC fun j => ?_
 obtain ⟨c3, h4, hF⟩ := bind_some hF
 refine zcD (hs := [_]) (vs := [_]) rfl (by kernel_rfl) hO (zod (q0 := (⟨q1.Kind, q1.Op, q1.R, q1.S, q1.T, q1.N, q1.M⟩ : zc)) h4) rfl fun _ σ _ _ hO h5 h6 => ?_
 have hL := hL.trans h5
 have wp0 := wp0.le h5
 obtain ⟨rfl, rfl⟩ := h6
 have hO : Obs _ _ [_, _] := hO
 obtain ⟨z7, hz7, hF⟩ := bind_some hF
 obtain ⟨_, hr12, hF⟩ := bind_some hF
 refine zbM (T := Ty.u8) (y := z7) hO wp0 (i := 0) rfl rfl (fun _ => rfl) rfl (u8R hz7) rfl hr12 (by decide) fun u _ σ o10 w11 hO => ?_
 obtain ⟨A8, c9, rfl, -⟩ := w11.form
 have hO : Obs _ _ [_, _] := hO
 refine za hO [] [(1, zqQ bm1), (5, .slice A8 (p0 ++ [z7]).length c9)] zqA fun j => ?_
 refine zp ?_
 injection hF with hF
 subst hF
 exact hQ _ _ _ _ _ rfl hO hL ⟨_, _, rfl, rfl, w11⟩
theorem zqo {τ : Hp} {v0 : Value} {p0 : (List UInt8)} {o0 : Ob} {q1 : zc} {bm1 : Nat} {af0 : Addr} (wp0 : zd Ty.u8 5 τ v0 p0 o0) (mf0 : At τ af0 [.func (.func 102) #[] #[]]) {rr : (List UInt8) × zc} (hF : zhA p0 q1 = some rr) :
  Ctr Tryz.prog 117 #[v0, .pointer (some ⟨bm1, 0, none⟩), .pointer (some af0)] τ [o0, some (bm1, ⟨[.int .u8 q1.Kind.toNat, .int .u8 q1.Op.toNat, .int .i64 q1.R, .int .i64 q1.S, .int .i64 q1.T, .int .i64 q1.N, .int .i64 q1.M], 54, 7, true⟩)] (fun v τ' vs' => ∃ (v0 : Value) (o0 : Ob), v = v0 ∧ vs' = [o0, some (bm1, ⟨[.int .u8 rr.2.Kind.toNat, .int .u8 rr.2.Op.toNat, .int .i64 rr.2.R, .int .i64 rr.2.S, .int .i64 rr.2.T, .int .i64 rr.2.N, .int .i64 rr.2.M], 54, 7, true⟩)] ∧ zd Ty.u8 5 τ' v0 rr.1 o0) := by
 obtain ⟨A0, c0, rfl, -⟩ := wp0.form
 refine zw (args := [.slice A0 p0.length c0, .pointer (some ⟨bm1, 0, none⟩), .pointer (some af0)]) hm Tryz.func117 zfa rfl fun w0 σ hO Q hQ => ?_
 unfold zhA at hF
 have hL := Hp.le.refl τ
 show wpn _ _ zb6.body _ _ _
 unfold zb6
 dsimp only
 refine za hO [] [(0, .slice A0 p0.length c0), (1, zqQ bm1), (2, .pointer (some af0))] zqB fun j => ?_
 refine zb hO 1 [] [(1, zqQ bm1), (2, .pointer (some af0)), (6, .slice A0 p0.length c0)] zqB fun j => ?_
 refine zX rfl (mf0.le hO.base).fst ?_
 refine zb hO 1 [] [(1, zqQ bm1), (6, .slice A0 p0.length c0), (7, .func (.func 102) #[] #[]), (8, zqQ bm1)] zqC fun j => ?_
 obtain ⟨c3, h4, hF⟩ := bind_some hF
 refine zcD (hs := [_]) (vs := [_]) rfl (by kernel_rfl) hO (zp2 (q0 := (⟨q1.Kind, q1.Op, q1.R, q1.S, q1.T, q1.N, q1.M⟩ : zc)) h4) rfl fun _ σ _ _ hO h5 h6 => ?_
 have hL := hL.trans h5
 have wp0 := wp0.le h5
 obtain ⟨rfl, rfl⟩ := h6
 have hO : Obs _ _ [_, _] := hO
 obtain ⟨z7, hz7, hF⟩ := bind_some hF
 obtain ⟨_, hr12, hF⟩ := bind_some hF
 refine zbM (T := Ty.u8) (y := z7) hO wp0 (i := 0) rfl rfl (fun _ => rfl) rfl (u8R hz7) rfl hr12 (by decide) fun u _ σ o10 w11 hO => ?_
 obtain ⟨A8, c9, rfl, -⟩ := w11.form
 have hO : Obs _ _ [_, _] := hO
 refine za hO [] [(1, zqQ bm1), (5, .slice A8 (p0 ++ [z7]).length c9)] zqA fun j => ?_
 refine zp ?_
 injection hF with hF
 subst hF
 exact hQ _ _ _ _ _ rfl hO hL ⟨_, _, rfl, rfl, w11⟩
theorem zo3 {τ : Hp} {v0 : Value} {p0 : (List UInt8)} {o0 : Ob} {q1 : zc} {bm1 : Nat} (wp0 : zd Ty.u8 5 τ v0 p0 o0) {rr : (List UInt8) × zc} (hF : zhk p0 q1 = some rr) :
  Ctr Tryz.prog 105 #[v0, .pointer (some ⟨bm1, 0, none⟩)] τ [o0, some (bm1, ⟨[.int .u8 q1.Kind.toNat, .int .u8 q1.Op.toNat, .int .i64 q1.R, .int .i64 q1.S, .int .i64 q1.T, .int .i64 q1.N, .int .i64 q1.M], 54, 7, true⟩)] (fun v τ' vs' => ∃ (v0 : Value) (o0 : Ob), v = v0 ∧ vs' = [o0, some (bm1, ⟨[.int .u8 rr.2.Kind.toNat, .int .u8 rr.2.Op.toNat, .int .i64 rr.2.R, .int .i64 rr.2.S, .int .i64 rr.2.T, .int .i64 rr.2.N, .int .i64 rr.2.M], 54, 7, true⟩)] ∧ zd Ty.u8 5 τ' v0 rr.1 o0) := by
 obtain ⟨A0, c0, rfl, -⟩ := wp0.form
 refine zw (args := [.slice A0 p0.length c0, .pointer (some ⟨bm1, 0, none⟩)]) hm Tryz.func105 zne rfl fun w0 σ hO Q hQ => ?_
 unfold zhk at hF
 have hL := Hp.le.refl τ
 show wpn _ _ ziv.body _ _ _
 unfold ziv
 dsimp only
 refine za hO [] [(0, .slice A0 p0.length c0), (1, zqQ bm1)] zqA fun j => ?_
 refine zb hO 6 [1] [(1, zqQ bm1), (5, .slice A0 p0.length c0), (10, .int .u64 (IntKind.u64.wrap q1.M))] (And.intro (And.intro rfl rfl) zqB) fun j => ?_
 obtain ⟨_, h4, r3, hO⟩ := wp0.share hO (i := 0) rfl
 have hL := hL.trans h4
 have hO : Obs _ _ [_, _] := hO
 obtain ⟨c5, h6, hF⟩ := bind_some hF
 refine zs hO (zlL r3 h6) rfl fun _ σ _ _ hO h7 h8 => ?_
 have hL := hL.trans h7
 have r3 := r3.le h7
 obtain ⟨v9, o12, rfl, rfl, w13⟩ := h8
 obtain ⟨A10, c11, rfl, -⟩ := w13.form
 have hO : Obs _ _ [_, _, _] := hO
 refine za hO [] [(1, zqQ bm1), (4, .slice A10 c5.length c11)] zqA fun j => ?_
 refine zp ?_
 injection hF with hF
 subst hF
 have hO := hO.sel [2, 1] (by decide)
 exact hQ _ _ _ _ _ rfl hO hL ⟨_, _, rfl, rfl, w13⟩
theorem zqe {τ : Hp} {v0 : Value} {p0 : (List UInt8)} {o0 : Ob} {q1 : zc} {bm1 : Nat} (wp0 : zd Ty.u8 5 τ v0 p0 o0) {rr : (List UInt8) × zc} (hF : zid p0 q1 = some rr) :
  Ctr Tryz.prog 110 #[v0, .pointer (some ⟨bm1, 0, none⟩)] τ [o0, some (bm1, ⟨[.int .u8 q1.Kind.toNat, .int .u8 q1.Op.toNat, .int .i64 q1.R, .int .i64 q1.S, .int .i64 q1.T, .int .i64 q1.N, .int .i64 q1.M], 54, 7, true⟩)] (fun v τ' vs' => ∃ (v0 : Value) (o0 : Ob), v = v0 ∧ vs' = [o0, some (bm1, ⟨[.int .u8 rr.2.Kind.toNat, .int .u8 rr.2.Op.toNat, .int .i64 rr.2.R, .int .i64 rr.2.S, .int .i64 rr.2.T, .int .i64 rr.2.N, .int .i64 rr.2.M], 54, 7, true⟩)] ∧ zd Ty.u8 5 τ' v0 rr.1 o0) := by
 obtain ⟨A0, c0, rfl, -⟩ := wp0.form
 refine zw (args := [.slice A0 p0.length c0, .pointer (some ⟨bm1, 0, none⟩)]) hm Tryz.func110 zpY rfl fun w0 σ hO Q hQ => ?_
 unfold zid at hF
 have hL := Hp.le.refl τ
 show wpn _ _ zjh.body _ _ _
 unfold zjh
 dsimp only
 refine za hO [] [(0, .slice A0 p0.length c0), (1, zqQ bm1)] zqA fun j => ?_
 refine zb hO 5 [1] [(1, zqQ bm1), (8, .slice A0 p0.length c0), (12, zqP q1.N)] (And.intro (And.intro rfl rfl) zqB) fun j => ?_
 obtain ⟨_, h4, r3, hO⟩ := wp0.share hO (i := 0) rfl
 have hL := hL.trans h4
 have hO : Obs _ _ [_, _] := hO
 obtain ⟨c5, h6, hF⟩ := bind_some hF
 refine zs hO (zpw r3 h6) rfl fun _ σ _ _ hO h7 h8 => ?_
 have hL := hL.trans h7
 have r3 := r3.le h7
 obtain ⟨v9, o12, rfl, rfl, w13⟩ := h8
 obtain ⟨A10, c11, rfl, -⟩ := w13.form
 have hO : Obs _ _ [_, _, _] := hO
 refine za hO [] [(1, zqQ bm1), (5, .slice A10 c5.1.length c11)] zqA fun j => ?_
 refine za hO [] [(1, zqQ bm1), (4, .slice A10 c5.1.length c11)] zqA fun j => ?_
 refine zp ?_
 injection hF with hF
 subst hF
 have hO := hO.sel [2, 1] (by decide)
 exact hQ _ _ _ _ _ rfl hO hL ⟨_, _, rfl, rfl, w13⟩
theorem zl1 {τ : Hp} {v0 : Value} {p0 : (List UInt8)} {o0 : Ob} {q1 : zc} {bm1 : Nat} {af0 : Addr} (wp0 : zd Ty.u8 5 τ v0 p0 o0) (mf0 : At τ af0 [.func (.func 115) #[] #[]]) {rr : (List UInt8) × zc} (hF : zhC p0 q1 = some rr) :
  Ctr Tryz.prog 117 #[v0, .pointer (some ⟨bm1, 0, none⟩), .pointer (some af0)] τ [o0, some (bm1, ⟨[.int .u8 q1.Kind.toNat, .int .u8 q1.Op.toNat, .int .i64 q1.R, .int .i64 q1.S, .int .i64 q1.T, .int .i64 q1.N, .int .i64 q1.M], 54, 7, true⟩)] (fun v τ' vs' => ∃ (v0 : Value) (o0 : Ob), v = v0 ∧ vs' = [o0, some (bm1, ⟨[.int .u8 rr.2.Kind.toNat, .int .u8 rr.2.Op.toNat, .int .i64 rr.2.R, .int .i64 rr.2.S, .int .i64 rr.2.T, .int .i64 rr.2.N, .int .i64 rr.2.M], 54, 7, true⟩)] ∧ zd Ty.u8 5 τ' v0 rr.1 o0) := by
 obtain ⟨A0, c0, rfl, -⟩ := wp0.form
 refine zw (args := [.slice A0 p0.length c0, .pointer (some ⟨bm1, 0, none⟩), .pointer (some af0)]) hm Tryz.func117 zfa rfl fun w0 σ hO Q hQ => ?_
 unfold zhC at hF
 have hL := Hp.le.refl τ
 show wpn _ _ zb6.body _ _ _
 unfold zb6
 dsimp only
 refine za hO [] [(0, .slice A0 p0.length c0), (1, zqQ bm1), (2, .pointer (some af0))] zqB fun j => ?_
 refine zb hO 1 [] [(1, zqQ bm1), (2, .pointer (some af0)), (6, .slice A0 p0.length c0)] zqB fun j => ?_
 refine zX rfl (mf0.le hO.base).fst ?_
 refine zb hO 1 [] [(1, zqQ bm1), (6, .slice A0 p0.length c0), (7, .func (.func 115) #[] #[]), (8, zqQ bm1)] zqC fun j => ?_
 obtain ⟨c3, h4, hF⟩ := bind_some hF
 refine zcD (hs := [_]) (vs := [_]) rfl (by kernel_rfl) hO (zoS (q0 := (⟨q1.Kind, q1.Op, q1.R, q1.S, q1.T, q1.N, q1.M⟩ : zc)) h4) rfl fun _ σ _ _ hO h5 h6 => ?_
 have hL := hL.trans h5
 have wp0 := wp0.le h5
 obtain ⟨rfl, rfl⟩ := h6
 have hO : Obs _ _ [_, _] := hO
 obtain ⟨z7, hz7, hF⟩ := bind_some hF
 obtain ⟨_, hr12, hF⟩ := bind_some hF
 refine zbM (T := Ty.u8) (y := z7) hO wp0 (i := 0) rfl rfl (fun _ => rfl) rfl (u8R hz7) rfl hr12 (by decide) fun u _ σ o10 w11 hO => ?_
 obtain ⟨A8, c9, rfl, -⟩ := w11.form
 have hO : Obs _ _ [_, _] := hO
 refine za hO [] [(1, zqQ bm1), (5, .slice A8 (p0 ++ [z7]).length c9)] zqA fun j => ?_
 refine zp ?_
 injection hF with hF
 subst hF
 exact hQ _ _ _ _ _ rfl hO hL ⟨_, _, rfl, rfl, w11⟩
theorem zkn {τ : Hp} {v0 : Value} {p0 : (List UInt8)} {o0 : Ob} {q1 : zc} {bm1 : Nat} (wp0 : zd Ty.u8 5 τ v0 p0 o0) {rr : (List UInt8) × zc} (hF : zeg p0 q1 = some rr) :
  Ctr Tryz.prog 89 #[v0, .pointer (some ⟨bm1, 0, none⟩)] τ [o0, some (bm1, ⟨[.int .u8 q1.Kind.toNat, .int .u8 q1.Op.toNat, .int .i64 q1.R, .int .i64 q1.S, .int .i64 q1.T, .int .i64 q1.N, .int .i64 q1.M], 54, 7, true⟩)] (fun v τ' vs' => ∃ (v0 : Value) (o0 : Ob), v = v0 ∧ vs' = [o0, some (bm1, ⟨[.int .u8 rr.2.Kind.toNat, .int .u8 rr.2.Op.toNat, .int .i64 rr.2.R, .int .i64 rr.2.S, .int .i64 rr.2.T, .int .i64 rr.2.N, .int .i64 rr.2.M], 54, 7, true⟩)] ∧ zd Ty.u8 5 τ' v0 rr.1 o0) := by
 obtain ⟨A0, c0, rfl, -⟩ := wp0.form
 refine zw (args := [.slice A0 p0.length c0, .pointer (some ⟨bm1, 0, none⟩)]) hm Tryz.func89 s89 rfl fun w0 σ hO Q hQ => ?_
 unfold zeg at hF
 have hL := Hp.le.refl τ
 show wpn _ _ a89.body _ _ _
 unfold a89
 dsimp only
 refine za hO [] [(0, .slice A0 p0.length c0), (1, zqQ bm1)] zqA fun j => ?_
 refine zb hO 5 [1] [(1, zqQ bm1), (5, .slice A0 p0.length c0), (9, zqP q1.N)] (And.intro (And.intro rfl rfl) zqB) fun j => ?_
 obtain ⟨_, h4, r3, hO⟩ := wp0.share hO (i := 0) rfl
 have hL := hL.trans h4
 have hO : Obs _ _ [_, _] := hO
 obtain ⟨c5, h6, hF⟩ := bind_some hF
 refine zs hO (zkA r3 h6) rfl fun _ σ _ _ hO h7 h8 => ?_
 have hL := hL.trans h7
 have r3 := r3.le h7
 obtain ⟨v9, o12, rfl, rfl, w13⟩ := h8
 obtain ⟨A10, c11, rfl, -⟩ := w13.form
 have hO : Obs _ _ [_, _, _] := hO
 refine za hO [] [(1, zqQ bm1), (4, .slice A10 c5.length c11)] zqA fun j => ?_
 refine zp ?_
 injection hF with hF
 subst hF
 have hO := hO.sel [2, 1] (by decide)
 exact hQ _ _ _ _ _ rfl hO hL ⟨_, _, rfl, rfl, w13⟩
theorem zmp {τ : Hp} {x : zx} {u0 u1 u2 : Value} (hx : zbz τ x u0 u1 u2) {v0 : Value} {p0 : (List UInt8)} {o0 : Ob} {q1 : zc} {bm1 : Nat} (wp0 : zd Ty.u8 5 τ v0 p0 o0) {rr : (List UInt8) × zc} (hF : zhc x p0 q1 = some rr) :
  FnC Tryz.prog u1 #[v0, .pointer (some ⟨bm1, 0, none⟩)] τ [o0, some (bm1, ⟨[.int .u8 q1.Kind.toNat, .int .u8 q1.Op.toNat, .int .i64 q1.R, .int .i64 q1.S, .int .i64 q1.T, .int .i64 q1.N, .int .i64 q1.M], 54, 7, true⟩)] (fun v τ' vs' => ∃ (v0 : Value) (o0 : Ob), v = v0 ∧ vs' = [o0, some (bm1, ⟨[.int .u8 rr.2.Kind.toNat, .int .u8 rr.2.Op.toNat, .int .i64 rr.2.R, .int .i64 rr.2.S, .int .i64 rr.2.T, .int .i64 rr.2.N, .int .i64 rr.2.M], 54, 7, true⟩)] ∧ zd Ty.u8 5 τ' v0 rr.1 o0) := by
 cases x with
 | c_one_1 => obtain ⟨a1_0, a2_0, rfl, rfl, rfl, m0, m1⟩ := hx; exact ⟨117, #[], #[.pointer (some a1_0)], _, rfl, by kernel_rfl, rfl, zp0 wp0 m0 hF⟩
 | c_both_1 => obtain ⟨a1_0, a2_0, rfl, rfl, rfl, m0, m1⟩ := hx; exact ⟨117, #[], #[.pointer (some a1_0)], _, rfl, by kernel_rfl, rfl, zph wp0 m0 hF⟩
 | c_op_1 x0 x1 => obtain ⟨a0_0, a0_1, a1_0, a2_0, rfl, rfl, rfl, m0, m1, m2, m3⟩ := hx; exact ⟨117, #[], #[.pointer (some a1_0)], _, rfl, by kernel_rfl, rfl, zm7 wp0 m2 hF⟩
 | c_third_1 => obtain ⟨a1_0, a2_0, rfl, rfl, rfl, m0, m1⟩ := hx; exact ⟨117, #[], #[.pointer (some a1_0)], _, rfl, by kernel_rfl, rfl, zqo wp0 m0 hF⟩
 | c_bound_1 => obtain ⟨rfl, rfl, rfl⟩ := hx; exact ⟨105, #[], #[], _, rfl, by kernel_rfl, rfl, zo3 wp0 hF⟩
 | c_to_1 => obtain ⟨rfl, rfl, rfl⟩ := hx; exact ⟨110, #[], #[], _, rfl, by kernel_rfl, rfl, zqe wp0 hF⟩
 | c_how_1 => obtain ⟨a1_0, a2_0, rfl, rfl, rfl, m0, m1⟩ := hx; exact ⟨117, #[], #[.pointer (some a1_0)], _, rfl, by kernel_rfl, rfl, zl1 wp0 m0 hF⟩
 | c_parts_1 => obtain ⟨rfl, rfl, rfl⟩ := hx; exact ⟨89, #[], #[], _, rfl, by kernel_rfl, rfl, zkn wp0 hF⟩
 | c_within => obtain ⟨rfl, rfl, rfl⟩ := hx; exact ⟨89, #[], #[], _, rfl, by kernel_rfl, rfl, zkn wp0 hF⟩
theorem zkv {τ : Hp} {p0 : zc}  {rr : (List UInt8) × Bool} (hF : zdm p0 = some rr) :
  Ctr Tryz.prog 61 #[.agg #[.int .u8 p0.Kind.toNat, .int .u8 p0.Op.toNat, .int .i64 p0.R, .int .i64 p0.S, .int .i64 p0.T, .int .i64 p0.N, .int .i64 p0.M]] τ [] (fun v τ' vs' => ∃ (v0 : Value) (o0 : Ob), v = .tuple #[v0, .bool rr.2] ∧ vs' = [o0] ∧ zd Ty.u8 5 τ' v0 rr.1 o0) := by
 refine zw (args := [.agg #[.int .u8 p0.Kind.toNat, .int .u8 p0.Op.toNat, .int .i64 p0.R, .int .i64 p0.S, .int .i64 p0.T, .int .i64 p0.N, .int .i64 p0.M]]) hm Tryz.func61 s61 rfl fun w0 σ hO Q hQ => ?_
 unfold zdm at hF
 have hL := Hp.le.refl τ
 show wpn _ _ a61.body _ _ _
 unfold a61
 dsimp only
 refine zbd (n := 7) hO rfl rfl fun b2 σ hO => ?_
 have hO : Obs _ _ [_] := hO
 refine za hO [] [(1, zqQ b2)] zqz fun j => ?_
 refine zb hO 2 [0] [(1, zqQ b2), (11, .int .u8 (p0.Kind.toNat : Int))] (And.intro (And.intro rfl rfl) zqA) fun j => ?_
 obtain ⟨c3, h4, hF⟩ := bind_some hF
 refine zs hO (zkQ h4) rfl fun _ σ _ _ hO h5 h6 => ?_
 have hL := hL.trans h5
 obtain ⟨v7, o10, rfl, rfl, w11⟩ := h6
 obtain ⟨A8, c9, rfl, -⟩ := w11.form
 have hO : Obs _ _ [_, _] := hO
 refine za hO [] [(1, zqQ b2), (4, .slice A8 c3.1.length c9), (5, .bool c3.2)] zqB fun j => ?_
 refine zf (za hO [] [(1, zqQ b2), (4, .slice A8 c3.1.length c9), (16, .bool (!c3.2))] zqB fun j => ?_)
 rcases zi hF with ⟨hb12, hF⟩ | ⟨hb12, hF⟩
 ·refine zl (congrArg Value.bool hb12) ?_
  refine zf (za hO [] [(2, .slice none 0 0), (3, .bool false)] zqA fun j => ?_)
  refine zA ?_
  have hO := hO.no
  have hO : Obs _ _ [_, _, _] := hO
  injection hF with hF
  subst hF
  have hO := hO.sel [2] (by decide)
  exact hQ _ _ _ _ _ rfl hO hL ⟨_, _, rfl, rfl, (zd.nil _ _ _)⟩
 ·refine zj (congrArg Value.bool hb12) ?_
  refine zr (zb hO 2 [0] [(1, zqQ b2), (4, .slice A8 c3.1.length c9), (18, .int .u8 (p0.Kind.toNat : Int))] (And.intro (And.intro rfl rfl) zqB) fun j => ?_)
  refine zby (T := Ty.u8) (l := ([p0.Kind] : List UInt8)) (cs := [.int .u8 (p0.Kind.toNat : Int)]) hO rfl ⟨[.int .u8 (p0.Kind.toNat : Int)], _, rfl, rfl, rfl⟩ rfl (by decide) fun _ σ o15 w16 hO => ?_
  obtain ⟨A13, c14, rfl, -⟩ := w16.form
  have hO : Obs _ _ [_, _, _] := hO
  refine za hO [] [(1, zqQ b2), (4, .slice A8 c3.1.length c9), (6, .slice A13 ([p0.Kind] : List UInt8).length c14)] zqB fun j => ?_
  refine zf (za hO [] [(1, zqQ b2), (6, .slice A13 ([p0.Kind] : List UInt8).length c14), (20, .slice A8 c3.1.length c9), (21, zqP (c3.1.length : Int)), (22, zqP 0)] zqD fun j => ?_)
  refine zO ?_
  have hO := hO.sel [0, 2, 1] (by decide)
  refine zbo (fun (n : Nat) e' σ' => ∃ (x60 : UInt8) (x61 : UInt8) (x62 : Int) (x63 : Int) (x64 : Int) (x65 : Int) (x66 : Int) (A67 : Option Addr) (c68 : Nat) (o69 : Ob) (x70 : List UInt8) (A72 : Option Addr) (c73 : Nat) (o74 : Ob) (x75 : List zx) (x77 : Int) (τ' : Hp), agr [(1, zqQ b2), (6, .slice A67 x70.length c68), (20, .slice A72 x75.length c73), (21, zqP (c3.1.length : Int)), (22, zqP x77)] e' ∧ Obs τ' σ' [some (b2, ⟨[.int .u8 (x60.toNat : Int), .int .u8 (x61.toNat : Int), .int .i64 x62, .int .i64 x63, .int .i64 x64, .int .i64 x65, .int .i64 x66], 54, 7, true⟩), o69, o74] ∧ Hp.le τ τ' ∧ zd Ty.u8 5 τ' (.slice A67 x70.length c68) x70 o69 ∧ zd zbV 104 τ' (.slice A72 x75.length c73) x75 o74 ∧ zgQ c3 n x60 x61 x62 x63 x64 x65 x66 x70 x75 x77 = some rr) big ⟨p0.Kind, p0.Op, p0.R, p0.S, p0.T, p0.N, p0.M, A13, c14, o15, ([p0.Kind] : List UInt8), A8, c9, o10, c3.1, 0, _, zqO zqC, hO, hL, w16, w11, hF⟩ ?_
  clear hF hO hL
  rintro n111 e σ ⟨x60, x61, x62, x63, x64, x65, x66, A67, c68, o69, x70, A72, c73, o74, x75, x77, _, hA, hO, hL, w71, w76, hF⟩
  rw [← zB _ _ hA]
  cases n111 with
  | zero => exact nomatch (show none = some rr from hF)
  | succ n111 =>
   replace hF : zgG (zgQ c3 n111) c3 x60 x61 x62 x63 x64 x65 x66 x70 x75 x77 = some rr := hF
   unfold zgG at hF
   refine za hO [] [(1, zqQ b2), (6, .slice A67 x70.length c68), (20, .slice A72 x75.length c73), (21, zqP (c3.1.length : Int)), (22, zqP x77), (23, .bool (decide (x77 < (c3.1.length : Int))))] zqE fun j => ?_
   rcases zi hF with ⟨hb112, hF⟩ | ⟨hb112, hF⟩
   ·refine zl (congrArg Value.bool hb112) ?_
    refine zr (zO ?_)
    obtain ⟨y113, g114, hF⟩ := bind_some hF
    refine zcs (T := zbV) hO w76 (i := 2) rfl rfl rfl g114 (by decide) fun zh7 _ k116 m117 i118 => ?_
    have k119 := k116
    obtain ⟨f121, zfW, c123, f124, zdl, c126, f127, zdU, c129, rfl, r120⟩ := k119
    refine zX rfl (m117.all rfl) ?_
    refine zbp hO fun b130 σ hO => ?_
    have hO : Obs _ _ [_, _, _, _] := hO
    refine zI hO (i := 3) rfl (off := 0) rfl rfl rfl rfl (Nat.le_of_ble_eq_true rfl) rfl fun σ hO => ?_
    have hO : Obs _ _ [_, _, _, _] := hO
    refine zh (zf (zb hO 2 [3] [(1, zqQ b2), (6, .slice A67 x70.length c68), (8, zqQ b130), (20, .slice A72 x75.length c73), (21, zqP (c3.1.length : Int)), (22, zqP x77), (27, .func f121 zfW c123)] (And.intro (And.intro rfl rfl) zqF) fun j => ?_))
    obtain ⟨c131, h132, hF⟩ := bind_some hF
    have hO := hO.sel [1, 2, 3, 0] (by decide)
    refine ziK (hs := [_, _, _]) (vs := [_]) rfl hO (zn9 r120 h132) rfl fun _ σ _ _ hO h133 h134 => ?_
    have hL := hL.trans h133
    have w71 := w71.le h133
    have w76 := w76.le h133
    have r120 := r120.le h133
    obtain ⟨rfl, rfl⟩ := h134
    have hO : Obs _ _ [_, _, _, _] := hO
    refine za hO [] [(1, zqQ b2), (6, .slice A67 x70.length c68), (8, zqQ b130), (20, .slice A72 x75.length c73), (21, zqP (c3.1.length : Int)), (22, zqP x77), (29, .bool (!c131.1))] zqF fun j => ?_
    rcases zi hF with ⟨hb135, hF⟩ | ⟨hb135, hF⟩
    ·refine zl (congrArg Value.bool hb135) ?_
     refine zf (za hO [] [(2, .slice none 0 0), (3, .bool false)] zqA fun j => ?_)
     refine zA (zR (zJ (zJ (zR (zJ ?_)))))
     have hO := hO.no
     have hO : Obs _ _ [_, _, _, _, _] := hO
     injection hF with hF
     subst hF
     have hO := hO.sel [4] (by decide)
     exact hQ _ _ _ _ _ rfl hO hL ⟨_, _, rfl, rfl, (zd.nil _ _ _)⟩
    ·refine zj (congrArg Value.bool hb135) ?_
     refine zr (zQ (zb hO 3 [2] [(1, zqQ b2), (20, .slice A72 x75.length c73), (21, zqP (c3.1.length : Int)), (22, zqP x77), (31, .func f124 zdl c126), (32, .slice A67 x70.length c68)] (And.intro (And.intro rfl rfl) zqE) fun j => ?_))
     obtain ⟨c136, h137, hF⟩ := bind_some hF
     have hO := hO.sel [1, 2, 0, 3] (by decide)
     refine ziK (hs := [_, _]) (vs := [_, _]) rfl hO (zmp r120 w71 h137) rfl fun _ σ _ _ hO h138 h139 => ?_
     have hL := hL.trans h138
     have w76 := w76.le h138
     have r120 := r120.le h138
     obtain ⟨v140, o143, rfl, rfl, w144⟩ := h139
     obtain ⟨A141, c142, rfl, -⟩ := w144.form
     have hO : Obs _ _ [_, _, _, _] := hO
     refine za hO [] [(1, zqQ b2), (6, .slice A141 c136.1.length c142), (20, .slice A72 x75.length c73), (21, zqP (c3.1.length : Int)), (22, zqP x77)] zqD fun j => ?_
     refine zg (zK (zn (zQ (za hO [] [(1, zqQ b2), (6, .slice A141 c136.1.length c142), (20, .slice A72 x75.length c73), (21, zqP (c3.1.length : Int)), (22, zqP (IntKind.i64.wrap (x77 + 1)))] zqD fun j => ?_))))
     refine zg (zn ?_)
     have hO := hO.sel [3, 2, 0] (by decide)
     exact ⟨n111, Nat.lt_succ_self _, c136.2.Kind, c136.2.Op, c136.2.R, c136.2.S, c136.2.T, c136.2.N, c136.2.M, A141, c142, o143, c136.1, A72, c73, o74, x75, (IntKind.i64.wrap (x77 + 1)), _, zqO zqC, hO, hL, w144, w76, hF⟩
   ·refine zj (congrArg Value.bool hb112) ?_
    refine zbs (zbr (zbn (zn (za hO [] [(2, .slice A67 x70.length c68), (3, .bool true)] zqA fun j => ?_))))
    refine zp ?_
    injection hF with hF
    subst hF
    have hO := hO.sel [1] (by decide)
    exact hQ _ _ _ _ _ rfl hO hL ⟨_, _, rfl, rfl, w71⟩
theorem zj5 {τ : Hp} {p0 : zc}  {rr : Bool} (hF : zdE p0 = some rr) :
  Ctr Tryz.prog 42 #[.agg #[.int .u8 p0.Kind.toNat, .int .u8 p0.Op.toNat, .int .i64 p0.R, .int .i64 p0.S, .int .i64 p0.T, .int .i64 p0.N, .int .i64 p0.M]] τ [] (fun v τ' vs' => v = .bool rr ∧ vs' = []) := by
 refine zw (args := [.agg #[.int .u8 p0.Kind.toNat, .int .u8 p0.Op.toNat, .int .i64 p0.R, .int .i64 p0.S, .int .i64 p0.T, .int .i64 p0.N, .int .i64 p0.M]]) hm Tryz.func42 s42 rfl fun w0 σ hO Q hQ => ?_
 unfold zdE at hF
 have hL := Hp.le.refl τ
 show wpn _ _ a42.body _ _ _
 unfold a42
 dsimp only
 refine zbd (n := 7) hO rfl rfl fun b2 σ hO => ?_
 have hO : Obs _ _ [_] := hO
 refine za hO [] [(1, zqQ b2)] zqz fun j => ?_
 refine zb hO 1 [0] [(1, zqQ b2), (8, .agg #[(.int .u8 (p0.Kind.toNat : Int)), (.int .u8 (p0.Op.toNat : Int)), (.int .i64 p0.R), (.int .i64 p0.S), (.int .i64 p0.T), (.int .i64 p0.N), (.int .i64 p0.M)])] (And.intro (And.intro rfl rfl) zqA) fun j => ?_
 obtain ⟨c3, h4, hF⟩ := bind_some hF
 refine zs hO (zkv (p0 := (⟨p0.Kind, p0.Op, p0.R, p0.S, p0.T, p0.N, p0.M⟩ : zc)) h4) rfl fun _ σ _ _ hO h5 h6 => ?_
 have hL := hL.trans h5
 obtain ⟨v7, o10, rfl, rfl, w11⟩ := h6
 obtain ⟨A8, c9, rfl, -⟩ := w11.form
 have hO : Obs _ _ [_, _] := hO
 refine za hO [] [(1, zqQ b2), (3, .slice A8 c3.1.length c9), (4, .bool c3.2)] zqB fun j => ?_
 refine zf (za hO [] [(1, zqQ b2), (3, .slice A8 c3.1.length c9), (13, .bool (!c3.2))] zqB fun j => ?_)
 rcases zi hF with ⟨hb12, hF⟩ | ⟨hb12, hF⟩
 ·refine zl (congrArg Value.bool hb12) ?_
  refine zf (za hO [] [(2, .bool false)] zqz fun j => ?_)
  refine zA ?_
  injection hF with hF
  subst hF
  have hO := hO.sel [] (by decide)
  exact hQ _ _ _ _ _ rfl hO hL ⟨rfl, rfl⟩
 ·refine zj (congrArg Value.bool hb12) ?_
  refine zr (zb hO 1 [] [(1, zqQ b2), (15, .slice A8 c3.1.length c9)] zqA fun j => ?_)
  obtain ⟨_, h14, r13, hO⟩ := w11.share hO (i := 1) rfl
  have hL := hL.trans h14
  have hO : Obs _ _ [_, _] := hO
  obtain ⟨c15, h16, hF⟩ := bind_some hF
  refine zs hO (zkp r13 h16) rfl fun _ σ _ _ hO h17 h18 => ?_
  have hL := hL.trans h17
  have r13 := r13.le h17
  obtain ⟨rfl, rfl⟩ := h18
  have hO : Obs _ _ [_, _] := hO
  refine zb hO 4 [] [(1, zqQ b2), (17, .agg #[(.int .u8 (c15.1.Kind.toNat : Int)), (.int .u8 (c15.1.Op.toNat : Int)), (.int .i64 c15.1.R), (.int .i64 c15.1.S), (.int .i64 c15.1.T), (.int .i64 c15.1.N), (.int .i64 c15.1.M)]), (18, zqP c15.2.1), (19, .bool c15.2.2)] zqC fun j => ?_
  refine zbp hO fun b19 σ hO => ?_
  have hO : Obs _ _ [_, _, _] := hO
  refine zI hO (i := 2) rfl (off := 0) rfl rfl rfl rfl (Nat.le_of_ble_eq_true rfl) rfl fun σ hO => ?_
  have hO : Obs _ _ [_, _, _] := hO
  refine za hO [] [(1, zqQ b2), (4, .bool c15.2.2), (5, zqQ b19)] zqB fun j => ?_
  refine za hO [2, 0] [(2, .bool (c15.2.2 && (( (c15.1.Kind.toNat : Int) == (p0.Kind.toNat : Int)) && (( (c15.1.Op.toNat : Int) == (p0.Op.toNat : Int)) && (( c15.1.R == p0.R) && (( c15.1.S == p0.S) && (( c15.1.T == p0.T) && (( c15.1.N == p0.N) && (( c15.1.M == p0.M) && true)))))))))] (And.intro (And.intro rfl rfl) (And.intro (And.intro rfl rfl) (And.intro (And.intro rfl rfl) (fun _ => zqO trivial)))) fun j => ?_
  refine zp ?_
  injection hF with hF
  subst hF
  have hO := hO.sel [] (by decide)
  exact hQ _ _ _ _ _ rfl hO hL ⟨rfl, rfl⟩
theorem zoC {τ : Hp} {v0 : Value} {p0 : (List UInt8)} {v1 : Value} {p1 : (List UInt8)} (r0 : RdT Ty.u8 τ v0 p0) (r1 : RdT Ty.u8 τ v1 p1) {rr : Bool} (hF : zfj p0 p1 = some rr) :
  Ctr Tryz.prog 43 #[v0, v1] τ [] (fun v τ' vs' => v = .bool rr ∧ vs' = []) := by
 obtain ⟨A0, c0, rfl, -⟩ := r0.form
 obtain ⟨A1, c1, rfl, -⟩ := r1.form
 refine zw (args := [.slice A0 p0.length c0, .slice A1 p1.length c1]) hm Tryz.func43 s43 rfl fun w0 σ hO Q hQ => ?_
 unfold zfj at hF
 have hL := Hp.le.refl τ
 show wpn _ _ a43.body _ _ _
 unfold a43
 dsimp only
 refine za hO [] [(0, .slice A0 p0.length c0), (1, .slice A1 p1.length c1)] zqA fun j => ?_
 refine zb hO 1 [] [(1, .slice A1 p1.length c1), (5, .slice A0 p0.length c0)] zqA fun j => ?_
 refine zlO (l := p0) (r0.le hO.base) rfl ?_
 refine zb hO 1 [] [(6, .string (⟨p0.toArray⟩ : ByteArray)), (7, .slice A1 p1.length c1)] zqA fun j => ?_
 refine zlO (l := p1) (r1.le hO.base) rfl ?_
 refine za hO [] [(4, .bool (zhq (⟨p0.toArray⟩ : ByteArray) (⟨p1.toArray⟩ : ByteArray)))] zqz fun j => ?_
 refine zp ?_
 injection hF with hF
 subst hF
 exact hQ _ _ _ _ _ rfl hO hL ⟨rfl, rfl⟩
theorem zpN {τ : Hp} {v0 : Value} {p0 : (List UInt8)} {p1 : zc} (r0 : RdT Ty.u8 τ v0 p0) {rr : (List UInt8)} (hF : zey p0 p1 = some rr) :
  Ctr Tryz.prog 44 #[v0, .agg #[.int .u8 p1.Kind.toNat, .int .u8 p1.Op.toNat, .int .i64 p1.R, .int .i64 p1.S, .int .i64 p1.T, .int .i64 p1.N, .int .i64 p1.M]] τ [] (fun v τ' vs' => ∃ (v0 : Value) (o0 : Ob), v = v0 ∧ vs' = [o0] ∧ zd Ty.u8 5 τ' v0 rr o0) := by
 obtain ⟨A0, c0, rfl, -⟩ := r0.form
 refine zw (args := [.slice A0 p0.length c0, .agg #[.int .u8 p1.Kind.toNat, .int .u8 p1.Op.toNat, .int .i64 p1.R, .int .i64 p1.S, .int .i64 p1.T, .int .i64 p1.N, .int .i64 p1.M]]) hm Tryz.func44 s44 rfl fun w0 σ hO Q hQ => ?_
 unfold zey at hF
 have hL := Hp.le.refl τ
 show wpn _ _ a44.body _ _ _
 unfold a44
 dsimp only
 refine zbd (n := 7) hO rfl rfl fun b3 σ hO => ?_
 have hO : Obs _ _ [_] := hO
 refine za hO [] [(0, .slice A0 p0.length c0), (3, zqQ b3)] zqA fun j => ?_
 refine zb hO 1 [] [(3, zqQ b3), (8, .slice A0 p0.length c0)] zqA fun j => ?_
 obtain ⟨c4, h5, hF⟩ := bind_some hF
 refine zs hO (zgf r0 h5) rfl fun _ σ _ _ hO h6 h7 => ?_
 have hL := hL.trans h6
 have r0 := r0.le h6
 obtain ⟨v8, o11, rfl, rfl, w12⟩ := h7
 obtain ⟨A9, c10, rfl, -⟩ := w12.form
 have hO : Obs _ _ [_, _] := hO
 refine za hO [] [(3, zqQ b3), (5, .slice A9 c4.length c10)] zqA fun j => ?_
 refine zf (zb hO 1 [0] [(3, zqQ b3), (5, .slice A9 c4.length c10), (10, .agg #[(.int .u8 (p1.Kind.toNat : Int)), (.int .u8 (p1.Op.toNat : Int)), (.int .i64 p1.R), (.int .i64 p1.S), (.int .i64 p1.T), (.int .i64 p1.N), (.int .i64 p1.M)])] (And.intro (And.intro rfl rfl) zqB) fun j => ?_)
 obtain ⟨c13, h14, hF⟩ := bind_some hF
 refine zs hO (zj5 (p0 := (⟨p1.Kind, p1.Op, p1.R, p1.S, p1.T, p1.N, p1.M⟩ : zc)) h14) rfl fun _ σ _ _ hO h15 h16 => ?_
 have hL := hL.trans h15
 have w12 := w12.le h15
 obtain ⟨rfl, rfl⟩ := h16
 have hO : Obs _ _ [_, _] := hO
 refine za hO [] [(3, zqQ b3), (5, .slice A9 c4.length c10), (12, .bool (!c13))] zqB fun j => ?_
 rcases zi hF with ⟨hb17, hF⟩ | ⟨hb17, hF⟩
 ·refine zl (congrArg Value.bool hb17) ?_
  refine zf (za hO [] [(4, .slice A9 c4.length c10)] zqz fun j => ?_)
  refine zA ?_
  injection hF with hF
  subst hF
  have hO := hO.sel [1] (by decide)
  exact hQ _ _ _ _ _ rfl hO hL ⟨_, _, rfl, rfl, w12⟩
 ·refine zj (congrArg Value.bool hb17) ?_
  refine zr (zb hO 1 [0] [(5, .slice A9 c4.length c10), (15, .agg #[(.int .u8 (p1.Kind.toNat : Int)), (.int .u8 (p1.Op.toNat : Int)), (.int .i64 p1.R), (.int .i64 p1.S), (.int .i64 p1.T), (.int .i64 p1.N), (.int .i64 p1.M)])] (And.intro (And.intro rfl rfl) zqA) fun j => ?_)
  obtain ⟨c18, h19, hF⟩ := bind_some hF
  refine zs hO (zkv (p0 := (⟨p1.Kind, p1.Op, p1.R, p1.S, p1.T, p1.N, p1.M⟩ : zc)) h19) rfl fun _ σ _ _ hO h20 h21 => ?_
  have hL := hL.trans h20
  have w12 := w12.le h20
  obtain ⟨v22, o25, rfl, rfl, w26⟩ := h21
  obtain ⟨A23, c24, rfl, -⟩ := w26.form
  have hO : Obs _ _ [_, _, _] := hO
  refine za hO [] [(5, .slice A9 c4.length c10), (6, .slice A23 c18.1.length c24)] zqA fun j => ?_
  refine zb hO 2 [] [(19, .slice A9 c4.length c10), (20, .slice A23 c18.1.length c24)] zqA fun j => ?_
  obtain ⟨_, hr31, hF⟩ := bind_some hF
  refine ziU (T := Ty.u8) zlt hO w12 (i := 1) rfl rfl rfl (w26.rd hO (i := 2) rfl) hr31 (by decide) fun _ σ o29 w30 hO => ?_
  obtain ⟨A27, c28, rfl, -⟩ := w30.form
  have hO : Obs _ _ [_, _, _] := hO
  refine za hO [] [(4, .slice A27 (c4 ++ c18.1).length c28)] zqz fun j => ?_
  refine zp ?_
  injection hF with hF
  subst hF
  have hO := hO.sel [1] (by decide)
  exact hQ _ _ _ _ _ rfl hO hL ⟨_, _, rfl, rfl, w30⟩
theorem zkG {τ : Hp} {v0 : Value} {p0 : (List UInt8)} {p1 : Int} (r0 : RdT Ty.u8 τ v0 p0) {rr : zc × Int × Int} (hF : zeb p0 p1 = some rr) :
  Ctr Tryz.prog 30 #[v0, .int .i64 p1] τ [] (fun v τ' vs' => v = .tuple #[.agg #[.int .u8 rr.1.Kind.toNat, .int .u8 rr.1.Op.toNat, .int .i64 rr.1.R, .int .i64 rr.1.S, .int .i64 rr.1.T, .int .i64 rr.1.N, .int .i64 rr.1.M], .int .i64 rr.2.1, .int .i64 rr.2.2] ∧ vs' = []) := by
 obtain ⟨A0, c0, rfl, -⟩ := r0.form
 refine zw (args := [.slice A0 p0.length c0, .int .i64 p1]) hm Tryz.func30 s30 rfl fun w0 σ hO Q hQ => ?_
 unfold zeb at hF
 have hL := Hp.le.refl τ
 show wpn _ _ a30.body _ _ _
 unfold a30
 dsimp only
 refine zbp hO fun b3 σ hO => ?_
 have hO : Obs _ _ [_] := hO
 refine za hO [] [(0, .slice A0 p0.length c0), (1, zqP p1), (4, zqQ b3)] zqB fun j => ?_
 refine zf (za hO [] [(0, .slice A0 p0.length c0), (1, zqP p1), (4, zqQ b3), (17, .bool ((decide (p1 < 0)) || (decide (p1 > (p0.length : Int)))))] (And.intro (And.intro rfl rfl) (fun _ => zqO zqB)) fun j => ?_)
 rcases zi hF with ⟨hb4, hF⟩ | ⟨hb4, hF⟩
 ·refine zl (congrArg Value.bool hb4) ?_
  refine zf (zb hO 1 [0] [(4, zqQ b3), (18, .agg #[(.int .u8 0), (.int .u8 0), (.int .i64 0), (.int .i64 0), (.int .i64 0), (.int .i64 0), (.int .i64 0)])] (And.intro (And.intro rfl rfl) zqA) fun j => ?_)
  refine zI hO (i := 0) rfl (off := 0) rfl rfl rfl rfl (Nat.le_of_ble_eq_true rfl) rfl fun σ hO => ?_
  have hO : Obs _ _ [_] := hO
  refine za hO [] [(4, zqQ b3), (5, zqP 0), (6, zqP 1)] zqB fun j => ?_
  refine zA ?_
  injection hF with hF
  subst hF
  have hV0 := hO.val (i := 0) rfl (off := 0) (agg := true) (n := 7) rfl
  have hO := hO.sel [] (by decide)
  exact hQ _ _ _ _ _ (zbu rfl (hV0) (zcK (zcK rfl))) hO hL ⟨rfl, rfl⟩
 ·refine zj (congrArg Value.bool hb4) ?_
  refine zr (zb hO 2 [] [(0, .slice A0 p0.length c0), (1, zqP p1), (4, zqQ b3), (20, .slice A0 p0.length c0), (21, zqP p1)] zqD fun j => ?_)
  obtain ⟨c5, h6, hF⟩ := bind_some hF
  refine zs hO (zkp r0 h6) rfl fun _ σ _ _ hO h7 h8 => ?_
  have hL := hL.trans h7
  have r0 := r0.le h7
  obtain ⟨rfl, rfl⟩ := h8
  have hO : Obs _ _ [_] := hO
  refine zb hO 4 [] [(0, .slice A0 p0.length c0), (1, zqP p1), (4, zqQ b3), (23, .agg #[(.int .u8 (c5.1.Kind.toNat : Int)), (.int .u8 (c5.1.Op.toNat : Int)), (.int .i64 c5.1.R), (.int .i64 c5.1.S), (.int .i64 c5.1.T), (.int .i64 c5.1.N), (.int .i64 c5.1.M)]), (24, zqP c5.2.1), (25, .bool c5.2.2)] zqE fun j => ?_
  refine zbp hO fun b9 σ hO => ?_
  have hO : Obs _ _ [_, _] := hO
  refine zI hO (i := 1) rfl (off := 0) rfl rfl rfl rfl (Nat.le_of_ble_eq_true rfl) rfl fun σ hO => ?_
  have hO : Obs _ _ [_, _] := hO
  refine za hO [] [(0, .slice A0 p0.length c0), (1, zqP p1), (4, zqQ b3), (7, zqQ b9), (8, zqP c5.2.1), (9, .bool c5.2.2)] zqE fun j => ?_
  refine zf (zbK (zb hO 3 [] [(0, .slice A0 p0.length c0), (1, zqP p1), (4, zqQ b3), (7, zqQ b9), (8, zqP c5.2.1), (28, .bool (!c5.2.2))] zqE fun j => ?_))
  obtain ⟨c10, h11, hF⟩ := bind_some hF
  refine zbG 2 (fun e' σ' => ∃ (τ' : Hp), agr [(32, .bool c10), (0, .slice A0 p0.length c0), (1, zqP p1), (4, zqQ b3), (7, zqQ b9), (8, zqP c5.2.1)] e' ∧ Obs τ' σ' [some (b3, ⟨[.int .u8 0, .int .u8 0, .int .i64 0, .int .i64 0, .int .i64 0, .int .i64 0, .int .i64 0], 54, 7, true⟩), some (b9, ⟨[.int .u8 (c5.1.Kind.toNat : Int), .int .u8 (c5.1.Op.toNat : Int), .int .i64 c5.1.R, .int .i64 c5.1.S, .int .i64 c5.1.T, .int .i64 c5.1.N, .int .i64 c5.1.M], 54, 7, true⟩)] ∧ Hp.le τ τ' ∧ RdT Ty.u8 τ' (.slice A0 p0.length c0) p0) ?_ ?_
  ·have hF := h11
   rcases zi hF with ⟨hb12, hF⟩ | ⟨hb12, hF⟩
   ·refine zM (congrArg (fun x => isB (.bool x) false) hb12) ?_
    refine zz (congrArg Value.bool hb12) ?_
    refine zh ?_
    injection hF with hF
    subst hF
    refine zg ?_
    exact ⟨rfl, _, zqO zqD, hO, hL, r0⟩
   ·refine zE (congrArg (fun x => isB (.bool x) false) hb12) ?_
    refine zb hO 1 [1] [(0, .slice A0 p0.length c0), (1, zqP p1), (4, zqQ b3), (7, zqQ b9), (8, zqP c5.2.1), (28, .bool (!c5.2.2)), (29, .agg #[(.int .u8 (c5.1.Kind.toNat : Int)), (.int .u8 (c5.1.Op.toNat : Int)), (.int .i64 c5.1.R), (.int .i64 c5.1.S), (.int .i64 c5.1.T), (.int .i64 c5.1.N), (.int .i64 c5.1.M)])] (And.intro (And.intro rfl rfl) zqF) fun j => ?_
    obtain ⟨c13, h14, hF⟩ := bind_some hF
    refine zs hO (zj5 (p0 := (⟨c5.1.Kind, c5.1.Op, c5.1.R, c5.1.S, c5.1.T, c5.1.N, c5.1.M⟩ : zc)) h14) rfl fun _ σ _ _ hO h15 h16 => ?_
    have hL := hL.trans h15
    have r0 := r0.le h15
    obtain ⟨rfl, rfl⟩ := h16
    have hO : Obs _ _ [_, _] := hO
    refine zb hO 1 [] [(0, .slice A0 p0.length c0), (1, zqP p1), (4, zqQ b3), (7, zqQ b9), (8, zqP c5.2.1), (28, .bool (!c5.2.2)), (31, .bool (!c13))] zqF fun j => ?_
    refine zz (congrArg Value.bool hb12) ?_
    refine zh ?_
    injection hF with hF
    subst hF
    refine zg ?_
    exact ⟨rfl, _, zqO zqD, hO, hL, r0⟩
  ·rintro e σ ⟨_, hA, hO, hL, r0⟩
   rw [← zB _ _ hA]
   refine zb hO 1 [] [(0, .slice A0 p0.length c0), (1, zqP p1), (4, zqQ b3), (7, zqQ b9), (8, zqP c5.2.1), (33, .bool c10)] zqE fun j => ?_
   obtain ⟨c17, h18, hF⟩ := bind_some hF
   refine zbG 2 (fun e' σ' => ∃ (τ' : Hp), agr [(42, .bool c17), (4, zqQ b3), (7, zqQ b9), (8, zqP c5.2.1)] e' ∧ Obs τ' σ' [some (b3, ⟨[.int .u8 0, .int .u8 0, .int .i64 0, .int .i64 0, .int .i64 0, .int .i64 0, .int .i64 0], 54, 7, true⟩), some (b9, ⟨[.int .u8 (c5.1.Kind.toNat : Int), .int .u8 (c5.1.Op.toNat : Int), .int .i64 c5.1.R, .int .i64 c5.1.S, .int .i64 c5.1.T, .int .i64 c5.1.N, .int .i64 c5.1.M], 54, 7, true⟩)] ∧ Hp.le τ τ') ?_ ?_
   ·have hF := h18
    rcases zi hF with ⟨hb19, hF⟩ | ⟨hb19, hF⟩
    ·refine zM (congrArg (fun x => isB (.bool x) false) hb19) ?_
     refine zz (congrArg Value.bool hb19) ?_
     refine zh ?_
     injection hF with hF
     subst hF
     refine zg ?_
     exact ⟨rfl, _, zqO zqB, hO, hL⟩
    ·refine zE (congrArg (fun x => isB (.bool x) false) hb19) ?_
     refine zb hO 4 [1] [(4, zqQ b3), (7, zqQ b9), (8, zqP c5.2.1), (33, .bool c10), (34, .agg #[(.int .u8 (c5.1.Kind.toNat : Int)), (.int .u8 (c5.1.Op.toNat : Int)), (.int .i64 c5.1.R), (.int .i64 c5.1.S), (.int .i64 c5.1.T), (.int .i64 c5.1.N), (.int .i64 c5.1.M)]), (36, .slice A0 p0.length c0), (37, zqP p1), (38, zqP c5.2.1)] (And.intro (And.intro rfl rfl) zqG) fun j => ?_
     obtain ⟨y20, g21, hF⟩ := bind_some hF
     refine zda (T := Ty.u8) r0 rfl rfl rfl g21 fun _ r22 => ?_
     obtain ⟨A23, c24, rfl, -⟩ := r22.form
     obtain ⟨c25, h26, hF⟩ := bind_some hF
     refine zs hO (zpN (p1 := (⟨c5.1.Kind, c5.1.Op, c5.1.R, c5.1.S, c5.1.T, c5.1.N, c5.1.M⟩ : zc)) (RdT.nil Ty.u8 _) h26) rfl fun _ σ _ _ hO h27 h28 => ?_
     have hL := hL.trans h27
     have r0 := r0.le h27
     have r22 := r22.le h27
     obtain ⟨v29, o32, rfl, rfl, w33⟩ := h28
     obtain ⟨A30, c31, rfl, -⟩ := w33.form
     have hO : Obs _ _ [_, _, _] := hO
     obtain ⟨_, h35, r34, hO⟩ := w33.share hO (i := 2) rfl
     have hL := hL.trans h35
     have r0 := r0.le h35
     have r22 := r22.le h35
     have hO : Obs _ _ [_, _, _] := hO
     obtain ⟨c36, h37, hF⟩ := bind_some hF
     refine zs hO (zoC r34 r22 h37) rfl fun _ σ _ _ hO h38 h39 => ?_
     have hL := hL.trans h38
     have r34 := r34.le h38
     have r0 := r0.le h38
     have r22 := r22.le h38
     obtain ⟨rfl, rfl⟩ := h39
     have hO : Obs _ _ [_, _, _] := hO
     refine zb hO 1 [] [(4, zqQ b3), (7, zqQ b9), (8, zqP c5.2.1), (33, .bool c10), (41, .bool (!c36))] zqD fun j => ?_
     refine zz (congrArg Value.bool hb19) ?_
     refine zh ?_
     injection hF with hF
     subst hF
     refine zg ?_
     have hO := hO.sel [0, 1] (by decide)
     exact ⟨rfl, _, zqO zqB, hO, hL⟩
   ·rintro e σ ⟨_, hA, hO, hL⟩
    rw [← zB _ _ hA]
    refine zh ?_
    rcases zi hF with ⟨hb40, hF⟩ | ⟨hb40, hF⟩
    ·refine zl (congrArg Value.bool hb40) ?_
     refine zf (zb hO 1 [0] [(4, zqQ b3), (43, .agg #[(.int .u8 0), (.int .u8 0), (.int .i64 0), (.int .i64 0), (.int .i64 0), (.int .i64 0), (.int .i64 0)])] (And.intro (And.intro rfl rfl) zqA) fun j => ?_)
     refine zI hO (i := 0) rfl (off := 0) rfl rfl rfl rfl (Nat.le_of_ble_eq_true rfl) rfl fun σ hO => ?_
     have hO : Obs _ _ [_, _] := hO
     refine za hO [] [(4, zqQ b3), (5, zqP 0), (6, zqP 5)] zqB fun j => ?_
     refine zA ?_
     injection hF with hF
     subst hF
     have hV0 := hO.val (i := 0) rfl (off := 0) (agg := true) (n := 7) rfl
     have hO := hO.sel [] (by decide)
     exact hQ _ _ _ _ _ (zbu rfl (hV0) (zcK (zcK rfl))) hO hL ⟨rfl, rfl⟩
    ·refine zj (congrArg Value.bool hb40) ?_
     refine zr (zb hO 2 [1] [(4, zqQ b3), (44, .agg #[(.int .u8 (c5.1.Kind.toNat : Int)), (.int .u8 (c5.1.Op.toNat : Int)), (.int .i64 c5.1.R), (.int .i64 c5.1.S), (.int .i64 c5.1.T), (.int .i64 c5.1.N), (.int .i64 c5.1.M)]), (45, zqP c5.2.1)] (And.intro (And.intro rfl rfl) zqB) fun j => ?_)
     refine zI hO (i := 0) rfl (off := 0) rfl rfl rfl rfl (Nat.le_of_ble_eq_true rfl) rfl fun σ hO => ?_
     have hO : Obs _ _ [_, _] := hO
     refine za hO [] [(4, zqQ b3), (5, zqP c5.2.1), (6, zqP 0)] zqB fun j => ?_
     refine zp ?_
     injection hF with hF
     subst hF
     have hV0 := hO.val (i := 0) rfl (off := 0) (agg := true) (n := 7) rfl
     have hO := hO.sel [] (by decide)
     exact hQ _ _ _ _ _ (zbu rfl (hV0) (zcK (zcK rfl))) hO hL ⟨rfl, rfl⟩
theorem zbB {τ : Hp} {p0 : Int}  {rr : Except (Value) (Unit)} (hF : zb8 p0 = some rr) :
  zbA Tryz.prog 31 #[.int .u8 p0] τ [] (fun v τ' vs' => match rr with | .ok rr => v = .tuple #[] ∧ vs' = [] | .error _ => False) (fun ch τ' vs' => match rr with | .ok _ => False | .error ee => ch = [{ v := ee, recovered := false }] ∧ vs' = []) := by
 refine zco (args := [.int .u8 p0]) hm Tryz.func31 s31 rfl fun w0 σ hP hO Q hQ => ?_
 unfold zb8 at hF
 have hL := Hp.le.refl τ
 show wpn _ _ a31.body _ _ _
 unfold a31
 dsimp only
 refine zQ (zb hO 2 [] [(3, .iface 59 (.int .u8 p0))] zqz fun j => ?_)
 refine zqa rfl ?_
 injection hF with hF
 subst hF
 exact hP _ _ _ _ hO hL ⟨rfl, rfl⟩
theorem zh1 {τ : Hp} {q0 : ze} {bm0 : Nat} {vm0_0 : Value} {vm0_18 : Value} {om0_18 : Ob} {vm0_19 : Value} {vm0_20 : Value} {om0_20 : Ob} {p1 : Int} (rm0_0 : RdT Ty.u8 τ vm0_0 q0.code) (wm0_18 : zd (Ty.int .i64) 2 τ vm0_18 q0.words om0_18) (rm0_19 : RdT (Ty.int .i64) τ vm0_19 q0.input) (wm0_20 : zd (Ty.int .i64) 2 τ vm0_20 q0.out om0_20) {rr : Except (Value) (Int)} (hF : zeR q0 p1 = some rr) :
  zbA Tryz.prog 62 #[.pointer (some ⟨bm0, 0, none⟩), .int .i64 p1] τ [some (bm0, ⟨[vm0_0, .int .i64 q0.pc, .int .i64 (q0.regs 0), .int .i64 (q0.regs 1), .int .i64 (q0.regs 2), .int .i64 (q0.regs 3), .int .i64 (q0.regs 4), .int .i64 (q0.regs 5), .int .i64 (q0.regs 6), .int .i64 (q0.regs 7), .int .i64 (q0.regs 8), .int .i64 (q0.regs 9), .int .i64 (q0.regs 10), .int .i64 (q0.regs 11), .int .i64 (q0.regs 12), .int .i64 (q0.regs 13), .int .i64 (q0.regs 14), .int .i64 (q0.regs 15), vm0_18, vm0_19, vm0_20, .int .u8 q0.how.toNat, .int .i64 q0.halting], 58, 23, true⟩), om0_18, om0_20] (fun v τ' vs' => match rr with | .ok rr => v = .int .i64 rr ∧ vs' = [some (bm0, ⟨[vm0_0, .int .i64 q0.pc, .int .i64 (q0.regs 0), .int .i64 (q0.regs 1), .int .i64 (q0.regs 2), .int .i64 (q0.regs 3), .int .i64 (q0.regs 4), .int .i64 (q0.regs 5), .int .i64 (q0.regs 6), .int .i64 (q0.regs 7), .int .i64 (q0.regs 8), .int .i64 (q0.regs 9), .int .i64 (q0.regs 10), .int .i64 (q0.regs 11), .int .i64 (q0.regs 12), .int .i64 (q0.regs 13), .int .i64 (q0.regs 14), .int .i64 (q0.regs 15), vm0_18, vm0_19, vm0_20, .int .u8 q0.how.toNat, .int .i64 q0.halting], 58, 23, true⟩), om0_18, om0_20] | .error _ => False) (fun ch τ' vs' => match rr with | .ok _ => False | .error ee => ch = [{ v := ee, recovered := false }] ∧ vs' = [some (bm0, ⟨[vm0_0, .int .i64 q0.pc, .int .i64 (q0.regs 0), .int .i64 (q0.regs 1), .int .i64 (q0.regs 2), .int .i64 (q0.regs 3), .int .i64 (q0.regs 4), .int .i64 (q0.regs 5), .int .i64 (q0.regs 6), .int .i64 (q0.regs 7), .int .i64 (q0.regs 8), .int .i64 (q0.regs 9), .int .i64 (q0.regs 10), .int .i64 (q0.regs 11), .int .i64 (q0.regs 12), .int .i64 (q0.regs 13), .int .i64 (q0.regs 14), .int .i64 (q0.regs 15), vm0_18, vm0_19, vm0_20, .int .u8 q0.how.toNat, .int .i64 q0.halting], 58, 23, true⟩), om0_18, om0_20]) := by
 obtain ⟨Am0_0, cm0_0, rfl, -⟩ := rm0_0.form
 obtain ⟨Am0_18, cm0_18, rfl, -⟩ := wm0_18.form
 obtain ⟨Am0_19, cm0_19, rfl, -⟩ := rm0_19.form
 obtain ⟨Am0_20, cm0_20, rfl, -⟩ := wm0_20.form
 refine zco (args := [.pointer (some ⟨bm0, 0, none⟩), .int .i64 p1]) hm Tryz.func62 s62 rfl fun w0 σ hP hO Q hQ => ?_
 unfold zeR at hF
 have hL := Hp.le.refl τ
 show wpn _ _ a62.body _ _ _
 unfold a62
 dsimp only
 refine za hO [] [(0, zqQ bm0), (1, zqP p1)] zqA fun j => ?_
 refine za hO [0] [(0, zqQ bm0), (5, zqP (IntKind.i64.wrap ((q0.regs 15) - p1)))] (And.intro (And.intro rfl rfl) zqA) fun j => ?_
 refine zf (za hO [] [(0, zqQ bm0), (5, zqP (IntKind.i64.wrap ((q0.regs 15) - p1))), (14, .bool (decide ((IntKind.i64.wrap ((q0.regs 15) - p1)) < 0)))] zqB fun j => ?_)
 rcases zi hF with ⟨hb3, hF⟩ | ⟨hb3, hF⟩
 ·refine zl (congrArg Value.bool hb3) ?_
  rcases zbb hF with ⟨x8, h9, hF⟩ | ⟨c4, h5, hF⟩
  ·refine zcq hO (zbB h9) (fun _ _ _ h => False.elim h) rfl fun _ σ _ _ hO h10 h11 => ?_
   have hL := hL.trans h10
   have rm0_0 := rm0_0.le h10
   have wm0_18 := wm0_18.le h10
   have rm0_19 := rm0_19.le h10
   have wm0_20 := wm0_20.le h10
   obtain ⟨rfl, rfl⟩ := h11
   have hO : Obs _ _ [_, _, _] := hO
   injection hF with hF
   subst hF
   exact hP _ _ _ _ hO hL ⟨rfl, rfl⟩
  ·refine zcl hO (zbB h5) (fun _ _ _ h => False.elim h) rfl fun _ σ _ _ hO h6 h7 => ?_
   have hL := hL.trans h6
   have rm0_0 := rm0_0.le h6
   have wm0_18 := wm0_18.le h6
   have rm0_19 := rm0_19.le h6
   have wm0_20 := wm0_20.le h6
   obtain ⟨rfl, rfl⟩ := h7
   have hO : Obs _ _ [_, _, _] := hO
   refine zh (za hO [] [(0, zqQ bm0), (4, zqP (IntKind.i64.wrap ((q0.regs 15) - p1)))] zqA fun j => ?_)
   refine zp ?_
   injection hF with hF
   subst hF
   exact (hQ _ _ _ _ _ rfl hO hL ⟨rfl, rfl⟩).1
 ·refine zj (congrArg Value.bool hb3) ?_
  refine zr (za hO [] [(0, zqQ bm0), (4, zqP (IntKind.i64.wrap ((q0.regs 15) - p1)))] zqA fun j => ?_)
  refine zp ?_
  injection hF with hF
  subst hF
  exact (hQ _ _ _ _ _ rfl hO hL ⟨rfl, rfl⟩).1
theorem zdg {τ : Hp} {q0 : ze} {bm0 : Nat} {vm0_0 : Value} {vm0_18 : Value} {om0_18 : Ob} {vm0_19 : Value} {vm0_20 : Value} {om0_20 : Ob} {p1 : Int} (rm0_0 : RdT Ty.u8 τ vm0_0 q0.code) (wm0_18 : zd (Ty.int .i64) 2 τ vm0_18 q0.words om0_18) (rm0_19 : RdT (Ty.int .i64) τ vm0_19 q0.input) (wm0_20 : zd (Ty.int .i64) 2 τ vm0_20 q0.out om0_20) {rr : Except (Value) (Int)} (hF : zdB q0 p1 = some rr) :
  zbA Tryz.prog 63 #[.pointer (some ⟨bm0, 0, none⟩), .int .i64 p1] τ [some (bm0, ⟨[vm0_0, .int .i64 q0.pc, .int .i64 (q0.regs 0), .int .i64 (q0.regs 1), .int .i64 (q0.regs 2), .int .i64 (q0.regs 3), .int .i64 (q0.regs 4), .int .i64 (q0.regs 5), .int .i64 (q0.regs 6), .int .i64 (q0.regs 7), .int .i64 (q0.regs 8), .int .i64 (q0.regs 9), .int .i64 (q0.regs 10), .int .i64 (q0.regs 11), .int .i64 (q0.regs 12), .int .i64 (q0.regs 13), .int .i64 (q0.regs 14), .int .i64 (q0.regs 15), vm0_18, vm0_19, vm0_20, .int .u8 q0.how.toNat, .int .i64 q0.halting], 58, 23, true⟩), om0_18, om0_20] (fun v τ' vs' => match rr with | .ok rr => v = .pointer ((slA vm0_18).map (fun x => x.add (Int.toNat rr * 1))) ∧ vs' = [some (bm0, ⟨[vm0_0, .int .i64 q0.pc, .int .i64 (q0.regs 0), .int .i64 (q0.regs 1), .int .i64 (q0.regs 2), .int .i64 (q0.regs 3), .int .i64 (q0.regs 4), .int .i64 (q0.regs 5), .int .i64 (q0.regs 6), .int .i64 (q0.regs 7), .int .i64 (q0.regs 8), .int .i64 (q0.regs 9), .int .i64 (q0.regs 10), .int .i64 (q0.regs 11), .int .i64 (q0.regs 12), .int .i64 (q0.regs 13), .int .i64 (q0.regs 14), .int .i64 (q0.regs 15), vm0_18, vm0_19, vm0_20, .int .u8 q0.how.toNat, .int .i64 q0.halting], 58, 23, true⟩), om0_18, om0_20] | .error _ => False) (fun ch τ' vs' => match rr with | .ok _ => False | .error ee => ch = [{ v := ee, recovered := false }] ∧ vs' = [some (bm0, ⟨[vm0_0, .int .i64 q0.pc, .int .i64 (q0.regs 0), .int .i64 (q0.regs 1), .int .i64 (q0.regs 2), .int .i64 (q0.regs 3), .int .i64 (q0.regs 4), .int .i64 (q0.regs 5), .int .i64 (q0.regs 6), .int .i64 (q0.regs 7), .int .i64 (q0.regs 8), .int .i64 (q0.regs 9), .int .i64 (q0.regs 10), .int .i64 (q0.regs 11), .int .i64 (q0.regs 12), .int .i64 (q0.regs 13), .int .i64 (q0.regs 14), .int .i64 (q0.regs 15), vm0_18, vm0_19, vm0_20, .int .u8 q0.how.toNat, .int .i64 q0.halting], 58, 23, true⟩), om0_18, om0_20]) := by
 obtain ⟨Am0_0, cm0_0, rfl, -⟩ := rm0_0.form
 obtain ⟨Am0_18, cm0_18, rfl, -⟩ := wm0_18.form
 obtain ⟨Am0_19, cm0_19, rfl, -⟩ := rm0_19.form
 obtain ⟨Am0_20, cm0_20, rfl, -⟩ := wm0_20.form
 refine zco (args := [.pointer (some ⟨bm0, 0, none⟩), .int .i64 p1]) hm Tryz.func63 s63 rfl fun w0 σ hP hO Q hQ => ?_
 unfold zdB at hF
 have hL := Hp.le.refl τ
 show wpn _ _ a63.body _ _ _
 unfold a63
 dsimp only
 refine za hO [] [(0, zqQ bm0), (1, zqP p1)] zqA fun j => ?_
 refine zf (za hO [0] [(0, zqQ bm0), (1, zqP p1), (15, .bool ((decide (p1 < 0)) || (decide (p1 ≥ (q0.words.length : Int)))))] (And.intro (And.intro rfl rfl) (And.intro (And.intro rfl rfl) (fun _ => zqO zqA))) fun j => ?_)
 rcases zi hF with ⟨hb3, hF⟩ | ⟨hb3, hF⟩
 ·refine zl (congrArg Value.bool hb3) ?_
  rcases zbb hF with ⟨x8, h9, hF⟩ | ⟨c4, h5, hF⟩
  ·refine zcq hO (zbB h9) (fun _ _ _ h => False.elim h) rfl fun _ σ _ _ hO h10 h11 => ?_
   have hL := hL.trans h10
   have rm0_0 := rm0_0.le h10
   have wm0_18 := wm0_18.le h10
   have rm0_19 := rm0_19.le h10
   have wm0_20 := wm0_20.le h10
   obtain ⟨rfl, rfl⟩ := h11
   have hO : Obs _ _ [_, _, _] := hO
   injection hF with hF
   subst hF
   exact hP _ _ _ _ hO hL ⟨rfl, rfl⟩
  ·refine zcl hO (zbB h5) (fun _ _ _ h => False.elim h) rfl fun _ σ _ _ hO h6 h7 => ?_
   have hL := hL.trans h6
   have rm0_0 := rm0_0.le h6
   have wm0_18 := wm0_18.le h6
   have rm0_19 := rm0_19.le h6
   have wm0_20 := wm0_20.le h6
   obtain ⟨rfl, rfl⟩ := h7
   have hO : Obs _ _ [_, _, _] := hO
   refine zh (zb hO 5 [0] [(0, zqQ bm0), (20, .slice Am0_18 q0.words.length cm0_18), (21, zqP p1)] (And.intro (And.intro rfl rfl) zqB) fun j => ?_)
   obtain ⟨y12, g13, hF⟩ := bind_some hF
   refine zcs (T := (Ty.int .i64)) hO wm0_18 (i := 1) rfl rfl rfl g13 (by decide) fun a14 _ k15 m16 i17 => ?_
   have k18 := k15
   obtain rfl : _ = ([.int .i64 y12] : List Value) := k18
   refine za hO [] [(0, zqQ bm0), (4, .pointer (some a14))] zqA fun j => ?_
   refine zp ?_
   injection hF with hF
   subst hF
   refine (hQ _ _ _ _ _ rfl hO hL ?_).1
   exact ⟨(congrArg Value.pointer (zd.ptr wm0_18 i17 rfl)), rfl⟩
 ·refine zj (congrArg Value.bool hb3) ?_
  refine zr (zb hO 5 [0] [(0, zqQ bm0), (20, .slice Am0_18 q0.words.length cm0_18), (21, zqP p1)] (And.intro (And.intro rfl rfl) zqB) fun j => ?_)
  obtain ⟨y19, g20, hF⟩ := bind_some hF
  refine zcs (T := (Ty.int .i64)) hO wm0_18 (i := 1) rfl rfl rfl g20 (by decide) fun a21 _ k22 m23 i24 => ?_
  have k25 := k22
  obtain rfl : _ = ([.int .i64 y19] : List Value) := k25
  refine za hO [] [(0, zqQ bm0), (4, .pointer (some a21))] zqA fun j => ?_
  refine zp ?_
  injection hF with hF
  subst hF
  refine (hQ _ _ _ _ _ rfl hO hL ?_).1
  exact ⟨(congrArg Value.pointer (zd.ptr wm0_18 i24 rfl)), rfl⟩
theorem zj1 {τ : Hp} {q0 : ze} {bm0 : Nat} {vm0_0 : Value} {vm0_18 : Value} {om0_18 : Ob} {vm0_19 : Value} {vm0_20 : Value} {om0_20 : Ob} {p1 : Int} {p2 : Int} (rm0_0 : RdT Ty.u8 τ vm0_0 q0.code) (wm0_18 : zd (Ty.int .i64) 2 τ vm0_18 q0.words om0_18) (rm0_19 : RdT (Ty.int .i64) τ vm0_19 q0.input) (wm0_20 : zd (Ty.int .i64) 2 τ vm0_20 q0.out om0_20) {rr : Except (Value × ze) (Int × ze)} (hF : zhp q0 p1 p2 = some rr) :
  zbA Tryz.prog 45 #[.pointer (some ⟨bm0, 0, none⟩), .int .i64 p1, .int .i64 p2] τ [some (bm0, ⟨[vm0_0, .int .i64 q0.pc, .int .i64 (q0.regs 0), .int .i64 (q0.regs 1), .int .i64 (q0.regs 2), .int .i64 (q0.regs 3), .int .i64 (q0.regs 4), .int .i64 (q0.regs 5), .int .i64 (q0.regs 6), .int .i64 (q0.regs 7), .int .i64 (q0.regs 8), .int .i64 (q0.regs 9), .int .i64 (q0.regs 10), .int .i64 (q0.regs 11), .int .i64 (q0.regs 12), .int .i64 (q0.regs 13), .int .i64 (q0.regs 14), .int .i64 (q0.regs 15), vm0_18, vm0_19, vm0_20, .int .u8 q0.how.toNat, .int .i64 q0.halting], 58, 23, true⟩), om0_18, om0_20] (fun v τ' vs' => match rr with | .ok rr => ∃ (u0_0 : Value) (u0_18 : Value) (y0_18 : Ob) (u0_19 : Value) (u0_20 : Value) (y0_20 : Ob), v = .int .i64 rr.1 ∧ vs' = [some (bm0, ⟨[u0_0, .int .i64 rr.2.pc, .int .i64 (rr.2.regs 0), .int .i64 (rr.2.regs 1), .int .i64 (rr.2.regs 2), .int .i64 (rr.2.regs 3), .int .i64 (rr.2.regs 4), .int .i64 (rr.2.regs 5), .int .i64 (rr.2.regs 6), .int .i64 (rr.2.regs 7), .int .i64 (rr.2.regs 8), .int .i64 (rr.2.regs 9), .int .i64 (rr.2.regs 10), .int .i64 (rr.2.regs 11), .int .i64 (rr.2.regs 12), .int .i64 (rr.2.regs 13), .int .i64 (rr.2.regs 14), .int .i64 (rr.2.regs 15), u0_18, u0_19, u0_20, .int .u8 rr.2.how.toNat, .int .i64 rr.2.halting], 58, 23, true⟩), y0_18, y0_20] ∧ RdT Ty.u8 τ' u0_0 rr.2.code ∧ zd (Ty.int .i64) 2 τ' u0_18 rr.2.words y0_18 ∧ RdT (Ty.int .i64) τ' u0_19 rr.2.input ∧ zd (Ty.int .i64) 2 τ' u0_20 rr.2.out y0_20 | .error _ => False) (fun ch τ' vs' => match rr with | .ok _ => False | .error ee => ∃ (u0_0 : Value) (u0_18 : Value) (y0_18 : Ob) (u0_19 : Value) (u0_20 : Value) (y0_20 : Ob), ch = [{ v := ee.1, recovered := false }] ∧ vs' = [some (bm0, ⟨[u0_0, .int .i64 ee.2.pc, .int .i64 (ee.2.regs 0), .int .i64 (ee.2.regs 1), .int .i64 (ee.2.regs 2), .int .i64 (ee.2.regs 3), .int .i64 (ee.2.regs 4), .int .i64 (ee.2.regs 5), .int .i64 (ee.2.regs 6), .int .i64 (ee.2.regs 7), .int .i64 (ee.2.regs 8), .int .i64 (ee.2.regs 9), .int .i64 (ee.2.regs 10), .int .i64 (ee.2.regs 11), .int .i64 (ee.2.regs 12), .int .i64 (ee.2.regs 13), .int .i64 (ee.2.regs 14), .int .i64 (ee.2.regs 15), u0_18, u0_19, u0_20, .int .u8 ee.2.how.toNat, .int .i64 ee.2.halting], 58, 23, true⟩), y0_18, y0_20] ∧ RdT Ty.u8 τ' u0_0 ee.2.code ∧ zd (Ty.int .i64) 2 τ' u0_18 ee.2.words y0_18 ∧ RdT (Ty.int .i64) τ' u0_19 ee.2.input ∧ zd (Ty.int .i64) 2 τ' u0_20 ee.2.out y0_20) := by
 obtain ⟨Am0_0, cm0_0, rfl, -⟩ := rm0_0.form
 obtain ⟨Am0_18, cm0_18, rfl, -⟩ := wm0_18.form
 obtain ⟨Am0_19, cm0_19, rfl, -⟩ := rm0_19.form
 obtain ⟨Am0_20, cm0_20, rfl, -⟩ := wm0_20.form
 refine zco (args := [.pointer (some ⟨bm0, 0, none⟩), .int .i64 p1, .int .i64 p2]) hm Tryz.func45 s45 rfl fun w0 σ hP hO Q hQ => ?_
 unfold zhp at hF
 have hL := Hp.le.refl τ
 show wpn _ _ a45.body _ _ _
 unfold a45
 dsimp only
 refine za hO [] [(0, zqQ bm0), (1, zqP p1), (2, zqP p2)] zqB fun j => ?_
 refine zb hO 1 [] [(0, zqQ bm0), (1, zqP p1), (2, zqP p2), (8, zqQ bm0)] zqC fun j => ?_
 rcases zbb hF with ⟨x8, h9, hF⟩ | ⟨c4, h5, hF⟩
 ·refine zbX (hs := []) (vs := [_, _, _]) hO (zh1 (q0 := (⟨q0.code, q0.pc, q0.regs, q0.words, q0.input, q0.out, q0.how, q0.halting⟩ : ze)) rm0_0 wm0_18 rm0_19 wm0_20 h9) (fun _ _ _ h => False.elim h) rfl fun _ σ _ _ hO h10 h11 => ?_
  have hL := hL.trans h10
  have rm0_0 := rm0_0.le h10
  have wm0_18 := wm0_18.le h10
  have rm0_19 := rm0_19.le h10
  have wm0_20 := wm0_20.le h10
  obtain ⟨rfl, rfl⟩ := h11
  have hO : Obs _ _ [_, _, _] := hO
  injection hF with hF
  subst hF
  exact hP _ _ _ _ hO hL ⟨_, _, _, _, _, _, rfl, rfl, rm0_0, wm0_18, rm0_19, wm0_20⟩
 ·refine zbY (hs := []) (vs := [_, _, _]) hO (zh1 (q0 := (⟨q0.code, q0.pc, q0.regs, q0.words, q0.input, q0.out, q0.how, q0.halting⟩ : ze)) rm0_0 wm0_18 rm0_19 wm0_20 h5) (fun _ _ _ h => False.elim h) rfl fun _ σ _ _ hO h6 h7 => ?_
  have hL := hL.trans h6
  have rm0_0 := rm0_0.le h6
  have wm0_18 := wm0_18.le h6
  have rm0_19 := rm0_19.le h6
  have wm0_20 := wm0_20.le h6
  obtain ⟨rfl, rfl⟩ := h7
  have hO : Obs _ _ [_, _, _] := hO
  refine za hO [] [(0, zqQ bm0), (1, zqP p1), (2, zqP p2), (7, zqP c4)] zqC fun j => ?_
  refine zb hO 2 [] [(0, zqQ bm0), (1, zqP p1), (2, zqP p2), (7, zqP c4), (10, zqQ bm0), (11, zqP c4)] zqE fun j => ?_
  rcases zbb hF with ⟨x16, h17, hF⟩ | ⟨c12, h13, hF⟩
  ·refine zbX (hs := []) (vs := [_, _, _]) hO (zdg (q0 := (⟨q0.code, q0.pc, q0.regs, q0.words, q0.input, q0.out, q0.how, q0.halting⟩ : ze)) rm0_0 wm0_18 rm0_19 wm0_20 h17) (fun _ _ _ h => False.elim h) rfl fun _ σ _ _ hO h18 h19 => ?_
   have hL := hL.trans h18
   have rm0_0 := rm0_0.le h18
   have wm0_18 := wm0_18.le h18
   have rm0_19 := rm0_19.le h18
   have wm0_20 := wm0_20.le h18
   obtain ⟨rfl, rfl⟩ := h19
   have hO : Obs _ _ [_, _, _] := hO
   injection hF with hF
   subst hF
   exact hP _ _ _ _ hO hL ⟨_, _, _, _, _, _, rfl, rfl, rm0_0, wm0_18, rm0_19, wm0_20⟩
  ·refine zbY (hs := []) (vs := [_, _, _]) hO (zdg (q0 := (⟨q0.code, q0.pc, q0.regs, q0.words, q0.input, q0.out, q0.how, q0.halting⟩ : ze)) rm0_0 wm0_18 rm0_19 wm0_20 h13) (fun _ _ _ h => False.elim h) rfl fun _ σ _ _ hO h14 h15 => ?_
   have hL := hL.trans h14
   have rm0_0 := rm0_0.le h14
   have wm0_18 := wm0_18.le h14
   have rm0_19 := rm0_19.le h14
   have wm0_20 := wm0_20.le h14
   obtain ⟨h20, rfl⟩ := h15
   have hO : Obs _ _ [_, _, _] := hO
   obtain ⟨y21, g22, hF⟩ := bind_some hF
   obtain ⟨a23, _, h25, k24, m26, i27⟩ := zd.at_ hO wm0_18 (i := 1) rfl g22 (n := 1) rfl
   have h20 : _ = Value.pointer (some a23) := h20.trans (congrArg Value.pointer h25)
   subst h20
   have k28 := k24
   obtain rfl : _ = ([.int .i64 y21] : List Value) := k28
   refine zb hO 2 [] [(0, zqQ bm0), (1, zqP p1), (7, zqP c4), (13, zqP p2), (14, .pointer (some a23))] zqD fun j => ?_
   refine zeI (T := (Ty.int .i64)) (z' := p2) (off := 0) (vs := [.int .i64 p2]) hO wm0_18 (i := 1) rfl (by rw [add_zero]; rfl) i27 g22 k24 m26 rfl rfl rfl rfl (by decide) (show _ = _ from rfl) fun σ o29 w30 hO => ?_
   have hO : Obs _ _ [_, _, _] := hO
   refine zh (zb hO 5 [] [(0, zqQ bm0), (1, zqP p1), (16, zqP c4), (19, .pointer (some ⟨bm0, 17, none⟩))] zqC fun j => ?_)
   refine zI hO (i := 0) rfl (off := 17) rfl rfl rfl rfl (Nat.le_of_ble_eq_true rfl) rfl fun σ hO => ?_
   have hO : Obs _ _ [_, _, _] := hO
   refine zh (za hO [] [(0, zqQ bm0), (6, zqP p1)] zqA fun j => ?_)
   refine zp ?_
   injection hF with hF
   subst hF
   exact (hQ _ _ _ _ _ rfl hO hL ⟨_, _, _, _, _, _, rfl, rfl, rm0_0, w30, rm0_19, wm0_20⟩).1
theorem zlm {τ : Hp} {q0 : ze} {bm0 : Nat} {vm0_0 : Value} {vm0_18 : Value} {om0_18 : Ob} {vm0_19 : Value} {vm0_20 : Value} {om0_20 : Ob} (rm0_0 : RdT Ty.u8 τ vm0_0 q0.code) (wm0_18 : zd (Ty.int .i64) 2 τ vm0_18 q0.words om0_18) (rm0_19 : RdT (Ty.int .i64) τ vm0_19 q0.input) (wm0_20 : zd (Ty.int .i64) 2 τ vm0_20 q0.out om0_20) {rr : Except (Value × ze) (Int × ze)} (hF : zh8 q0 = some rr) :
  zbA Tryz.prog 46 #[.pointer (some ⟨bm0, 0, none⟩)] τ [some (bm0, ⟨[vm0_0, .int .i64 q0.pc, .int .i64 (q0.regs 0), .int .i64 (q0.regs 1), .int .i64 (q0.regs 2), .int .i64 (q0.regs 3), .int .i64 (q0.regs 4), .int .i64 (q0.regs 5), .int .i64 (q0.regs 6), .int .i64 (q0.regs 7), .int .i64 (q0.regs 8), .int .i64 (q0.regs 9), .int .i64 (q0.regs 10), .int .i64 (q0.regs 11), .int .i64 (q0.regs 12), .int .i64 (q0.regs 13), .int .i64 (q0.regs 14), .int .i64 (q0.regs 15), vm0_18, vm0_19, vm0_20, .int .u8 q0.how.toNat, .int .i64 q0.halting], 58, 23, true⟩), om0_18, om0_20] (fun v τ' vs' => match rr with | .ok rr => ∃ (u0_0 : Value) (u0_18 : Value) (y0_18 : Ob) (u0_19 : Value) (u0_20 : Value) (y0_20 : Ob), v = .int .i64 rr.1 ∧ vs' = [some (bm0, ⟨[u0_0, .int .i64 rr.2.pc, .int .i64 (rr.2.regs 0), .int .i64 (rr.2.regs 1), .int .i64 (rr.2.regs 2), .int .i64 (rr.2.regs 3), .int .i64 (rr.2.regs 4), .int .i64 (rr.2.regs 5), .int .i64 (rr.2.regs 6), .int .i64 (rr.2.regs 7), .int .i64 (rr.2.regs 8), .int .i64 (rr.2.regs 9), .int .i64 (rr.2.regs 10), .int .i64 (rr.2.regs 11), .int .i64 (rr.2.regs 12), .int .i64 (rr.2.regs 13), .int .i64 (rr.2.regs 14), .int .i64 (rr.2.regs 15), u0_18, u0_19, u0_20, .int .u8 rr.2.how.toNat, .int .i64 rr.2.halting], 58, 23, true⟩), y0_18, y0_20] ∧ RdT Ty.u8 τ' u0_0 rr.2.code ∧ zd (Ty.int .i64) 2 τ' u0_18 rr.2.words y0_18 ∧ RdT (Ty.int .i64) τ' u0_19 rr.2.input ∧ zd (Ty.int .i64) 2 τ' u0_20 rr.2.out y0_20 | .error _ => False) (fun ch τ' vs' => match rr with | .ok _ => False | .error ee => ∃ (u0_0 : Value) (u0_18 : Value) (y0_18 : Ob) (u0_19 : Value) (u0_20 : Value) (y0_20 : Ob), ch = [{ v := ee.1, recovered := false }] ∧ vs' = [some (bm0, ⟨[u0_0, .int .i64 ee.2.pc, .int .i64 (ee.2.regs 0), .int .i64 (ee.2.regs 1), .int .i64 (ee.2.regs 2), .int .i64 (ee.2.regs 3), .int .i64 (ee.2.regs 4), .int .i64 (ee.2.regs 5), .int .i64 (ee.2.regs 6), .int .i64 (ee.2.regs 7), .int .i64 (ee.2.regs 8), .int .i64 (ee.2.regs 9), .int .i64 (ee.2.regs 10), .int .i64 (ee.2.regs 11), .int .i64 (ee.2.regs 12), .int .i64 (ee.2.regs 13), .int .i64 (ee.2.regs 14), .int .i64 (ee.2.regs 15), u0_18, u0_19, u0_20, .int .u8 ee.2.how.toNat, .int .i64 ee.2.halting], 58, 23, true⟩), y0_18, y0_20] ∧ RdT Ty.u8 τ' u0_0 ee.2.code ∧ zd (Ty.int .i64) 2 τ' u0_18 ee.2.words y0_18 ∧ RdT (Ty.int .i64) τ' u0_19 ee.2.input ∧ zd (Ty.int .i64) 2 τ' u0_20 ee.2.out y0_20) := by
 obtain ⟨Am0_0, cm0_0, rfl, -⟩ := rm0_0.form
 obtain ⟨Am0_18, cm0_18, rfl, -⟩ := wm0_18.form
 obtain ⟨Am0_19, cm0_19, rfl, -⟩ := rm0_19.form
 obtain ⟨Am0_20, cm0_20, rfl, -⟩ := wm0_20.form
 refine zco (args := [.pointer (some ⟨bm0, 0, none⟩)]) hm Tryz.func46 s46 rfl fun w0 σ hP hO Q hQ => ?_
 unfold zh8 at hF
 have hL := Hp.le.refl τ
 show wpn _ _ a46.body _ _ _
 unfold a46
 dsimp only
 refine za hO [] [(0, zqQ bm0)] zqz fun j => ?_
 refine zb hO 6 [0] [(0, zqQ bm0), (4, zqQ bm0), (9, zqP (q0.regs 15))] (And.intro (And.intro rfl rfl) zqB) fun j => ?_
 rcases zbb hF with ⟨x6, h7, hF⟩ | ⟨c2, h3, hF⟩
 ·refine zbX (hs := []) (vs := [_, _, _]) hO (zdg (q0 := (⟨q0.code, q0.pc, q0.regs, q0.words, q0.input, q0.out, q0.how, q0.halting⟩ : ze)) rm0_0 wm0_18 rm0_19 wm0_20 h7) (fun _ _ _ h => False.elim h) rfl fun _ σ _ _ hO h8 h9 => ?_
  have hL := hL.trans h8
  have rm0_0 := rm0_0.le h8
  have wm0_18 := wm0_18.le h8
  have rm0_19 := rm0_19.le h8
  have wm0_20 := wm0_20.le h8
  obtain ⟨rfl, rfl⟩ := h9
  have hO : Obs _ _ [_, _, _] := hO
  injection hF with hF
  subst hF
  exact hP _ _ _ _ hO hL ⟨_, _, _, _, _, _, rfl, rfl, rm0_0, wm0_18, rm0_19, wm0_20⟩
 ·refine zbY (hs := []) (vs := [_, _, _]) hO (zdg (q0 := (⟨q0.code, q0.pc, q0.regs, q0.words, q0.input, q0.out, q0.how, q0.halting⟩ : ze)) rm0_0 wm0_18 rm0_19 wm0_20 h3) (fun _ _ _ h => False.elim h) rfl fun _ σ _ _ hO h4 h5 => ?_
  have hL := hL.trans h4
  have rm0_0 := rm0_0.le h4
  have wm0_18 := wm0_18.le h4
  have rm0_19 := rm0_19.le h4
  have wm0_20 := wm0_20.le h4
  obtain ⟨h10, rfl⟩ := h5
  have hO : Obs _ _ [_, _, _] := hO
  obtain ⟨y11, g12, hF⟩ := bind_some hF
  obtain ⟨a13, _, h15, k14, m16, i17⟩ := zd.at_ hO wm0_18 (i := 1) rfl g12 (n := 1) rfl
  have h10 : _ = Value.pointer (some a13) := h10.trans (congrArg Value.pointer h15)
  subst h10
  have k18 := k14
  obtain rfl : _ = ([.int .i64 y11] : List Value) := k18
  refine zb hO 1 [] [(0, zqQ bm0), (11, .pointer (some a13))] zqA fun j => ?_
  refine zX rfl m16.fst ?_
  refine za hO [] [(0, zqQ bm0), (3, zqP y11)] zqA fun j => ?_
  refine zf (za hO [] [(0, zqQ bm0), (3, zqP y11), (18, .bool ((decide (y11 < 0)) || (decide (y11 ≥ 16777216))))] (And.intro (And.intro rfl rfl) (fun _ => zqO zqA)) fun j => ?_)
  refine zbL (fun e' σ' => ∃ (τ' : Hp), agr [(0, zqQ bm0), (3, zqP y11)] e' ∧ Obs τ' σ' [some (bm0, ⟨[.slice Am0_0 q0.code.length cm0_0, .int .i64 q0.pc, .int .i64 (q0.regs 0), .int .i64 (q0.regs 1), .int .i64 (q0.regs 2), .int .i64 (q0.regs 3), .int .i64 (q0.regs 4), .int .i64 (q0.regs 5), .int .i64 (q0.regs 6), .int .i64 (q0.regs 7), .int .i64 (q0.regs 8), .int .i64 (q0.regs 9), .int .i64 (q0.regs 10), .int .i64 (q0.regs 11), .int .i64 (q0.regs 12), .int .i64 (q0.regs 13), .int .i64 (q0.regs 14), .int .i64 (q0.regs 15), .slice Am0_18 q0.words.length cm0_18, .slice Am0_19 q0.input.length cm0_19, .slice Am0_20 q0.out.length cm0_20, .int .u8 (q0.how.toNat : Int), .int .i64 q0.halting], 58, 23, true⟩), om0_18, om0_20] ∧ Hp.le τ τ' ∧ RdT Ty.u8 τ' (.slice Am0_0 q0.code.length cm0_0) q0.code ∧ zd (Ty.int .i64) 2 τ' (.slice Am0_18 q0.words.length cm0_18) q0.words om0_18 ∧ RdT (Ty.int .i64) τ' (.slice Am0_19 q0.input.length cm0_19) q0.input ∧ zd (Ty.int .i64) 2 τ' (.slice Am0_20 q0.out.length cm0_20) q0.out om0_20 ∧ zfD q0 y11 = some rr) ?_ ?_
  ·refine z8 ?_
   rcases zi hF with ⟨hb32, hF⟩ | ⟨hb32, hF⟩
   ·refine zl (congrArg Value.bool hb32) ?_
    rcases zbb hF with ⟨x37, h38, hF⟩ | ⟨c33, h34, hF⟩
    ·refine zcq hO (zbB h38) (fun _ _ _ h => False.elim h) rfl fun _ σ _ _ hO h39 h40 => ?_
     have hL := hL.trans h39
     have rm0_0 := rm0_0.le h39
     have wm0_18 := wm0_18.le h39
     have rm0_19 := rm0_19.le h39
     have wm0_20 := wm0_20.le h39
     obtain ⟨rfl, rfl⟩ := h40
     have hO : Obs _ _ [_, _, _] := hO
     injection hF with hF
     subst hF
     exact hP _ _ _ _ hO hL ⟨_, _, _, _, _, _, rfl, rfl, rm0_0, wm0_18, rm0_19, wm0_20⟩
    ·refine zcl hO (zbB h34) (fun _ _ _ h => False.elim h) rfl fun _ σ _ _ hO h35 h36 => ?_
     have hL := hL.trans h35
     have rm0_0 := rm0_0.le h35
     have wm0_18 := wm0_18.le h35
     have rm0_19 := rm0_19.le h35
     have wm0_20 := wm0_20.le h35
     obtain ⟨rfl, rfl⟩ := h36
     have hO : Obs _ _ [_, _, _] := hO
     refine zh (zg (zn ?_))
     exact ⟨_, zqO zqz, hO, hL, rm0_0, wm0_18, rm0_19, wm0_20, hF⟩
   ·refine zj (congrArg Value.bool hb32) ?_
    refine zr (zg (zn ?_))
    exact ⟨_, zqO zqz, hO, hL, rm0_0, wm0_18, rm0_19, wm0_20, hF⟩
  ·rintro e σ ⟨_, hA, hO, hL, r28, w29, r30, w31, hF⟩
   rw [← zB _ _ hA]
   unfold zfD at hF
   refine zbK (zb hO 9 [0] [(0, zqQ bm0), (3, zqP y11), (25, zqP (IntKind.i64.wrap ((q0.regs 15) + 1))), (28, .pointer (some ⟨bm0, 17, none⟩))] (And.intro (And.intro rfl rfl) zqC) fun j => ?_)
   refine zI hO (i := 0) rfl (off := 17) rfl rfl rfl rfl (Nat.le_of_ble_eq_true rfl) rfl fun σ hO => ?_
   have hO : Obs _ _ [_, _, _] := hO
   refine zh (za hO [] [(0, zqQ bm0), (2, zqP y11)] zqA fun j => ?_)
   refine zp ?_
   injection hF with hF
   subst hF
   exact (hQ _ _ _ _ _ rfl hO hL ⟨_, _, _, _, _, _, rfl, rfl, r28, w29, r30, w31⟩).1
theorem zd7 {τ : Hp} {p0 : Bool}  {rr : Int} (hF : zcP p0 = some rr) :
  Ctr Tryz.prog 65 #[.bool p0] τ [] (fun v τ' vs' => v = .int .i64 rr ∧ vs' = []) := by
 refine zw (args := [.bool p0]) hm Tryz.func65 s65 rfl fun w0 σ hO Q hQ => ?_
 unfold zcP at hF
 have hL := Hp.le.refl τ
 show wpn _ _ a65.body _ _ _
 unfold a65
 dsimp only
 refine za hO [] [(0, .bool p0)] zqz fun j => ?_
 refine zf (za hO [] [(3, .bool p0)] zqz fun j => ?_)
 rcases zi hF with ⟨hb2, hF⟩ | ⟨hb2, hF⟩
 ·refine zl (congrArg Value.bool hb2) ?_
  refine zf (za hO [] [(2, zqP 1)] zqz fun j => ?_)
  refine zA ?_
  injection hF with hF
  subst hF
  exact hQ _ _ _ _ _ rfl hO hL ⟨rfl, rfl⟩
 ·refine zj (congrArg Value.bool hb2) ?_
  refine zr (za hO [] [(2, zqP 0)] zqz fun j => ?_)
  refine zp ?_
  injection hF with hF
  subst hF
  exact hQ _ _ _ _ _ rfl hO hL ⟨rfl, rfl⟩
theorem zlQ {τ : Hp} {p0 : Int} {p1 : Int} {p2 : Int}  {rr : Except (Value) (Int)} (hF : zij p0 p1 p2 = some rr) :
  zbA Tryz.prog 83 #[.int .u8 p0, .int .i64 p1, .int .i64 p2] τ [] (fun v τ' vs' => match rr with | .ok rr => v = .int .i64 rr ∧ vs' = [] | .error _ => False) (fun ch τ' vs' => match rr with | .ok _ => False | .error ee => ch = [{ v := ee, recovered := false }] ∧ vs' = []) := by
 refine zco (args := [.int .u8 p0, .int .i64 p1, .int .i64 p2]) hm Tryz.func83 s83 rfl fun w0 σ hP hO Q hQ => ?_
 unfold zij at hF
 have hL := Hp.le.refl τ
 show wpn _ _ a83.body _ _ _
 unfold a83
 dsimp only
 refine za hO [] [(0, .int .u8 p0), (1, zqP p1), (2, zqP p2)] zqB fun j => ?_
 refine zf (za hO [] [(0, .int .u8 p0), (1, zqP p1), (2, zqP p2), (8, .bool (p2 == 0))] zqC fun j => ?_)
 refine zbL (fun e' σ' => ∃ (τ' : Hp), agr [(0, .int .u8 p0), (1, zqP p1), (2, zqP p2)] e' ∧ Obs τ' σ' [] ∧ Hp.le τ τ' ∧ zf3 p0 p1 p2 = some rr) ?_ ?_
 ·refine z8 ?_
  rcases zi hF with ⟨hb18, hF⟩ | ⟨hb18, hF⟩
  ·refine zl (congrArg Value.bool hb18) ?_
   rcases zbb hF with ⟨x23, h24, hF⟩ | ⟨c19, h20, hF⟩
   ·refine zcq hO (zbB h24) (fun _ _ _ h => False.elim h) rfl fun _ σ _ _ hO h25 h26 => ?_
    have hL := hL.trans h25
    obtain ⟨rfl, rfl⟩ := h26
    have hO : Obs _ _ [] := hO
    injection hF with hF
    subst hF
    exact hP _ _ _ _ hO hL ⟨rfl, rfl⟩
   ·refine zcl hO (zbB h20) (fun _ _ _ h => False.elim h) rfl fun _ σ _ _ hO h21 h22 => ?_
    have hL := hL.trans h21
    obtain ⟨rfl, rfl⟩ := h22
    have hO : Obs _ _ [] := hO
    refine zh (zg (zn ?_))
    exact ⟨_, zqO zqA, hO, hL, hF⟩
  ·refine zj (congrArg Value.bool hb18) ?_
   refine zr (zg (zn ?_))
   exact ⟨_, zqO zqA, hO, hL, hF⟩
 ·rintro e σ ⟨_, hA, hO, hL, hF⟩
  rw [← zB _ _ hA]
  unfold zf3 at hF
  refine zf (za hO [] [(1, zqP p1), (2, zqP p2), (11, .bool (p0 == 4))] zqB fun j => ?_)
  rcases zi hF with ⟨hb13, hF⟩ | ⟨hb13, hF⟩
  ·refine zl (congrArg Value.bool hb13) ?_
   refine zf (zb hO 2 [] [(12, zqP p1), (13, zqP p2)] zqA fun j => ?_)
   obtain ⟨y14, g15, hF⟩ := bind_some hF
   refine zcW (zoU g15) ?_
   refine za hO [] [(6, zqP y14)] zqz fun j => ?_
   refine zA ?_
   injection hF with hF
   subst hF
   exact (hQ _ _ _ _ _ rfl hO hL ⟨rfl, rfl⟩).1
  ·refine zj (congrArg Value.bool hb13) ?_
   refine zr (zb hO 2 [] [(15, zqP p1), (16, zqP p2)] zqA fun j => ?_)
   obtain ⟨y16, g17, hF⟩ := bind_some hF
   refine zcW (zmL g17) ?_
   refine za hO [] [(6, zqP y16)] zqz fun j => ?_
   refine zp ?_
   injection hF with hF
   subst hF
   exact (hQ _ _ _ _ _ rfl hO hL ⟨rfl, rfl⟩).1
theorem zj8 {τ : Hp} {p0 : Int} {p1 : Int} {p2 : Int}  {rr : Except (Value) (Int)} (hF : zeF p0 p1 p2 = some rr) :
  zbA Tryz.prog 64 #[.int .u8 p0, .int .i64 p1, .int .i64 p2] τ [] (fun v τ' vs' => match rr with | .ok rr => v = .int .i64 rr ∧ vs' = [] | .error _ => False) (fun ch τ' vs' => match rr with | .ok _ => False | .error ee => ch = [{ v := ee, recovered := false }] ∧ vs' = []) := by
 refine zco (args := [.int .u8 p0, .int .i64 p1, .int .i64 p2]) hm Tryz.func64 s64 rfl fun w0 σ hP hO Q hQ => ?_
 unfold zeF at hF
 have hL := Hp.le.refl τ
 show wpn _ _ a64.body _ _ _
 unfold a64
 dsimp only
 refine za hO [] [(0, .int .u8 p0), (1, zqP p1), (2, zqP p2)] zqB fun j => ?_
 refine zf (za hO [] [(0, .int .u8 p0), (1, zqP p1), (2, zqP p2), (7, .int .u8 p0)] zqC fun j => ?_)
 refine zO (za hO [] [(0, .int .u8 p0), (1, zqP p1), (2, zqP p2), (7, .int .u8 p0), (8, .bool (p0 == 1))] zqD fun j => ?_)
 refine z8 ?_
 rcases zi hF with ⟨hb4, hF⟩ | ⟨hb4, hF⟩
 ·refine zl (congrArg Value.bool hb4) ?_
  refine zf (za hO [] [(6, zqP (IntKind.i64.wrap (p1 + p2)))] zqz fun j => ?_)
  refine zA (zR (zJ ?_))
  injection hF with hF
  subst hF
  exact (hQ _ _ _ _ _ rfl hO hL ⟨rfl, rfl⟩).1
 ·refine zj (congrArg Value.bool hb4) ?_
  refine zf (za hO [] [(0, .int .u8 p0), (1, zqP p1), (2, zqP p2), (7, .int .u8 p0), (13, .bool (p0 == 2))] zqD fun j => ?_)
  rcases zi hF with ⟨hb5, hF⟩ | ⟨hb5, hF⟩
  ·refine zl (congrArg Value.bool hb5) ?_
   refine zf (za hO [] [(6, zqP (IntKind.i64.wrap (p1 - p2)))] zqz fun j => ?_)
   refine zA (zR (zJ ?_))
   injection hF with hF
   subst hF
   exact (hQ _ _ _ _ _ rfl hO hL ⟨rfl, rfl⟩).1
  ·refine zj (congrArg Value.bool hb5) ?_
   refine zf (za hO [] [(0, .int .u8 p0), (1, zqP p1), (2, zqP p2), (7, .int .u8 p0), (18, .bool (p0 == 3))] zqD fun j => ?_)
   rcases zi hF with ⟨hb6, hF⟩ | ⟨hb6, hF⟩
   ·refine zl (congrArg Value.bool hb6) ?_
    refine zf (za hO [] [(6, zqP (IntKind.i64.wrap (p1 * p2)))] zqz fun j => ?_)
    refine zA (zR (zJ ?_))
    injection hF with hF
    subst hF
    exact (hQ _ _ _ _ _ rfl hO hL ⟨rfl, rfl⟩).1
   ·refine zj (congrArg Value.bool hb6) ?_
    refine zf (zf (za hO [] [(0, .int .u8 p0), (1, zqP p1), (2, zqP p2), (7, .int .u8 p0), (23, .bool (p0 == 4))] zqD fun j => ?_))
    refine zbL (fun e' σ' => ∃ (x8 : Bool) (τ' : Hp), agr [(0, .int .u8 p0), (1, zqP p1), (2, zqP p2), (7, .int .u8 p0), (23, .bool x8)] e' ∧ Obs τ' σ' [] ∧ Hp.le τ τ' ∧ zeB p0 p1 p2 x8 = some rr) ?_ ?_
    ·refine z8 ?_
     rcases zi hF with ⟨hb49, hF⟩ | ⟨hb49, hF⟩
     ·refine zl (congrArg Value.bool hb49) ?_
      refine zr (zg (zn ?_))
      exact ⟨(p0 == 4), _, zqO zqC, hO, hL, hF⟩
     ·refine zj (congrArg Value.bool hb49) ?_
      refine za hO [] [(0, .int .u8 p0), (1, zqP p1), (2, zqP p2), (7, .int .u8 p0), (23, .bool (p0 == 5))] zqD fun j => ?_
      refine zg (zn ?_)
      exact ⟨(p0 == 5), _, zqO zqC, hO, hL, hF⟩
    ·rintro e σ ⟨x8, _, hA, hO, hL, hF⟩
     rw [← zB _ _ hA]
     unfold zeB at hF
     rcases zi hF with ⟨hb9, hF⟩ | ⟨hb9, hF⟩
     ·refine zl (congrArg Value.bool hb9) ?_
      refine zf (zb hO 3 [] [(26, .int .u8 p0), (27, zqP p1), (28, zqP p2)] zqB fun j => ?_)
      rcases zbb hF with ⟨x14, h15, hF⟩ | ⟨c10, h11, hF⟩
      ·refine zcq hO (zlQ h15) (fun _ _ _ h => False.elim h) rfl fun _ σ _ _ hO h16 h17 => ?_
       have hL := hL.trans h16
       obtain ⟨rfl, rfl⟩ := h17
       have hO : Obs _ _ [] := hO
       injection hF with hF
       subst hF
       exact hP _ _ _ _ hO hL ⟨rfl, rfl⟩
      ·refine zcl hO (zlQ h11) (fun _ _ _ h => False.elim h) rfl fun _ σ _ _ hO h12 h13 => ?_
       have hL := hL.trans h12
       obtain ⟨rfl, rfl⟩ := h13
       have hO : Obs _ _ [] := hO
       refine za hO [] [(6, zqP c10)] zqz fun j => ?_
       refine zA (zR (zJ ?_))
       injection hF with hF
       subst hF
       exact (hQ _ _ _ _ _ rfl hO hL ⟨rfl, rfl⟩).1
     ·refine zj (congrArg Value.bool hb9) ?_
      refine zf (za hO [] [(1, zqP p1), (2, zqP p2), (7, .int .u8 p0), (30, .bool (p0 == 6))] zqC fun j => ?_)
      rcases zi hF with ⟨hb18, hF⟩ | ⟨hb18, hF⟩
      ·refine zl (congrArg Value.bool hb18) ?_
       refine zf (zb hO 3 [] [(34, .bool (p1 == p2))] zqz fun j => ?_)
       obtain ⟨c19, h20, hF⟩ := bind_some hF
       refine zs hO (zd7 h20) rfl fun _ σ _ _ hO h21 h22 => ?_
       have hL := hL.trans h21
       obtain ⟨rfl, rfl⟩ := h22
       have hO : Obs _ _ [] := hO
       refine za hO [] [(6, zqP c19)] zqz fun j => ?_
       refine zA (zR (zJ ?_))
       injection hF with hF
       subst hF
       exact (hQ _ _ _ _ _ rfl hO hL ⟨rfl, rfl⟩).1
      ·refine zj (congrArg Value.bool hb18) ?_
       refine zf (za hO [] [(1, zqP p1), (2, zqP p2), (7, .int .u8 p0), (36, .bool (p0 == 7))] zqC fun j => ?_)
       rcases zi hF with ⟨hb23, hF⟩ | ⟨hb23, hF⟩
       ·refine zl (congrArg Value.bool hb23) ?_
        refine zf (zb hO 3 [] [(40, .bool (p1 != p2))] zqz fun j => ?_)
        obtain ⟨c24, h25, hF⟩ := bind_some hF
        refine zs hO (zd7 h25) rfl fun _ σ _ _ hO h26 h27 => ?_
        have hL := hL.trans h26
        obtain ⟨rfl, rfl⟩ := h27
        have hO : Obs _ _ [] := hO
        refine za hO [] [(6, zqP c24)] zqz fun j => ?_
        refine zA (zR (zJ ?_))
        injection hF with hF
        subst hF
        exact (hQ _ _ _ _ _ rfl hO hL ⟨rfl, rfl⟩).1
       ·refine zj (congrArg Value.bool hb23) ?_
        refine zf (za hO [] [(1, zqP p1), (2, zqP p2), (7, .int .u8 p0), (42, .bool (p0 == 8))] zqC fun j => ?_)
        rcases zi hF with ⟨hb28, hF⟩ | ⟨hb28, hF⟩
        ·refine zl (congrArg Value.bool hb28) ?_
         refine zf (zb hO 3 [] [(46, .bool (decide (p1 < p2)))] zqz fun j => ?_)
         obtain ⟨c29, h30, hF⟩ := bind_some hF
         refine zs hO (zd7 h30) rfl fun _ σ _ _ hO h31 h32 => ?_
         have hL := hL.trans h31
         obtain ⟨rfl, rfl⟩ := h32
         have hO : Obs _ _ [] := hO
         refine za hO [] [(6, zqP c29)] zqz fun j => ?_
         refine zA (zR (zJ ?_))
         injection hF with hF
         subst hF
         exact (hQ _ _ _ _ _ rfl hO hL ⟨rfl, rfl⟩).1
        ·refine zj (congrArg Value.bool hb28) ?_
         refine zf (za hO [] [(1, zqP p1), (2, zqP p2), (7, .int .u8 p0), (48, .bool (p0 == 9))] zqC fun j => ?_)
         rcases zi hF with ⟨hb33, hF⟩ | ⟨hb33, hF⟩
         ·refine zl (congrArg Value.bool hb33) ?_
          refine zf (zb hO 3 [] [(52, .bool (decide (p1 ≤ p2)))] zqz fun j => ?_)
          obtain ⟨c34, h35, hF⟩ := bind_some hF
          refine zs hO (zd7 h35) rfl fun _ σ _ _ hO h36 h37 => ?_
          have hL := hL.trans h36
          obtain ⟨rfl, rfl⟩ := h37
          have hO : Obs _ _ [] := hO
          refine za hO [] [(6, zqP c34)] zqz fun j => ?_
          refine zA (zR (zJ ?_))
          injection hF with hF
          subst hF
          exact (hQ _ _ _ _ _ rfl hO hL ⟨rfl, rfl⟩).1
         ·refine zj (congrArg Value.bool hb33) ?_
          refine zf (za hO [] [(1, zqP p1), (2, zqP p2), (7, .int .u8 p0), (54, .bool (p0 == 10))] zqC fun j => ?_)
          rcases zi hF with ⟨hb38, hF⟩ | ⟨hb38, hF⟩
          ·refine zl (congrArg Value.bool hb38) ?_
           refine zf (zb hO 3 [] [(58, .bool (decide (p1 > p2)))] zqz fun j => ?_)
           obtain ⟨c39, h40, hF⟩ := bind_some hF
           refine zs hO (zd7 h40) rfl fun _ σ _ _ hO h41 h42 => ?_
           have hL := hL.trans h41
           obtain ⟨rfl, rfl⟩ := h42
           have hO : Obs _ _ [] := hO
           refine za hO [] [(6, zqP c39)] zqz fun j => ?_
           refine zA (zR (zJ ?_))
           injection hF with hF
           subst hF
           exact (hQ _ _ _ _ _ rfl hO hL ⟨rfl, rfl⟩).1
          ·refine zj (congrArg Value.bool hb38) ?_
           refine zf (za hO [] [(1, zqP p1), (2, zqP p2), (7, .int .u8 p0), (60, .bool (p0 == 11))] zqC fun j => ?_)
           rcases zi hF with ⟨hb43, hF⟩ | ⟨hb43, hF⟩
           ·refine zl (congrArg Value.bool hb43) ?_
            refine zf (zb hO 3 [] [(64, .bool (decide (p1 ≥ p2)))] zqz fun j => ?_)
            obtain ⟨c44, h45, hF⟩ := bind_some hF
            refine zs hO (zd7 h45) rfl fun _ σ _ _ hO h46 h47 => ?_
            have hL := hL.trans h46
            obtain ⟨rfl, rfl⟩ := h47
            have hO : Obs _ _ [] := hO
            refine za hO [] [(6, zqP c44)] zqz fun j => ?_
            refine zA (zR (zJ ?_))
            injection hF with hF
            subst hF
            exact (hQ _ _ _ _ _ rfl hO hL ⟨rfl, rfl⟩).1
           ·refine zj (congrArg Value.bool hb43) ?_
            refine zf (za hO [] [(1, zqP p1), (2, zqP p2), (66, .bool (p0 == 12))] zqB fun j => ?_)
            rcases zi hF with ⟨hb48, hF⟩ | ⟨hb48, hF⟩
            ·refine zl (congrArg Value.bool hb48) ?_
             refine zf (za hO [] [(6, zqP (zcd .i64 p1 p2))] zqz fun j => ?_)
             refine zA (zR (zJ ?_))
             injection hF with hF
             subst hF
             exact (hQ _ _ _ _ _ rfl hO hL ⟨rfl, rfl⟩).1
            ·refine zj (congrArg Value.bool hb48) ?_
             refine zr (zg (zK (zn (za hO [] [(6, zqP (orI .i64 p1 p2))] zqz fun j => ?_))))
             refine zp ?_
             injection hF with hF
             subst hF
             exact (hQ _ _ _ _ _ rfl hO hL ⟨rfl, rfl⟩).1
end Go.Proofs.YtgkllgoelpfdkaaGreat
