import Derived.Test.YtgkllgoelpfdkaaGreatG2
namespace Go.Proofs.YtgkllgoelpfdkaaGreat
open Go.Ab Go.RowKit
set_option linter.unusedVariables false
set_option linter.unusedSimpArgs false
set_option maxRecDepth 10000
set_option maxHeartbeats 1000000
theorem zoo {τ : Hp} {p0 : zc}  {rr : Bool} (hF : zT p0 = some rr) :
  Ctr Tryz.prog 35 #[.agg #[.int .u8 p0.Kind.toNat, .int .u8 p0.Op.toNat, .int .i64 p0.R, .int .i64 p0.S, .int .i64 p0.T, .int .i64 p0.N, .int .i64 p0.M]] τ [] (fun v τ' vs' => v = .bool rr ∧ vs' = []) := by
 refine zw (args := [.agg #[.int .u8 p0.Kind.toNat, .int .u8 p0.Op.toNat, .int .i64 p0.R, .int .i64 p0.S, .int .i64 p0.T, .int .i64 p0.N, .int .i64 p0.M]]) hm Tryz.func35 s35 rfl fun w0 σ hO Q hQ => ?_
 unfold zT at hF
 have hL := Hp.le.refl τ
 show wpn _ _ a35.body _ _ _
 unfold a35
 dsimp only
 refine zba (n := 7) hO rfl rfl fun b2 σ hO => ?_
 have hO : Obs _ _ [_] := hO
 refine za hO [] [(1, zqD b2)] zqm fun j => ?_
 refine zb hO 2 [0] [(1, zqD b2), (7, .int .u8 (p0.Kind.toNat : Int))] (And.intro (And.intro rfl rfl) zqn) fun j => ?_
 obtain ⟨c3, h4, hF⟩ := bind_some hF
 refine zr hO (zjK h4) rfl fun _ σ _ _ hO h5 h6 => ?_
 have hL := hL.trans h5
 obtain ⟨rfl, rfl⟩ := h6
 have hO : Obs _ _ [_] := hO
 refine za hO [] [(1, zqD b2), (3, .string c3.1), (4, .bool c3.2)] zqo fun j => ?_
 refine ze (zbD (zb hO 3 [] [(1, zqD b2), (3, .string c3.1), (13, .bool (!c3.2))] zqo fun j => ?_))
 obtain ⟨c7, h8, hF⟩ := bind_some hF
 refine zbC 4 (fun e' σ' => ∃ (τ' : Hp), agr [(24, .bool c7), (1, zqD b2), (3, .string c3.1)] e' ∧ Obs τ' σ' [some (b2, ⟨[.int .u8 (p0.Kind.toNat : Int), .int .u8 (p0.Op.toNat : Int), .int .i64 p0.R, .int .i64 p0.S, .int .i64 p0.T, .int .i64 p0.N, .int .i64 p0.M], 54, 7, true⟩)] ∧ Hp.le τ τ') ?_ ?_
 ·have hF := h8
  rcases zi hF with ⟨hb9, hF⟩ | ⟨hb9, hF⟩
  ·refine zeX (congrArg (fun x => isB (.bool x) false) hb9) ⟨trivial, ⟨trivial, ⟨trivial, ⟨⟨(zgL (congrArg (fun x => isB (.bool x) false) hb9)), trivial⟩, ⟨trivial, trivial⟩⟩⟩⟩⟩ ?_
   refine zeX rfl ⟨trivial, ⟨⟨(zgL (congrArg (fun x => isB (.bool x) false) hb9)), trivial⟩, trivial⟩⟩ ?_
   refine zX (congrArg (fun x => isB (.bool x) false) hb9) ?_
   refine zA (congrArg Value.bool hb9) ?_
   refine zh ?_
   injection hF with hF
   subst hF
   refine zg ?_
   exact ⟨rfl, _, zqB zqn, hO, hL⟩
  ·refine zP (congrArg (fun x => isB (.bool x) false) hb9) ?_
   refine zb hO 3 [0] [(1, zqD b2), (3, .string c3.1), (13, .bool (!c3.2)), (14, .pointer (some ⟨b2, 2, none⟩)), (15, zqC p0.R), (16, .string c3.1)] (And.intro (And.intro rfl rfl) zqr) fun j => ?_
   refine zcC ?_
   obtain ⟨c10, h11, hF⟩ := bind_some hF
   refine zr hO (zcQ h11) rfl fun _ σ _ _ hO h12 h13 => ?_
   have hL := hL.trans h12
   obtain ⟨rfl, rfl⟩ := h13
   have hO : Obs _ _ [_] := hO
   refine zh (zcI ⟨(zfv rfl (hO.val (i := 0) (off := 2) (agg := false) (n := 1) rfl rfl) rfl), trivial⟩ ?_)
   refine zb hO 1 [] [(1, zqD b2), (3, .string c3.1), (13, .bool (!c3.2)), (14, .pointer (some ⟨b2, 2, none⟩)), (15, zqC p0.R), (18, .bool c10)] zqr fun j => ?_
   rcases zi hF with ⟨hb14, hF⟩ | ⟨hb14, hF⟩
   ·refine zeX (congrArg (fun x => isB (.bool x) false) hb14) ⟨trivial, ⟨⟨(zfv rfl (hO.val (i := 0) (off := 2) (agg := false) (n := 1) rfl rfl) rfl), trivial⟩, trivial⟩⟩ ?_
    refine zP (congrArg (fun x => isB (.bool x) false) hb9) ?_
    refine zA (congrArg Value.bool hb14) ?_
    obtain ⟨c15, h16, hF⟩ := bind_some hF
    refine zr hO (zhl h16) rfl fun _ σ _ _ hO h17 h18 => ?_
    have hL := hL.trans h17
    obtain ⟨rfl, rfl⟩ := h18
    have hO : Obs _ _ [_] := hO
    refine zb hO 1 [] [(1, zqD b2), (3, .string c3.1), (13, .bool (!c3.2)), (23, .bool (!c15))] zqp fun j => ?_
    refine zA (congrArg Value.bool hb9) ?_
    refine zh ?_
    injection hF with hF
    subst hF
    refine zg ?_
    exact ⟨rfl, _, zqB zqn, hO, hL⟩
   ·refine zP (congrArg (fun x => isB (.bool x) false) hb14) ?_
    refine zb hO 1 [] [(1, zqD b2), (3, .string c3.1), (13, .bool (!c3.2)), (14, .pointer (some ⟨b2, 2, none⟩)), (15, zqC p0.R), (18, .bool c10), (19, .string c3.1)] zqs fun j => ?_
    refine zcC ?_
    obtain ⟨c19, h20, hF⟩ := bind_some hF
    refine zr hO (zcQ h20) rfl fun _ σ _ _ hO h21 h22 => ?_
    have hL := hL.trans h21
    obtain ⟨rfl, rfl⟩ := h22
    have hO : Obs _ _ [_] := hO
    refine zh (zcI ⟨(zfv rfl (hO.val (i := 0) (off := 2) (agg := false) (n := 1) rfl rfl) rfl), trivial⟩ ?_)
    refine zP (congrArg (fun x => isB (.bool x) false) hb9) ?_
    refine zA (congrArg Value.bool hb14) ?_
    obtain ⟨c23, h24, hF⟩ := bind_some hF
    refine zr hO (zhl h24) rfl fun _ σ _ _ hO h25 h26 => ?_
    have hL := hL.trans h25
    obtain ⟨rfl, rfl⟩ := h26
    have hO : Obs _ _ [_] := hO
    refine zb hO 1 [] [(1, zqD b2), (3, .string c3.1), (13, .bool (!c3.2)), (23, .bool (!c23))] zqp fun j => ?_
    refine zA (congrArg Value.bool hb9) ?_
    refine zh ?_
    injection hF with hF
    subst hF
    refine zg ?_
    exact ⟨rfl, _, zqB zqn, hO, hL⟩
 ·rintro e σ ⟨_, hA, hO, hL⟩
  rw [← zC _ _ hA]
  refine zb hO 1 [] [(1, zqD b2), (3, .string c3.1), (25, .bool c7)] zqo fun j => ?_
  obtain ⟨c27, h28, hF⟩ := bind_some hF
  refine zbC 2 (fun e' σ' => ∃ (τ' : Hp), agr [(32, .bool c27), (1, zqD b2), (3, .string c3.1)] e' ∧ Obs τ' σ' [some (b2, ⟨[.int .u8 (p0.Kind.toNat : Int), .int .u8 (p0.Op.toNat : Int), .int .i64 p0.R, .int .i64 p0.S, .int .i64 p0.T, .int .i64 p0.N, .int .i64 p0.M], 54, 7, true⟩)] ∧ Hp.le τ τ') ?_ ?_
  ·have hF := h28
   rcases zi hF with ⟨hb29, hF⟩ | ⟨hb29, hF⟩
   ·refine zeX (congrArg (fun x => isB (.bool x) false) hb29) ⟨trivial, ⟨trivial, ⟨trivial, ⟨⟨(zgL (congrArg (fun x => isB (.bool x) false) hb29)), trivial⟩, ⟨trivial, ⟨trivial, trivial⟩⟩⟩⟩⟩⟩ ?_
    refine zA (congrArg Value.bool hb29) ?_
    refine zh ?_
    injection hF with hF
    subst hF
    refine zg ?_
    exact ⟨rfl, _, zqB zqn, hO, hL⟩
   ·refine zP (congrArg (fun x => isB (.bool x) false) hb29) ?_
    refine zb hO 3 [0] [(1, zqD b2), (3, .string c3.1), (25, .bool c7), (26, .pointer (some ⟨b2, 3, none⟩)), (27, zqC p0.S), (28, .string c3.1)] (And.intro (And.intro rfl rfl) zqr) fun j => ?_
    refine zcC ?_
    obtain ⟨c30, h31, hF⟩ := bind_some hF
    refine zr hO (zcQ h31) rfl fun _ σ _ _ hO h32 h33 => ?_
    have hL := hL.trans h32
    obtain ⟨rfl, rfl⟩ := h33
    have hO : Obs _ _ [_] := hO
    refine zh (zcI ⟨(zfv rfl (hO.val (i := 0) (off := 3) (agg := false) (n := 1) rfl rfl) rfl), trivial⟩ ?_)
    obtain ⟨c34, h35, hF⟩ := bind_some hF
    refine zr hO (zhl h35) rfl fun _ σ _ _ hO h36 h37 => ?_
    have hL := hL.trans h36
    obtain ⟨rfl, rfl⟩ := h37
    have hO : Obs _ _ [_] := hO
    refine zb hO 1 [] [(1, zqD b2), (3, .string c3.1), (25, .bool c7), (31, .bool (!c34))] zqp fun j => ?_
    refine zA (congrArg Value.bool hb29) ?_
    refine zh ?_
    injection hF with hF
    subst hF
    refine zg ?_
    exact ⟨rfl, _, zqB zqn, hO, hL⟩
  ·rintro e σ ⟨_, hA, hO, hL⟩
   rw [← zC _ _ hA]
   refine zb hO 1 [] [(1, zqD b2), (3, .string c3.1), (33, .bool c27)] zqo fun j => ?_
   obtain ⟨c38, h39, hF⟩ := bind_some hF
   refine zbC 2 (fun e' σ' => ∃ (τ' : Hp), agr [(40, .bool c38), (1, zqD b2), (3, .string c3.1)] e' ∧ Obs τ' σ' [some (b2, ⟨[.int .u8 (p0.Kind.toNat : Int), .int .u8 (p0.Op.toNat : Int), .int .i64 p0.R, .int .i64 p0.S, .int .i64 p0.T, .int .i64 p0.N, .int .i64 p0.M], 54, 7, true⟩)] ∧ Hp.le τ τ') ?_ ?_
   ·have hF := h39
    rcases zi hF with ⟨hb40, hF⟩ | ⟨hb40, hF⟩
    ·refine zeX (congrArg (fun x => isB (.bool x) false) hb40) ⟨trivial, ⟨trivial, ⟨trivial, ⟨⟨(zgL (congrArg (fun x => isB (.bool x) false) hb40)), trivial⟩, ⟨trivial, ⟨trivial, trivial⟩⟩⟩⟩⟩⟩ ?_
     refine zA (congrArg Value.bool hb40) ?_
     refine zh ?_
     injection hF with hF
     subst hF
     refine zg ?_
     exact ⟨rfl, _, zqB zqn, hO, hL⟩
    ·refine zP (congrArg (fun x => isB (.bool x) false) hb40) ?_
     refine zb hO 3 [0] [(1, zqD b2), (3, .string c3.1), (33, .bool c27), (34, .pointer (some ⟨b2, 4, none⟩)), (35, zqC p0.T), (36, .string c3.1)] (And.intro (And.intro rfl rfl) zqr) fun j => ?_
     refine zcC ?_
     obtain ⟨c41, h42, hF⟩ := bind_some hF
     refine zr hO (zcQ h42) rfl fun _ σ _ _ hO h43 h44 => ?_
     have hL := hL.trans h43
     obtain ⟨rfl, rfl⟩ := h44
     have hO : Obs _ _ [_] := hO
     refine zh (zcI ⟨(zfv rfl (hO.val (i := 0) (off := 4) (agg := false) (n := 1) rfl rfl) rfl), trivial⟩ ?_)
     obtain ⟨c45, h46, hF⟩ := bind_some hF
     refine zr hO (zhl h46) rfl fun _ σ _ _ hO h47 h48 => ?_
     have hL := hL.trans h47
     obtain ⟨rfl, rfl⟩ := h48
     have hO : Obs _ _ [_] := hO
     refine zb hO 1 [] [(1, zqD b2), (3, .string c3.1), (33, .bool c27), (39, .bool (!c45))] zqp fun j => ?_
     refine zA (congrArg Value.bool hb40) ?_
     refine zh ?_
     injection hF with hF
     subst hF
     refine zg ?_
     exact ⟨rfl, _, zqB zqn, hO, hL⟩
   ·rintro e σ ⟨_, hA, hO, hL⟩
    rw [← zC _ _ hA]
    refine zh ?_
    rcases zi hF with ⟨hb49, hF⟩ | ⟨hb49, hF⟩
    ·refine zl (congrArg Value.bool hb49) ?_
     refine ze (za hO [] [(2, .bool false)] zqm fun j => ?_)
     refine zz ?_
     injection hF with hF
     subst hF
     have hO := hO.sel [] (by decide)
     exact hQ _ _ _ _ _ rfl hO hL ⟨rfl, rfl⟩
    ·refine zk (congrArg Value.bool hb49) ?_
     refine zv (ze (zb hO 1 [] [(1, zqD b2), (3, .string c3.1), (41, .string c3.1)] zqo fun j => ?_))
     obtain ⟨c50, h51, hF⟩ := bind_some hF
     refine zr hO (zcQ h51) rfl fun _ σ _ _ hO h52 h53 => ?_
     have hL := hL.trans h52
     obtain ⟨rfl, rfl⟩ := h53
     have hO : Obs _ _ [_] := hO
     refine zb hO 1 [] [(1, zqD b2), (3, .string c3.1), (43, .bool c50)] zqo fun j => ?_
     obtain ⟨c54, h55, hF⟩ := bind_some hF
     refine zdR 4 [(52, .bool c54), (1, zqD b2), (3, .string c3.1)] (fun Q hQ => ?_) fun j => ?_
     ·have hF := h55
      rcases zi hF with ⟨hb56, hF⟩ | ⟨hb56, hF⟩
      ·refine zP (congrArg (fun x => isB (.bool x) true) hb56) ?_
       refine zb hO 4 [0] [(1, zqD b2), (3, .string c3.1), (43, .bool c50), (47, .bool (decide (p0.M < 1)))] (And.intro (And.intro rfl rfl) zqp) fun j => ?_
       rcases zi hF with ⟨hb57, hF⟩ | ⟨hb57, hF⟩
       ·refine zX (congrArg (fun x => isB (.bool x) false) hb57) ?_
        refine zP (congrArg (fun x => isB (.bool x) true) hb56) ?_
        refine zA (congrArg Value.bool hb57) ?_
        refine zA (congrArg Value.bool hb56) ?_
        refine zh ?_
        injection hF with hF
        subst hF
        refine zg ?_
        exact hQ _ zqo
       ·refine zP (congrArg (fun x => isB (.bool x) false) hb57) ?_
        refine zb hO 3 [0] [(1, zqD b2), (3, .string c3.1), (43, .bool c50), (47, .bool (decide (p0.M < 1))), (50, .bool (decide (p0.M > 65536)))] (And.intro (And.intro rfl rfl) zqq) fun j => ?_
        refine zP (congrArg (fun x => isB (.bool x) true) hb56) ?_
        refine zA (congrArg Value.bool hb57) ?_
        refine zA (congrArg Value.bool hb56) ?_
        refine zh ?_
        injection hF with hF
        subst hF
        refine zg ?_
        exact hQ _ zqo
      ·refine zX (congrArg (fun x => isB (.bool x) true) hb56) ?_
       refine zX rfl ?_
       refine zX (congrArg (fun x => isB (.bool x) true) hb56) ?_
       refine zA (congrArg Value.bool hb56) ?_
       refine zh ?_
       injection hF with hF
       subst hF
       refine zg ?_
       exact hQ _ zqo
     ·refine zb hO 1 [] [(1, zqD b2), (3, .string c3.1), (53, .bool c54)] zqo fun j => ?_
      obtain ⟨c58, h59, hF⟩ := bind_some hF
      refine zbC 4 (fun e' σ' => ∃ (τ' : Hp), agr [(62, .bool c58), (1, zqD b2), (3, .string c3.1)] e' ∧ Obs τ' σ' [some (b2, ⟨[.int .u8 (p0.Kind.toNat : Int), .int .u8 (p0.Op.toNat : Int), .int .i64 p0.R, .int .i64 p0.S, .int .i64 p0.T, .int .i64 p0.N, .int .i64 p0.M], 54, 7, true⟩)] ∧ Hp.le τ τ') ?_ ?_
      ·have hF := h59
       rcases zi hF with ⟨hb60, hF⟩ | ⟨hb60, hF⟩
       ·refine zX (congrArg (fun x => isB (.bool x) false) hb60) ?_
        refine zX rfl ?_
        refine zX (congrArg (fun x => isB (.bool x) false) hb60) ?_
        refine zA (congrArg Value.bool hb60) ?_
        refine zh ?_
        injection hF with hF
        subst hF
        refine zg ?_
        exact ⟨rfl, _, zqB zqn, hO, hL⟩
       ·refine zP (congrArg (fun x => isB (.bool x) false) hb60) ?_
        refine zb hO 1 [] [(1, zqD b2), (3, .string c3.1), (53, .bool c54), (54, .string c3.1)] zqp fun j => ?_
        obtain ⟨c61, h62, hF⟩ := bind_some hF
        refine zr hO (zcQ h62) rfl fun _ σ _ _ hO h63 h64 => ?_
        have hL := hL.trans h63
        obtain ⟨rfl, rfl⟩ := h64
        have hO : Obs _ _ [_] := hO
        refine zb hO 2 [] [(1, zqD b2), (3, .string c3.1), (53, .bool c54), (57, .bool (!c61))] zqp fun j => ?_
        rcases zi hF with ⟨hb65, hF⟩ | ⟨hb65, hF⟩
        ·refine zP (congrArg (fun x => isB (.bool x) true) hb65) ?_
         refine zb hO 3 [0] [(1, zqD b2), (3, .string c3.1), (53, .bool c54), (57, .bool (!c61)), (60, .bool (p0.M != 0))] (And.intro (And.intro rfl rfl) zqq) fun j => ?_
         refine zP (congrArg (fun x => isB (.bool x) false) hb60) ?_
         refine zA (congrArg Value.bool hb65) ?_
         refine zA (congrArg Value.bool hb60) ?_
         refine zh ?_
         injection hF with hF
         subst hF
         refine zg ?_
         exact ⟨rfl, _, zqB zqn, hO, hL⟩
        ·refine zX (congrArg (fun x => isB (.bool x) true) hb65) ?_
         refine zP (congrArg (fun x => isB (.bool x) false) hb60) ?_
         refine zA (congrArg Value.bool hb65) ?_
         refine zA (congrArg Value.bool hb60) ?_
         refine zh ?_
         injection hF with hF
         subst hF
         refine zg ?_
         exact ⟨rfl, _, zqB zqn, hO, hL⟩
      ·rintro e σ ⟨_, hA, hO, hL⟩
       rw [← zC _ _ hA]
       refine zh ?_
       rcases zi hF with ⟨hb66, hF⟩ | ⟨hb66, hF⟩
       ·refine zl (congrArg Value.bool hb66) ?_
        refine ze (za hO [] [(2, .bool false)] zqm fun j => ?_)
        refine zz ?_
        injection hF with hF
        subst hF
        have hO := hO.sel [] (by decide)
        exact hQ _ _ _ _ _ rfl hO hL ⟨rfl, rfl⟩
       ·refine zk (congrArg Value.bool hb66) ?_
        refine zv (zhQ (fun e' σ' => ∃ (τ' : Hp), agr [(1, zqD b2), (3, .string c3.1)] e' ∧ Obs τ' σ' [some (b2, ⟨[.int .u8 (p0.Kind.toNat : Int), .int .u8 (p0.Op.toNat : Int), .int .i64 p0.R, .int .i64 p0.S, .int .i64 p0.T, .int .i64 p0.N, .int .i64 p0.M], 54, 7, true⟩)] ∧ Hp.le τ τ' ∧ zbl p0 c3 = some rr) ?_ ?_)
        ·refine za hO [0] [(1, zqD b2), (3, .string c3.1), (63, .bool ((p0.Kind.toNat : Int) == 4))] (And.intro (And.intro rfl rfl) zqo) fun j => ?_
         refine z2 ?_
         rcases zi hF with ⟨hb88, hF⟩ | ⟨hb88, hF⟩
         ·refine zl (congrArg Value.bool hb88) ?_
          refine ze (za hO [0, 0] [(1, zqD b2), (3, .string c3.1), (74, .bool ((decide ((p0.Op.toNat : Int) < 1)) || (decide ((p0.Op.toNat : Int) > 13))))] (And.intro (And.intro rfl rfl) (And.intro (And.intro rfl rfl) (And.intro (And.intro rfl rfl) (fun _ => zqB zqn)))) fun j => ?_)
          rcases zi hF with ⟨hb89, hF⟩ | ⟨hb89, hF⟩
          ·refine zl (congrArg Value.bool hb89) ?_
           refine ze (za hO [] [(2, .bool false)] zqm fun j => ?_)
           refine zz (zJ (zE ?_))
           injection hF with hF
           subst hF
           have hO := hO.sel [] (by decide)
           exact hQ _ _ _ _ _ rfl hO hL ⟨rfl, rfl⟩
          ·refine zk (congrArg Value.bool hb89) ?_
           refine zv (zg (zK (zn ?_)))
           exact ⟨_, zqB zqm, hO, hL, hF⟩
         ·refine zk (congrArg Value.bool hb88) ?_
          refine ze (za hO [0] [(1, zqD b2), (3, .string c3.1), (75, .bool ((p0.Kind.toNat : Int) == 5))] (And.intro (And.intro rfl rfl) zqo) fun j => ?_)
          rcases zi hF with ⟨hb90, hF⟩ | ⟨hb90, hF⟩
          ·refine zl (congrArg Value.bool hb90) ?_
           refine ze (za hO [0, 0] [(1, zqD b2), (3, .string c3.1), (86, .bool (((p0.Op.toNat : Int) != 14) && ((p0.Op.toNat : Int) != 15)))] (And.intro (And.intro rfl rfl) (And.intro (And.intro rfl rfl) (And.intro (And.intro rfl rfl) (fun _ => zqB zqn)))) fun j => ?_)
           rcases zi hF with ⟨hb91, hF⟩ | ⟨hb91, hF⟩
           ·refine zl (congrArg Value.bool hb91) ?_
            refine ze (za hO [] [(2, .bool false)] zqm fun j => ?_)
            refine zz (zJ (zE ?_))
            injection hF with hF
            subst hF
            have hO := hO.sel [] (by decide)
            exact hQ _ _ _ _ _ rfl hO hL ⟨rfl, rfl⟩
           ·refine zk (congrArg Value.bool hb91) ?_
            refine zv (zg (zK (zn ?_)))
            exact ⟨_, zqB zqm, hO, hL, hF⟩
          ·refine zk (congrArg Value.bool hb90) ?_
           refine ze (za hO [0] [(1, zqD b2), (3, .string c3.1), (87, .bool ((p0.Op.toNat : Int) != 0))] (And.intro (And.intro rfl rfl) zqo) fun j => ?_)
           rcases zi hF with ⟨hb92, hF⟩ | ⟨hb92, hF⟩
           ·refine zl (congrArg Value.bool hb92) ?_
            refine ze (za hO [] [(2, .bool false)] zqm fun j => ?_)
            refine zz (zJ (zE ?_))
            injection hF with hF
            subst hF
            have hO := hO.sel [] (by decide)
            exact hQ _ _ _ _ _ rfl hO hL ⟨rfl, rfl⟩
           ·refine zk (congrArg Value.bool hb92) ?_
            refine zv (zg (zK (zn ?_)))
            exact ⟨_, zqB zqm, hO, hL, hF⟩
        ·rintro e σ ⟨_, hA, hO, hL, hF⟩
         rw [← zC _ _ hA]
         unfold zbl at hF
         refine zO (za hO [0] [(1, zqD b2), (3, .string c3.1), (91, .bool ((p0.Kind.toNat : Int) == 2))] (And.intro (And.intro rfl rfl) zqo) fun j => ?_)
         refine z2 ?_
         rcases zi hF with ⟨hb72, hF⟩ | ⟨hb72, hF⟩
         ·refine zl (congrArg Value.bool hb72) ?_
          refine ze (za hO [] [(2, .bool true)] zqm fun j => ?_)
          refine zz (zJ (zE ?_))
          injection hF with hF
          subst hF
          have hO := hO.sel [] (by decide)
          exact hQ _ _ _ _ _ rfl hO hL ⟨rfl, rfl⟩
         ·refine zk (congrArg Value.bool hb72) ?_
          refine ze (zb hO 1 [] [(1, zqD b2), (3, .string c3.1), (96, .string c3.1)] zqo fun j => ?_)
          obtain ⟨c73, h74, hF⟩ := bind_some hF
          refine zr hO (zcQ h74) rfl fun _ σ _ _ hO h75 h76 => ?_
          have hL := hL.trans h75
          obtain ⟨rfl, rfl⟩ := h76
          have hO : Obs _ _ [_] := hO
          refine za hO [] [(1, zqD b2), (3, .string c3.1), (95, .bool c73)] zqo fun j => ?_
          rcases zi hF with ⟨hb77, hF⟩ | ⟨hb77, hF⟩
          ·refine zl (congrArg Value.bool hb77) ?_
           refine ze (za hO [0, 0] [(2, .bool ((decide (p0.N ≥ (-65536))) && (decide (p0.N ≤ 65536))))] (And.intro (And.intro rfl rfl) (And.intro (And.intro rfl rfl) (And.intro (And.intro rfl rfl) (fun _ => zqB trivial)))) fun j => ?_)
           refine zz (zJ (zE ?_))
           injection hF with hF
           subst hF
           have hO := hO.sel [] (by decide)
           exact hQ _ _ _ _ _ rfl hO hL ⟨rfl, rfl⟩
          ·refine zk (congrArg Value.bool hb77) ?_
           refine ze (zb hO 1 [] [(1, zqD b2), (3, .string c3.1), (107, .string c3.1)] zqo fun j => ?_)
           obtain ⟨c78, h79, hF⟩ := bind_some hF
           refine zr hO (zcQ h79) rfl fun _ σ _ _ hO h80 h81 => ?_
           have hL := hL.trans h80
           obtain ⟨rfl, rfl⟩ := h81
           have hO : Obs _ _ [_] := hO
           refine za hO [] [(1, zqD b2), (3, .string c3.1), (106, .bool c78)] zqo fun j => ?_
           rcases zi hF with ⟨hb82, hF⟩ | ⟨hb82, hF⟩
           ·refine zl (congrArg Value.bool hb82) ?_
            refine ze (za hO [0, 0] [(2, .bool ((decide (p0.N ≥ 0)) && (decide (p0.N < 16777216))))] (And.intro (And.intro rfl rfl) (And.intro (And.intro rfl rfl) (And.intro (And.intro rfl rfl) (fun _ => zqB trivial)))) fun j => ?_)
            refine zz (zJ (zE ?_))
            injection hF with hF
            subst hF
            have hO := hO.sel [] (by decide)
            exact hQ _ _ _ _ _ rfl hO hL ⟨rfl, rfl⟩
           ·refine zk (congrArg Value.bool hb82) ?_
            refine ze (zb hO 1 [] [(1, zqD b2), (118, .string c3.1)] zqn fun j => ?_)
            obtain ⟨c83, h84, hF⟩ := bind_some hF
            refine zr hO (zcQ h84) rfl fun _ σ _ _ hO h85 h86 => ?_
            have hL := hL.trans h85
            obtain ⟨rfl, rfl⟩ := h86
            have hO : Obs _ _ [_] := hO
            refine za hO [] [(1, zqD b2), (117, .bool c83)] zqn fun j => ?_
            rcases zi hF with ⟨hb87, hF⟩ | ⟨hb87, hF⟩
            ·refine zl (congrArg Value.bool hb87) ?_
             refine ze (za hO [0, 0] [(2, .bool ((decide (p0.N ≥ 2)) && (decide (p0.N ≤ 4))))] (And.intro (And.intro rfl rfl) (And.intro (And.intro rfl rfl) (And.intro (And.intro rfl rfl) (fun _ => zqB trivial)))) fun j => ?_)
             refine zz (zJ (zE ?_))
             injection hF with hF
             subst hF
             have hO := hO.sel [] (by decide)
             exact hQ _ _ _ _ _ rfl hO hL ⟨rfl, rfl⟩
            ·refine zk (congrArg Value.bool hb87) ?_
             refine zv (zg (zK (zn (za hO [0] [(2, .bool (p0.N == 0))] (And.intro (And.intro rfl rfl) zqm) fun j => ?_))))
             refine zp ?_
             injection hF with hF
             subst hF
             have hO := hO.sel [] (by decide)
             exact hQ _ _ _ _ _ rfl hO hL ⟨rfl, rfl⟩
theorem znN {τ : Hp} {p0 : Int} {p1 : Int}  {rr : Int × Bool} (hF : zfu p0 p1 = some rr) :
  Ctr Tryz.prog 37 #[.int .i64 p0, .int .i64 p1] τ [] (fun v τ' vs' => v = .tuple #[.int .u8 rr.1, .bool rr.2] ∧ vs' = []) := by
 refine zw (args := [.int .i64 p0, .int .i64 p1]) hm Tryz.func37 s37 rfl fun w0 σ hO Q hQ => ?_
 unfold zfu at hF
 have hL := Hp.le.refl τ
 show wpn _ _ a37.body _ _ _
 unfold a37
 dsimp only
 refine za hO [] [(0, zqC p0), (1, zqC p1)] zqn fun j => ?_
 refine ze (za hO [] [(0, zqC p0), (1, zqC p1), (6, zqC 0)] zqo fun j => ?_)
 refine zO (zbr (fun (n : Nat) e' σ' => ∃ (x5 : Int) (τ' : Hp), agr [(0, zqC p0), (1, zqC p1), (6, zqC x5)] e' ∧ Obs τ' σ' [] ∧ Hp.le τ τ' ∧ zfM p0 p1 n x5 = some rr) big ⟨0, _, zqB zqn, hO, hL, hF⟩ ?_)
 clear hF hO hL
 rintro n8 e σ ⟨x5, _, hA, hO, hL, hF⟩
 rw [← zC _ _ hA]
 cases n8 with
 | zero => exact nomatch (show none = some rr from hF)
 | succ n8 =>
  replace hF : zgf (zfM p0 p1 n8) p0 p1 x5 = some rr := hF
  unfold zgf at hF
  refine ze (za hO [] [(0, zqC p0), (1, zqC p1), (6, zqC x5), (8, .bool (decide (x5 < 256)))] zqp fun j => ?_)
  rcases zi hF with ⟨hb9, hF⟩ | ⟨hb9, hF⟩
  ·refine zl (congrArg Value.bool hb9) ?_
   refine zv (zO (za hO [] [(0, zqC p0), (1, zqC p1), (6, zqC x5), (20, .bool (((IntKind.i64.wrap (Int.tdiv x5 16)) == p0) && ((Int.tmod x5 16) == p1)))] (And.intro (And.intro rfl rfl) (fun _ => zqB zqo)) fun j => ?_))
   refine z2 ?_
   rcases zi hF with ⟨hb10, hF⟩ | ⟨hb10, hF⟩
   ·refine zl (congrArg Value.bool hb10) ?_
    refine ze (za hO [] [(4, .int .u8 (IntKind.u8.wrap x5)), (5, .bool true)] zqn fun j => ?_)
    refine zz (zJ (zE (zE (zJ (zE ?_)))))
    injection hF with hF
    subst hF
    exact hQ _ _ _ _ _ rfl hO hL ⟨rfl, rfl⟩
   ·refine zk (congrArg Value.bool hb10) ?_
    refine zv (zg (zK (zn (zU (za hO [] [(0, zqC p0), (1, zqC p1), (6, zqC (IntKind.i64.wrap (x5 + 1)))] zqo fun j => ?_)))))
    refine zg (zn ?_)
    exact ⟨n8, Nat.lt_succ_self _, (IntKind.i64.wrap (x5 + 1)), _, zqB zqn, hO, hL, hF⟩
  ·refine zk (congrArg Value.bool hb9) ?_
   refine zbq (zbm (zbp (zn (za hO [] [(4, .int .u8 0), (5, .bool false)] zqn fun j => ?_))))
   refine zp ?_
   injection hF with hF
   subst hF
   exact hQ _ _ _ _ _ rfl hO hL ⟨rfl, rfl⟩
theorem znV {τ : Hp} {p0 : Int} {p1 : Int}  {rr : Bool} (hF : zgu p0 p1 = some rr) :
  Ctr Tryz.prog 57 #[.int .i64 p0, .int .i64 p1] τ [] (fun v τ' vs' => v = .bool rr ∧ vs' = []) := by
 refine zw (args := [.int .i64 p0, .int .i64 p1]) hm Tryz.func57 s57 rfl fun w0 σ hO Q hQ => ?_
 unfold zgu at hF
 have hL := Hp.le.refl τ
 show wpn _ _ a57.body _ _ _
 unfold a57
 dsimp only
 refine za hO [] [(0, zqC p0), (1, zqC p1)] zqn fun j => ?_
 refine ze (za hO [] [(0, zqC p0), (1, zqC p1), (8, .bool (decide ((IntKind.i64.wrap ((IntKind.i64.wrap (7 * p1)) - 1)) ≥ 63)))] zqo fun j => ?_)
 rcases zi hF with ⟨hb3, hF⟩ | ⟨hb3, hF⟩
 ·refine zl (congrArg Value.bool hb3) ?_
  refine ze (za hO [] [(4, .bool true)] zqm fun j => ?_)
  refine zz ?_
  injection hF with hF
  subst hF
  exact hQ _ _ _ _ _ rfl hO hL ⟨rfl, rfl⟩
 ·refine zk (congrArg Value.bool hb3) ?_
  refine zv (zb hO 5 [] [(0, zqC p0), (1, zqC p1), (9, zqC p0), (13, .int .u64 (IntKind.u64.wrap (IntKind.i64.wrap ((IntKind.i64.wrap (7 * p1)) - 1))))] zqp fun j => ?_)
  obtain ⟨y4, g5, hF⟩ := bind_some hF
  refine zcW (zf7 g5) ?_
  refine zb hO 3 [] [(0, zqC p0), (1, zqC p1), (17, .bool (decide (p0 ≥ (IntKind.i64.wrap (0 - y4)))))] zqo fun j => ?_
  obtain ⟨c6, h7, hF⟩ := bind_some hF
  refine zdR 2 [(25, .bool c6)] (fun Q hQ => ?_) fun j => ?_
  ·have hF := h7
   rcases zi hF with ⟨hb8, hF⟩ | ⟨hb8, hF⟩
   ·refine zP (congrArg (fun x => isB (.bool x) true) hb8) ?_
    refine zb hO 5 [] [(17, .bool (decide (p0 ≥ (IntKind.i64.wrap (0 - y4))))), (18, zqC p0), (22, .int .u64 (IntKind.u64.wrap (IntKind.i64.wrap ((IntKind.i64.wrap (7 * p1)) - 1))))] zqo fun j => ?_
    obtain ⟨y9, g10, hF⟩ := bind_some hF
    refine zcW (zf7 g10) ?_
    refine zb hO 1 [] [(17, .bool (decide (p0 ≥ (IntKind.i64.wrap (0 - y4))))), (24, .bool (decide (p0 < y9)))] zqn fun j => ?_
    refine zA (congrArg Value.bool hb8) ?_
    refine zh ?_
    injection hF with hF
    subst hF
    refine zg ?_
    exact hQ _ (zqB (trivial))
   ·refine zX (congrArg (fun x => isB (.bool x) true) hb8) ?_
    refine zA (congrArg Value.bool hb8) ?_
    refine zh ?_
    injection hF with hF
    subst hF
    refine zg ?_
    exact hQ _ (zqB (trivial))
  ·refine za hO [] [(4, .bool c6)] zqm fun j => ?_
   refine zp ?_
   injection hF with hF
   subst hF
   exact hQ _ _ _ _ _ rfl hO hL ⟨rfl, rfl⟩
theorem zkN {τ : Hp} {v0 : Value} {p0 : (List UInt8)} {p1 : Int} {p2 : Bool} {p3 : Int} (r0 : RdT Ty.u8 τ v0 p0) {rr : (List UInt8)} (hF : zet p0 p1 p2 p3 = some rr) :
  Ctr Tryz.prog 58 #[v0, .int .u64 p1, .bool p2, .int .i64 p3] τ [] (fun v τ' vs' => ∃ (v0 : Value) (o0 : Ob), v = v0 ∧ vs' = [o0] ∧ zd Ty.u8 5 τ' v0 rr o0) := by
 obtain ⟨A0, c0, rfl, -⟩ := r0.form
 refine zw (args := [.slice A0 p0.length c0, .int .u64 p1, .bool p2, .int .i64 p3]) hm Tryz.func58 s58 rfl fun w0 σ hO Q hQ => ?_
 unfold zet at hF
 have hL := Hp.le.refl τ
 show wpn _ _ a58.body _ _ _
 unfold a58
 dsimp only
 refine za hO [] [(0, .slice A0 p0.length c0), (1, .int .u64 p1), (2, .bool p2), (3, zqC p3)] zqp fun j => ?_
 refine zb hO 1 [] [(1, .int .u64 p1), (2, .bool p2), (3, zqC p3), (12, .slice A0 p0.length c0)] zqp fun j => ?_
 obtain ⟨c5, h6, hF⟩ := bind_some hF
 refine zr hO (zkp r0 h6) rfl fun _ σ _ _ hO h7 h8 => ?_
 have hL := hL.trans h7
 have r0 := r0.le h7
 obtain ⟨v9, o12, rfl, rfl, w13⟩ := h8
 obtain ⟨A10, c11, rfl, -⟩ := w13.form
 have hO : Obs _ _ [_] := hO
 refine za hO [] [(1, .int .u64 p1), (2, .bool p2), (3, zqC p3), (9, .slice A10 c5.length c11)] zqp fun j => ?_
 refine ze (za hO [] [(1, .int .u64 p1), (2, .bool p2), (3, zqC p3), (9, .slice A10 c5.length c11), (10, zqC 0)] zqq fun j => ?_)
 refine zO (zbr (fun (n : Nat) e' σ' => ∃ (x41 : Int) (A42 : Option Addr) (c43 : Nat) (o44 : Ob) (x45 : List UInt8) (x47 : Int) (τ' : Hp), agr [(1, .int .u64 x41), (2, .bool p2), (3, zqC p3), (9, .slice A42 x45.length c43), (10, zqC x47)] e' ∧ Obs τ' σ' [o44] ∧ Hp.le τ τ' ∧ zd Ty.u8 5 τ' (.slice A42 x45.length c43) x45 o44 ∧ zdr p2 p3 n x41 x45 x47 = some rr) big ⟨p1, A10, c11, o12, c5, 0, _, zqB zqp, hO, hL, w13, hF⟩ ?_)
 clear hF hO hL
 rintro n70 e σ ⟨x41, A42, c43, o44, x45, x47, _, hA, hO, hL, w46, hF⟩
 rw [← zC _ _ hA]
 cases n70 with
 | zero => exact nomatch (show none = some rr from hF)
 | succ n70 =>
  replace hF : zgl (zdr p2 p3 n70) p2 p3 x41 x45 x47 = some rr := hF
  unfold zgl at hF
  refine ze (za hO [] [(1, .int .u64 x41), (2, .bool p2), (3, zqC p3), (9, .slice A42 x45.length c43), (10, zqC x47), (16, .bool (decide (x47 < p3)))] zqr fun j => ?_)
  rcases zi hF with ⟨hb71, hF⟩ | ⟨hb71, hF⟩
  ·refine zl (congrArg Value.bool hb71) ?_
   refine zv (zO (za hO [] [(1, .int .u64 x41), (2, .bool p2), (3, zqC p3), (9, .slice A42 x45.length c43), (10, zqC x47), (11, .int .u64 (Int.tmod x41 128))] zqr fun j => ?_))
   refine za hO [] [(1, .int .u64 (IntKind.u64.wrap (Int.tdiv x41 128))), (2, .bool p2), (3, zqC p3), (9, .slice A42 x45.length c43), (10, zqC x47), (11, .int .u64 (Int.tmod x41 128))] zqr fun j => ?_
   refine ze (za hO [] [(1, .int .u64 (IntKind.u64.wrap (Int.tdiv x41 128))), (2, .bool p2), (3, zqC p3), (9, .slice A42 x45.length c43), (10, zqC x47), (11, .int .u64 (Int.tmod x41 128)), (23, .bool p2)] zqs fun j => ?_)
   refine zbK (fun e' σ' => ∃ (x73 : Int) (A74 : Option Addr) (c75 : Nat) (o76 : Ob) (x77 : List UInt8) (τ' : Hp), agr [(1, .int .u64 x73), (2, .bool p2), (3, zqC p3), (9, .slice A74 x77.length c75), (10, zqC x47), (11, .int .u64 (Int.tmod x41 128))] e' ∧ Obs τ' σ' [o76] ∧ Hp.le τ τ' ∧ zd Ty.u8 5 τ' (.slice A74 x77.length c75) x77 o76 ∧ zfe (zdr p2 p3 n70) p3 x41 x47 x73 x77 = some rr) ?_ ?_
   ·refine z2 ?_
    rcases zi hF with ⟨hb92, hF⟩ | ⟨hb92, hF⟩
    ·refine zl (congrArg Value.bool hb92) ?_
     refine za hO [] [(1, .int .u64 (orI .u64 (IntKind.u64.wrap (Int.tdiv x41 128)) 18302628885633695744)), (2, .bool p2), (3, zqC p3), (9, .slice A42 x45.length c43), (10, zqC x47), (11, .int .u64 (Int.tmod x41 128))] zqr fun j => ?_
     refine zg (zn ?_)
     exact ⟨(orI .u64 (IntKind.u64.wrap (Int.tdiv x41 128)) 18302628885633695744), A42, c43, o44, x45, _, zqB zqq, hO, hL, w46, hF⟩
    ·refine zk (congrArg Value.bool hb92) ?_
     refine zv (zg (zn ?_))
     exact ⟨(IntKind.u64.wrap (Int.tdiv x41 128)), A42, c43, o44, x45, _, zqB zqq, hO, hL, w46, hF⟩
   ·rintro e σ ⟨x73, A74, c75, o76, x77, _, hA, hO, hL, w78, hF⟩
    rw [← zC _ _ hA]
    unfold zfe at hF
    refine ze (za hO [] [(1, .int .u64 x73), (2, .bool p2), (3, zqC p3), (9, .slice A74 x77.length c75), (10, zqC x47), (11, .int .u64 (Int.tmod x41 128)), (29, .bool (decide (x47 < (IntKind.i64.wrap (p3 - 1)))))] zqs fun j => ?_)
    rcases zi hF with ⟨hb79, hF⟩ | ⟨hb79, hF⟩
    ·refine zl (congrArg Value.bool hb79) ?_
     refine za hO [] [(1, .int .u64 x73), (2, .bool p2), (3, zqC p3), (9, .slice A74 x77.length c75), (10, zqC x47), (11, .int .u64 (IntKind.u64.wrap ((Int.tmod x41 128) + 128)))] zqr fun j => ?_
     refine zU (zb hO 3 [] [(1, .int .u64 x73), (2, .bool p2), (3, zqC p3), (10, zqC x47), (32, .slice A74 x77.length c75), (34, .int .u8 (IntKind.u8.wrap (IntKind.u64.wrap ((Int.tmod x41 128) + 128))))] zqr fun j => ?_)
     obtain ⟨z80, hz80, hF⟩ := bind_some hF
     obtain ⟨_, hr85, hF⟩ := bind_some hF
     refine zbI (T := Ty.u8) (y := z80) hO w78 (i := 0) rfl rfl (fun _ => rfl) rfl (u8R hz80) rfl hr85 (by decide) fun u _ σ o83 w84 hO => ?_
     obtain ⟨A81, c82, rfl, -⟩ := w84.form
     have hO : Obs _ _ [_] := hO
     refine za hO [] [(1, .int .u64 x73), (2, .bool p2), (3, zqC p3), (9, .slice A81 (x77 ++ [z80]).length c82), (10, zqC x47)] zqq fun j => ?_
     refine zg (zK (zn (zU (za hO [] [(1, .int .u64 x73), (2, .bool p2), (3, zqC p3), (9, .slice A81 (x77 ++ [z80]).length c82), (10, zqC (IntKind.i64.wrap (x47 + 1)))] zqq fun j => ?_))))
     refine zg (zn ?_)
     exact ⟨n70, Nat.lt_succ_self _, x73, A81, c82, o83, (x77 ++ [z80]), (IntKind.i64.wrap (x47 + 1)), _, zqB zqp, hO, hL, w84, hF⟩
    ·refine zk (congrArg Value.bool hb79) ?_
     refine zv (zU (zb hO 3 [] [(1, .int .u64 x73), (2, .bool p2), (3, zqC p3), (10, zqC x47), (32, .slice A74 x77.length c75), (34, .int .u8 (IntKind.u8.wrap (Int.tmod x41 128)))] zqr fun j => ?_))
     obtain ⟨z86, hz86, hF⟩ := bind_some hF
     obtain ⟨_, hr91, hF⟩ := bind_some hF
     refine zbI (T := Ty.u8) (y := z86) hO w78 (i := 0) rfl rfl (fun _ => rfl) rfl (u8R hz86) rfl hr91 (by decide) fun u _ σ o89 w90 hO => ?_
     obtain ⟨A87, c88, rfl, -⟩ := w90.form
     have hO : Obs _ _ [_] := hO
     refine za hO [] [(1, .int .u64 x73), (2, .bool p2), (3, zqC p3), (9, .slice A87 (x77 ++ [z86]).length c88), (10, zqC x47)] zqq fun j => ?_
     refine zg (zK (zn (zU (za hO [] [(1, .int .u64 x73), (2, .bool p2), (3, zqC p3), (9, .slice A87 (x77 ++ [z86]).length c88), (10, zqC (IntKind.i64.wrap (x47 + 1)))] zqq fun j => ?_))))
     refine zg (zn ?_)
     exact ⟨n70, Nat.lt_succ_self _, x73, A87, c88, o89, (x77 ++ [z86]), (IntKind.i64.wrap (x47 + 1)), _, zqB zqp, hO, hL, w90, hF⟩
  ·refine zk (congrArg Value.bool hb71) ?_
   refine zbq (zbm (zbp (zn (za hO [] [(8, .slice A42 x45.length c43)] zqm fun j => ?_))))
   refine zp ?_
   injection hF with hF
   subst hF
   exact hQ _ _ _ _ _ rfl hO hL ⟨_, _, rfl, rfl, w46⟩
theorem zqg {τ : Hp} {v0 : Value} {p0 : (List UInt8)} {p1 : Int} (r0 : RdT Ty.u8 τ v0 p0) {rr : (List UInt8)} (hF : zep p0 p1 = some rr) :
  Ctr Tryz.prog 38 #[v0, .int .i64 p1] τ [] (fun v τ' vs' => ∃ (v0 : Value) (o0 : Ob), v = v0 ∧ vs' = [o0] ∧ zd Ty.u8 5 τ' v0 rr o0) := by
 obtain ⟨A0, c0, rfl, -⟩ := r0.form
 refine zw (args := [.slice A0 p0.length c0, .int .i64 p1]) hm Tryz.func38 s38 rfl fun w0 σ hO Q hQ => ?_
 unfold zep at hF
 have hL := Hp.le.refl τ
 show wpn _ _ a38.body _ _ _
 unfold a38
 dsimp only
 refine za hO [] [(0, .slice A0 p0.length c0), (1, zqC p1)] zqn fun j => ?_
 refine za hO [] [(0, .slice A0 p0.length c0), (1, zqC p1), (5, zqC 1)] zqo fun j => ?_
 refine zO (zbr (fun (n : Nat) e' σ' => ∃ (x19 : Int) (τ' : Hp), agr [(0, .slice A0 p0.length c0), (1, zqC p1), (5, zqC x19)] e' ∧ Obs τ' σ' [] ∧ Hp.le τ τ' ∧ RdT Ty.u8 τ' (.slice A0 p0.length c0) p0 ∧ zeP p0 p1 n x19 = some rr) big ⟨1, _, zqB zqn, hO, hL, r0, hF⟩ ?_)
 clear hF hO hL
 rintro n34 e σ ⟨x19, _, hA, hO, hL, r18, hF⟩
 rw [← zC _ _ hA]
 cases n34 with
 | zero => exact nomatch (show none = some rr from hF)
 | succ n34 =>
  replace hF : zfZ (zeP p0 p1 n34) p0 p1 x19 = some rr := hF
  unfold zfZ at hF
  refine ze (zb hO 2 [] [(0, .slice A0 p0.length c0), (1, zqC p1), (5, zqC x19), (6, zqC p1), (7, zqC x19)] zqq fun j => ?_)
  obtain ⟨c35, h36, hF⟩ := bind_some hF
  refine zr hO (znV h36) rfl fun _ σ _ _ hO h37 h38 => ?_
  have hL := hL.trans h37
  have r18 := r18.le h37
  obtain ⟨rfl, rfl⟩ := h38
  have hO : Obs _ _ [] := hO
  refine za hO [] [(0, .slice A0 p0.length c0), (1, zqC p1), (5, zqC x19), (9, .bool (!c35))] zqp fun j => ?_
  rcases zi hF with ⟨hb39, hF⟩ | ⟨hb39, hF⟩
  ·refine zl (congrArg Value.bool hb39) ?_
   refine zv (zeg (zO (zU (za hO [] [(0, .slice A0 p0.length c0), (1, zqC p1), (5, zqC (IntKind.i64.wrap (x19 + 1)))] zqo fun j => ?_))))
   refine zg (zK (zn (zg (zn ?_))))
   exact ⟨n34, Nat.lt_succ_self _, (IntKind.i64.wrap (x19 + 1)), _, zqB zqn, hO, hL, r18, hF⟩
  ·refine zk (congrArg Value.bool hb39) ?_
   refine zbq (zbm (zbp (zn (zb hO 6 [] [(12, .slice A0 p0.length c0), (14, .int .u64 (IntKind.u64.wrap p1)), (16, .bool (decide (p1 < 0))), (17, zqC x19)] zqp fun j => ?_))))
   obtain ⟨c40, h41, hF⟩ := bind_some hF
   refine zr hO (zkN r18 h41) rfl fun _ σ _ _ hO h42 h43 => ?_
   have hL := hL.trans h42
   have r18 := r18.le h42
   obtain ⟨v44, o47, rfl, rfl, w48⟩ := h43
   obtain ⟨A45, c46, rfl, -⟩ := w48.form
   have hO : Obs _ _ [_] := hO
   refine za hO [] [(4, .slice A45 c40.length c46)] zqm fun j => ?_
   refine zp ?_
   injection hF with hF
   subst hF
   exact hQ _ _ _ _ _ rfl hO hL ⟨_, _, rfl, rfl, w48⟩
theorem zlX {τ : Hp} {p0 : Int} {p1 : Int}  {rr : Bool} (hF : zfK p0 p1 = some rr) :
  Ctr Tryz.prog 59 #[.int .u64 p0, .int .i64 p1] τ [] (fun v τ' vs' => v = .bool rr ∧ vs' = []) := by
 refine zw (args := [.int .u64 p0, .int .i64 p1]) hm Tryz.func59 s59 rfl fun w0 σ hO Q hQ => ?_
 unfold zfK at hF
 have hL := Hp.le.refl τ
 show wpn _ _ a59.body _ _ _
 unfold a59
 dsimp only
 refine za hO [] [(0, .int .u64 p0), (1, zqC p1)] zqn fun j => ?_
 refine zb hO 4 [] [(0, .int .u64 p0), (1, zqC p1), (8, .bool (decide ((IntKind.i64.wrap (7 * p1)) ≥ 64)))] zqo fun j => ?_
 obtain ⟨c3, h4, hF⟩ := bind_some hF
 refine zdR 2 [(15, .bool c3)] (fun Q hQ => ?_) fun j => ?_
 ·have hF := h4
  rcases zi hF with ⟨hb5, hF⟩ | ⟨hb5, hF⟩
  ·refine zX (congrArg (fun x => isB (.bool x) false) hb5) ?_
   refine zA (congrArg Value.bool hb5) ?_
   refine zh ?_
   injection hF with hF
   subst hF
   refine zg ?_
   exact hQ _ (zqB (trivial))
  ·refine zP (congrArg (fun x => isB (.bool x) false) hb5) ?_
   refine zb hO 4 [] [(8, .bool (decide ((IntKind.i64.wrap (7 * p1)) ≥ 64))), (9, .int .u64 p0), (12, .int .u64 (IntKind.u64.wrap (IntKind.i64.wrap (7 * p1))))] zqo fun j => ?_
   obtain ⟨y6, g7, hF⟩ := bind_some hF
   refine zcW (zf7 g7) ?_
   refine zb hO 1 [] [(8, .bool (decide ((IntKind.i64.wrap (7 * p1)) ≥ 64))), (14, .bool (decide (p0 < y6)))] zqn fun j => ?_
   refine zA (congrArg Value.bool hb5) ?_
   refine zh ?_
   injection hF with hF
   subst hF
   refine zg ?_
   exact hQ _ (zqB (trivial))
 ·refine za hO [] [(4, .bool c3)] zqm fun j => ?_
  refine zp ?_
  injection hF with hF
  subst hF
  exact hQ _ _ _ _ _ rfl hO hL ⟨rfl, rfl⟩
theorem zoG {τ : Hp} {v0 : Value} {p0 : (List UInt8)} {p1 : Int} (r0 : RdT Ty.u8 τ v0 p0) {rr : (List UInt8)} (hF : zfj p0 p1 = some rr) :
  Ctr Tryz.prog 39 #[v0, .int .u64 p1] τ [] (fun v τ' vs' => ∃ (v0 : Value) (o0 : Ob), v = v0 ∧ vs' = [o0] ∧ zd Ty.u8 5 τ' v0 rr o0) := by
 obtain ⟨A0, c0, rfl, -⟩ := r0.form
 refine zw (args := [.slice A0 p0.length c0, .int .u64 p1]) hm Tryz.func39 s39 rfl fun w0 σ hO Q hQ => ?_
 unfold zfj at hF
 have hL := Hp.le.refl τ
 show wpn _ _ a39.body _ _ _
 unfold a39
 dsimp only
 refine za hO [] [(0, .slice A0 p0.length c0), (1, .int .u64 p1)] zqn fun j => ?_
 refine za hO [] [(0, .slice A0 p0.length c0), (1, .int .u64 p1), (5, zqC 1)] zqo fun j => ?_
 refine zO (zbr (fun (n : Nat) e' σ' => ∃ (x19 : Int) (τ' : Hp), agr [(0, .slice A0 p0.length c0), (1, .int .u64 p1), (5, zqC x19)] e' ∧ Obs τ' σ' [] ∧ Hp.le τ τ' ∧ RdT Ty.u8 τ' (.slice A0 p0.length c0) p0 ∧ zgg p0 p1 n x19 = some rr) big ⟨1, _, zqB zqn, hO, hL, r0, hF⟩ ?_)
 clear hF hO hL
 rintro n34 e σ ⟨x19, _, hA, hO, hL, r18, hF⟩
 rw [← zC _ _ hA]
 cases n34 with
 | zero => exact nomatch (show none = some rr from hF)
 | succ n34 =>
  replace hF : zeV (zgg p0 p1 n34) p0 p1 x19 = some rr := hF
  unfold zeV at hF
  refine ze (zb hO 2 [] [(0, .slice A0 p0.length c0), (1, .int .u64 p1), (5, zqC x19), (6, .int .u64 p1), (7, zqC x19)] zqq fun j => ?_)
  obtain ⟨c35, h36, hF⟩ := bind_some hF
  refine zr hO (zlX h36) rfl fun _ σ _ _ hO h37 h38 => ?_
  have hL := hL.trans h37
  have r18 := r18.le h37
  obtain ⟨rfl, rfl⟩ := h38
  have hO : Obs _ _ [] := hO
  refine za hO [] [(0, .slice A0 p0.length c0), (1, .int .u64 p1), (5, zqC x19), (9, .bool (!c35))] zqp fun j => ?_
  rcases zi hF with ⟨hb39, hF⟩ | ⟨hb39, hF⟩
  ·refine zl (congrArg Value.bool hb39) ?_
   refine zv (zeg (zO (zU (za hO [] [(0, .slice A0 p0.length c0), (1, .int .u64 p1), (5, zqC (IntKind.i64.wrap (x19 + 1)))] zqo fun j => ?_))))
   refine zg (zK (zn (zg (zn ?_))))
   exact ⟨n34, Nat.lt_succ_self _, (IntKind.i64.wrap (x19 + 1)), _, zqB zqn, hO, hL, r18, hF⟩
  ·refine zk (congrArg Value.bool hb39) ?_
   refine zbq (zbm (zbp (zn (zb hO 3 [] [(12, .slice A0 p0.length c0), (13, .int .u64 p1), (14, zqC x19)] zqo fun j => ?_))))
   obtain ⟨c40, h41, hF⟩ := bind_some hF
   refine zr hO (zkN r18 h41) rfl fun _ σ _ _ hO h42 h43 => ?_
   have hL := hL.trans h42
   have r18 := r18.le h42
   obtain ⟨v44, o47, rfl, rfl, w48⟩ := h43
   obtain ⟨A45, c46, rfl, -⟩ := w48.form
   have hO : Obs _ _ [_] := hO
   refine za hO [] [(4, .slice A45 c40.length c46)] zqm fun j => ?_
   refine zp ?_
   injection hF with hF
   subst hF
   exact hQ _ _ _ _ _ rfl hO hL ⟨_, _, rfl, rfl, w48⟩
theorem zpj {τ : Hp} {v0 : Value} {p0 : (List UInt8)} {p1 : Int} (r0 : RdT Ty.u8 τ v0 p0) {rr : (List UInt8) × Int} (hF : zfr p0 p1 = some rr) :
  Ctr Tryz.prog 40 #[v0, .int .i64 p1] τ [] (fun v τ' vs' => ∃ (v0 : Value) (o0 : Ob), v = .tuple #[v0, .int .i64 rr.2] ∧ vs' = [o0] ∧ zd Ty.u8 5 τ' v0 rr.1 o0) := by
 obtain ⟨A0, c0, rfl, -⟩ := r0.form
 refine zw (args := [.slice A0 p0.length c0, .int .i64 p1]) hm Tryz.func40 s40 rfl fun w0 σ hO Q hQ => ?_
 unfold zfr at hF
 have hL := Hp.le.refl τ
 show wpn _ _ a40.body _ _ _
 unfold a40
 dsimp only
 refine za hO [] [(0, .slice A0 p0.length c0), (1, zqC p1)] zqn fun j => ?_
 refine ze (za hO [] [(0, .slice A0 p0.length c0), (1, zqC p1), (11, .bool ((decide (p1 < 0)) || (decide (p1 ≥ 16777216))))] (And.intro (And.intro rfl rfl) (fun _ => zqB zqn)) fun j => ?_)
 rcases zi hF with ⟨hb3, hF⟩ | ⟨hb3, hF⟩
 ·refine zl (congrArg Value.bool hb3) ?_
  refine ze (za hO [] [(4, .slice none 0 0), (5, zqC 1)] zqn fun j => ?_)
  refine zz ?_
  have hO := hO.no
  have hO : Obs _ _ [_] := hO
  injection hF with hF
  subst hF
  exact hQ _ _ _ _ _ rfl hO hL ⟨_, _, rfl, rfl, (zd.nil _ _ _)⟩
 ·refine zk (congrArg Value.bool hb3) ?_
  refine zv (zbu (T := Ty.u8) (l := ([] : List UInt8)) (cs := []) hO rfl rfl rfl (by decide) fun _ σ o6 w7 hO => ?_)
  obtain ⟨A4, c5, rfl, -⟩ := w7.form
  have hO : Obs _ _ [_] := hO
  refine zb hO 1 [] [(1, zqC p1), (12, .slice A4 ([] : List UInt8).length c5), (13, .slice A0 p0.length c0)] zqo fun j => ?_
  obtain ⟨_, hr12, hF⟩ := bind_some hF
  refine zeY (T := Ty.u8) hO w7 (i := 0) rfl rfl rfl r0 hr12 (by decide) fun _ σ o10 w11 hO => ?_
  obtain ⟨A8, c9, rfl, -⟩ := w11.form
  have hO : Obs _ _ [_] := hO
  refine zb hO 10 [] [(14, .slice A8 (([] : List UInt8) ++ p0).length c9), (17, .int .u8 (IntKind.u8.wrap (IntKind.i64.wrap (Int.tdiv p1 65536)))), (21, .int .u8 (IntKind.u8.wrap (Int.tmod (IntKind.i64.wrap (Int.tdiv p1 256)) 256))), (24, .int .u8 (IntKind.u8.wrap (Int.tmod p1 256)))] zqp fun j => ?_
  obtain ⟨z13, hz13, hF⟩ := bind_some hF
  obtain ⟨z14, hz14, hF⟩ := bind_some hF
  obtain ⟨z15, hz15, hF⟩ := bind_some hF
  refine zbu (T := Ty.u8) (l := ([z13, z14, z15] : List UInt8)) (cs := [.int .u8 (IntKind.u8.wrap (IntKind.i64.wrap (Int.tdiv p1 65536))), .int .u8 (IntKind.u8.wrap (Int.tmod (IntKind.i64.wrap (Int.tdiv p1 256)) 256)), .int .u8 (IntKind.u8.wrap (Int.tmod p1 256))]) hO rfl ⟨[.int .u8 (IntKind.u8.wrap (IntKind.i64.wrap (Int.tdiv p1 65536)))], _, rfl, (u8R hz13), ⟨[.int .u8 (IntKind.u8.wrap (Int.tmod (IntKind.i64.wrap (Int.tdiv p1 256)) 256))], _, rfl, (u8R hz14), ⟨[.int .u8 (IntKind.u8.wrap (Int.tmod p1 256))], _, rfl, (u8R hz15), rfl⟩⟩⟩ rfl (by decide) fun _ σ o18 w19 hO => ?_
  obtain ⟨A16, c17, rfl, -⟩ := w19.form
  have hO : Obs _ _ [_, _] := hO
  obtain ⟨_, hr24, hF⟩ := bind_some hF
  refine ziN (T := Ty.u8) zlw hO w11 (i := 0) rfl rfl rfl (w19.rd hO (i := 1) rfl) hr24 (by decide) fun _ σ o22 w23 hO => ?_
  obtain ⟨A20, c21, rfl, -⟩ := w23.form
  have hO : Obs _ _ [_, _] := hO
  refine za hO [] [(4, .slice A20 ((([] : List UInt8) ++ p0) ++ ([z13, z14, z15] : List UInt8)).length c21), (5, zqC 0)] zqn fun j => ?_
  refine zp ?_
  injection hF with hF
  subst hF
  have hO := hO.sel [0] (by decide)
  exact hQ _ _ _ _ _ rfl hO hL ⟨_, _, rfl, rfl, w23⟩
theorem znx {τ : Hp} {v0 : Value} {p0 : (List UInt8)} {p1 : zc} (r0 : RdT Ty.u8 τ v0 p0) {rr : (List UInt8)} (hF : zfy p0 p1 = some rr) :
  Ctr Tryz.prog 26 #[v0, .agg #[.int .u8 p1.Kind.toNat, .int .u8 p1.Op.toNat, .int .i64 p1.R, .int .i64 p1.S, .int .i64 p1.T, .int .i64 p1.N, .int .i64 p1.M]] τ [] (fun v τ' vs' => ∃ (v0 : Value) (o0 : Ob), v = v0 ∧ vs' = [o0] ∧ zd Ty.u8 5 τ' v0 rr o0) := by
 obtain ⟨A0, c0, rfl, -⟩ := r0.form
 refine zw (args := [.slice A0 p0.length c0, .agg #[.int .u8 p1.Kind.toNat, .int .u8 p1.Op.toNat, .int .i64 p1.R, .int .i64 p1.S, .int .i64 p1.T, .int .i64 p1.N, .int .i64 p1.M]]) hm Tryz.func26 s26 rfl fun w0 σ hO Q hQ => ?_
 unfold zfy at hF
 have hL := Hp.le.refl τ
 show wpn _ _ a26.body _ _ _
 unfold a26
 dsimp only
 refine zba (n := 7) hO rfl rfl fun b3 σ hO => ?_
 have hO : Obs _ _ [_] := hO
 refine za hO [] [(0, .slice A0 p0.length c0), (3, zqD b3)] zqn fun j => ?_
 refine zb hO 1 [] [(3, zqD b3), (11, .slice A0 p0.length c0)] zqn fun j => ?_
 obtain ⟨c4, h5, hF⟩ := bind_some hF
 refine zr hO (zkp r0 h5) rfl fun _ σ _ _ hO h6 h7 => ?_
 have hL := hL.trans h6
 have r0 := r0.le h6
 obtain ⟨v8, o11, rfl, rfl, w12⟩ := h7
 obtain ⟨A9, c10, rfl, -⟩ := w12.form
 have hO : Obs _ _ [_, _] := hO
 refine za hO [] [(3, zqD b3), (5, .slice A9 c4.length c10)] zqn fun j => ?_
 refine ze (zb hO 1 [0] [(3, zqD b3), (5, .slice A9 c4.length c10), (13, .agg #[(.int .u8 (p1.Kind.toNat : Int)), (.int .u8 (p1.Op.toNat : Int)), (.int .i64 p1.R), (.int .i64 p1.S), (.int .i64 p1.T), (.int .i64 p1.N), (.int .i64 p1.M)])] (And.intro (And.intro rfl rfl) zqo) fun j => ?_)
 obtain ⟨c13, h14, hF⟩ := bind_some hF
 refine zr hO (zoo (p0 := (⟨p1.Kind, p1.Op, p1.R, p1.S, p1.T, p1.N, p1.M⟩ : zc)) h14) rfl fun _ σ _ _ hO h15 h16 => ?_
 have hL := hL.trans h15
 have w12 := w12.le h15
 obtain ⟨rfl, rfl⟩ := h16
 have hO : Obs _ _ [_, _] := hO
 refine za hO [] [(3, zqD b3), (5, .slice A9 c4.length c10), (15, .bool (!c13))] zqo fun j => ?_
 rcases zi hF with ⟨hb17, hF⟩ | ⟨hb17, hF⟩
 ·refine zl (congrArg Value.bool hb17) ?_
  refine ze (za hO [] [(4, .slice A9 c4.length c10)] zqm fun j => ?_)
  refine zz ?_
  injection hF with hF
  subst hF
  have hO := hO.sel [1] (by decide)
  exact hQ _ _ _ _ _ rfl hO hL ⟨_, _, rfl, rfl, w12⟩
 ·refine zk (congrArg Value.bool hb17) ?_
  refine zv (zb hO 3 [0] [(3, zqD b3), (17, .slice A9 c4.length c10), (19, .int .u8 (p1.Kind.toNat : Int))] (And.intro (And.intro rfl rfl) zqo) fun j => ?_)
  obtain ⟨_, hr22, hF⟩ := bind_some hF
  refine zbI (T := Ty.u8) (y := p1.Kind) hO w12 (i := 1) rfl rfl (fun _ => rfl) rfl rfl rfl hr22 (by decide) fun u _ σ o20 w21 hO => ?_
  obtain ⟨A18, c19, rfl, -⟩ := w21.form
  have hO : Obs _ _ [_, _] := hO
  refine za hO [] [(3, zqD b3), (5, .slice A18 (c4 ++ [p1.Kind]).length c19)] zqn fun j => ?_
  refine zb hO 2 [0] [(3, zqD b3), (5, .slice A18 (c4 ++ [p1.Kind]).length c19), (24, .int .u8 (p1.Kind.toNat : Int))] (And.intro (And.intro rfl rfl) zqo) fun j => ?_
  obtain ⟨c23, h24, hF⟩ := bind_some hF
  refine zr hO (zjK h24) rfl fun _ σ _ _ hO h25 h26 => ?_
  have hL := hL.trans h25
  have w21 := w21.le h25
  obtain ⟨rfl, rfl⟩ := h26
  have hO : Obs _ _ [_, _] := hO
  refine za hO [] [(3, zqD b3), (5, .slice A18 (c4 ++ [p1.Kind]).length c19), (6, .string c23.1)] zqo fun j => ?_
  refine ze (za hO [] [(3, zqD b3), (5, .slice A18 (c4 ++ [p1.Kind]).length c19), (6, .string c23.1), (8, zqC 0)] zqp fun j => ?_)
  refine zO (zbr (fun (n : Nat) e' σ' => ∃ (A348 : Option Addr) (c349 : Nat) (o350 : Ob) (x351 : List UInt8) (x353 : Int) (τ' : Hp), agr [(3, zqD b3), (5, .slice A348 x351.length c349), (6, .string c23.1), (8, zqC x353)] e' ∧ Obs τ' σ' [some (b3, ⟨[.int .u8 (p1.Kind.toNat : Int), .int .u8 (p1.Op.toNat : Int), .int .i64 p1.R, .int .i64 p1.S, .int .i64 p1.T, .int .i64 p1.N, .int .i64 p1.M], 54, 7, true⟩), o350] ∧ Hp.le τ τ' ∧ zd Ty.u8 5 τ' (.slice A348 x351.length c349) x351 o350 ∧ zdq p1 c23 n x351 x353 = some rr) big ⟨A18, c19, o20, (c4 ++ [p1.Kind]), 0, _, zqB zqo, hO, hL, w21, hF⟩ ?_)
  clear hF hO hL
  rintro n670 e σ ⟨A348, c349, o350, x351, x353, _, hA, hO, hL, w352, hF⟩
  rw [← zC _ _ hA]
  cases n670 with
  | zero => exact nomatch (show none = some rr from hF)
  | succ n670 =>
   replace hF : zeQ (zdq p1 c23 n670) p1 c23 x351 x353 = some rr := hF
   unfold zeQ at hF
   refine ze (za hO [] [(3, zqD b3), (5, .slice A348 x351.length c349), (6, .string c23.1), (8, zqC x353), (31, .bool (decide (x353 < (c23.1.size : Int))))] zqq fun j => ?_)
   rcases zi hF with ⟨hb671, hF⟩ | ⟨hb671, hF⟩
   ·refine zl (congrArg Value.bool hb671) ?_
    refine zv (zhQ (fun e' σ' => ∃ (A827 : Option Addr) (c828 : Nat) (o829 : Ob) (x830 : List UInt8) (τ' : Hp), agr [(3, zqD b3), (5, .slice A827 x830.length c828), (6, .string c23.1), (8, zqC x353)] e' ∧ Obs τ' σ' [some (b3, ⟨[.int .u8 (p1.Kind.toNat : Int), .int .u8 (p1.Op.toNat : Int), .int .i64 p1.R, .int .i64 p1.S, .int .i64 p1.T, .int .i64 p1.N, .int .i64 p1.M], 54, 7, true⟩), o829] ∧ Hp.le τ τ' ∧ zd Ty.u8 5 τ' (.slice A827 x830.length c828) x830 o829 ∧ zhC (zdq p1 c23 n670) x353 x830 = some rr) ?_ ?_)
    ·refine zb hO 2 [] [(3, zqD b3), (5, .slice A348 x351.length c349), (6, .string c23.1), (8, zqC x353), (34, .string c23.1), (35, zqC x353)] zqr fun j => ?_
     obtain ⟨y832, g833, hF⟩ := bind_some hF
     refine zk5 rfl rfl g833 ?_
     refine zh (zeg (zhQ (fun e' σ' => ∃ (A908 : Option Addr) (c909 : Nat) (o910 : Ob) (x911 : List UInt8) (τ' : Hp), agr [(3, zqD b3), (5, .slice A908 x911.length c909), (6, .string c23.1), (8, zqC x353)] e' ∧ Obs τ' σ' [some (b3, ⟨[.int .u8 (p1.Kind.toNat : Int), .int .u8 (p1.Op.toNat : Int), .int .i64 p1.R, .int .i64 p1.S, .int .i64 p1.T, .int .i64 p1.N, .int .i64 p1.M], 54, 7, true⟩), o910] ∧ Hp.le τ τ' ∧ zd Ty.u8 5 τ' (.slice A908 x911.length c909) x911 o910 ∧ zcf (zdq p1 c23 n670) x353 x911 = some rr) ?_ ?_))
     ·refine za hO [] [(3, zqD b3), (5, .slice A348 x351.length c349), (6, .string c23.1), (8, zqC x353), (36, .int .u8 (y832.toNat : Int)), (37, .bool ((y832.toNat : Int) == 111))] zqr fun j => ?_
      refine z2 ?_
      rcases zi hF with ⟨hb913, hF⟩ | ⟨hb913, hF⟩
      ·refine zl (congrArg Value.bool hb913) ?_
       refine zb hO 3 [0] [(3, zqD b3), (6, .string c23.1), (8, zqC x353), (39, .slice A348 x351.length c349), (41, .int .u8 (p1.Op.toNat : Int))] (And.intro (And.intro rfl rfl) zqq) fun j => ?_
       obtain ⟨_, hr918, hF⟩ := bind_some hF
       refine zbI (T := Ty.u8) (y := p1.Op) hO w352 (i := 1) rfl rfl (fun _ => rfl) rfl rfl rfl hr918 (by decide) fun u _ σ o916 w917 hO => ?_
       obtain ⟨A914, c915, rfl, -⟩ := w917.form
       have hO : Obs _ _ [_, _] := hO
       refine za hO [] [(3, zqD b3), (5, .slice A914 (x351 ++ [p1.Op]).length c915), (6, .string c23.1), (8, zqC x353)] zqp fun j => ?_
       refine zg (zK (zn ?_))
       exact ⟨A914, c915, o916, (x351 ++ [p1.Op]), _, zqB zqo, hO, hL, w917, hF⟩
      ·refine zk (congrArg Value.bool hb913) ?_
       refine ze (za hO [] [(3, zqD b3), (5, .slice A348 x351.length c349), (6, .string c23.1), (8, zqC x353), (36, .int .u8 (y832.toNat : Int)), (44, .bool ((y832.toNat : Int) == 114))] zqr fun j => ?_)
       rcases zi hF with ⟨hb919, hF⟩ | ⟨hb919, hF⟩
       ·refine zl (congrArg Value.bool hb919) ?_
        refine zb hO 4 [0] [(3, zqD b3), (6, .string c23.1), (8, zqC x353), (46, .slice A348 x351.length c349), (49, .int .u8 (IntKind.u8.wrap p1.R))] (And.intro (And.intro rfl rfl) zqq) fun j => ?_
        obtain ⟨z920, hz920, hF⟩ := bind_some hF
        obtain ⟨_, hr925, hF⟩ := bind_some hF
        refine zbI (T := Ty.u8) (y := z920) hO w352 (i := 1) rfl rfl (fun _ => rfl) rfl (u8R hz920) rfl hr925 (by decide) fun u _ σ o923 w924 hO => ?_
        obtain ⟨A921, c922, rfl, -⟩ := w924.form
        have hO : Obs _ _ [_, _] := hO
        refine za hO [] [(3, zqD b3), (5, .slice A921 (x351 ++ [z920]).length c922), (6, .string c23.1), (8, zqC x353)] zqp fun j => ?_
        refine zg (zK (zn ?_))
        exact ⟨A921, c922, o923, (x351 ++ [z920]), _, zqB zqo, hO, hL, w924, hF⟩
       ·refine zk (congrArg Value.bool hb919) ?_
        refine ze (za hO [] [(3, zqD b3), (5, .slice A348 x351.length c349), (6, .string c23.1), (8, zqC x353), (36, .int .u8 (y832.toNat : Int)), (52, .bool ((y832.toNat : Int) == 97))] zqr fun j => ?_)
        rcases zi hF with ⟨hb926, hF⟩ | ⟨hb926, hF⟩
        ·refine zl (congrArg Value.bool hb926) ?_
         refine ze (zb hO 4 [0, 0] [(3, zqD b3), (5, .slice A348 x351.length c349), (6, .string c23.1), (8, zqC x353), (56, zqC p1.R), (58, zqC p1.S)] (And.intro (And.intro rfl rfl) (And.intro (And.intro rfl rfl) zqr)) fun j => ?_)
         obtain ⟨c927, h928, hF⟩ := bind_some hF
         refine zr hO (znN h928) rfl fun _ σ _ _ hO h929 h930 => ?_
         have hL := hL.trans h929
         have w352 := w352.le h929
         obtain ⟨rfl, rfl⟩ := h930
         have hO : Obs _ _ [_, _] := hO
         refine za hO [] [(3, zqD b3), (5, .slice A348 x351.length c349), (6, .string c23.1), (8, zqC x353), (9, .int .u8 c927.1)] zqq fun j => ?_
         refine zb hO 2 [] [(3, zqD b3), (6, .string c23.1), (8, zqC x353), (62, .slice A348 x351.length c349), (63, .int .u8 c927.1)] zqq fun j => ?_
         obtain ⟨z931, hz931, hF⟩ := bind_some hF
         obtain ⟨_, hr936, hF⟩ := bind_some hF
         refine zbI (T := Ty.u8) (y := z931) hO w352 (i := 1) rfl rfl (fun _ => rfl) rfl (u8R hz931) rfl hr936 (by decide) fun u _ σ o934 w935 hO => ?_
         obtain ⟨A932, c933, rfl, -⟩ := w935.form
         have hO : Obs _ _ [_, _] := hO
         refine za hO [] [(3, zqD b3), (5, .slice A932 (x351 ++ [z931]).length c933), (6, .string c23.1), (8, zqC x353)] zqp fun j => ?_
         refine zg (zK (zn ?_))
         exact ⟨A932, c933, o934, (x351 ++ [z931]), _, zqB zqo, hO, hL, w935, hF⟩
        ·refine zk (congrArg Value.bool hb926) ?_
         refine ze (za hO [] [(3, zqD b3), (5, .slice A348 x351.length c349), (6, .string c23.1), (8, zqC x353), (36, .int .u8 (y832.toNat : Int)), (66, .bool ((y832.toNat : Int) == 116))] zqr fun j => ?_)
         rcases zi hF with ⟨hb937, hF⟩ | ⟨hb937, hF⟩
         ·refine zl (congrArg Value.bool hb937) ?_
          refine zb hO 4 [0] [(3, zqD b3), (6, .string c23.1), (8, zqC x353), (68, .slice A348 x351.length c349), (71, .int .u8 (IntKind.u8.wrap p1.T))] (And.intro (And.intro rfl rfl) zqq) fun j => ?_
          obtain ⟨z938, hz938, hF⟩ := bind_some hF
          obtain ⟨_, hr943, hF⟩ := bind_some hF
          refine zbI (T := Ty.u8) (y := z938) hO w352 (i := 1) rfl rfl (fun _ => rfl) rfl (u8R hz938) rfl hr943 (by decide) fun u _ σ o941 w942 hO => ?_
          obtain ⟨A939, c940, rfl, -⟩ := w942.form
          have hO : Obs _ _ [_, _] := hO
          refine za hO [] [(3, zqD b3), (5, .slice A939 (x351 ++ [z938]).length c940), (6, .string c23.1), (8, zqC x353)] zqp fun j => ?_
          refine zg (zK (zn ?_))
          exact ⟨A939, c940, o941, (x351 ++ [z938]), _, zqB zqo, hO, hL, w942, hF⟩
         ·refine zk (congrArg Value.bool hb937) ?_
          refine ze (za hO [] [(3, zqD b3), (5, .slice A348 x351.length c349), (6, .string c23.1), (8, zqC x353), (36, .int .u8 (y832.toNat : Int)), (74, .bool ((y832.toNat : Int) == 110))] zqr fun j => ?_)
          rcases zi hF with ⟨hb944, hF⟩ | ⟨hb944, hF⟩
          ·refine zl (congrArg Value.bool hb944) ?_
           refine zb hO 3 [0] [(3, zqD b3), (6, .string c23.1), (8, zqC x353), (76, .slice A348 x351.length c349), (78, zqC p1.N)] (And.intro (And.intro rfl rfl) zqq) fun j => ?_
           obtain ⟨_, h946, r945, hO⟩ := w352.share hO (i := 1) rfl
           have hL := hL.trans h946
           have hO : Obs _ _ [_, _] := hO
           obtain ⟨c947, h948, hF⟩ := bind_some hF
           refine zr hO (zqg r945 h948) rfl fun _ σ _ _ hO h949 h950 => ?_
           have hL := hL.trans h949
           have r945 := r945.le h949
           obtain ⟨v951, o954, rfl, rfl, w955⟩ := h950
           obtain ⟨A952, c953, rfl, -⟩ := w955.form
           have hO : Obs _ _ [_, _, _] := hO
           refine za hO [] [(3, zqD b3), (5, .slice A952 c947.length c953), (6, .string c23.1), (8, zqC x353)] zqp fun j => ?_
           refine zg (zK (zn ?_))
           have hO := hO.sel [0, 2] (by decide)
           exact ⟨A952, c953, o954, c947, _, zqB zqo, hO, hL, w955, hF⟩
          ·refine zk (congrArg Value.bool hb944) ?_
           refine ze (za hO [] [(3, zqD b3), (5, .slice A348 x351.length c349), (6, .string c23.1), (8, zqC x353), (36, .int .u8 (y832.toNat : Int)), (80, .bool ((y832.toNat : Int) == 109))] zqr fun j => ?_)
           rcases zi hF with ⟨hb956, hF⟩ | ⟨hb956, hF⟩
           ·refine zl (congrArg Value.bool hb956) ?_
            refine zb hO 4 [0] [(3, zqD b3), (6, .string c23.1), (8, zqC x353), (82, .slice A348 x351.length c349), (85, .int .u64 (IntKind.u64.wrap p1.M))] (And.intro (And.intro rfl rfl) zqq) fun j => ?_
            obtain ⟨_, h958, r957, hO⟩ := w352.share hO (i := 1) rfl
            have hL := hL.trans h958
            have hO : Obs _ _ [_, _] := hO
            obtain ⟨c959, h960, hF⟩ := bind_some hF
            refine zr hO (zoG r957 h960) rfl fun _ σ _ _ hO h961 h962 => ?_
            have hL := hL.trans h961
            have r957 := r957.le h961
            obtain ⟨v963, o966, rfl, rfl, w967⟩ := h962
            obtain ⟨A964, c965, rfl, -⟩ := w967.form
            have hO : Obs _ _ [_, _, _] := hO
            refine za hO [] [(3, zqD b3), (5, .slice A964 c959.length c965), (6, .string c23.1), (8, zqC x353)] zqp fun j => ?_
            refine zg (zK (zn ?_))
            have hO := hO.sel [0, 2] (by decide)
            exact ⟨A964, c965, o966, c959, _, zqB zqo, hO, hL, w967, hF⟩
           ·refine zk (congrArg Value.bool hb956) ?_
            refine ze (za hO [] [(3, zqD b3), (5, .slice A348 x351.length c349), (6, .string c23.1), (8, zqC x353), (36, .int .u8 (y832.toNat : Int)), (87, .bool ((y832.toNat : Int) == 106))] zqr fun j => ?_)
            rcases zi hF with ⟨hb968, hF⟩ | ⟨hb968, hF⟩
            ·refine zl (congrArg Value.bool hb968) ?_
             refine zb hO 3 [0] [(3, zqD b3), (6, .string c23.1), (8, zqC x353), (90, .slice A348 x351.length c349), (92, zqC p1.N)] (And.intro (And.intro rfl rfl) zqq) fun j => ?_
             obtain ⟨_, h970, r969, hO⟩ := w352.share hO (i := 1) rfl
             have hL := hL.trans h970
             have hO : Obs _ _ [_, _] := hO
             obtain ⟨c971, h972, hF⟩ := bind_some hF
             refine zr hO (zpj r969 h972) rfl fun _ σ _ _ hO h973 h974 => ?_
             have hL := hL.trans h973
             have r969 := r969.le h973
             obtain ⟨v975, o978, rfl, rfl, w979⟩ := h974
             obtain ⟨A976, c977, rfl, -⟩ := w979.form
             have hO : Obs _ _ [_, _, _] := hO
             refine za hO [] [(3, zqD b3), (5, .slice A976 c971.1.length c977), (6, .string c23.1), (8, zqC x353)] zqp fun j => ?_
             refine zg (zK (zn ?_))
             have hO := hO.sel [0, 2] (by decide)
             exact ⟨A976, c977, o978, c971.1, _, zqB zqo, hO, hL, w979, hF⟩
            ·refine zk (congrArg Value.bool hb968) ?_
             refine ze (za hO [] [(3, zqD b3), (5, .slice A348 x351.length c349), (6, .string c23.1), (8, zqC x353), (96, .bool ((y832.toNat : Int) == 107))] zqq fun j => ?_)
             rcases zi hF with ⟨hb980, hF⟩ | ⟨hb980, hF⟩
             ·refine zl (congrArg Value.bool hb980) ?_
              refine zb hO 4 [0] [(3, zqD b3), (6, .string c23.1), (8, zqC x353), (98, .slice A348 x351.length c349), (101, .int .u8 (IntKind.u8.wrap p1.N))] (And.intro (And.intro rfl rfl) zqq) fun j => ?_
              obtain ⟨z981, hz981, hF⟩ := bind_some hF
              obtain ⟨_, hr986, hF⟩ := bind_some hF
              refine zbI (T := Ty.u8) (y := z981) hO w352 (i := 1) rfl rfl (fun _ => rfl) rfl (u8R hz981) rfl hr986 (by decide) fun u _ σ o984 w985 hO => ?_
              obtain ⟨A982, c983, rfl, -⟩ := w985.form
              have hO : Obs _ _ [_, _] := hO
              refine za hO [] [(3, zqD b3), (5, .slice A982 (x351 ++ [z981]).length c983), (6, .string c23.1), (8, zqC x353)] zqp fun j => ?_
              refine zg (zK (zn ?_))
              exact ⟨A982, c983, o984, (x351 ++ [z981]), _, zqB zqo, hO, hL, w985, hF⟩
             ·refine zk (congrArg Value.bool hb980) ?_
              refine zv (zg (zK (zn ?_)))
              exact ⟨A348, c349, o350, x351, _, zqB zqo, hO, hL, w352, hF⟩
     ·rintro e σ ⟨A908, c909, o910, x911, _, hA, hO, hL, w912, hF⟩
      rw [← zC _ _ hA]
      unfold zcf at hF
      refine zg (zK (zn ?_))
      exact ⟨A908, c909, o910, x911, _, zqB zqo, hO, hL, w912, hF⟩
    ·rintro e σ ⟨A827, c828, o829, x830, _, hA, hO, hL, w831, hF⟩
     rw [← zC _ _ hA]
     unfold zhC at hF
     refine zU (za hO [] [(3, zqD b3), (5, .slice A827 x830.length c828), (6, .string c23.1), (8, zqC (IntKind.i64.wrap (x353 + 1)))] zqp fun j => ?_)
     refine zg (zn ?_)
     exact ⟨n670, Nat.lt_succ_self _, A827, c828, o829, x830, (IntKind.i64.wrap (x353 + 1)), _, zqB zqo, hO, hL, w831, hF⟩
   ·refine zk (congrArg Value.bool hb671) ?_
    refine zbq (zbm (zbp (zn (za hO [] [(4, .slice A348 x351.length c349)] zqm fun j => ?_))))
    refine zp ?_
    injection hF with hF
    subst hF
    have hO := hO.sel [1] (by decide)
    exact hQ _ _ _ _ _ rfl hO hL ⟨_, _, rfl, rfl, w352⟩
theorem zp4 {τ : Hp} {p0 : zbe} {v0_0 : Value} {v0_1 : Value} {v0_4 : Value} (r0_0 : RdT zcL τ v0_0 p0.Code) (r0_1 : RdT Ty.u8 τ v0_1 p0.Bytes) (r0_4 : RdT (Ty.int .i64) τ v0_4 p0.Input) {rr : (List UInt8)} (hF : zeF p0 = some rr) :
  Ctr Tryz.prog 8 #[.agg #[v0_0, v0_1, .int .i64 p0.Start, .int .i64 p0.Words, v0_4, .int .i64 p0.Fuel]] τ [] (fun v τ' vs' => ∃ (v0 : Value) (o0 : Ob), v = v0 ∧ vs' = [o0] ∧ zd Ty.u8 5 τ' v0 rr o0) := by
 obtain ⟨A0_0, c0_0, rfl, -⟩ := r0_0.form
 obtain ⟨A0_1, c0_1, rfl, -⟩ := r0_1.form
 obtain ⟨A0_4, c0_4, rfl, -⟩ := r0_4.form
 refine zw (args := [.agg #[(.slice A0_0 p0.Code.length c0_0), (.slice A0_1 p0.Bytes.length c0_1), .int .i64 p0.Start, .int .i64 p0.Words, (.slice A0_4 p0.Input.length c0_4), .int .i64 p0.Fuel]]) hm Tryz.func8 s8 rfl fun w0 σ hO Q hQ => ?_
 unfold zeF at hF
 have hL := Hp.le.refl τ
 show wpn _ _ a8.body _ _ _
 unfold a8
 dsimp only
 refine zba (n := 6) hO rfl rfl fun b2 σ hO => ?_
 have hO : Obs _ _ [_] := hO
 refine za hO [] [(1, zqD b2)] zqm fun j => ?_
 refine zbu (T := Ty.u8) (l := ([] : List UInt8)) (cs := []) hO rfl rfl rfl (by decide) fun _ σ o5 w6 hO => ?_
 obtain ⟨A3, c4, rfl, -⟩ := w6.form
 have hO : Obs _ _ [_, _] := hO
 refine zb hO 2 [0] [(1, zqD b2), (5, .slice A3 ([] : List UInt8).length c4), (7, .slice A0_1 p0.Bytes.length c0_1)] (And.intro (And.intro rfl rfl) zqo) fun j => ?_
 obtain ⟨_, hr11, hF⟩ := bind_some hF
 refine zeY (T := Ty.u8) hO w6 (i := 1) rfl rfl rfl r0_1 hr11 (by decide) fun _ σ o9 w10 hO => ?_
 obtain ⟨A7, c8, rfl, -⟩ := w10.form
 have hO : Obs _ _ [_, _] := hO
 refine za hO [] [(1, zqD b2), (3, .slice A7 (([] : List UInt8) ++ p0.Bytes).length c8)] zqn fun j => ?_
 refine ze (za hO [] [(1, zqD b2), (3, .slice A7 (([] : List UInt8) ++ p0.Bytes).length c8), (4, zqC 0)] zqo fun j => ?_)
 refine zO (zbr (fun (n : Nat) e' σ' => ∃ (A34 : Option Addr) (c35 : Nat) (o36 : Ob) (x37 : List UInt8) (x39 : Int) (τ' : Hp), agr [(1, zqD b2), (3, .slice A34 x37.length c35), (4, zqC x39)] e' ∧ Obs τ' σ' [some (b2, ⟨[.slice A0_0 p0.Code.length c0_0, .slice A0_1 p0.Bytes.length c0_1, .int .i64 p0.Start, .int .i64 p0.Words, .slice A0_4 p0.Input.length c0_4, .int .i64 p0.Fuel], 26, 6, true⟩), o36] ∧ Hp.le τ τ' ∧ RdT zcL τ' (.slice A0_0 p0.Code.length c0_0) p0.Code ∧ RdT Ty.u8 τ' (.slice A0_1 p0.Bytes.length c0_1) p0.Bytes ∧ RdT (Ty.int .i64) τ' (.slice A0_4 p0.Input.length c0_4) p0.Input ∧ zd Ty.u8 5 τ' (.slice A34 x37.length c35) x37 o36 ∧ ze1 p0 n x37 x39 = some rr) big ⟨A7, c8, o9, (([] : List UInt8) ++ p0.Bytes), 0, _, zqB zqn, hO, hL, r0_0, r0_1, r0_4, w10, hF⟩ ?_)
 clear hF hO hL
 rintro n55 e σ ⟨A34, c35, o36, x37, x39, _, hA, hO, hL, r31, r32, r33, w38, hF⟩
 rw [← zC _ _ hA]
 cases n55 with
 | zero => exact nomatch (show none = some rr from hF)
 | succ n55 =>
  replace hF : zgq (ze1 p0 n55) p0 x37 x39 = some rr := hF
  unfold zgq at hF
  refine ze (za hO [0] [(1, zqD b2), (3, .slice A34 x37.length c35), (4, zqC x39), (13, .bool (decide (x39 < (p0.Code.length : Int))))] (And.intro (And.intro rfl rfl) zqp) fun j => ?_)
  rcases zi hF with ⟨hb56, hF⟩ | ⟨hb56, hF⟩
  ·refine zl (congrArg Value.bool hb56) ?_
   refine zv (zO (zU (zb hO 4 [0] [(1, zqD b2), (4, zqC x39), (16, .slice A34 x37.length c35), (18, .slice A0_0 p0.Code.length c0_0), (19, zqC x39)] (And.intro (And.intro rfl rfl) zqq) fun j => ?_)))
   obtain ⟨y57, g58, hF⟩ := bind_some hF
   refine zb6 (T := zcL) r31 hO.base rfl rfl g58 (by decide) fun a59 _ k60 m61 => ?_
   obtain rfl : _ = ([.int .u8 y57.Kind.toNat, .int .u8 y57.Op.toNat, .int .i64 y57.R, .int .i64 y57.S, .int .i64 y57.T, .int .i64 y57.N, .int .i64 y57.M] : List Value) := k60
   refine zZ rfl ((m61.le hO.base).all rfl) ?_
   obtain ⟨c62, h63, hF⟩ := bind_some hF
   refine z6 (hs := [_]) (vs := [_]) hO (Ctr.lendG w38 (fun _ _ _ _ ⟨v1, o1, h1, h2, f1⟩ => ⟨v1, o1, h1, h2, f1.flat zln⟩) fun _ lL0 rL0 => znx (p1 := (⟨y57.Kind, y57.Op, y57.R, y57.S, y57.T, y57.N, y57.M⟩ : zc)) rL0 h63) rfl fun _ σ _ _ hO h64 h65 => ?_
   have hL := hL.trans h64
   have w38 := w38.le h64
   have r31 := r31.le h64
   have m61 := m61.le h64
   have r32 := r32.le h64
   have r33 := r33.le h64
   obtain ⟨_, rfl, v66, o69, rfl, rfl, w70⟩ := h65
   obtain ⟨A67, c68, rfl, -⟩ := w70.form
   have hO : Obs _ _ [_, _, _] := hO
   refine za hO [] [(1, zqD b2), (3, .slice A67 c62.length c68), (4, zqC x39)] zqo fun j => ?_
   refine zg (zK (zn (zU (za hO [] [(1, zqD b2), (3, .slice A67 c62.length c68), (4, zqC (IntKind.i64.wrap (x39 + 1)))] zqo fun j => ?_))))
   refine zg (zn ?_)
   have hO := hO.sel [0, 2] (by decide)
   exact ⟨n55, Nat.lt_succ_self _, A67, c68, o69, c62, (IntKind.i64.wrap (x39 + 1)), _, zqB zqn, hO, hL, r31, r32, r33, w70, hF⟩
  ·refine zk (congrArg Value.bool hb56) ?_
   refine zbq (zbm (zbp (zn (za hO [] [(2, .slice A34 x37.length c35)] zqm fun j => ?_))))
   refine zp ?_
   injection hF with hF
   subst hF
   have hO := hO.sel [1] (by decide)
   exact hQ _ _ _ _ _ rfl hO hL ⟨_, _, rfl, rfl, w38⟩
theorem zlQ {τ : Hp} {q0 : zf} {bm0 : Nat} {vm0_0 : Value} {vm0_18 : Value} {om0_18 : Ob} {vm0_19 : Value} {vm0_20 : Value} {om0_20 : Ob} (rm0_0 : RdT Ty.u8 τ vm0_0 q0.code) (wm0_18 : zd (Ty.int .i64) 2 τ vm0_18 q0.words om0_18) (rm0_19 : RdT (Ty.int .i64) τ vm0_19 q0.input) (wm0_20 : zd (Ty.int .i64) 2 τ vm0_20 q0.out om0_20) {rr : (List Int)} (hF : zdi q0 = some rr) :
  Ctr Tryz.prog 11 #[.pointer (some ⟨bm0, 0, none⟩)] τ [some (bm0, ⟨[vm0_0, .int .i64 q0.pc, .int .i64 (q0.regs 0), .int .i64 (q0.regs 1), .int .i64 (q0.regs 2), .int .i64 (q0.regs 3), .int .i64 (q0.regs 4), .int .i64 (q0.regs 5), .int .i64 (q0.regs 6), .int .i64 (q0.regs 7), .int .i64 (q0.regs 8), .int .i64 (q0.regs 9), .int .i64 (q0.regs 10), .int .i64 (q0.regs 11), .int .i64 (q0.regs 12), .int .i64 (q0.regs 13), .int .i64 (q0.regs 14), .int .i64 (q0.regs 15), vm0_18, vm0_19, vm0_20, .int .u8 q0.how.toNat, .int .i64 q0.halting], 58, 23, true⟩), om0_18, om0_20] (fun v τ' vs' => ∃ (v0 : Value) (o0 : Ob), v = v0 ∧ vs' = [o0, some (bm0, ⟨[vm0_0, .int .i64 q0.pc, .int .i64 (q0.regs 0), .int .i64 (q0.regs 1), .int .i64 (q0.regs 2), .int .i64 (q0.regs 3), .int .i64 (q0.regs 4), .int .i64 (q0.regs 5), .int .i64 (q0.regs 6), .int .i64 (q0.regs 7), .int .i64 (q0.regs 8), .int .i64 (q0.regs 9), .int .i64 (q0.regs 10), .int .i64 (q0.regs 11), .int .i64 (q0.regs 12), .int .i64 (q0.regs 13), .int .i64 (q0.regs 14), .int .i64 (q0.regs 15), vm0_18, vm0_19, vm0_20, .int .u8 q0.how.toNat, .int .i64 q0.halting], 58, 23, true⟩), om0_18, om0_20] ∧ zd (Ty.int .i64) 2 τ' v0 rr o0) := by
 obtain ⟨Am0_0, cm0_0, rfl, -⟩ := rm0_0.form
 obtain ⟨Am0_18, cm0_18, rfl, -⟩ := wm0_18.form
 obtain ⟨Am0_19, cm0_19, rfl, -⟩ := rm0_19.form
 obtain ⟨Am0_20, cm0_20, rfl, -⟩ := wm0_20.form
 refine zw (args := [.pointer (some ⟨bm0, 0, none⟩)]) hm Tryz.func11 s11 rfl fun w0 σ hO Q hQ => ?_
 unfold zdi at hF
 have hL := Hp.le.refl τ
 show wpn _ _ a11.body _ _ _
 unfold a11
 dsimp only
 refine za hO [] [(0, zqD bm0)] zqm fun j => ?_
 refine ze (za hO [] [(0, zqD bm0), (4, .bool false)] zqn fun j => ?_)
 refine zk rfl ?_
 refine zv (zb hO 4 [0] [(0, zqD bm0), (8, .slice Am0_18 q0.words.length cm0_18)] (And.intro (And.intro rfl rfl) zqn) fun j => ?_)
 obtain ⟨c2, h3, hF⟩ := bind_some hF
 have hO := hO.sel [0, 2, 1] (by decide)
 refine z6 (hs := [_, _]) (vs := [_]) hO (Ctr.lendO (zem .i64) wm0_18 fun _ r => zeu r h3) rfl fun _ σ _ _ hO h4 h5 => ?_
 have hL := hL.trans h4
 have wm0_18 := wm0_18.le h4
 have rm0_0 := rm0_0.le h4
 have rm0_19 := rm0_19.le h4
 have wm0_20 := wm0_20.le h4
 obtain ⟨v6, o7, rfl, rfl, w8⟩ := h5
 obtain ⟨A9, c10, rfl, -⟩ := w8.form
 have hO : Obs _ _ [_, _, _, _] := hO
 have hO := hO.sel [0, 3, 1, 2] (by decide)
 have hO : Obs _ _ [_, _, _, _] := hO
 refine za hO [] [(0, zqD bm0), (2, .slice A9 c2.length c10)] zqn fun j => ?_
 refine zp ?_
 injection hF with hF
 subst hF
 have hO := hO.sel [3, 0, 1, 2] (by decide)
 exact hQ _ _ _ _ _ rfl hO hL ⟨_, _, rfl, rfl, w8⟩
theorem zjS {τ : Hp} {q0 : zf} {bm0 : Nat} {vm0_0 : Value} {vm0_18 : Value} {om0_18 : Ob} {vm0_19 : Value} {vm0_20 : Value} {om0_20 : Ob} (rm0_0 : RdT Ty.u8 τ vm0_0 q0.code) (wm0_18 : zd (Ty.int .i64) 2 τ vm0_18 q0.words om0_18) (rm0_19 : RdT (Ty.int .i64) τ vm0_19 q0.input) (wm0_20 : zd (Ty.int .i64) 2 τ vm0_20 q0.out om0_20) {rr : (List Int)} (hF : zd7 q0 = some rr) :
  Ctr Tryz.prog 12 #[.pointer (some ⟨bm0, 0, none⟩)] τ [some (bm0, ⟨[vm0_0, .int .i64 q0.pc, .int .i64 (q0.regs 0), .int .i64 (q0.regs 1), .int .i64 (q0.regs 2), .int .i64 (q0.regs 3), .int .i64 (q0.regs 4), .int .i64 (q0.regs 5), .int .i64 (q0.regs 6), .int .i64 (q0.regs 7), .int .i64 (q0.regs 8), .int .i64 (q0.regs 9), .int .i64 (q0.regs 10), .int .i64 (q0.regs 11), .int .i64 (q0.regs 12), .int .i64 (q0.regs 13), .int .i64 (q0.regs 14), .int .i64 (q0.regs 15), vm0_18, vm0_19, vm0_20, .int .u8 q0.how.toNat, .int .i64 q0.halting], 58, 23, true⟩), om0_18, om0_20] (fun v τ' vs' => ∃ (v0 : Value) (o0 : Ob), v = v0 ∧ vs' = [o0, some (bm0, ⟨[vm0_0, .int .i64 q0.pc, .int .i64 (q0.regs 0), .int .i64 (q0.regs 1), .int .i64 (q0.regs 2), .int .i64 (q0.regs 3), .int .i64 (q0.regs 4), .int .i64 (q0.regs 5), .int .i64 (q0.regs 6), .int .i64 (q0.regs 7), .int .i64 (q0.regs 8), .int .i64 (q0.regs 9), .int .i64 (q0.regs 10), .int .i64 (q0.regs 11), .int .i64 (q0.regs 12), .int .i64 (q0.regs 13), .int .i64 (q0.regs 14), .int .i64 (q0.regs 15), vm0_18, vm0_19, vm0_20, .int .u8 q0.how.toNat, .int .i64 q0.halting], 58, 23, true⟩), om0_18, om0_20] ∧ zd (Ty.int .i64) 2 τ' v0 rr o0) := by
 obtain ⟨Am0_0, cm0_0, rfl, -⟩ := rm0_0.form
 obtain ⟨Am0_18, cm0_18, rfl, -⟩ := wm0_18.form
 obtain ⟨Am0_19, cm0_19, rfl, -⟩ := rm0_19.form
 obtain ⟨Am0_20, cm0_20, rfl, -⟩ := wm0_20.form
 refine zw (args := [.pointer (some ⟨bm0, 0, none⟩)]) hm Tryz.func12 s12 rfl fun w0 σ hO Q hQ => ?_
 unfold zd7 at hF
 have hL := Hp.le.refl τ
 show wpn _ _ a12.body _ _ _
 unfold a12
 dsimp only
 refine za hO [] [(0, zqD bm0)] zqm fun j => ?_
 refine ze (za hO [] [(0, zqD bm0), (4, .bool false)] zqn fun j => ?_)
 refine zk rfl ?_
 refine zv (zb hO 3 [] [(0, zqD bm0), (7, .pointer (some ⟨bm0, 2, none⟩))] zqn fun j => ?_)
 refine zmH rfl ?_
 obtain ⟨c2, h3, hF⟩ := bind_some hF
 have hO := hO.sel [1, 2, 0] (by decide)
 refine z6 (hs := [_, _]) (vs := [_]) hO (Ctr.lend (zem .i64) (RdT.seg (g := q0.regs) (n := 16) (pre := [_, _]) (post := [_, _, _, _, _]) (Nat.le_refl _)) fun _ r => zeu r h3) rfl fun _ σ _ _ hO h4 h5 => ?_
 have hL := hL.trans h4
 have rm0_0 := rm0_0.le h4
 have wm0_18 := wm0_18.le h4
 have rm0_19 := rm0_19.le h4
 have wm0_20 := wm0_20.le h4
 obtain ⟨v6, o7, rfl, rfl, w8⟩ := h5
 obtain ⟨A9, c10, rfl, -⟩ := w8.form
 have hO : Obs _ _ [_, _, _, _] := hO
 have hO := hO.sel [3, 0, 1, 2] (by decide)
 have hO : Obs _ _ [_, _, _, _] := hO
 refine za hO [] [(0, zqD bm0), (2, .slice A9 c2.length c10)] zqn fun j => ?_
 refine zp ?_
 injection hF with hF
 subst hF
 have hO := hO.sel [3, 0, 1, 2] (by decide)
 exact hQ _ _ _ _ _ rfl hO hL ⟨_, _, rfl, rfl, w8⟩
theorem zkZ {τ : Hp} {q0 : zf} {bm0 : Nat} {vm0_0 : Value} {vm0_18 : Value} {om0_18 : Ob} {vm0_19 : Value} {vm0_20 : Value} {om0_20 : Ob} (rm0_0 : RdT Ty.u8 τ vm0_0 q0.code) (wm0_18 : zd (Ty.int .i64) 2 τ vm0_18 q0.words om0_18) (rm0_19 : RdT (Ty.int .i64) τ vm0_19 q0.input) (wm0_20 : zd (Ty.int .i64) 2 τ vm0_20 q0.out om0_20) {rr : Int} (hF : zfo q0 = some rr) :
  Ctr Tryz.prog 14 #[.pointer (some ⟨bm0, 0, none⟩)] τ [some (bm0, ⟨[vm0_0, .int .i64 q0.pc, .int .i64 (q0.regs 0), .int .i64 (q0.regs 1), .int .i64 (q0.regs 2), .int .i64 (q0.regs 3), .int .i64 (q0.regs 4), .int .i64 (q0.regs 5), .int .i64 (q0.regs 6), .int .i64 (q0.regs 7), .int .i64 (q0.regs 8), .int .i64 (q0.regs 9), .int .i64 (q0.regs 10), .int .i64 (q0.regs 11), .int .i64 (q0.regs 12), .int .i64 (q0.regs 13), .int .i64 (q0.regs 14), .int .i64 (q0.regs 15), vm0_18, vm0_19, vm0_20, .int .u8 q0.how.toNat, .int .i64 q0.halting], 58, 23, true⟩), om0_18, om0_20] (fun v τ' vs' => v = .int .i64 rr ∧ vs' = [some (bm0, ⟨[vm0_0, .int .i64 q0.pc, .int .i64 (q0.regs 0), .int .i64 (q0.regs 1), .int .i64 (q0.regs 2), .int .i64 (q0.regs 3), .int .i64 (q0.regs 4), .int .i64 (q0.regs 5), .int .i64 (q0.regs 6), .int .i64 (q0.regs 7), .int .i64 (q0.regs 8), .int .i64 (q0.regs 9), .int .i64 (q0.regs 10), .int .i64 (q0.regs 11), .int .i64 (q0.regs 12), .int .i64 (q0.regs 13), .int .i64 (q0.regs 14), .int .i64 (q0.regs 15), vm0_18, vm0_19, vm0_20, .int .u8 q0.how.toNat, .int .i64 q0.halting], 58, 23, true⟩), om0_18, om0_20]) := by
 obtain ⟨Am0_0, cm0_0, rfl, -⟩ := rm0_0.form
 obtain ⟨Am0_18, cm0_18, rfl, -⟩ := wm0_18.form
 obtain ⟨Am0_19, cm0_19, rfl, -⟩ := rm0_19.form
 obtain ⟨Am0_20, cm0_20, rfl, -⟩ := wm0_20.form
 refine zw (args := [.pointer (some ⟨bm0, 0, none⟩)]) hm Tryz.func14 s14 rfl fun w0 σ hO Q hQ => ?_
 unfold zfo at hF
 have hL := Hp.le.refl τ
 show wpn _ _ a14.body _ _ _
 unfold a14
 dsimp only
 refine za hO [] [(0, zqD bm0)] zqm fun j => ?_
 refine ze (za hO [] [(0, zqD bm0), (4, .bool false)] zqn fun j => ?_)
 refine zk rfl ?_
 refine zv (za hO [0] [(0, zqD bm0), (2, zqC q0.pc)] (And.intro (And.intro rfl rfl) zqn) fun j => ?_)
 refine zp ?_
 injection hF with hF
 subst hF
 exact hQ _ _ _ _ _ rfl hO hL ⟨rfl, rfl⟩
theorem zk8 {τ : Hp} {q0 : zf} {bm0 : Nat} {vm0_0 : Value} {vm0_18 : Value} {om0_18 : Ob} {vm0_19 : Value} {vm0_20 : Value} {om0_20 : Ob} (rm0_0 : RdT Ty.u8 τ vm0_0 q0.code) (wm0_18 : zd (Ty.int .i64) 2 τ vm0_18 q0.words om0_18) (rm0_19 : RdT (Ty.int .i64) τ vm0_19 q0.input) (wm0_20 : zd (Ty.int .i64) 2 τ vm0_20 q0.out om0_20) {rr : Int} (hF : zgo q0 = some rr) :
  Ctr Tryz.prog 15 #[.pointer (some ⟨bm0, 0, none⟩)] τ [some (bm0, ⟨[vm0_0, .int .i64 q0.pc, .int .i64 (q0.regs 0), .int .i64 (q0.regs 1), .int .i64 (q0.regs 2), .int .i64 (q0.regs 3), .int .i64 (q0.regs 4), .int .i64 (q0.regs 5), .int .i64 (q0.regs 6), .int .i64 (q0.regs 7), .int .i64 (q0.regs 8), .int .i64 (q0.regs 9), .int .i64 (q0.regs 10), .int .i64 (q0.regs 11), .int .i64 (q0.regs 12), .int .i64 (q0.regs 13), .int .i64 (q0.regs 14), .int .i64 (q0.regs 15), vm0_18, vm0_19, vm0_20, .int .u8 q0.how.toNat, .int .i64 q0.halting], 58, 23, true⟩), om0_18, om0_20] (fun v τ' vs' => v = .int .i64 rr ∧ vs' = [some (bm0, ⟨[vm0_0, .int .i64 q0.pc, .int .i64 (q0.regs 0), .int .i64 (q0.regs 1), .int .i64 (q0.regs 2), .int .i64 (q0.regs 3), .int .i64 (q0.regs 4), .int .i64 (q0.regs 5), .int .i64 (q0.regs 6), .int .i64 (q0.regs 7), .int .i64 (q0.regs 8), .int .i64 (q0.regs 9), .int .i64 (q0.regs 10), .int .i64 (q0.regs 11), .int .i64 (q0.regs 12), .int .i64 (q0.regs 13), .int .i64 (q0.regs 14), .int .i64 (q0.regs 15), vm0_18, vm0_19, vm0_20, .int .u8 q0.how.toNat, .int .i64 q0.halting], 58, 23, true⟩), om0_18, om0_20]) := by
 obtain ⟨Am0_0, cm0_0, rfl, -⟩ := rm0_0.form
 obtain ⟨Am0_18, cm0_18, rfl, -⟩ := wm0_18.form
 obtain ⟨Am0_19, cm0_19, rfl, -⟩ := rm0_19.form
 obtain ⟨Am0_20, cm0_20, rfl, -⟩ := wm0_20.form
 refine zw (args := [.pointer (some ⟨bm0, 0, none⟩)]) hm Tryz.func15 s15 rfl fun w0 σ hO Q hQ => ?_
 unfold zgo at hF
 have hL := Hp.le.refl τ
 show wpn _ _ a15.body _ _ _
 unfold a15
 dsimp only
 refine za hO [] [(0, zqD bm0)] zqm fun j => ?_
 refine ze (za hO [] [(0, zqD bm0), (4, .bool false)] zqn fun j => ?_)
 refine zk rfl ?_
 refine zv (za hO [0] [(0, zqD bm0), (2, zqC (q0.input.length : Int))] (And.intro (And.intro rfl rfl) zqn) fun j => ?_)
 refine zp ?_
 injection hF with hF
 subst hF
 exact hQ _ _ _ _ _ rfl hO hL ⟨rfl, rfl⟩
theorem ziE {τ : Hp} {v0 : Value} {p0 : (List Int)} {v1 : Value} {p1 : (List Int)} (r0 : RdT (Ty.int .i64) τ v0 p0) (r1 : RdT (Ty.int .i64) τ v1 p1) {rr : Bool} (hF : zdI p0 p1 = some rr) :
  Ctr Tryz.prog 16 #[v0, v1] τ [] (fun v τ' vs' => v = .bool rr ∧ vs' = []) := by
 obtain ⟨A0, c0, rfl, -⟩ := r0.form
 obtain ⟨A1, c1, rfl, -⟩ := r1.form
 refine zw (args := [.slice A0 p0.length c0, .slice A1 p1.length c1]) hm Tryz.func16 s16 rfl fun w0 σ hO Q hQ => ?_
 unfold zdI at hF
 have hL := Hp.le.refl τ
 show wpn _ _ a16.body _ _ _
 unfold a16
 dsimp only
 refine za hO [] [(0, .slice A0 p0.length c0), (1, .slice A1 p1.length c1)] zqn fun j => ?_
 refine ze (za hO [] [(0, .slice A0 p0.length c0), (1, .slice A1 p1.length c1), (10, .bool ((p0.length : Int) != (p1.length : Int)))] zqo fun j => ?_)
 rcases zi hF with ⟨hb3, hF⟩ | ⟨hb3, hF⟩
 ·refine zl (congrArg Value.bool hb3) ?_
  refine ze (za hO [] [(4, .bool false)] zqm fun j => ?_)
  refine zz ?_
  injection hF with hF
  subst hF
  exact hQ _ _ _ _ _ rfl hO hL ⟨rfl, rfl⟩
 ·refine zk (congrArg Value.bool hb3) ?_
  refine zv (ze (za hO [] [(0, .slice A0 p0.length c0), (1, .slice A1 p1.length c1), (5, zqC 0)] zqo fun j => ?_))
  refine zO (zbr (fun (n : Nat) e' σ' => ∃ (x20 : Int) (τ' : Hp), agr [(0, .slice A0 p0.length c0), (1, .slice A1 p1.length c1), (5, zqC x20)] e' ∧ Obs τ' σ' [] ∧ Hp.le τ τ' ∧ RdT (Ty.int .i64) τ' (.slice A0 p0.length c0) p0 ∧ RdT (Ty.int .i64) τ' (.slice A1 p1.length c1) p1 ∧ ze9 p0 p1 n x20 = some rr) big ⟨0, _, zqB zqn, hO, hL, r0, r1, hF⟩ ?_)
  clear hF hO hL
  rintro n33 e σ ⟨x20, _, hA, hO, hL, r18, r19, hF⟩
  rw [← zC _ _ hA]
  cases n33 with
  | zero => exact nomatch (show none = some rr from hF)
  | succ n33 =>
   replace hF : zfO (ze9 p0 p1 n33) p0 p1 x20 = some rr := hF
   unfold zfO at hF
   refine ze (za hO [] [(0, .slice A0 p0.length c0), (1, .slice A1 p1.length c1), (5, zqC x20), (14, .bool (decide (x20 < (p0.length : Int))))] zqp fun j => ?_)
   rcases zi hF with ⟨hb34, hF⟩ | ⟨hb34, hF⟩
   ·refine zl (congrArg Value.bool hb34) ?_
    refine zv (zO (zbD (zb hO 2 [] [(0, .slice A0 p0.length c0), (1, .slice A1 p1.length c1), (5, zqC x20), (17, .slice A0 p0.length c0), (18, zqC x20)] zqq fun j => ?_)))
    obtain ⟨y35, g36, hF⟩ := bind_some hF
    refine zb6 (T := (Ty.int .i64)) r18 hO.base rfl rfl g36 (by decide) fun a37 _ k38 m39 => ?_
    obtain rfl : _ = ([.int .i64 y35] : List Value) := k38
    refine zZ rfl (m39.le hO.base).fst ?_
    refine zb hO 2 [] [(0, .slice A0 p0.length c0), (1, .slice A1 p1.length c1), (5, zqC x20), (20, zqC y35), (21, .slice A1 p1.length c1), (22, zqC x20)] zqr fun j => ?_
    obtain ⟨y40, g41, hF⟩ := bind_some hF
    refine zb6 (T := (Ty.int .i64)) r19 hO.base rfl rfl g41 (by decide) fun a42 _ k43 m44 => ?_
    obtain rfl : _ = ([.int .i64 y40] : List Value) := k43
    refine zZ rfl (m44.le hO.base).fst ?_
    refine za hO [] [(0, .slice A0 p0.length c0), (1, .slice A1 p1.length c1), (5, zqC x20), (25, .bool (y35 != y40))] zqp fun j => ?_
    refine z2 ?_
    rcases zi hF with ⟨hb45, hF⟩ | ⟨hb45, hF⟩
    ·refine zl (congrArg Value.bool hb45) ?_
     refine ze (za hO [] [(4, .bool false)] zqm fun j => ?_)
     refine zz (zJ (zE (zE (zJ (zE ?_)))))
     injection hF with hF
     subst hF
     exact hQ _ _ _ _ _ rfl hO hL ⟨rfl, rfl⟩
    ·refine zk (congrArg Value.bool hb45) ?_
     refine zv (zg (zK (zn (zU (za hO [] [(0, .slice A0 p0.length c0), (1, .slice A1 p1.length c1), (5, zqC (IntKind.i64.wrap (x20 + 1)))] zqo fun j => ?_)))))
     refine zg (zn ?_)
     exact ⟨n33, Nat.lt_succ_self _, (IntKind.i64.wrap (x20 + 1)), _, zqB zqn, hO, hL, r18, r19, hF⟩
   ·refine zk (congrArg Value.bool hb34) ?_
    refine zbq (zbm (zbp (zn (za hO [] [(4, .bool true)] zqm fun j => ?_))))
    refine zp ?_
    injection hF with hF
    subst hF
    exact hQ _ _ _ _ _ rfl hO hL ⟨rfl, rfl⟩
end Go.Proofs.YtgkllgoelpfdkaaGreat
