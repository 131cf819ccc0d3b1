import Derived.Test.YtckcngkkofemjaaGreatG1
namespace Go.Proofs.YtckcngkkofemjaaGreat
open Go.Ab Go.RowKit
set_option linter.unusedVariables false
set_option linter.unusedSimpArgs false
set_option maxRecDepth 10000
set_option maxHeartbeats 1000000
theorem zpM {τ : Hp} {q0 : zp} {bm0 : Nat} {vm0_0 : Value} {p1 : Int} (rm0_0 : RdT Ty.u8 τ vm0_0 q0.b) {rr : (List ByteArray) × zp} (hF : zfu q0 p1 = some rr) :
  Ctr Tryz.prog 72 #[.pointer (some ⟨bm0, 0, none⟩), .int .i64 p1, .func (.func 41) #[(.pointer (some ⟨bm0, 0, none⟩))] #[]] τ [some (bm0, ⟨[vm0_0, .int .i64 q0.at_, .bool q0.failed], 82, 3, true⟩)] (fun v τ' vs' => ∃ (v0 : Value) (o0 : Ob) (u0_0 : Value), v = v0 ∧ vs' = [o0, some (bm0, ⟨[u0_0, .int .i64 rr.2.at_, .bool rr.2.failed], 82, 3, true⟩)] ∧ zr Ty.str 9 τ' v0 rr.1 o0 ∧ RdT Ty.u8 τ' u0_0 rr.2.b) := by
 obtain ⟨Am0_0, cm0_0, rfl, -⟩ := rm0_0.form
 refine zM (args := [.pointer (some ⟨bm0, 0, none⟩), .int .i64 p1, .func (.func 41) #[(.pointer (some ⟨bm0, 0, none⟩))] #[]]) hm Tryz.func72 s72 rfl fun w0 σ hO Q hQ => ?_
 unfold zfu at hF
 have hL := Hp.le.refl τ
 show wpn _ _ a72.body _ _ _
 unfold a72
 dsimp only
 refine zc hO [] [(0, zqA bm0), (1, zqz p1), (2, .func (.func 41) #[(.pointer (some ⟨bm0, 0, none⟩))] #[])] zql fun j => ?_
 refine zc hO [] [(0, zqA bm0), (1, zqz p1), (2, .func (.func 41) #[(.pointer (some ⟨bm0, 0, none⟩))] #[]), (7, .slice none 0 0)] zqm fun j => ?_
 refine ze (zd hO 2 [] [(0, zqA bm0), (2, .func (.func 41) #[(.pointer (some ⟨bm0, 0, none⟩))] #[]), (7, .slice none 0 0), (9, zqA bm0), (10, zqz p1)] zqn fun j => ?_)
 obtain ⟨c4, h5, hF⟩ := bind_some hF
 refine zX (hs := []) (vs := [_]) hO (zb3 (q0 := (⟨q0.b, q0.at_, q0.failed⟩ : zp)) rm0_0 h5) rfl fun _ σ _ _ hO h6 h7 => ?_
 have hL := hL.trans h6
 obtain ⟨v8, rfl, rfl, r11⟩ := h7
 obtain ⟨A9, c10, rfl, -⟩ := r11.form
 have hO : Obs _ _ [_] := hO
 refine zc hO [] [(0, zqA bm0), (2, .func (.func 41) #[(.pointer (some ⟨bm0, 0, none⟩))] #[]), (7, .slice none 0 0), (8, zqz c4.1)] zqm fun j => ?_
 refine zt ?_
 have hO := hO.no
 have hO : Obs _ _ [_, _] := hO
 refine zZ (fun (n : Nat) e' σ' => ∃ (A28 : Option Addr) (c29 : Nat) (x30 : List UInt8) (x32 : Int) (x33 : Bool) (A34 : Option Addr) (c35 : Nat) (o36 : Ob) (x37 : List ByteArray) (x39 : Int) (τ' : Hp), agr [(0, zqA bm0), (2, .func (.func 41) #[(.pointer (some ⟨bm0, 0, none⟩))] #[]), (7, .slice A34 x37.length c35), (8, zqz x39)] e' ∧ Obs τ' σ' [some (bm0, ⟨[.slice A28 x30.length c29, .int .i64 x32, .bool x33], 82, 3, true⟩), o36] ∧ Hp.le τ τ' ∧ RdT Ty.u8 τ' (.slice A28 x30.length c29) x30 ∧ zr Ty.str 9 τ' (.slice A34 x37.length c35) x37 o36 ∧ zdb  n x30 x32 x33 x37 x39 = some rr) big ⟨A9, c10, c4.2.b, c4.2.at_, c4.2.failed, none, 0, none, [], c4.1, _, zqy zql, hO, hL, r11, zr.nil _ _ _, hF⟩ ?_
 clear hF hO hL
 rintro n54 e σ ⟨A28, c29, x30, x32, x33, A34, c35, o36, x37, x39, _, hA, hO, hL, r31, w38, hF⟩
 rw [← zL _ _ hA]
 cases n54 with
 | zero => exact nomatch (show none = some rr from hF)
 | succ n54 =>
  replace hF : zjp (zdb  n54) x30 x32 x33 x37 x39 = some rr := hF
  unfold zjp at hF
  refine ze (zc hO [0] [(0, zqA bm0), (2, .func (.func 41) #[(.pointer (some ⟨bm0, 0, none⟩))] #[]), (7, .slice A34 x37.length c35), (8, zqz x39), (20, .bool ((decide (x39 > 0)) && (!x33)))] (And.intro (And.intro rfl rfl) (And.intro (And.intro rfl rfl) (fun _ => zqy zqm))) fun j => ?_)
  rcases zi hF with ⟨hb55, hF⟩ | ⟨hb55, hF⟩
  ·refine zk (congrArg Value.bool hb55) ?_
   refine zm (zt (zA (zd hO 2 [] [(0, zqA bm0), (2, .func (.func 41) #[(.pointer (some ⟨bm0, 0, none⟩))] #[]), (8, zqz x39), (23, .slice A34 x37.length c35), (24, .func (.func 41) #[(.pointer (some ⟨bm0, 0, none⟩))] #[])] zqn fun j => ?_)))
   obtain ⟨c56, h57, hF⟩ := bind_some hF
   have hO := hO.sel [1, 0] (by decide)
   refine zfS (hs := [_]) (vs := [_]) rfl (by kernel_rfl) hO (zgd (q0 := (⟨x30, x32, x33⟩ : zp)) r31 h57) rfl fun _ σ _ _ hO h58 h59 => ?_
   have hL := hL.trans h58
   have w38 := w38.le h58
   obtain ⟨v60, rfl, rfl, r63⟩ := h59
   obtain ⟨A61, c62, rfl, -⟩ := r63.form
   have hO : Obs _ _ [_, _] := hO
   obtain ⟨_, hr68, hF⟩ := bind_some hF
   refine zbN (T := Ty.str) (y := c56.1) hO w38 (i := 0) rfl rfl (fun _ => rfl) rfl rfl rfl hr68 (by decide) fun u _ σ o66 w67 hO => ?_
   obtain ⟨A64, c65, rfl, -⟩ := w67.form
   have hO : Obs _ _ [_, _] := hO
   refine zc hO [] [(0, zqA bm0), (2, .func (.func 41) #[(.pointer (some ⟨bm0, 0, none⟩))] #[]), (7, .slice A64 (x37 ++ [c56.1]).length c65), (8, zqz x39)] zqm fun j => ?_
   refine zg (zP (zj (zA (zc hO [] [(0, zqA bm0), (2, .func (.func 41) #[(.pointer (some ⟨bm0, 0, none⟩))] #[]), (7, .slice A64 (x37 ++ [c56.1]).length c65), (8, zqz (IntKind.i64.wrap (x39 - 1)))] zqm fun j => ?_))))
   refine zg (zj ?_)
   have hO := hO.sel [1, 0] (by decide)
   exact ⟨n54, Nat.lt_succ_self _, A61, c62, c56.2.b, c56.2.at_, c56.2.failed, A64, c65, o66, (x37 ++ [c56.1]), (IntKind.i64.wrap (x39 - 1)), _, zqy zql, hO, hL, r63, w67, hF⟩
  ·refine zl (congrArg Value.bool hb55) ?_
   refine zU (zY (z0 (zj (zc hO [] [(0, zqA bm0), (6, .slice A34 x37.length c35)] zqk fun j => ?_))))
   refine zK ?_
   injection hF with hF
   subst hF
   have hO := hO.sel [1, 0] (by decide)
   exact hQ _ _ _ _ _ rfl hO hL ⟨_, _, _, rfl, rfl, w38, r31⟩
theorem zqe {τ : Hp} {q0 : zp} {bm0 : Nat} {vm0_0 : Value} (rm0_0 : RdT Ty.u8 τ vm0_0 q0.b) {rr : zG × zp} (hF : zd0 q0 = some rr) :
  Ctr Tryz.prog 45 #[.pointer (some ⟨bm0, 0, none⟩)] τ [some (bm0, ⟨[vm0_0, .int .i64 q0.at_, .bool q0.failed], 82, 3, true⟩)] (fun v τ' vs' => ∃ (v0_5 : Value) (u0_0 : Value), v = .agg #[.string rr.1.Name, .int .u8 rr.1.Type_.Kind.toNat, .int .i64 rr.1.Type_.N, .string rr.1.Type_.Name, .int .i64 rr.1.Words, v0_5] ∧ vs' = [some (bm0, ⟨[u0_0, .int .i64 rr.2.at_, .bool rr.2.failed], 82, 3, true⟩)] ∧ RdT Ty.str τ' v0_5 rr.1.Fields ∧ RdT Ty.u8 τ' u0_0 rr.2.b) := by
 obtain ⟨Am0_0, cm0_0, rfl, -⟩ := rm0_0.form
 refine zM (args := [.pointer (some ⟨bm0, 0, none⟩)]) hm Tryz.func45 s45 rfl fun w0 σ hO Q hQ => ?_
 unfold zd0 at hF
 have hL := Hp.le.refl τ
 show wpn _ _ a45.body _ _ _
 unfold a45
 dsimp only
 refine zbq hO fun b2 σ hO => ?_
 have hO : Obs _ _ [_, _] := hO
 refine zh (zd hO 1 [] [(0, zqA bm0), (2, zqA b2), (4, zqA bm0)] zql fun j => ?_)
 obtain ⟨c3, h4, hF⟩ := bind_some hF
 have hO := hO.sel [1, 0] (by decide)
 refine zX (hs := [_]) (vs := [_]) hO (zgd (q0 := (⟨q0.b, q0.at_, q0.failed⟩ : zp)) rm0_0 h4) rfl fun _ σ _ _ hO h5 h6 => ?_
 have hL := hL.trans h5
 obtain ⟨v7, rfl, rfl, r10⟩ := h6
 obtain ⟨A8, c9, rfl, -⟩ := r10.form
 have hO : Obs _ _ [_, _] := hO
 refine zd hO 1 [] [(0, zqA bm0), (2, zqA b2), (6, .agg #[(.string c3.1), (.int .u8 0), (.int .i64 0), (.string (⟨#[]⟩ : ByteArray)), (.int .i64 1), (.slice none 0 0)])] zql fun j => ?_
 refine zbq hO fun b11 σ hO => ?_
 have hO : Obs _ _ [_, _, _] := hO
 refine zO hO (i := 2) rfl (off := 0) rfl rfl rfl rfl (Nat.le_of_ble_eq_true rfl) rfl fun σ hO => ?_
 have hO : Obs _ _ [_, _, _] := hO
 refine zh (zd hO 1 [] [(0, zqA bm0), (2, zqA b2), (3, zqA b11), (7, zqA bm0)] zqm fun j => ?_)
 obtain ⟨c12, h13, hF⟩ := bind_some hF
 have hO := hO.sel [0, 2, 1] (by decide)
 refine zX (hs := [_, _]) (vs := [_]) hO (zpD (q0 := (⟨c3.2.b, c3.2.at_, c3.2.failed⟩ : zp)) r10 h13) rfl fun _ σ _ _ hO h14 h15 => ?_
 have hL := hL.trans h14
 obtain ⟨v16, rfl, rfl, r19⟩ := h15
 obtain ⟨A17, c18, rfl, -⟩ := r19.form
 have hO : Obs _ _ [_, _, _] := hO
 refine zd hO 2 [] [(0, zqA bm0), (2, zqA b2), (3, zqA b11), (8, .int .u8 c12.1), (10, .pointer (some ⟨b11, 1, none⟩))] zqn fun j => ?_
 refine zO hO (i := 1) rfl (off := 1) rfl rfl rfl rfl (Nat.le_of_ble_eq_true rfl) rfl fun σ hO => ?_
 have hO : Obs _ _ [_, _, _] := hO
 refine zh (ze (zc hO [1] [(0, zqA bm0), (2, zqA b2), (3, zqA b11), (13, .int .u8 c12.1)] (And.intro (And.intro rfl rfl) zqm) fun j => ?_))
 refine zt (zc hO [] [(0, zqA bm0), (2, zqA b2), (3, zqA b11), (13, .int .u8 c12.1), (14, .bool (c12.1 == 3))] zqn fun j => ?_)
 refine zbl ?_
 rcases zi hF with ⟨hb20, hF⟩ | ⟨hb20, hF⟩
 ·refine zk (congrArg Value.bool hb20) ?_
  refine ze (zd hO 1 [] [(0, zqA bm0), (2, zqA b2), (3, zqA b11), (16, zqA bm0)] zqm fun j => ?_)
  obtain ⟨c21, h22, hF⟩ := bind_some hF
  refine zX (hs := [_, _]) (vs := [_]) hO (zb3 (q0 := (⟨c12.2.b, c12.2.at_, c12.2.failed⟩ : zp)) r19 h22) rfl fun _ σ _ _ hO h23 h24 => ?_
  have hL := hL.trans h23
  obtain ⟨v25, rfl, rfl, r28⟩ := h24
  obtain ⟨A26, c27, rfl, -⟩ := r28.form
  have hO : Obs _ _ [_, _, _] := hO
  refine zd hO 2 [] [(0, zqA bm0), (2, zqA b2), (3, zqA b11), (17, zqz c21.1), (19, .pointer (some ⟨b11, 2, none⟩))] zqn fun j => ?_
  refine zO hO (i := 1) rfl (off := 2) rfl rfl rfl rfl (Nat.le_of_ble_eq_true rfl) rfl fun σ hO => ?_
  have hO : Obs _ _ [_, _, _] := hO
  refine zh (zd hO 4 [1] [(0, zqA bm0), (2, zqA b2), (3, zqA b11), (22, zqz c21.1), (23, .pointer (some ⟨b11, 4, none⟩))] (And.intro (And.intro rfl rfl) zqn) fun j => ?_)
  refine zO hO (i := 1) rfl (off := 4) rfl rfl rfl rfl (Nat.le_of_ble_eq_true rfl) rfl fun σ hO => ?_
  have hO : Obs _ _ [_, _, _] := hO
  refine zh (zg (zP (zj (zd hO 1 [1] [(0, zqA bm0), (2, zqA b2), (39, .agg #[(.string c3.1), (.int .u8 c12.1), (.int .i64 c21.1), (.string (⟨#[]⟩ : ByteArray)), (.int .i64 c21.1), (.slice none 0 0)])] (And.intro (And.intro rfl rfl) zql) fun j => ?_))))
  refine zO hO (i := 0) rfl (off := 0) rfl rfl rfl rfl (Nat.le_of_ble_eq_true rfl) rfl fun σ hO => ?_
  have hO : Obs _ _ [_, _, _] := hO
  refine zh (zK ?_)
  obtain ⟨z29, hz29, hF⟩ := bind_some hF
  injection hF with hF
  subst hF
  have hV0 := hO.val (i := 0) rfl (off := 0) (agg := true) (n := 6) rfl
  have hO := hO.sel [2] (by decide)
  exact hQ _ _ _ _ _ (zce rfl (hV0) rfl) hO hL ⟨_, _, (by first | rfl | (simp only [zbE hz29]; done) | (simp only [← zbE hz29]; try rfl)), (by first | rfl | (simp only [zbE hz29]; done) | (simp only [← zbE hz29]; try rfl)), (RdT.nil _ _), r28⟩
 ·refine zl (congrArg Value.bool hb20) ?_
  refine ze (zc hO [] [(0, zqA bm0), (2, zqA b2), (3, zqA b11), (24, .bool (c12.1 == 4))] zqm fun j => ?_)
  rcases zi hF with ⟨hb30, hF⟩ | ⟨hb30, hF⟩
  ·refine zk (congrArg Value.bool hb30) ?_
   refine ze (zd hO 1 [] [(0, zqA bm0), (2, zqA b2), (3, zqA b11), (26, zqA bm0)] zqm fun j => ?_)
   obtain ⟨c31, h32, hF⟩ := bind_some hF
   refine zX (hs := [_, _]) (vs := [_]) hO (zgd (q0 := (⟨c12.2.b, c12.2.at_, c12.2.failed⟩ : zp)) r19 h32) rfl fun _ σ _ _ hO h33 h34 => ?_
   have hL := hL.trans h33
   obtain ⟨v35, rfl, rfl, r38⟩ := h34
   obtain ⟨A36, c37, rfl, -⟩ := r38.form
   have hO : Obs _ _ [_, _, _] := hO
   refine zd hO 2 [] [(0, zqA bm0), (2, zqA b2), (3, zqA b11), (27, .string c31.1), (29, .pointer (some ⟨b11, 3, none⟩))] zqn fun j => ?_
   refine zO hO (i := 1) rfl (off := 3) rfl rfl rfl rfl (Nat.le_of_ble_eq_true rfl) rfl fun σ hO => ?_
   have hO : Obs _ _ [_, _, _] := hO
   refine zh (ze (zd hO 3 [] [(0, zqA bm0), (2, zqA b2), (3, zqA b11), (30, zqA bm0), (32, .func (.func 41) #[(.pointer (some ⟨bm0, 0, none⟩))] #[])] zqn fun j => ?_))
   obtain ⟨c39, h40, hF⟩ := bind_some hF
   refine zX (hs := [_, _]) (vs := [_]) hO (zpM (q0 := (⟨c31.2.b, c31.2.at_, c31.2.failed⟩ : zp)) r38 h40) rfl fun _ σ _ _ hO h41 h42 => ?_
   have hL := hL.trans h41
   obtain ⟨v43, o46, v48, rfl, rfl, w47, r51⟩ := h42
   obtain ⟨A44, c45, rfl, -⟩ := w47.form
   obtain ⟨A49, c50, rfl, -⟩ := r51.form
   have hO : Obs _ _ [_, _, _, _] := hO
   refine zd hO 1 [] [(0, zqA bm0), (2, zqA b2), (3, zqA b11), (33, .slice A44 c39.1.length c45), (34, .pointer (some ⟨b11, 5, none⟩))] zqn fun j => ?_
   refine zO hO (i := 1) rfl (off := 5) rfl rfl rfl rfl (Nat.le_of_ble_eq_true rfl) rfl fun σ hO => ?_
   have hO : Obs _ _ [_, _, _, _] := hO
   refine zh (zd hO 4 [1] [(0, zqA bm0), (2, zqA b2), (3, zqA b11), (37, zqz (c39.1.length : Int)), (38, .pointer (some ⟨b11, 4, none⟩))] (And.intro (And.intro rfl rfl) zqn) fun j => ?_)
   refine zO hO (i := 1) rfl (off := 4) rfl rfl rfl rfl (Nat.le_of_ble_eq_true rfl) rfl fun σ hO => ?_
   have hO : Obs _ _ [_, _, _, _] := hO
   refine zh (zg (zP (zj (zd hO 1 [1] [(0, zqA bm0), (2, zqA b2), (39, .agg #[(.string c3.1), (.int .u8 c12.1), (.int .i64 0), (.string c31.1), (.int .i64 (c39.1.length : Int)), (.slice A44 c39.1.length c45)])] (And.intro (And.intro rfl rfl) zql) fun j => ?_))))
   refine zO hO (i := 0) rfl (off := 0) rfl rfl rfl rfl (Nat.le_of_ble_eq_true rfl) rfl fun σ hO => ?_
   have hO : Obs _ _ [_, _, _, _] := hO
   refine zh (zK ?_)
   obtain ⟨_, h53, r52, hO⟩ := w47.share hO (i := 2) rfl
   have hL := hL.trans h53
   have r51 := r51.le h53
   have hO : Obs _ _ [_, _, _, _] := hO
   obtain ⟨z54, hz54, hF⟩ := bind_some hF
   injection hF with hF
   subst hF
   have hV0 := hO.val (i := 0) rfl (off := 0) (agg := true) (n := 6) rfl
   have hO := hO.sel [3] (by decide)
   exact hQ _ _ _ _ _ (zce rfl (hV0) rfl) hO hL ⟨_, _, (by first | rfl | (simp only [zbE hz54]; done) | (simp only [← zbE hz54]; try rfl)), (by first | rfl | (simp only [zbE hz54]; done) | (simp only [← zbE hz54]; try rfl)), r52, r51⟩
  ·refine zl (congrArg Value.bool hb30) ?_
   refine zm (zg (zP (zj (zd hO 1 [1] [(0, zqA bm0), (2, zqA b2), (39, .agg #[(.string c3.1), (.int .u8 c12.1), (.int .i64 0), (.string (⟨#[]⟩ : ByteArray)), (.int .i64 1), (.slice none 0 0)])] (And.intro (And.intro rfl rfl) zql) fun j => ?_))))
   refine zO hO (i := 0) rfl (off := 0) rfl rfl rfl rfl (Nat.le_of_ble_eq_true rfl) rfl fun σ hO => ?_
   have hO : Obs _ _ [_, _, _] := hO
   refine zh (zK ?_)
   obtain ⟨z55, hz55, hF⟩ := bind_some hF
   injection hF with hF
   subst hF
   have hV0 := hO.val (i := 0) rfl (off := 0) (agg := true) (n := 6) rfl
   have hO := hO.sel [2] (by decide)
   exact hQ _ _ _ _ _ (zce rfl (hV0) rfl) hO hL ⟨_, _, (by first | rfl | (simp only [zbE hz55]; done) | (simp only [← zbE hz55]; try rfl)), (by first | rfl | (simp only [zbE hz55]; done) | (simp only [← zbE hz55]; try rfl)), (RdT.nil _ _), r19⟩
theorem zpT {τ : Hp} {p0 : Int} {p1 : Int}  {rr : Int} (hF : zgI p0 p1 = some rr) :
  Ctr Tryz.prog 111 #[.int .u64 p0, .int .i64 p1] τ [] (fun v τ' vs' => v = .int .i64 rr ∧ vs' = []) := by
 refine zM (args := [.int .u64 p0, .int .i64 p1]) hm Tryz.func111 zpk rfl fun w0 σ hO Q hQ => ?_
 unfold zgI at hF
 have hL := Hp.le.refl τ
 show wpn _ _ ziA.body _ _ _
 unfold ziA
 dsimp only
 refine zc hO [] [(0, .int .u64 p0), (1, zqz p1)] zqk fun j => ?_
 refine zc hO [] [(0, .int .u64 p0), (5, zqz (zdz 0 (IntKind.i64.wrap (64 - (IntKind.i64.wrap (7 * p1))))))] zqk fun j => ?_
 refine zd hO 2 [] [(5, zqz (zdz 0 (IntKind.i64.wrap (64 - (IntKind.i64.wrap (7 * p1)))))), (10, .int .u64 p0), (11, zqz (zdz 0 (IntKind.i64.wrap (64 - (IntKind.i64.wrap (7 * p1))))))] zql fun j => ?_
 obtain ⟨y3, g4, hF⟩ := bind_some hF
 refine zde (zen g4) ?_
 refine zd hO 2 [] [(13, zqz (IntKind.i64.wrap y3)), (14, zqz (zdz 0 (IntKind.i64.wrap (64 - (IntKind.i64.wrap (7 * p1))))))] zqk fun j => ?_
 obtain ⟨y5, g6, hF⟩ := bind_some hF
 refine zde (zp7 g6) ?_
 refine zc hO [] [(4, zqz y5)] zqj fun j => ?_
 refine zK ?_
 injection hF with hF
 subst hF
 exact hQ _ _ _ _ _ rfl hO hL ⟨rfl, rfl⟩
theorem znU {τ : Hp} {v0 : Value} {p0 : (List UInt8)} {p1 : Int} (r0 : RdT Ty.u8 τ v0 p0) {rr : Int × Int × Int} (hF : zhD p0 p1 = some rr) :
  Ctr Tryz.prog 110 #[v0, .int .i64 p1, .func (.func 111) #[] #[], .func (.func 107) #[] #[]] τ [] (fun v τ' vs' => v = .tuple #[.int .i64 rr.1, .int .i64 rr.2.1, .int .i64 rr.2.2] ∧ vs' = []) := by
 obtain ⟨A0, c0, rfl, -⟩ := r0.form
 refine zM (args := [.slice A0 p0.length c0, .int .i64 p1, .func (.func 111) #[] #[], .func (.func 107) #[] #[]]) hm Tryz.func110 znE rfl fun w0 σ hO Q hQ => ?_
 unfold zhD at hF
 have hL := Hp.le.refl τ
 show wpn _ _ ziu.body _ _ _
 unfold ziu
 dsimp only
 refine zc hO [] [(0, .slice A0 p0.length c0), (1, zqz p1), (2, .func (.func 111) #[] #[]), (3, .func (.func 107) #[] #[])] zqm fun j => ?_
 refine ze (zc hO [] [(0, .slice A0 p0.length c0), (1, zqz p1), (2, .func (.func 111) #[] #[]), (3, .func (.func 107) #[] #[]), (21, .bool ((decide (p1 < 0)) || (decide (p1 > (p0.length : Int)))))] (And.intro (And.intro rfl rfl) (fun _ => zqy zqm)) fun j => ?_)
 rcases zi hF with ⟨hb5, hF⟩ | ⟨hb5, hF⟩
 ·refine zk (congrArg Value.bool hb5) ?_
  refine ze (zc hO [] [(8, zqz 0), (9, zqz 0), (10, zqz 1)] zql fun j => ?_)
  refine zu ?_
  injection hF with hF
  subst hF
  exact hQ _ _ _ _ _ rfl hO hL ⟨rfl, rfl⟩
 ·refine zl (congrArg Value.bool hb5) ?_
  refine zm (zd hO 2 [] [(0, .slice A0 p0.length c0), (1, zqz p1), (2, .func (.func 111) #[] #[]), (3, .func (.func 107) #[] #[]), (23, .slice A0 p0.length c0), (24, zqz p1)] zqo fun j => ?_)
  obtain ⟨y6, g7, hF⟩ := bind_some hF
  refine zdQ (T := Ty.u8) r0 rfl rfl rfl g7 fun _ r8 => ?_
  obtain ⟨A9, c10, rfl, -⟩ := r8.form
  obtain ⟨c11, h12, hF⟩ := bind_some hF
  refine zD hO (zl4 r8 h12) rfl fun _ σ _ _ hO h13 h14 => ?_
  have hL := hL.trans h13
  have r0 := r0.le h13
  have r8 := r8.le h13
  obtain ⟨rfl, rfl⟩ := h14
  have hO : Obs _ _ [] := hO
  refine zc hO [] [(0, .slice A0 p0.length c0), (1, zqz p1), (2, .func (.func 111) #[] #[]), (3, .func (.func 107) #[] #[]), (11, .int .u64 c11.1), (12, zqz c11.2)] zqo fun j => ?_
  refine zd hO 3 [] [(0, .slice A0 p0.length c0), (1, zqz p1), (3, .func (.func 107) #[] #[]), (12, zqz c11.2), (29, .func (.func 111) #[] #[]), (30, .int .u64 c11.1), (31, zqz c11.2)] zqp fun j => ?_
  obtain ⟨c15, h16, hF⟩ := bind_some hF
  refine zhc rfl (by kernel_rfl) hO (zpT h16) rfl fun _ σ _ _ hO h17 h18 => ?_
  have hL := hL.trans h17
  have r0 := r0.le h17
  obtain ⟨rfl, rfl⟩ := h18
  have hO : Obs _ _ [] := hO
  refine zc hO [] [(0, .slice A0 p0.length c0), (1, zqz p1), (3, .func (.func 107) #[] #[]), (12, zqz c11.2), (13, zqz c15)] zqn fun j => ?_
  refine ze (zbr (zd hO 3 [] [(0, .slice A0 p0.length c0), (1, zqz p1), (3, .func (.func 107) #[] #[]), (12, zqz c11.2), (13, zqz c15), (35, .bool (c11.2 == 0))] zqo fun j => ?_))
  obtain ⟨c19, h20, hF⟩ := bind_some hF
  refine zbQ 2 (fun e' σ' => ∃ (τ' : Hp), agr [(47, .bool c19), (1, zqz p1), (12, zqz c11.2), (13, zqz c15)] e' ∧ Obs τ' σ' [] ∧ Hp.le τ τ') ?_ ?_
  ·have hF := h20
   rcases zi hF with ⟨hb21, hF⟩ | ⟨hb21, hF⟩
   ·refine z9 (congrArg (fun x => isB (.bool x) false) hb21) ?_
    refine zJ (congrArg Value.bool hb21) ?_
    refine zh ?_
    injection hF with hF
    subst hF
    refine zg ?_
    exact ⟨rfl, _, zqy zql, hO, hL⟩
   ·refine z7 (congrArg (fun x => isB (.bool x) false) hb21) ?_
    refine zd hO 7 [] [(1, zqz p1), (12, zqz c11.2), (13, zqz c15), (35, .bool (c11.2 == 0)), (36, .func (.func 107) #[] #[]), (37, zqz c15), (39, .slice A0 p0.length c0), (40, zqz p1), (43, zqz (IntKind.i64.wrap (p1 + c11.2)))] zqr fun j => ?_
    obtain ⟨y22, g23, hF⟩ := bind_some hF
    refine zdQ (T := Ty.u8) r0 rfl rfl rfl g23 fun _ r24 => ?_
    obtain ⟨A25, c26, rfl, -⟩ := r24.form
    obtain ⟨c27, h28, hF⟩ := bind_some hF
    refine zhc rfl (by kernel_rfl) hO (zlk (RdT.nil Ty.u8 _) h28) rfl fun _ σ _ _ hO h29 h30 => ?_
    have hL := hL.trans h29
    have r0 := r0.le h29
    have r24 := r24.le h29
    obtain ⟨v31, o34, rfl, rfl, w35⟩ := h30
    obtain ⟨A32, c33, rfl, -⟩ := w35.form
    have hO : Obs _ _ [_] := hO
    obtain ⟨_, h37, r36, hO⟩ := w35.share hO (i := 0) rfl
    have hL := hL.trans h37
    have r0 := r0.le h37
    have r24 := r24.le h37
    have hO : Obs _ _ [_] := hO
    obtain ⟨c38, h39, hF⟩ := bind_some hF
    refine zD hO (zj3 r36 r24 h39) rfl fun _ σ _ _ hO h40 h41 => ?_
    have hL := hL.trans h40
    have r36 := r36.le h40
    have r0 := r0.le h40
    have r24 := r24.le h40
    obtain ⟨rfl, rfl⟩ := h41
    have hO : Obs _ _ [_] := hO
    refine zd hO 1 [] [(1, zqz p1), (12, zqz c11.2), (13, zqz c15), (35, .bool (c11.2 == 0)), (46, .bool (!c38))] zqn fun j => ?_
    refine zJ (congrArg Value.bool hb21) ?_
    refine zh ?_
    injection hF with hF
    subst hF
    refine zg ?_
    have hO := hO.sel [] (by decide)
    exact ⟨rfl, _, zqy zql, hO, hL⟩
  ·rintro e σ ⟨_, hA, hO, hL⟩
   rw [← zL _ _ hA]
   refine zh ?_
   rcases zi hF with ⟨hb42, hF⟩ | ⟨hb42, hF⟩
   ·refine zk (congrArg Value.bool hb42) ?_
    refine ze (zc hO [] [(8, zqz 0), (9, zqz 0), (10, zqz 5)] zql fun j => ?_)
    refine zu ?_
    injection hF with hF
    subst hF
    exact hQ _ _ _ _ _ rfl hO hL ⟨rfl, rfl⟩
   ·refine zl (congrArg Value.bool hb42) ?_
    refine zm (zc hO [] [(8, zqz c15), (9, zqz (IntKind.i64.wrap (p1 + c11.2))), (10, zqz 0)] zql fun j => ?_)
    refine zK ?_
    injection hF with hF
    subst hF
    exact hQ _ _ _ _ _ rfl hO hL ⟨rfl, rfl⟩
theorem zpP {τ : Hp} {v0 : Value} {p0 : (List UInt8)} {p1 : Int} (r0 : RdT Ty.u8 τ v0 p0) {rr : Int × Int × Int} (hF : zgW p0 p1 = some rr) :
  Ctr Tryz.prog 109 #[v0, .int .i64 p1] τ [] (fun v τ' vs' => v = .tuple #[.int .i64 rr.1, .int .i64 rr.2.1, .int .i64 rr.2.2] ∧ vs' = []) := by
 obtain ⟨A0, c0, rfl, -⟩ := r0.form
 refine zM (args := [.slice A0 p0.length c0, .int .i64 p1]) hm Tryz.func109 zpm rfl fun w0 σ hO Q hQ => ?_
 unfold zgW at hF
 have hL := Hp.le.refl τ
 show wpn _ _ zjs.body _ _ _
 unfold zjs
 dsimp only
 refine zc hO [] [(0, .slice A0 p0.length c0), (1, zqz p1)] zqk fun j => ?_
 refine zd hO 2 [] [(7, .slice A0 p0.length c0), (8, zqz p1)] zqk fun j => ?_
 obtain ⟨c3, h4, hF⟩ := bind_some hF
 refine zD hO (znU r0 h4) rfl fun _ σ _ _ hO h5 h6 => ?_
 have hL := hL.trans h5
 have r0 := r0.le h5
 obtain ⟨rfl, rfl⟩ := h6
 have hO : Obs _ _ [] := hO
 refine zc hO [] [(4, zqz c3.1), (5, zqz c3.2.1), (6, zqz c3.2.2)] zql fun j => ?_
 refine zK ?_
 injection hF with hF
 subst hF
 exact hQ _ _ _ _ _ rfl hO hL ⟨rfl, rfl⟩
theorem zqa {τ : Hp} {v0 : Value} {p0 : (List UInt8)} {p1 : Int} (r0 : RdT Ty.u8 τ v0 p0) {rr : (List zE) × Int × Int} (hF : zfv p0 p1 = some rr) :
  Ctr Tryz.prog 103 #[v0, .int .i64 p1] τ [] (fun v τ' vs' => ∃ (v0 : Value), v = .tuple #[v0, .int .i64 rr.2.1, .int .i64 rr.2.2] ∧ vs' = [] ∧ RdT zbs τ' v0 rr.1) := by
 obtain ⟨A0, c0, rfl, -⟩ := r0.form
 refine zM (args := [.slice A0 p0.length c0, .int .i64 p1]) hm Tryz.func103 zoB rfl fun w0 σ hO Q hQ => ?_
 unfold zfv at hF
 have hL := Hp.le.refl τ
 show wpn _ _ ziD.body _ _ _
 unfold ziD
 dsimp only
 refine zc hO [] [(0, .slice A0 p0.length c0), (1, zqz p1), (4, .slice none 0 0)] zql fun j => ?_
 refine ze (zc hO [] [(0, .slice A0 p0.length c0), (1, zqz p1), (4, .slice none 0 0), (16, .bool ((decide (p1 < 0)) || (decide (p1 > (p0.length : Int)))))] (And.intro (And.intro rfl rfl) (fun _ => zqy zql)) fun j => ?_)
 rcases zi hF with ⟨hb3, hF⟩ | ⟨hb3, hF⟩
 ·refine zk (congrArg Value.bool hb3) ?_
  refine ze (zc hO [] [(4, .slice none 0 0), (5, zqz 0), (6, zqz 1)] zql fun j => ?_)
  refine zu ?_
  injection hF with hF
  subst hF
  exact hQ _ _ _ _ _ rfl hO hL ⟨_, rfl, rfl, (RdT.nil _ _)⟩
 ·refine zl (congrArg Value.bool hb3) ?_
  refine zm (zd hO 2 [] [(0, .slice A0 p0.length c0), (4, .slice none 0 0), (18, .slice A0 p0.length c0), (19, zqz p1)] zqm fun j => ?_)
  obtain ⟨c4, h5, hF⟩ := bind_some hF
  refine zD hO (ze8 r0 h5) rfl fun _ σ _ _ hO h6 h7 => ?_
  have hL := hL.trans h6
  have r0 := r0.le h6
  obtain ⟨rfl, rfl⟩ := h7
  have hO : Obs _ _ [] := hO
  refine zc hO [] [(0, .slice A0 p0.length c0), (4, .slice none 0 0), (5, zqz c4.2.1), (6, zqz c4.2.2), (7, .int .u64 c4.1)] zqn fun j => ?_
  refine ze (zc hO [] [(0, .slice A0 p0.length c0), (4, .slice none 0 0), (5, zqz c4.2.1), (7, .int .u64 c4.1), (29, .bool ((c4.2.2 != 0) || (decide (c4.1 > 16))))] (And.intro (And.intro rfl rfl) (fun _ => zqy zqm)) fun j => ?_)
  rcases zi hF with ⟨hb8, hF⟩ | ⟨hb8, hF⟩
  ·refine zk (congrArg Value.bool hb8) ?_
   refine ze (zc hO [] [(4, .slice none 0 0), (5, zqz 0), (6, zqz 5)] zql fun j => ?_)
   refine zu ?_
   injection hF with hF
   subst hF
   exact hQ _ _ _ _ _ rfl hO hL ⟨_, rfl, rfl, (RdT.nil _ _)⟩
  ·refine zl (congrArg Value.bool hb8) ?_
   refine zm (ze (zc hO [] [(0, .slice A0 p0.length c0), (4, .slice none 0 0), (5, zqz c4.2.1), (30, .int .u64 c4.1), (31, .int .u64 0)] zqn fun j => ?_))
   refine zt ?_
   have hO := hO.no
   have hO : Obs _ _ [_] := hO
   refine zZ (fun (n : Nat) e' σ' => ∃ (A46 : Option Addr) (c47 : Nat) (o48 : Ob) (x49 : List zE) (x51 : Int) (x52 : Int) (τ' : Hp), agr [(0, .slice A0 p0.length c0), (4, .slice A46 x49.length c47), (5, zqz x51), (30, .int .u64 c4.1), (31, .int .u64 x52)] e' ∧ Obs τ' σ' [o48] ∧ Hp.le τ τ' ∧ RdT Ty.u8 τ' (.slice A0 p0.length c0) p0 ∧ zr zbs 101 τ' (.slice A46 x49.length c47) x49 o48 ∧ zgo p0 c4 n x49 x51 x52 = some rr) big ⟨none, 0, none, [], c4.2.1, 0, _, zqy zqm, hO, hL, r0, zr.nil _ _ _, hF⟩ ?_
   clear hF hO hL
   rintro n88 e σ ⟨A46, c47, o48, x49, x51, x52, _, hA, hO, hL, r45, w50, hF⟩
   rw [← zL _ _ hA]
   cases n88 with
   | zero => exact nomatch (show none = some rr from hF)
   | succ n88 =>
    replace hF : zdP (zgo p0 c4 n88) p0 c4 x49 x51 x52 = some rr := hF
    unfold zdP at hF
    refine zc hO [] [(0, .slice A0 p0.length c0), (4, .slice A46 x49.length c47), (5, zqz x51), (30, .int .u64 c4.1), (31, .int .u64 x52), (32, .bool (decide (x52 < c4.1)))] zqo fun j => ?_
    rcases zi hF with ⟨hb89, hF⟩ | ⟨hb89, hF⟩
    ·refine zk (congrArg Value.bool hb89) ?_
     refine zm (zt (ze (zc hO [] [(0, .slice A0 p0.length c0), (4, .slice A46 x49.length c47), (5, zqz x51), (30, .int .u64 c4.1), (31, .int .u64 x52), (36, .bool (decide (x51 ≥ (p0.length : Int))))] zqo fun j => ?_)))
     rcases zi hF with ⟨hb90, hF⟩ | ⟨hb90, hF⟩
     ·refine zk (congrArg Value.bool hb90) ?_
      refine ze (zc hO [] [(4, .slice none 0 0), (5, zqz 0), (6, zqz 5)] zql fun j => ?_)
      refine zu (zw (zn (zn (zw (zn ?_)))))
      injection hF with hF
      subst hF
      have hO := hO.sel [] (by decide)
      exact hQ _ _ _ _ _ rfl hO hL ⟨_, rfl, rfl, (RdT.nil _ _)⟩
     ·refine zl (congrArg Value.bool hb90) ?_
      refine zm (zd hO 2 [] [(0, .slice A0 p0.length c0), (4, .slice A46 x49.length c47), (5, zqz x51), (30, .int .u64 c4.1), (31, .int .u64 x52), (37, .slice A0 p0.length c0), (38, zqz x51)] zqp fun j => ?_)
      obtain ⟨y91, g92, hF⟩ := bind_some hF
      refine zC (T := Ty.u8) r45 hO.base rfl rfl g92 (by decide) fun a93 _ k94 m95 => ?_
      obtain rfl : _ = ([.int .u8 y91.toNat] : List Value) := k94
      refine zy rfl (m95.le hO.base).fst ?_
      refine zd hO 1 [] [(0, .slice A0 p0.length c0), (4, .slice A46 x49.length c47), (5, zqz x51), (30, .int .u64 c4.1), (31, .int .u64 x52), (41, .agg #[(.int .u8 (y91.toNat : Int)), (.int .i64 0)])] zqo fun j => ?_
      refine zbq hO fun b96 σ hO => ?_
      have hO : Obs _ _ [_, _] := hO
      refine zO hO (i := 1) rfl (off := 0) rfl rfl rfl rfl (Nat.le_of_ble_eq_true rfl) rfl fun σ hO => ?_
      have hO : Obs _ _ [_, _] := hO
      refine zh (zc hO [] [(0, .slice A0 p0.length c0), (4, .slice A46 x49.length c47), (5, zqz (IntKind.i64.wrap (x51 + 1))), (8, zqA b96), (30, .int .u64 c4.1), (31, .int .u64 x52)] zqo fun j => ?_)
      refine ze (zd hO 2 [1] [(0, .slice A0 p0.length c0), (4, .slice A46 x49.length c47), (5, zqz (IntKind.i64.wrap (x51 + 1))), (8, zqA b96), (30, .int .u64 c4.1), (31, .int .u64 x52), (45, .int .u8 (y91.toNat : Int))] (And.intro (And.intro rfl rfl) zqp) fun j => ?_)
      obtain ⟨c97, h98, hF⟩ := bind_some hF
      refine zD hO (zjO h98) rfl fun _ σ _ _ hO h99 h100 => ?_
      have hL := hL.trans h99
      have r45 := r45.le h99
      have w50 := w50.le h99
      obtain ⟨rfl, rfl⟩ := h100
      have hO : Obs _ _ [_, _] := hO
      refine zh ?_
      rcases zi hF with ⟨hb101, hF⟩ | ⟨hb101, hF⟩
      ·refine zk (congrArg Value.bool hb101) ?_
       refine ze (zd hO 2 [] [(0, .slice A0 p0.length c0), (4, .slice A46 x49.length c47), (8, zqA b96), (30, .int .u64 c4.1), (31, .int .u64 x52), (48, .slice A0 p0.length c0), (49, zqz (IntKind.i64.wrap (x51 + 1)))] zqp fun j => ?_)
       obtain ⟨c102, h103, hF⟩ := bind_some hF
       refine zD hO (zpP r45 h103) rfl fun _ σ _ _ hO h104 h105 => ?_
       have hL := hL.trans h104
       have r45 := r45.le h104
       have w50 := w50.le h104
       obtain ⟨rfl, rfl⟩ := h105
       have hO : Obs _ _ [_, _] := hO
       refine zd hO 5 [] [(0, .slice A0 p0.length c0), (4, .slice A46 x49.length c47), (8, zqA b96), (30, .int .u64 c4.1), (31, .int .u64 x52), (51, zqz c102.1), (52, zqz c102.2.1), (53, zqz c102.2.2), (54, .pointer (some ⟨b96, 1, none⟩))] zqr fun j => ?_
       refine zO hO (i := 1) rfl (off := 1) rfl rfl rfl rfl (Nat.le_of_ble_eq_true rfl) rfl fun σ hO => ?_
       have hO : Obs _ _ [_, _] := hO
       refine zc hO [] [(0, .slice A0 p0.length c0), (4, .slice A46 x49.length c47), (5, zqz c102.2.1), (6, zqz c102.2.2), (8, zqA b96), (30, .int .u64 c4.1), (31, .int .u64 x52)] zqp fun j => ?_
       refine ze (zc hO [] [(0, .slice A0 p0.length c0), (4, .slice A46 x49.length c47), (5, zqz c102.2.1), (8, zqA b96), (30, .int .u64 c4.1), (31, .int .u64 x52), (56, .bool (c102.2.2 != 0))] zqp fun j => ?_)
       rcases zi hF with ⟨hb106, hF⟩ | ⟨hb106, hF⟩
       ·refine zk (congrArg Value.bool hb106) ?_
        refine ze (zc hO [] [(4, .slice none 0 0), (5, zqz 0), (6, zqz 5)] zql fun j => ?_)
        refine zu (zw (zn (zn (zw (zn ?_)))))
        injection hF with hF
        subst hF
        have hO := hO.sel [] (by decide)
        exact hQ _ _ _ _ _ rfl hO hL ⟨_, rfl, rfl, (RdT.nil _ _)⟩
       ·refine zl (congrArg Value.bool hb106) ?_
        refine zm (zA (zd hO 2 [1] [(0, .slice A0 p0.length c0), (5, zqz c102.2.1), (30, .int .u64 c4.1), (31, .int .u64 x52), (57, .slice A46 x49.length c47), (58, .agg #[(.int .u8 (y91.toNat : Int)), (.int .i64 c102.1)])] (And.intro (And.intro rfl rfl) zqo) fun j => ?_))
        obtain ⟨_, hr111, hF⟩ := bind_some hF
        refine zbN (T := zbs) (y := (⟨y91, c102.1⟩ : zE)) hO w50 (i := 0) rfl rfl (fun _ => rfl) rfl rfl rfl hr111 (by decide) fun u _ σ o109 w110 hO => ?_
        obtain ⟨A107, c108, rfl, -⟩ := w110.form
        have hO : Obs _ _ [_, _] := hO
        refine zc hO [] [(0, .slice A0 p0.length c0), (4, .slice A107 (x49 ++ [(⟨y91, c102.1⟩ : zE)]).length c108), (5, zqz c102.2.1), (30, .int .u64 c4.1), (31, .int .u64 x52)] zqn fun j => ?_
        refine zg (zP (zj (zA (zc hO [] [(0, .slice A0 p0.length c0), (4, .slice A107 (x49 ++ [(⟨y91, c102.1⟩ : zE)]).length c108), (5, zqz c102.2.1), (30, .int .u64 c4.1), (31, .int .u64 (IntKind.u64.wrap (x52 + 1)))] zqn fun j => ?_))))
        refine zg (zj ?_)
        have hO := hO.sel [0] (by decide)
        exact ⟨n88, Nat.lt_succ_self _, A107, c108, o109, (x49 ++ [(⟨y91, c102.1⟩ : zE)]), c102.2.1, (IntKind.u64.wrap (x52 + 1)), _, zqy zqm, hO, hL, r45, w110, hF⟩
      ·refine zl (congrArg Value.bool hb101) ?_
       refine zm (zA (zd hO 2 [1] [(0, .slice A0 p0.length c0), (5, zqz (IntKind.i64.wrap (x51 + 1))), (30, .int .u64 c4.1), (31, .int .u64 x52), (57, .slice A46 x49.length c47), (58, .agg #[(.int .u8 (y91.toNat : Int)), (.int .i64 0)])] (And.intro (And.intro rfl rfl) zqo) fun j => ?_))
       obtain ⟨_, hr116, hF⟩ := bind_some hF
       refine zbN (T := zbs) (y := (⟨y91, 0⟩ : zE)) hO w50 (i := 0) rfl rfl (fun _ => rfl) rfl rfl rfl hr116 (by decide) fun u _ σ o114 w115 hO => ?_
       obtain ⟨A112, c113, rfl, -⟩ := w115.form
       have hO : Obs _ _ [_, _] := hO
       refine zc hO [] [(0, .slice A0 p0.length c0), (4, .slice A112 (x49 ++ [(⟨y91, 0⟩ : zE)]).length c113), (5, zqz (IntKind.i64.wrap (x51 + 1))), (30, .int .u64 c4.1), (31, .int .u64 x52)] zqn fun j => ?_
       refine zg (zP (zj (zA (zc hO [] [(0, .slice A0 p0.length c0), (4, .slice A112 (x49 ++ [(⟨y91, 0⟩ : zE)]).length c113), (5, zqz (IntKind.i64.wrap (x51 + 1))), (30, .int .u64 c4.1), (31, .int .u64 (IntKind.u64.wrap (x52 + 1)))] zqn fun j => ?_))))
       refine zg (zj ?_)
       have hO := hO.sel [0] (by decide)
       exact ⟨n88, Nat.lt_succ_self _, A112, c113, o114, (x49 ++ [(⟨y91, 0⟩ : zE)]), (IntKind.i64.wrap (x51 + 1)), (IntKind.u64.wrap (x52 + 1)), _, zqy zqm, hO, hL, r45, w115, hF⟩
    ·refine zl (congrArg Value.bool hb89) ?_
     refine zU (zY (z0 (zj (ze (zd hO 1 [] [(4, .slice A46 x49.length c47), (5, zqz x51), (62, .slice A46 x49.length c47)] zql fun j => ?_)))))
     obtain ⟨_, h118, r117, hO⟩ := w50.share hO (i := 0) rfl
     have hL := hL.trans h118
     have hO : Obs _ _ [_] := hO
     obtain ⟨c119, h120, hF⟩ := bind_some hF
     refine zD hO (zjf r117 h120) rfl fun _ σ _ _ hO h121 h122 => ?_
     have hL := hL.trans h121
     have r117 := r117.le h121
     obtain ⟨rfl, rfl⟩ := h122
     have hO : Obs _ _ [_] := hO
     refine zc hO [] [(4, .slice A46 x49.length c47), (5, zqz x51), (64, .bool (!c119))] zql fun j => ?_
     rcases zi hF with ⟨hb123, hF⟩ | ⟨hb123, hF⟩
     ·refine zk (congrArg Value.bool hb123) ?_
      refine ze (zc hO [] [(4, .slice none 0 0), (5, zqz 0), (6, zqz 5)] zql fun j => ?_)
      refine zu ?_
      injection hF with hF
      subst hF
      have hO := hO.sel [] (by decide)
      exact hQ _ _ _ _ _ rfl hO hL ⟨_, rfl, rfl, (RdT.nil _ _)⟩
     ·refine zl (congrArg Value.bool hb123) ?_
      refine zm (zc hO [] [(4, .slice A46 x49.length c47), (5, zqz x51), (6, zqz 0)] zql fun j => ?_)
      refine zK ?_
      injection hF with hF
      subst hF
      have hO := hO.sel [] (by decide)
      exact hQ _ _ _ _ _ rfl hO hL ⟨_, rfl, rfl, r117⟩
theorem zmt {τ : Hp} {v0 : Value} {p0 : (List UInt8)} {p1 : Int} {p2 : Int} (r0 : RdT Ty.u8 τ v0 p0) {rr : zq × Int × Bool} (hF : zfV p0 p1 p2 = some rr) :
  Ctr Tryz.prog 89 #[v0, .int .i64 p1, .int .i64 p2] τ [] (fun v τ' vs' => ∃ (v0_2 : Value), v = .tuple #[.agg #[.int .i64 rr.1.From, .int .i64 rr.1.To, v0_2], .int .i64 rr.2.1, .bool rr.2.2] ∧ vs' = [] ∧ RdT zbs τ' v0_2 rr.1.At) := by
 obtain ⟨A0, c0, rfl, -⟩ := r0.form
 refine zM (args := [.slice A0 p0.length c0, .int .i64 p1, .int .i64 p2]) hm Tryz.func89 s89 rfl fun w0 σ hO Q hQ => ?_
 unfold zfV at hF
 have hL := Hp.le.refl τ
 show wpn _ _ a89.body _ _ _
 unfold a89
 dsimp only
 refine zbq hO fun b4 σ hO => ?_
 have hO : Obs _ _ [_] := hO
 refine zc hO [] [(0, .slice A0 p0.length c0), (1, zqz p1), (2, zqz p2), (6, zqA b4)] zqm fun j => ?_
 refine zd hO 2 [] [(0, .slice A0 p0.length c0), (2, zqz p2), (6, zqA b4), (13, .slice A0 p0.length c0), (14, zqz p1)] zqn fun j => ?_
 obtain ⟨c5, h6, hF⟩ := bind_some hF
 refine zD hO (ze8 r0 h6) rfl fun _ σ _ _ hO h7 h8 => ?_
 have hL := hL.trans h7
 have r0 := r0.le h7
 obtain ⟨rfl, rfl⟩ := h8
 have hO : Obs _ _ [_] := hO
 refine zc hO [] [(0, .slice A0 p0.length c0), (2, zqz p2), (6, zqA b4), (7, zqz c5.2.1), (9, .int .u64 c5.1), (10, zqz c5.2.2)] zqo fun j => ?_
 refine ze (zc hO [] [(0, .slice A0 p0.length c0), (2, zqz p2), (6, zqA b4), (7, zqz c5.2.1), (9, .int .u64 c5.1), (24, .bool ((c5.2.2 != 0) || (decide (c5.1 > 16777216))))] (And.intro (And.intro rfl rfl) (fun _ => zqy zqn)) fun j => ?_)
 rcases zi hF with ⟨hb9, hF⟩ | ⟨hb9, hF⟩
 ·refine zk (congrArg Value.bool hb9) ?_
  refine ze (zd hO 1 [0] [(6, zqA b4), (25, .agg #[(.int .i64 0), (.int .i64 0), (.slice none 0 0)])] (And.intro (And.intro rfl rfl) zqk) fun j => ?_)
  refine zO hO (i := 0) rfl (off := 0) rfl rfl rfl rfl (Nat.le_of_ble_eq_true rfl) rfl fun σ hO => ?_
  have hO : Obs _ _ [_] := hO
  refine zc hO [] [(6, zqA b4), (7, zqz 0), (8, .bool false)] zql fun j => ?_
  refine zu ?_
  injection hF with hF
  subst hF
  have hV0 := hO.val (i := 0) rfl (off := 0) (agg := true) (n := 3) rfl
  have hO := hO.sel [] (by decide)
  exact hQ _ _ _ _ _ (zce rfl (hV0) (zeI (zeI rfl))) hO hL ⟨_, rfl, rfl, (RdT.nil _ _)⟩
 ·refine zl (congrArg Value.bool hb9) ?_
  refine zm (zd hO 2 [] [(0, .slice A0 p0.length c0), (2, zqz p2), (6, zqA b4), (9, .int .u64 c5.1), (27, .slice A0 p0.length c0), (28, zqz c5.2.1)] zqo fun j => ?_)
  obtain ⟨c10, h11, hF⟩ := bind_some hF
  refine zD hO (ze8 r0 h11) rfl fun _ σ _ _ hO h12 h13 => ?_
  have hL := hL.trans h12
  have r0 := r0.le h12
  obtain ⟨rfl, rfl⟩ := h13
  have hO : Obs _ _ [_] := hO
  refine zc hO [] [(0, .slice A0 p0.length c0), (2, zqz p2), (6, zqA b4), (7, zqz c10.2.1), (9, .int .u64 c5.1), (10, zqz c10.2.2), (11, .int .u64 c10.1)] zqp fun j => ?_
  refine ze (zc hO [] [(0, .slice A0 p0.length c0), (2, zqz p2), (6, zqA b4), (7, zqz c10.2.1), (9, .int .u64 c5.1), (11, .int .u64 c10.1), (38, .bool ((c10.2.2 != 0) || (decide (c10.1 > 16777216))))] (And.intro (And.intro rfl rfl) (fun _ => zqy zqo)) fun j => ?_)
  rcases zi hF with ⟨hb14, hF⟩ | ⟨hb14, hF⟩
  ·refine zk (congrArg Value.bool hb14) ?_
   refine ze (zd hO 1 [0] [(6, zqA b4), (39, .agg #[(.int .i64 0), (.int .i64 0), (.slice none 0 0)])] (And.intro (And.intro rfl rfl) zqk) fun j => ?_)
   refine zO hO (i := 0) rfl (off := 0) rfl rfl rfl rfl (Nat.le_of_ble_eq_true rfl) rfl fun σ hO => ?_
   have hO : Obs _ _ [_] := hO
   refine zc hO [] [(6, zqA b4), (7, zqz 0), (8, .bool false)] zql fun j => ?_
   refine zu ?_
   injection hF with hF
   subst hF
   have hV0 := hO.val (i := 0) rfl (off := 0) (agg := true) (n := 3) rfl
   have hO := hO.sel [] (by decide)
   exact hQ _ _ _ _ _ (zce rfl (hV0) (zeI (zeI rfl))) hO hL ⟨_, rfl, rfl, (RdT.nil _ _)⟩
  ·refine zl (congrArg Value.bool hb14) ?_
   refine zm (zd hO 5 [] [(0, .slice A0 p0.length c0), (6, zqA b4), (7, zqz c10.2.1), (11, .int .u64 c10.1), (43, zqz (IntKind.i64.wrap (p2 + (IntKind.i64.wrap c5.1)))), (44, zqA b4)] zqo fun j => ?_)
   refine zO hO (i := 0) rfl (off := 0) rfl rfl rfl rfl (Nat.le_of_ble_eq_true rfl) rfl fun σ hO => ?_
   have hO : Obs _ _ [_] := hO
   refine zh (zd hO 6 [0] [(0, .slice A0 p0.length c0), (6, zqA b4), (7, zqz c10.2.1), (49, zqz (IntKind.i64.wrap ((IntKind.i64.wrap (p2 + (IntKind.i64.wrap c5.1))) + (IntKind.i64.wrap c10.1)))), (50, .pointer (some ⟨b4, 1, none⟩))] (And.intro (And.intro rfl rfl) zqn) fun j => ?_)
   refine zO hO (i := 0) rfl (off := 1) rfl rfl rfl rfl (Nat.le_of_ble_eq_true rfl) rfl fun σ hO => ?_
   have hO : Obs _ _ [_] := hO
   refine zh (zd hO 2 [] [(6, zqA b4), (52, .slice A0 p0.length c0), (53, zqz c10.2.1)] zql fun j => ?_)
   obtain ⟨c15, h16, hF⟩ := bind_some hF
   refine zD hO (zqa r0 h16) rfl fun _ σ _ _ hO h17 h18 => ?_
   have hL := hL.trans h17
   have r0 := r0.le h17
   obtain ⟨v19, rfl, rfl, r22⟩ := h18
   obtain ⟨A20, c21, rfl, -⟩ := r22.form
   have hO : Obs _ _ [_] := hO
   refine zd hO 5 [] [(6, zqA b4), (55, .slice A20 c15.1.length c21), (56, zqz c15.2.1), (57, zqz c15.2.2), (58, .pointer (some ⟨b4, 2, none⟩))] zqn fun j => ?_
   refine zO hO (i := 0) rfl (off := 2) rfl rfl rfl rfl (Nat.le_of_ble_eq_true rfl) rfl fun σ hO => ?_
   have hO : Obs _ _ [_] := hO
   refine zc hO [] [(6, zqA b4), (7, zqz c15.2.1), (10, zqz c15.2.2)] zql fun j => ?_
   refine zd hO 7 [0, 0] [(6, zqA b4), (59, .agg #[(.int .i64 (IntKind.i64.wrap (p2 + (IntKind.i64.wrap c5.1)))), (.int .i64 (IntKind.i64.wrap ((IntKind.i64.wrap (p2 + (IntKind.i64.wrap c5.1))) + (IntKind.i64.wrap c10.1)))), (.slice A20 c15.1.length c21)]), (60, zqz c15.2.1), (67, .bool ((c15.2.2 == 0) && (decide ((IntKind.i64.wrap ((IntKind.i64.wrap (p2 + (IntKind.i64.wrap c5.1))) + (IntKind.i64.wrap c10.1))) ≤ 16777216))))] (And.intro (And.intro rfl rfl) (And.intro (And.intro rfl rfl) (And.intro (And.intro rfl rfl) (fun _ => zqy zql)))) fun j => ?_
   refine zO hO (i := 0) rfl (off := 0) rfl rfl rfl rfl (Nat.le_of_ble_eq_true rfl) rfl fun σ hO => ?_
   have hO : Obs _ _ [_] := hO
   refine zc hO [] [(6, zqA b4), (7, zqz c15.2.1), (8, .bool ((c15.2.2 == 0) && (decide ((IntKind.i64.wrap ((IntKind.i64.wrap (p2 + (IntKind.i64.wrap c5.1))) + (IntKind.i64.wrap c10.1))) ≤ 16777216))))] zql fun j => ?_
   refine zK ?_
   injection hF with hF
   subst hF
   have hV0 := hO.val (i := 0) rfl (off := 0) (agg := true) (n := 3) rfl
   have hO := hO.sel [] (by decide)
   exact hQ _ _ _ _ _ (zce rfl (hV0) (zeI (zeI rfl))) hO hL ⟨_, rfl, rfl, r22⟩
theorem zo2 {τ : Hp} {v0 : Value} {p0 : (List UInt8)} {p1 : Int} (r0 : RdT Ty.u8 τ v0 p0) {rr : (List zq) × Int × Int} (hF : zfk p0 p1 = some rr) :
  Ctr Tryz.prog 73 #[v0, .int .i64 p1] τ [] (fun v τ' vs' => ∃ (v0 : Value), v = .tuple #[v0, .int .i64 rr.2.1, .int .i64 rr.2.2] ∧ vs' = [] ∧ RdT zT τ' v0 rr.1) := by
 obtain ⟨A0, c0, rfl, -⟩ := r0.form
 refine zM (args := [.slice A0 p0.length c0, .int .i64 p1]) hm Tryz.func73 s73 rfl fun w0 σ hO Q hQ => ?_
 unfold zfk at hF
 have hL := Hp.le.refl τ
 show wpn _ _ a73.body _ _ _
 unfold a73
 dsimp only
 refine zc hO [] [(0, .slice A0 p0.length c0), (1, zqz p1), (4, .slice none 0 0)] zql fun j => ?_
 refine ze (zc hO [] [(0, .slice A0 p0.length c0), (1, zqz p1), (4, .slice none 0 0), (19, .bool ((decide (p1 < 0)) || (decide (p1 > (p0.length : Int)))))] (And.intro (And.intro rfl rfl) (fun _ => zqy zql)) fun j => ?_)
 rcases zi hF with ⟨hb3, hF⟩ | ⟨hb3, hF⟩
 ·refine zk (congrArg Value.bool hb3) ?_
  refine ze (zc hO [] [(4, .slice none 0 0), (5, zqz 0), (6, zqz 1)] zql fun j => ?_)
  refine zu ?_
  injection hF with hF
  subst hF
  exact hQ _ _ _ _ _ rfl hO hL ⟨_, rfl, rfl, (RdT.nil _ _)⟩
 ·refine zl (congrArg Value.bool hb3) ?_
  refine zm (zd hO 2 [] [(0, .slice A0 p0.length c0), (4, .slice none 0 0), (21, .slice A0 p0.length c0), (22, zqz p1)] zqm fun j => ?_)
  obtain ⟨c4, h5, hF⟩ := bind_some hF
  refine zD hO (ze8 r0 h5) rfl fun _ σ _ _ hO h6 h7 => ?_
  have hL := hL.trans h6
  have r0 := r0.le h6
  obtain ⟨rfl, rfl⟩ := h7
  have hO : Obs _ _ [] := hO
  refine zc hO [] [(0, .slice A0 p0.length c0), (4, .slice none 0 0), (5, zqz c4.2.1), (6, zqz c4.2.2), (7, .int .u64 c4.1)] zqn fun j => ?_
  refine ze (zc hO [] [(0, .slice A0 p0.length c0), (4, .slice none 0 0), (5, zqz c4.2.1), (7, .int .u64 c4.1), (32, .bool ((c4.2.2 != 0) || (decide (c4.1 > 4000))))] (And.intro (And.intro rfl rfl) (fun _ => zqy zqm)) fun j => ?_)
  rcases zi hF with ⟨hb8, hF⟩ | ⟨hb8, hF⟩
  ·refine zk (congrArg Value.bool hb8) ?_
   refine ze (zc hO [] [(4, .slice none 0 0), (5, zqz 0), (6, zqz 5)] zql fun j => ?_)
   refine zu ?_
   injection hF with hF
   subst hF
   exact hQ _ _ _ _ _ rfl hO hL ⟨_, rfl, rfl, (RdT.nil _ _)⟩
  ·refine zl (congrArg Value.bool hb8) ?_
   refine zm (zc hO [] [(0, .slice A0 p0.length c0), (4, .slice none 0 0), (5, zqz c4.2.1), (7, .int .u64 c4.1), (8, zqz 0)] zqn fun j => ?_)
   refine ze (zc hO [] [(0, .slice A0 p0.length c0), (4, .slice none 0 0), (5, zqz c4.2.1), (8, zqz 0), (33, .int .u64 c4.1), (34, .int .u64 0)] zqo fun j => ?_)
   refine zt ?_
   have hO := hO.no
   have hO : Obs _ _ [_] := hO
   refine zZ (fun (n : Nat) e' σ' => ∃ (A39 : Option Addr) (c40 : Nat) (o41 : Ob) (x42 : List zq) (x44 : Int) (x45 : Int) (x46 : Int) (τ' : Hp), agr [(0, .slice A0 p0.length c0), (4, .slice A39 x42.length c40), (5, zqz x44), (8, zqz x45), (33, .int .u64 c4.1), (34, .int .u64 x46)] e' ∧ Obs τ' σ' [o41] ∧ Hp.le τ τ' ∧ RdT Ty.u8 τ' (.slice A0 p0.length c0) p0 ∧ zr zT 99 τ' (.slice A39 x42.length c40) x42 o41 ∧ zeT p0 c4 n x42 x44 x45 x46 = some rr) big ⟨none, 0, none, [], c4.2.1, 0, 0, _, zqy zqn, hO, hL, r0, zr.nil _ _ _, hF⟩ ?_
   clear hF hO hL
   rintro n76 e σ ⟨A39, c40, o41, x42, x44, x45, x46, _, hA, hO, hL, r38, w43, hF⟩
   rw [← zL _ _ hA]
   cases n76 with
   | zero => exact nomatch (show none = some rr from hF)
   | succ n76 =>
    replace hF : zdH (zeT p0 c4 n76) p0 c4 x42 x44 x45 x46 = some rr := hF
    unfold zdH at hF
    refine zc hO [] [(0, .slice A0 p0.length c0), (4, .slice A39 x42.length c40), (5, zqz x44), (8, zqz x45), (33, .int .u64 c4.1), (34, .int .u64 x46), (35, .bool (decide (x46 < c4.1)))] zqp fun j => ?_
    rcases zi hF with ⟨hb77, hF⟩ | ⟨hb77, hF⟩
    ·refine zk (congrArg Value.bool hb77) ?_
     refine zm (zt (zd hO 3 [] [(0, .slice A0 p0.length c0), (4, .slice A39 x42.length c40), (33, .int .u64 c4.1), (34, .int .u64 x46), (37, .slice A0 p0.length c0), (38, zqz x44), (39, zqz x45)] zqp fun j => ?_))
     obtain ⟨c78, h79, hF⟩ := bind_some hF
     refine zD hO (zmt r38 h79) rfl fun _ σ _ _ hO h80 h81 => ?_
     have hL := hL.trans h80
     have r38 := r38.le h80
     have w43 := w43.le h80
     obtain ⟨v82, rfl, rfl, r83⟩ := h81
     obtain ⟨A84, c85, rfl, -⟩ := r83.form
     have hO : Obs _ _ [_] := hO
     refine zd hO 4 [] [(0, .slice A0 p0.length c0), (4, .slice A39 x42.length c40), (33, .int .u64 c4.1), (34, .int .u64 x46), (41, .agg #[(.int .i64 c78.1.From), (.int .i64 c78.1.To), (.slice A84 c78.1.At.length c85)]), (42, zqz c78.2.1), (43, .bool c78.2.2)] zqp fun j => ?_
     refine zbq hO fun b86 σ hO => ?_
     have hO : Obs _ _ [_, _] := hO
     refine zO hO (i := 1) rfl (off := 0) rfl rfl rfl rfl (Nat.le_of_ble_eq_true rfl) rfl fun σ hO => ?_
     have hO : Obs _ _ [_, _] := hO
     refine zc hO [] [(0, .slice A0 p0.length c0), (4, .slice A39 x42.length c40), (9, zqA b86), (10, zqz c78.2.1), (11, .bool c78.2.2), (33, .int .u64 c4.1), (34, .int .u64 x46)] zqp fun j => ?_
     refine ze (zc hO [] [(0, .slice A0 p0.length c0), (4, .slice A39 x42.length c40), (9, zqA b86), (10, zqz c78.2.1), (33, .int .u64 c4.1), (34, .int .u64 x46), (45, .bool (!c78.2.2))] zqp fun j => ?_)
     rcases zi hF with ⟨hb87, hF⟩ | ⟨hb87, hF⟩
     ·refine zk (congrArg Value.bool hb87) ?_
      refine ze (zc hO [] [(4, .slice none 0 0), (5, zqz 0), (6, zqz 5)] zql fun j => ?_)
      refine zu (zw (zn (zn (zw (zn ?_)))))
      injection hF with hF
      subst hF
      have hO := hO.sel [] (by decide)
      exact hQ _ _ _ _ _ rfl hO hL ⟨_, rfl, rfl, (RdT.nil _ _)⟩
     ·refine zl (congrArg Value.bool hb87) ?_
      refine zm (zfw (zd hO 5 [1, 1] [(0, .slice A0 p0.length c0), (33, .int .u64 c4.1), (34, .int .u64 x46), (46, .slice A39 x42.length c40), (47, .agg #[(.int .i64 c78.1.From), (.int .i64 c78.1.To), (.slice A84 c78.1.At.length c85)]), (50, .pointer (some ⟨b86, 1, none⟩)), (51, zqz c78.1.To), (52, zqz c78.2.1)] (And.intro (And.intro rfl rfl) (And.intro (And.intro rfl rfl) zqq)) fun j => ?_))
      refine zbz (zbX (T := zT) (l := ([(⟨c78.1.From, c78.1.To, c78.1.At⟩ : zq)] : List zq)) (cs := [.int .i64 c78.1.From, .int .i64 c78.1.To, .slice A84 c78.1.At.length c85]) hO rfl ⟨[.int .i64 c78.1.From, .int .i64 c78.1.To, .slice A84 c78.1.At.length c85], _, rfl, ⟨_, rfl, r83⟩, rfl⟩ rfl (by decide) fun _ σ o90 w91 hO => ?_)
      obtain ⟨A88, c89, rfl, -⟩ := w91.form
      have hO : Obs _ _ [_, _, _] := hO
      refine zh (zbx ⟨(zbi rfl (hO.val (i := 1) (off := 1) (agg := false) (n := 1) rfl rfl) rfl), trivial⟩ ?_)
      refine zbz ?_
      obtain ⟨_, h93, r92, hO⟩ := w91.share hO (i := 2) rfl
      have hL := hL.trans h93
      have r38 := r38.le h93
      have w43 := w43.le h93
      have r83 := r83.le h93
      have hO : Obs _ _ [_, _, _] := hO
      obtain ⟨_, hr98, hF⟩ := bind_some hF
      refine zd8 (T := zT) hO w43 (i := 0) rfl rfl rfl r92 hr98 (by decide) fun _ σ o96 w97 hO => ?_
      obtain ⟨A94, c95, rfl, -⟩ := w97.form
      have hO : Obs _ _ [_, _, _] := hO
      refine zh (zbx ⟨(zbi rfl (hO.val (i := 1) (off := 1) (agg := false) (n := 1) rfl rfl) rfl), trivial⟩ ?_)
      refine zbz (zc hO [] [(0, .slice A0 p0.length c0), (4, .slice A94 (x42 ++ ([(⟨c78.1.From, c78.1.To, c78.1.At⟩ : zq)] : List zq)).length c95), (33, .int .u64 c4.1), (34, .int .u64 x46), (50, .pointer (some ⟨b86, 1, none⟩)), (51, zqz c78.1.To), (52, zqz c78.2.1)] zqp fun j => ?_)
      refine zbx ⟨(zbi rfl (hO.val (i := 1) (off := 1) (agg := false) (n := 1) rfl rfl) rfl), trivial⟩ ?_
      refine zc hO [] [(0, .slice A0 p0.length c0), (4, .slice A94 (x42 ++ ([(⟨c78.1.From, c78.1.To, c78.1.At⟩ : zq)] : List zq)).length c95), (5, zqz c78.2.1), (8, zqz c78.1.To), (33, .int .u64 c4.1), (34, .int .u64 x46)] zqo fun j => ?_
      refine zg (zP (zj (zA (zc hO [] [(0, .slice A0 p0.length c0), (4, .slice A94 (x42 ++ ([(⟨c78.1.From, c78.1.To, c78.1.At⟩ : zq)] : List zq)).length c95), (5, zqz c78.2.1), (8, zqz c78.1.To), (33, .int .u64 c4.1), (34, .int .u64 (IntKind.u64.wrap (x46 + 1)))] zqo fun j => ?_))))
      refine zg (zj ?_)
      have hO := hO.sel [0] (by decide)
      exact ⟨n76, Nat.lt_succ_self _, A94, c95, o96, (x42 ++ ([(⟨c78.1.From, c78.1.To, c78.1.At⟩ : zq)] : List zq)), c78.2.1, c78.1.To, (IntKind.u64.wrap (x46 + 1)), _, zqy zqn, hO, hL, r38, w97, hF⟩
    ·refine zl (congrArg Value.bool hb77) ?_
     refine zU (zY (z0 (zj (ze (zd hO 1 [] [(4, .slice A39 x42.length c40), (5, zqz x44), (54, .slice A39 x42.length c40)] zql fun j => ?_)))))
     obtain ⟨_, h100, r99, hO⟩ := w43.share hO (i := 0) rfl
     have hL := hL.trans h100
     have hO : Obs _ _ [_] := hO
     obtain ⟨c101, h102, hF⟩ := bind_some hF
     refine zD hO (zib r99 h102) rfl fun _ σ _ _ hO h103 h104 => ?_
     have hL := hL.trans h103
     have r99 := r99.le h103
     obtain ⟨rfl, rfl⟩ := h104
     have hO : Obs _ _ [_] := hO
     refine zc hO [] [(4, .slice A39 x42.length c40), (5, zqz x44), (56, .bool (!c101))] zql fun j => ?_
     rcases zi hF with ⟨hb105, hF⟩ | ⟨hb105, hF⟩
     ·refine zk (congrArg Value.bool hb105) ?_
      refine ze (zc hO [] [(4, .slice none 0 0), (5, zqz 0), (6, zqz 5)] zql fun j => ?_)
      refine zu ?_
      injection hF with hF
      subst hF
      have hO := hO.sel [] (by decide)
      exact hQ _ _ _ _ _ rfl hO hL ⟨_, rfl, rfl, (RdT.nil _ _)⟩
     ·refine zl (congrArg Value.bool hb105) ?_
      refine zm (zc hO [] [(4, .slice A39 x42.length c40), (5, zqz x44), (6, zqz 0)] zql fun j => ?_)
      refine zK ?_
      injection hF with hF
      subst hF
      have hO := hO.sel [] (by decide)
      exact hQ _ _ _ _ _ rfl hO hL ⟨_, rfl, rfl, r99⟩
theorem zmX {τ : Hp} {q0 : zp} {bm0 : Nat} {vm0_0 : Value} (rm0_0 : RdT Ty.u8 τ vm0_0 q0.b) {rr : (List zq) × zp} (hF : zdI q0 = some rr) :
  Ctr Tryz.prog 46 #[.pointer (some ⟨bm0, 0, none⟩)] τ [some (bm0, ⟨[vm0_0, .int .i64 q0.at_, .bool q0.failed], 82, 3, true⟩)] (fun v τ' vs' => ∃ (v0 : Value) (u0_0 : Value), v = v0 ∧ vs' = [some (bm0, ⟨[u0_0, .int .i64 rr.2.at_, .bool rr.2.failed], 82, 3, true⟩)] ∧ RdT zT τ' v0 rr.1 ∧ RdT Ty.u8 τ' u0_0 rr.2.b) := by
 obtain ⟨Am0_0, cm0_0, rfl, -⟩ := rm0_0.form
 refine zM (args := [.pointer (some ⟨bm0, 0, none⟩)]) hm Tryz.func46 s46 rfl fun w0 σ hO Q hQ => ?_
 unfold zdI at hF
 have hL := Hp.le.refl τ
 show wpn _ _ a46.body _ _ _
 unfold a46
 dsimp only
 refine zc hO [] [(0, zqA bm0)] zqj fun j => ?_
 refine zbr (zd hO 8 [0, 0] [(0, zqA bm0), (10, .slice Am0_0 q0.b.length cm0_0), (14, zqz q0.at_)] (And.intro (And.intro rfl rfl) (And.intro (And.intro rfl rfl) zql)) fun j => ?_)
 obtain ⟨c2, h3, hF⟩ := bind_some hF
 refine zD hO (zo2 rm0_0 h3) rfl fun _ σ _ _ hO h4 h5 => ?_
 have hL := hL.trans h4
 have rm0_0 := rm0_0.le h4
 obtain ⟨v6, rfl, rfl, r9⟩ := h5
 obtain ⟨A7, c8, rfl, -⟩ := r9.form
 have hO : Obs _ _ [_] := hO
 refine zc hO [] [(0, zqA bm0), (3, .slice A7 c2.1.length c8), (4, zqz c2.2.1), (5, zqz c2.2.2)] zqm fun j => ?_
 refine ze (zc hO [0] [(0, zqA bm0), (3, .slice A7 c2.1.length c8), (4, zqz c2.2.1), (26, .bool (q0.failed || (c2.2.2 != 0)))] (And.intro (And.intro rfl rfl) (And.intro (And.intro rfl rfl) (fun _ => zqy zql))) fun j => ?_)
 rcases zi hF with ⟨hb10, hF⟩ | ⟨hb10, hF⟩
 ·refine zk (congrArg Value.bool hb10) ?_
  refine ze (zd hO 3 [] [(0, zqA bm0), (29, .pointer (some ⟨bm0, 2, none⟩))] zqk fun j => ?_)
  refine zO hO (i := 0) rfl (off := 2) rfl rfl rfl rfl (Nat.le_of_ble_eq_true rfl) rfl fun σ hO => ?_
  have hO : Obs _ _ [_] := hO
  refine zh (ze (zc hO [] [(0, zqA bm0), (2, .slice none 0 0)] zqk fun j => ?_))
  refine zu ?_
  injection hF with hF
  subst hF
  exact hQ _ _ _ _ _ rfl hO hL ⟨_, _, rfl, rfl, (RdT.nil _ _), rm0_0⟩
 ·refine zl (congrArg Value.bool hb10) ?_
  refine zm (zd hO 4 [] [(0, zqA bm0), (3, .slice A7 c2.1.length c8), (31, zqz c2.2.1), (33, .pointer (some ⟨bm0, 1, none⟩))] zqm fun j => ?_)
  refine zO hO (i := 0) rfl (off := 1) rfl rfl rfl rfl (Nat.le_of_ble_eq_true rfl) rfl fun σ hO => ?_
  have hO : Obs _ _ [_] := hO
  refine zh (zc hO [] [(0, zqA bm0), (2, .slice A7 c2.1.length c8)] zqk fun j => ?_)
  refine zK ?_
  injection hF with hF
  subst hF
  exact hQ _ _ _ _ _ rfl hO hL ⟨_, _, rfl, rfl, r9, rm0_0⟩
theorem znV {τ : Hp} {qf0 : zp} {bmf0 : Nat} {vmf0_0 : Value} {af0 : Addr} {qf1 : zo} {bmf1 : Nat} {vmf1_3 : Value} {vmf1_4 : Value} {omf1_4 : Ob} (rmf0_0 : RdT Ty.u8 τ vmf0_0 qf0.b) (mf0 : At τ af0 [.pointer (some ⟨bmf0, 0, none⟩)]) (rmf1_3 : RdT zby τ vmf1_3 qf1.Vars) (wmf1_4 : zr (Ty.slice zT) 54 τ vmf1_4 qf1.Spans omf1_4) {rr : zG × zp × zo} (hF : zdS qf0 qf1 = some rr) :
  Ctr Tryz.prog 44 #[.pointer (some af0), .pointer (some ⟨bmf1, 0, none⟩)] τ [some (bmf0, ⟨[vmf0_0, .int .i64 qf0.at_, .bool qf0.failed], 82, 3, true⟩), some (bmf1, ⟨[.string qf1.Name, .int .i64 qf1.From, .int .i64 qf1.To, vmf1_3, vmf1_4], 48, 5, true⟩), omf1_4] (fun v τ' vs' => ∃ (v0_5 : Value) (u0_0 : Value) (u1_3 : Value) (u1_4 : Value) (y1_4 : Ob), v = .agg #[.string rr.1.Name, .int .u8 rr.1.Type_.Kind.toNat, .int .i64 rr.1.Type_.N, .string rr.1.Type_.Name, .int .i64 rr.1.Words, v0_5] ∧ vs' = [some (bmf0, ⟨[u0_0, .int .i64 rr.2.1.at_, .bool rr.2.1.failed], 82, 3, true⟩), some (bmf1, ⟨[.string rr.2.2.Name, .int .i64 rr.2.2.From, .int .i64 rr.2.2.To, u1_3, u1_4], 48, 5, true⟩), y1_4] ∧ RdT Ty.str τ' v0_5 rr.1.Fields ∧ RdT Ty.u8 τ' u0_0 rr.2.1.b ∧ RdT zby τ' u1_3 rr.2.2.Vars ∧ zr (Ty.slice zT) 54 τ' u1_4 rr.2.2.Spans y1_4) := by
 obtain ⟨Amf0_0, cmf0_0, rfl, -⟩ := rmf0_0.form
 obtain ⟨Amf1_3, cmf1_3, rfl, -⟩ := rmf1_3.form
 obtain ⟨Amf1_4, cmf1_4, rfl, -⟩ := wmf1_4.form
 refine zM (args := [.pointer (some af0), .pointer (some ⟨bmf1, 0, none⟩)]) hm Tryz.func44 s44 rfl fun w0 σ hO Q hQ => ?_
 unfold zdS at hF
 have hL := Hp.le.refl τ
 show wpn _ _ a44.body _ _ _
 unfold a44
 dsimp only
 refine zbq hO fun b1 σ hO => ?_
 have hO : Obs _ _ [_, _, _, _] := hO
 refine zh (zy rfl (mf0.le hO.base).fst ?_)
 obtain ⟨c2, h3, hF⟩ := bind_some hF
 have hO := hO.sel [1, 2, 3, 0] (by decide)
 refine zX (hs := [_, _, _]) (vs := [_]) hO (zqe (q0 := (⟨qf0.b, qf0.at_, qf0.failed⟩ : zp)) rmf0_0 h3) rfl fun _ σ _ _ hO h4 h5 => ?_
 have hL := hL.trans h4
 have mf0 := mf0.le h4
 have rmf1_3 := rmf1_3.le h4
 have wmf1_4 := wmf1_4.le h4
 obtain ⟨v6, v10, rfl, rfl, r7, r13⟩ := h5
 obtain ⟨A8, c9, rfl, -⟩ := r7.form
 obtain ⟨A11, c12, rfl, -⟩ := r13.form
 have hO : Obs _ _ [_, _, _, _] := hO
 refine zbq hO fun b14 σ hO => ?_
 have hO : Obs _ _ [_, _, _, _, _] := hO
 refine zO hO (i := 4) rfl (off := 0) rfl rfl rfl rfl (Nat.le_of_ble_eq_true rfl) rfl fun σ hO => ?_
 have hO : Obs _ _ [_, _, _, _, _] := hO
 refine zh (zbr (zd hO 2 [0] [(0, .pointer (some af0)), (1, zqA bmf1), (2, zqA b1), (3, zqA b14), (6, .pointer (some ⟨bmf1, 4, none⟩)), (7, .slice Amf1_4 qf1.Spans.length cmf1_4)] (And.intro (And.intro rfl rfl) zqo) fun j => ?_))
 refine zy rfl (mf0.le hO.base).fst ?_
 refine zbz ?_
 obtain ⟨c15, h16, hF⟩ := bind_some hF
 have hO := hO.sel [0, 1, 2, 4, 3] (by decide)
 refine zX (hs := [_, _, _, _]) (vs := [_]) hO (zmX (q0 := (⟨c2.2.b, c2.2.at_, c2.2.failed⟩ : zp)) r13 h16) rfl fun _ σ _ _ hO h17 h18 => ?_
 have hL := hL.trans h17
 have mf0 := mf0.le h17
 have wmf1_4 := wmf1_4.le h17
 have rmf1_3 := rmf1_3.le h17
 have r7 := r7.le h17
 obtain ⟨v19, v23, rfl, rfl, r22, r26⟩ := h18
 obtain ⟨A20, c21, rfl, -⟩ := r22.form
 obtain ⟨A24, c25, rfl, -⟩ := r26.form
 have hO : Obs _ _ [_, _, _, _, _] := hO
 refine zh (zbx ⟨(zbi rfl (hO.val (i := 0) (off := 4) (agg := false) (n := 1) rfl rfl) rfl), trivial⟩ ?_)
 refine zbz (zbX (T := (Ty.slice zT)) (l := ([c15.1] : List (List zq))) (cs := [.slice A20 c15.1.length c21]) hO rfl ⟨[.slice A20 c15.1.length c21], _, rfl, ⟨_, rfl, r22⟩, rfl⟩ rfl (by decide) fun _ σ o29 w30 hO => ?_)
 obtain ⟨A27, c28, rfl, -⟩ := w30.form
 have hO : Obs _ _ [_, _, _, _, _, _] := hO
 refine zh (zbx ⟨(zbi rfl (hO.val (i := 0) (off := 4) (agg := false) (n := 1) rfl rfl) rfl), trivial⟩ ?_)
 obtain ⟨_, h32, r31, hO⟩ := w30.share hO (i := 5) rfl
 have hL := hL.trans h32
 have mf0 := mf0.le h32
 have wmf1_4 := wmf1_4.le h32
 have r22 := r22.le h32
 have rmf1_3 := rmf1_3.le h32
 have r7 := r7.le h32
 have r26 := r26.le h32
 have hO : Obs _ _ [_, _, _, _, _, _] := hO
 obtain ⟨_, hr37, hF⟩ := bind_some hF
 refine zd8 (T := (Ty.slice zT)) hO wmf1_4 (i := 1) rfl rfl rfl r31 hr37 (by decide) fun _ σ o35 w36 hO => ?_
 obtain ⟨A33, c34, rfl, -⟩ := w36.form
 have hO : Obs _ _ [_, _, _, _, _, _] := hO
 refine zd hO 1 [] [(0, .pointer (some af0)), (1, zqA bmf1), (2, zqA b1), (3, zqA b14), (11, .slice A33 (qf1.Spans ++ ([c15.1] : List (List zq))).length c34), (12, .pointer (some ⟨bmf1, 4, none⟩))] zqo fun j => ?_
 refine zO hO (i := 0) rfl (off := 4) rfl rfl rfl rfl (Nat.le_of_ble_eq_true rfl) rfl fun σ hO => ?_
 have hO : Obs _ _ [_, _, _, _, _, _] := hO
 refine zh (zd hO 1 [3] [(0, .pointer (some af0)), (1, zqA bmf1), (2, zqA b1), (13, .agg #[(.string c2.1.Name), (.int .u8 (c2.1.Type_.Kind.toNat : Int)), (.int .i64 c2.1.Type_.N), (.string c2.1.Type_.Name), (.int .i64 c2.1.Words), (.slice A8 c2.1.Fields.length c9)])] (And.intro (And.intro rfl rfl) zqm) fun j => ?_)
 refine zO hO (i := 2) rfl (off := 0) rfl rfl rfl rfl (Nat.le_of_ble_eq_true rfl) rfl fun σ hO => ?_
 have hO : Obs _ _ [_, _, _, _, _, _] := hO
 refine zh (zK ?_)
 injection hF with hF
 subst hF
 have hV0 := hO.val (i := 2) rfl (off := 0) (agg := true) (n := 6) rfl
 have hO := hO.sel [4, 0, 1] (by decide)
 exact hQ _ _ _ _ _ (zce rfl (hV0) rfl) hO hL ⟨_, _, _, _, _, rfl, rfl, r7, r26, rmf1_3, w36⟩
theorem zpv {τ : Hp} {q0 : zp} {bm0 : Nat} {vm0_0 : Value} {p1 : Int} {a2_0 : Addr} {q2_1 : zo} {bm2_1 : Nat} {vm2_1_3 : Value} {vm2_1_4 : Value} {om2_1_4 : Ob} (rm0_0 : RdT Ty.u8 τ vm0_0 q0.b) (m2_0 : At τ a2_0 [.pointer (some ⟨bm0, 0, none⟩)]) (rm2_1_3 : RdT zby τ vm2_1_3 q2_1.Vars) (wm2_1_4 : zr (Ty.slice zT) 54 τ vm2_1_4 q2_1.Spans om2_1_4) {rr : (List zG) × zp × zo} (hF : zfI q0 p1 q2_1 = some rr) :
  Ctr Tryz.prog 43 #[.pointer (some ⟨bm0, 0, none⟩), .int .i64 p1, .func (.func 44) #[] #[(.pointer (some a2_0)), (.pointer (some ⟨bm2_1, 0, none⟩))]] τ [some (bm0, ⟨[vm0_0, .int .i64 q0.at_, .bool q0.failed], 82, 3, true⟩), some (bm2_1, ⟨[.string q2_1.Name, .int .i64 q2_1.From, .int .i64 q2_1.To, vm2_1_3, vm2_1_4], 48, 5, true⟩), om2_1_4] (fun v τ' vs' => ∃ (v0 : Value) (o0 : Ob) (u0_0 : Value) (u1_3 : Value) (u1_4 : Value) (y1_4 : Ob), v = v0 ∧ vs' = [o0, some (bm0, ⟨[u0_0, .int .i64 rr.2.1.at_, .bool rr.2.1.failed], 82, 3, true⟩), some (bm2_1, ⟨[.string rr.2.2.Name, .int .i64 rr.2.2.From, .int .i64 rr.2.2.To, u1_3, u1_4], 48, 5, true⟩), y1_4] ∧ zr zby 53 τ' v0 rr.1 o0 ∧ RdT Ty.u8 τ' u0_0 rr.2.1.b ∧ RdT zby τ' u1_3 rr.2.2.Vars ∧ zr (Ty.slice zT) 54 τ' u1_4 rr.2.2.Spans y1_4) := by
 obtain ⟨Am0_0, cm0_0, rfl, -⟩ := rm0_0.form
 obtain ⟨Am2_1_3, cm2_1_3, rfl, -⟩ := rm2_1_3.form
 obtain ⟨Am2_1_4, cm2_1_4, rfl, -⟩ := wm2_1_4.form
 refine zM (args := [.pointer (some ⟨bm0, 0, none⟩), .int .i64 p1, .func (.func 44) #[] #[(.pointer (some a2_0)), (.pointer (some ⟨bm2_1, 0, none⟩))]]) hm Tryz.func43 s43 rfl fun w0 σ hO Q hQ => ?_
 unfold zfI at hF
 have hL := Hp.le.refl τ
 show wpn _ _ a43.body _ _ _
 unfold a43
 dsimp only
 refine zc hO [] [(0, zqA bm0), (1, zqz p1), (2, .func (.func 44) #[] #[(.pointer (some a2_0)), (.pointer (some ⟨bm2_1, 0, none⟩))])] zql fun j => ?_
 refine zc hO [] [(0, zqA bm0), (1, zqz p1), (2, .func (.func 44) #[] #[(.pointer (some a2_0)), (.pointer (some ⟨bm2_1, 0, none⟩))]), (7, .slice none 0 0)] zqm fun j => ?_
 refine ze (zd hO 2 [] [(0, zqA bm0), (2, .func (.func 44) #[] #[(.pointer (some a2_0)), (.pointer (some ⟨bm2_1, 0, none⟩))]), (7, .slice none 0 0), (9, zqA bm0), (10, zqz p1)] zqn fun j => ?_)
 obtain ⟨c4, h5, hF⟩ := bind_some hF
 have hO := hO.sel [1, 2, 0] (by decide)
 refine zX (hs := [_, _]) (vs := [_]) hO (zb3 (q0 := (⟨q0.b, q0.at_, q0.failed⟩ : zp)) rm0_0 h5) rfl fun _ σ _ _ hO h6 h7 => ?_
 have hL := hL.trans h6
 have m2_0 := m2_0.le h6
 have rm2_1_3 := rm2_1_3.le h6
 have wm2_1_4 := wm2_1_4.le h6
 obtain ⟨v8, rfl, rfl, r11⟩ := h7
 obtain ⟨A9, c10, rfl, -⟩ := r11.form
 have hO : Obs _ _ [_, _, _] := hO
 refine zc hO [] [(0, zqA bm0), (2, .func (.func 44) #[] #[(.pointer (some a2_0)), (.pointer (some ⟨bm2_1, 0, none⟩))]), (7, .slice none 0 0), (8, zqz c4.1)] zqm fun j => ?_
 refine zt ?_
 have hO := hO.no
 have hO : Obs _ _ [_, _, _, _] := hO
 have hO := hO.sel [2, 0, 1, 3] (by decide)
 refine zZ (fun (n : Nat) e' σ' => ∃ (A48 : Option Addr) (c49 : Nat) (x50 : List UInt8) (x52 : Int) (x53 : Bool) (x55 : ByteArray) (x56 : Int) (x57 : Int) (A58 : Option Addr) (c59 : Nat) (x60 : List zG) (A62 : Option Addr) (c63 : Nat) (o64 : Ob) (x65 : List (List zq)) (A67 : Option Addr) (c68 : Nat) (o69 : Ob) (x70 : List zG) (x72 : Int) (τ' : Hp), agr [(0, zqA bm0), (2, .func (.func 44) #[] #[(.pointer (some a2_0)), (.pointer (some ⟨bm2_1, 0, none⟩))]), (7, .slice A67 x70.length c68), (8, zqz x72)] e' ∧ Obs τ' σ' [some (bm0, ⟨[.slice A48 x50.length c49, .int .i64 x52, .bool x53], 82, 3, true⟩), some (bm2_1, ⟨[.string x55, .int .i64 x56, .int .i64 x57, .slice A58 x60.length c59, .slice A62 x65.length c63], 48, 5, true⟩), o64, o69] ∧ Hp.le τ τ' ∧ RdT Ty.u8 τ' (.slice A48 x50.length c49) x50 ∧ At τ' a2_0 [.pointer (some ⟨bm0, 0, none⟩)] ∧ RdT zby τ' (.slice A58 x60.length c59) x60 ∧ zr (Ty.slice zT) 54 τ' (.slice A62 x65.length c63) x65 o64 ∧ zr zby 53 τ' (.slice A67 x70.length c68) x70 o69 ∧ zfU  n x50 x52 x53 x55 x56 x57 x60 x65 x70 x72 = some rr) big ⟨A9, c10, c4.2.b, c4.2.at_, c4.2.failed, q2_1.Name, q2_1.From, q2_1.To, Am2_1_3, cm2_1_3, q2_1.Vars, Am2_1_4, cm2_1_4, om2_1_4, q2_1.Spans, none, 0, none, [], c4.1, _, zqy zql, hO, hL, r11, m2_0, rm2_1_3, wm2_1_4, zr.nil _ _ _, hF⟩ ?_
 clear hF hO hL
 rintro n100 e σ ⟨A48, c49, x50, x52, x53, x55, x56, x57, A58, c59, x60, A62, c63, o64, x65, A67, c68, o69, x70, x72, _, hA, hO, hL, r51, m54, r61, w66, w71, hF⟩
 rw [← zL _ _ hA]
 cases n100 with
 | zero => exact nomatch (show none = some rr from hF)
 | succ n100 =>
  replace hF : zh0 (zfU  n100) x50 x52 x53 x55 x56 x57 x60 x65 x70 x72 = some rr := hF
  unfold zh0 at hF
  refine ze (zc hO [0] [(0, zqA bm0), (2, .func (.func 44) #[] #[(.pointer (some a2_0)), (.pointer (some ⟨bm2_1, 0, none⟩))]), (7, .slice A67 x70.length c68), (8, zqz x72), (20, .bool ((decide (x72 > 0)) && (!x53)))] (And.intro (And.intro rfl rfl) (And.intro (And.intro rfl rfl) (fun _ => zqy zqm))) fun j => ?_)
  rcases zi hF with ⟨hb101, hF⟩ | ⟨hb101, hF⟩
  ·refine zk (congrArg Value.bool hb101) ?_
   refine zm (zt (zA (zd hO 2 [] [(0, zqA bm0), (2, .func (.func 44) #[] #[(.pointer (some a2_0)), (.pointer (some ⟨bm2_1, 0, none⟩))]), (8, zqz x72), (23, .slice A67 x70.length c68), (24, .func (.func 44) #[] #[(.pointer (some a2_0)), (.pointer (some ⟨bm2_1, 0, none⟩))])] zqn fun j => ?_)))
   obtain ⟨c102, h103, hF⟩ := bind_some hF
   have hO := hO.sel [3, 0, 1, 2] (by decide)
   refine zfS (hs := [_]) (vs := [_, _, _]) rfl (by kernel_rfl) hO (znV (qf0 := (⟨x50, x52, x53⟩ : zp)) (qf1 := (⟨x55, x56, x57, x60, x65⟩ : zo)) r51 m54 r61 w66 h103) rfl fun _ σ _ _ hO h104 h105 => ?_
   have hL := hL.trans h104
   have m54 := m54.le h104
   have w71 := w71.le h104
   obtain ⟨v106, v110, v114, v118, o121, rfl, rfl, r107, r113, r117, w122⟩ := h105
   obtain ⟨A108, c109, rfl, -⟩ := r107.form
   obtain ⟨A111, c112, rfl, -⟩ := r113.form
   obtain ⟨A115, c116, rfl, -⟩ := r117.form
   obtain ⟨A119, c120, rfl, -⟩ := w122.form
   have hO : Obs _ _ [_, _, _, _] := hO
   obtain ⟨_, hr127, hF⟩ := bind_some hF
   refine zbN (T := zby) (y := (⟨c102.1.Name, (⟨c102.1.Type_.Kind, c102.1.Type_.N, c102.1.Type_.Name⟩ : zbp), c102.1.Words, c102.1.Fields⟩ : zG)) hO w71 (i := 0) rfl rfl (fun _ => rfl) rfl ⟨_, rfl, r107⟩ rfl hr127 (by decide) fun u _ σ o125 w126 hO => ?_
   obtain ⟨A123, c124, rfl, -⟩ := w126.form
   have hO : Obs _ _ [_, _, _, _] := hO
   refine zc hO [] [(0, zqA bm0), (2, .func (.func 44) #[] #[(.pointer (some a2_0)), (.pointer (some ⟨bm2_1, 0, none⟩))]), (7, .slice A123 (x70 ++ [(⟨c102.1.Name, (⟨c102.1.Type_.Kind, c102.1.Type_.N, c102.1.Type_.Name⟩ : zbp), c102.1.Words, c102.1.Fields⟩ : zG)]).length c124), (8, zqz x72)] zqm fun j => ?_
   refine zg (zP (zj (zA (zc hO [] [(0, zqA bm0), (2, .func (.func 44) #[] #[(.pointer (some a2_0)), (.pointer (some ⟨bm2_1, 0, none⟩))]), (7, .slice A123 (x70 ++ [(⟨c102.1.Name, (⟨c102.1.Type_.Kind, c102.1.Type_.N, c102.1.Type_.Name⟩ : zbp), c102.1.Words, c102.1.Fields⟩ : zG)]).length c124), (8, zqz (IntKind.i64.wrap (x72 - 1)))] zqm fun j => ?_))))
   refine zg (zj ?_)
   have hO := hO.sel [1, 2, 3, 0] (by decide)
   exact ⟨n100, Nat.lt_succ_self _, A111, c112, c102.2.1.b, c102.2.1.at_, c102.2.1.failed, c102.2.2.Name, c102.2.2.From, c102.2.2.To, A115, c116, c102.2.2.Vars, A119, c120, o121, c102.2.2.Spans, A123, c124, o125, (x70 ++ [(⟨c102.1.Name, (⟨c102.1.Type_.Kind, c102.1.Type_.N, c102.1.Type_.Name⟩ : zbp), c102.1.Words, c102.1.Fields⟩ : zG)]), (IntKind.i64.wrap (x72 - 1)), _, zqy zql, hO, hL, r113, m54, r117, w122, w126, hF⟩
  ·refine zl (congrArg Value.bool hb101) ?_
   refine zU (zY (z0 (zj (zc hO [] [(0, zqA bm0), (2, .func (.func 44) #[] #[(.pointer (some a2_0)), (.pointer (some ⟨bm2_1, 0, none⟩))]), (6, .slice A67 x70.length c68)] zql fun j => ?_))))
   refine zK ?_
   injection hF with hF
   subst hF
   have hO := hO.sel [3, 0, 1, 2] (by decide)
   exact hQ _ _ _ _ _ rfl hO hL ⟨_, _, _, _, _, _, rfl, rfl, w71, r51, r61, w66⟩
theorem zpf {τ : Hp} {qf0 : zp} {bmf0 : Nat} {vmf0_0 : Value} {af0 : Addr} {qf1 : Int} {bmf1 : Nat} (rmf0_0 : RdT Ty.u8 τ vmf0_0 qf0.b) (mf0 : At τ af0 [.pointer (some ⟨bmf0, 0, none⟩)]) {rr : zo × zp × Int} (hF : zdU qf0 qf1 = some rr) :
  Ctr Tryz.prog 40 #[.pointer (some af0), .pointer (some ⟨bmf1, 0, none⟩)] τ [some (bmf0, ⟨[vmf0_0, .int .i64 qf0.at_, .bool qf0.failed], 82, 3, true⟩), some (bmf1, ⟨[.int .i64 qf1], 3, 1, true⟩)] (fun v τ' vs' => ∃ (v0_3 : Value) (v0_4 : Value) (u0_0 : Value), v = .agg #[.string rr.1.Name, .int .i64 rr.1.From, .int .i64 rr.1.To, v0_3, v0_4] ∧ vs' = [some (bmf0, ⟨[u0_0, .int .i64 rr.2.1.at_, .bool rr.2.1.failed], 82, 3, true⟩), some (bmf1, ⟨[.int .i64 rr.2.2], 3, 1, true⟩)] ∧ RdT zby τ' v0_3 rr.1.Vars ∧ RdT (Ty.slice zT) τ' v0_4 rr.1.Spans ∧ RdT Ty.u8 τ' u0_0 rr.2.1.b) := by
 obtain ⟨Amf0_0, cmf0_0, rfl, -⟩ := rmf0_0.form
 refine zM (args := [.pointer (some af0), .pointer (some ⟨bmf1, 0, none⟩)]) hm Tryz.func40 s40 rfl fun w0 σ hO Q hQ => ?_
 unfold zdU at hF
 have hL := Hp.le.refl τ
 show wpn _ _ a40.body _ _ _
 unfold a40
 dsimp only
 refine zbq hO fun b1 σ hO => ?_
 have hO : Obs _ _ [_, _, _] := hO
 refine zh (zca (zy rfl (mf0.le hO.base).fst ?_))
 refine zh (zca (zc hO [1] [(0, .pointer (some af0)), (1, zqA bmf1), (2, zqA b1), (4, zqA bmf0), (6, zqz qf1)] (And.intro (And.intro rfl rfl) zqn) fun j => ?_))
 refine zca (zy rfl (mf0.le hO.base).fst ?_)
 refine zh (zco (fun e' σ' => ∃ (A19 : Option Addr) (c20 : Nat) (x21 : List UInt8) (x23 : Int) (x24 : Bool) (b26 : Nat) (x27 : ByteArray) (x28 : Int) (τ' : Hp), agr [(0, .pointer (some af0)), (1, zqA bmf1), (2, zqA b1), (3, zqA b26)] e' ∧ Obs τ' σ' [some (bmf0, ⟨[.slice A19 x21.length c20, .int .i64 x23, .bool x24], 82, 3, true⟩), some (bmf1, ⟨[.int .i64 qf1], 3, 1, true⟩), some (b1, ⟨[.string (⟨#[]⟩ : ByteArray), .int .i64 0, .int .i64 0, .slice none 0 0, .slice none 0 0], 48, 5, true⟩), some (b26, ⟨[.string x27, .int .i64 x28, .int .i64 0, .slice none 0 0, .slice none 0 0], 48, 5, true⟩)] ∧ Hp.le τ τ' ∧ RdT Ty.u8 τ' (.slice A19 x21.length c20) x21 ∧ At τ' af0 [.pointer (some ⟨bmf0, 0, none⟩)] ∧ zfP x21 x23 x24 x27 x28 = some rr) ?_ ?_)
 ·refine zml ?_
  obtain ⟨c64, h65, hF⟩ := bind_some hF
  obtain ⟨c72, h73, hF⟩ := bind_some hF
  refine zhy ?_ ?_
  ·refine zbL (zbz ?_)
   have hO := hO.sel [1, 2, 0] (by decide)
   refine zX (hs := [_, _]) (vs := [_]) hO (zgd (q0 := (⟨qf0.b, qf0.at_, qf0.failed⟩ : zp)) rmf0_0 h65) rfl fun _ σ _ _ hO h66 h67 => ?_
   have hL := hL.trans h66
   have mf0 := mf0.le h66
   obtain ⟨v68, rfl, rfl, r71⟩ := h67
   obtain ⟨A69, c70, rfl, -⟩ := r71.form
   have hO : Obs _ _ [_, _, _] := hO
   refine zh (zbx ⟨(zbi rfl (mf0.le hO.base).fst rfl), (zbi rfl (hO.val (i := 0) (off := 0) (agg := false) (n := 1) rfl rfl) rfl), trivial⟩ ?_)
   refine zh (zhy ?_ ?_)
   ·refine zbL (zbz (zX (hs := [_, _]) (vs := [_]) hO (zb3 (q0 := (⟨c64.2.b, c64.2.at_, c64.2.failed⟩ : zp)) r71 h73) rfl fun _ σ _ _ hO h74 h75 => ?_))
    have hL := hL.trans h74
    have mf0 := mf0.le h74
    obtain ⟨v76, rfl, rfl, r79⟩ := h75
    obtain ⟨A77, c78, rfl, -⟩ := r79.form
    have hO : Obs _ _ [_, _, _] := hO
    refine zh (zbx ⟨(zbi rfl (hO.val (i := 0) (off := 0) (agg := false) (n := 1) rfl rfl) rfl), trivial⟩ ?_)
    refine zh (zca (zc hO [] [(0, .pointer (some af0)), (1, zqA bmf1), (2, zqA b1), (4, zqA bmf0), (5, .string c64.1), (6, zqz qf1), (7, zqA bmf0), (9, zqz (IntKind.i64.wrap (qf1 + c72.1)))] zqq fun j => ?_))
    refine zca (zc hO [] [(0, .pointer (some af0)), (1, zqA bmf1), (2, zqA b1), (4, zqA bmf0), (6, zqz qf1), (7, zqA bmf0), (10, .agg #[(.string c64.1), (.int .i64 (IntKind.i64.wrap (qf1 + c72.1))), (.int .i64 0), (.slice none 0 0), (.slice none 0 0)])] zqp fun j => ?_)
    refine zbL (zbz (zbq hO fun b80 σ hO => ?_))
    have hO : Obs _ _ [_, _, _, _] := hO
    refine zh (zbx ⟨(zbi rfl (mf0.le hO.base).fst rfl), (zbi rfl (hO.val (i := 0) (off := 0) (agg := false) (n := 1) rfl rfl) rfl), (zbi rfl (mf0.le hO.base).fst rfl), trivial⟩ ?_)
    refine zh (zbL (zO hO (i := 3) rfl (off := 0) rfl rfl rfl rfl (Nat.le_of_ble_eq_true rfl) rfl fun σ hO => ?_))
    have hO : Obs _ _ [_, _, _, _] := hO
    refine zh (zet (zg (zj ?_)))
    have hO := hO.sel [2, 0, 1, 3] (by decide)
    exact ⟨A77, c78, c72.2.b, c72.2.at_, c72.2.failed, b80, c64.1, (IntKind.i64.wrap (qf1 + c72.1)), _, zqy zql, hO, hL, r79, mf0, hF⟩
   ·refine zbL (zbz (zbq hO fun b80 σ hO => ?_))
    have hO : Obs _ _ [_, _, _, _] := hO
    refine zh (zbx ⟨(zbi rfl (mf0.le hO.base).fst rfl), (zbi rfl (hO.val (i := 0) (off := 0) (agg := false) (n := 1) rfl rfl) rfl), (zbi rfl (mf0.le hO.base).fst rfl), trivial⟩ ?_)
    refine zh (zbL (zbz ?_))
    have hO := hO.sel [0, 1, 3, 2] (by decide)
    refine zX (hs := [_, _, _]) (vs := [_]) hO (zb3 (q0 := (⟨c64.2.b, c64.2.at_, c64.2.failed⟩ : zp)) r71 h73) rfl fun _ σ _ _ hO h74 h75 => ?_
    have hL := hL.trans h74
    have mf0 := mf0.le h74
    obtain ⟨v76, rfl, rfl, r79⟩ := h75
    obtain ⟨A77, c78, rfl, -⟩ := r79.form
    have hO : Obs _ _ [_, _, _, _] := hO
    refine zh (zbx ⟨(zbi rfl (hO.val (i := 0) (off := 0) (agg := false) (n := 1) rfl rfl) rfl), trivial⟩ ?_)
    refine zh (zca (zc hO [] [(0, .pointer (some af0)), (1, zqA bmf1), (2, zqA b1), (3, zqA b80), (5, .string c64.1), (9, zqz (IntKind.i64.wrap (qf1 + c72.1)))] zqo fun j => ?_))
    refine zca (zc hO [] [(0, .pointer (some af0)), (1, zqA bmf1), (2, zqA b1), (3, zqA b80), (10, .agg #[(.string c64.1), (.int .i64 (IntKind.i64.wrap (qf1 + c72.1))), (.int .i64 0), (.slice none 0 0), (.slice none 0 0)])] zqn fun j => ?_)
    refine zbL (zO hO (i := 2) rfl (off := 0) rfl rfl rfl rfl (Nat.le_of_ble_eq_true rfl) rfl fun σ hO => ?_)
    have hO : Obs _ _ [_, _, _, _] := hO
    refine zh (zet (zg (zj ?_)))
    have hO := hO.sel [3, 0, 1, 2] (by decide)
    exact ⟨A77, c78, c72.2.b, c72.2.at_, c72.2.failed, b80, c64.1, (IntKind.i64.wrap (qf1 + c72.1)), _, zqy zql, hO, hL, r79, mf0, hF⟩
  ·refine zbL (zbz (zbq hO fun b80 σ hO => ?_))
   have hO : Obs _ _ [_, _, _, _] := hO
   refine zh (zbx ⟨(zbi rfl (mf0.le hO.base).fst rfl), (zbi rfl (hO.val (i := 1) (off := 0) (agg := false) (n := 1) rfl rfl) rfl), (zbi rfl (mf0.le hO.base).fst rfl), trivial⟩ ?_)
   refine zh (zbL (zbz ?_))
   have hO := hO.sel [1, 2, 3, 0] (by decide)
   refine zX (hs := [_, _, _]) (vs := [_]) hO (zgd (q0 := (⟨qf0.b, qf0.at_, qf0.failed⟩ : zp)) rmf0_0 h65) rfl fun _ σ _ _ hO h66 h67 => ?_
   have hL := hL.trans h66
   have mf0 := mf0.le h66
   obtain ⟨v68, rfl, rfl, r71⟩ := h67
   obtain ⟨A69, c70, rfl, -⟩ := r71.form
   have hO : Obs _ _ [_, _, _, _] := hO
   refine zh (zbx ⟨(zbi rfl (mf0.le hO.base).fst rfl), (zbi rfl (hO.val (i := 0) (off := 0) (agg := false) (n := 1) rfl rfl) rfl), trivial⟩ ?_)
   refine zh (zbL (zbz (zX (hs := [_, _, _]) (vs := [_]) hO (zb3 (q0 := (⟨c64.2.b, c64.2.at_, c64.2.failed⟩ : zp)) r71 h73) rfl fun _ σ _ _ hO h74 h75 => ?_)))
   have hL := hL.trans h74
   have mf0 := mf0.le h74
   obtain ⟨v76, rfl, rfl, r79⟩ := h75
   obtain ⟨A77, c78, rfl, -⟩ := r79.form
   have hO : Obs _ _ [_, _, _, _] := hO
   refine zh (zbx ⟨(zbi rfl (hO.val (i := 0) (off := 0) (agg := false) (n := 1) rfl rfl) rfl), trivial⟩ ?_)
   refine zh (zca (zc hO [] [(0, .pointer (some af0)), (1, zqA bmf1), (2, zqA b1), (3, zqA b80), (5, .string c64.1), (9, zqz (IntKind.i64.wrap (qf1 + c72.1)))] zqo fun j => ?_))
   refine zca (zc hO [] [(0, .pointer (some af0)), (1, zqA bmf1), (2, zqA b1), (3, zqA b80), (10, .agg #[(.string c64.1), (.int .i64 (IntKind.i64.wrap (qf1 + c72.1))), (.int .i64 0), (.slice none 0 0), (.slice none 0 0)])] zqn fun j => ?_)
   refine zbL (zO hO (i := 2) rfl (off := 0) rfl rfl rfl rfl (Nat.le_of_ble_eq_true rfl) rfl fun σ hO => ?_)
   have hO : Obs _ _ [_, _, _, _] := hO
   refine zh (zet (zg (zj ?_)))
   have hO := hO.sel [3, 0, 1, 2] (by decide)
   exact ⟨A77, c78, c72.2.b, c72.2.at_, c72.2.failed, b80, c64.1, (IntKind.i64.wrap (qf1 + c72.1)), _, zqy zql, hO, hL, r79, mf0, hF⟩
 ·rintro e σ ⟨A19, c20, x21, x23, x24, b26, x27, x28, _, hA, hO, hL, r22, m25, hF⟩
  rw [← zL _ _ hA]
  unfold zfP at hF
  refine zbr (zd hO 2 [3] [(0, .pointer (some af0)), (1, zqA bmf1), (2, zqA b1), (3, zqA b26), (11, .pointer (some ⟨b26, 1, none⟩)), (12, zqz x28)] (And.intro (And.intro rfl rfl) zqo) fun j => ?_)
  refine zy rfl (m25.le hO.base).fst ?_
  refine zbz ?_
  obtain ⟨c29, h30, hF⟩ := bind_some hF
  have hO := hO.sel [1, 2, 3, 0] (by decide)
  refine zX (hs := [_, _, _]) (vs := [_]) hO (zb3 (q0 := (⟨x21, x23, x24⟩ : zp)) r22 h30) rfl fun _ σ _ _ hO h31 h32 => ?_
  have hL := hL.trans h31
  have m25 := m25.le h31
  obtain ⟨v33, rfl, rfl, r36⟩ := h32
  obtain ⟨A34, c35, rfl, -⟩ := r36.form
  have hO : Obs _ _ [_, _, _, _] := hO
  refine zh (zbx ⟨(zbi rfl (hO.val (i := 2) (off := 1) (agg := false) (n := 1) rfl rfl) rfl), trivial⟩ ?_)
  refine zd hO 2 [] [(0, .pointer (some af0)), (1, zqA bmf1), (2, zqA b1), (3, zqA b26), (15, zqz (IntKind.i64.wrap (x28 + c29.1))), (16, .pointer (some ⟨b26, 2, none⟩))] zqo fun j => ?_
  refine zO hO (i := 2) rfl (off := 2) rfl rfl rfl rfl (Nat.le_of_ble_eq_true rfl) rfl fun σ hO => ?_
  have hO : Obs _ _ [_, _, _, _] := hO
  refine zh (zd hO 2 [2] [(0, .pointer (some af0)), (1, zqA bmf1), (2, zqA b1), (3, zqA b26), (18, zqz (IntKind.i64.wrap (x28 + c29.1)))] (And.intro (And.intro rfl rfl) zqn) fun j => ?_)
  refine zO hO (i := 0) rfl (off := 0) rfl rfl rfl rfl (Nat.le_of_ble_eq_true rfl) rfl fun σ hO => ?_
  have hO : Obs _ _ [_, _, _, _] := hO
  refine zh (zbr (zy rfl (m25.le hO.base).fst ?_))
  refine zy rfl (m25.le hO.base).fst ?_
  refine zd hO 8 [3, 0] [(0, .pointer (some af0)), (1, zqA bmf1), (2, zqA b1), (3, zqA b26), (27, .bool (c29.2.failed || (decide ((IntKind.i64.wrap (x28 + c29.1)) > 16777216)))), (29, .pointer (some ⟨bmf0, 2, none⟩))] (And.intro (And.intro rfl rfl) (And.intro (And.intro rfl rfl) (And.intro (And.intro rfl rfl) (fun _ => zqy zqn)))) fun j => ?_
  refine zO hO (i := 3) rfl (off := 2) rfl rfl rfl rfl (Nat.le_of_ble_eq_true rfl) rfl fun σ hO => ?_
  have hO : Obs _ _ [_, _, _, _] := hO
  refine zh (zy rfl (m25.le hO.base).fst ?_)
  refine zd hO 1 [] [(0, .pointer (some af0)), (1, zqA bmf1), (2, zqA b1), (3, zqA b26), (30, zqA bmf0), (31, .func (.func 44) #[] #[(.pointer (some af0)), (.pointer (some ⟨b26, 0, none⟩))])] zqo fun j => ?_
  have hO := hO.no
  have hO : Obs _ _ [_, _, _, _, _] := hO
  have w37 := zr.nil0 (T := (Ty.slice zT)) (ty := 54) hO
  obtain ⟨c38, h39, hF⟩ := bind_some hF
  have hO := hO.sel [0, 1, 3, 2, 4] (by decide)
  refine zX (hs := [_, _]) (vs := [_, _, _]) hO (zpv (q0 := (⟨c29.2.b, c29.2.at_, (c29.2.failed || (decide ((IntKind.i64.wrap (x28 + c29.1)) > 16777216)))⟩ : zp)) (q2_1 := (⟨x27, x28, (IntKind.i64.wrap (x28 + c29.1)), [], ([] : List (List zq))⟩ : zo)) r36 m25 (RdT.nil zby _) w37 h39) rfl fun _ σ _ _ hO h40 h41 => ?_
  have hL := hL.trans h40
  have m25 := m25.le h40
  obtain ⟨v42, o45, v47, v51, v55, o58, rfl, rfl, w46, r50, r54, w59⟩ := h41
  obtain ⟨A43, c44, rfl, -⟩ := w46.form
  obtain ⟨A48, c49, rfl, -⟩ := r50.form
  obtain ⟨A52, c53, rfl, -⟩ := r54.form
  obtain ⟨A56, c57, rfl, -⟩ := w59.form
  have hO : Obs _ _ [_, _, _, _, _, _] := hO
  refine zd hO 1 [] [(0, .pointer (some af0)), (1, zqA bmf1), (2, zqA b1), (3, zqA b26), (32, .slice A43 c38.1.length c44), (33, .pointer (some ⟨b26, 3, none⟩))] zqo fun j => ?_
  refine zO hO (i := 4) rfl (off := 3) rfl rfl rfl rfl (Nat.le_of_ble_eq_true rfl) rfl fun σ hO => ?_
  have hO : Obs _ _ [_, _, _, _, _, _] := hO
  refine zh (zd hO 1 [4] [(0, .pointer (some af0)), (1, zqA bmf1), (2, zqA b1), (34, .agg #[(.string c38.2.2.Name), (.int .i64 c38.2.2.From), (.int .i64 c38.2.2.To), (.slice A43 c38.1.length c44), (.slice A56 c38.2.2.Spans.length c57)])] (And.intro (And.intro rfl rfl) zqm) fun j => ?_)
  refine zO hO (i := 1) rfl (off := 0) rfl rfl rfl rfl (Nat.le_of_ble_eq_true rfl) rfl fun σ hO => ?_
  have hO : Obs _ _ [_, _, _, _, _, _] := hO
  refine zh (zK ?_)
  obtain ⟨_, h61, r60, hO⟩ := w46.share hO (i := 2) rfl
  have hL := hL.trans h61
  have m25 := m25.le h61
  have w59 := w59.le h61
  have r50 := r50.le h61
  have hO : Obs _ _ [_, _, _, _, _, _] := hO
  obtain ⟨_, h63, r62, hO⟩ := w59.share hO (i := 5) rfl
  have hL := hL.trans h63
  have m25 := m25.le h63
  have r60 := r60.le h63
  have r50 := r50.le h63
  have hO : Obs _ _ [_, _, _, _, _, _] := hO
  injection hF with hF
  subst hF
  have hV0 := hO.val (i := 1) rfl (off := 0) (agg := true) (n := 5) rfl
  have hO := hO.sel [3, 0] (by decide)
  exact hQ _ _ _ _ _ (zce rfl (hV0) rfl) hO hL ⟨_, _, _, rfl, rfl, r60, r62, r50⟩
theorem znM {τ : Hp} {q0 : zp} {bm0 : Nat} {vm0_0 : Value} {p1 : Int} {a2_0 : Addr} {q2_1 : Int} {bm2_1 : Nat} (rm0_0 : RdT Ty.u8 τ vm0_0 q0.b) (m2_0 : At τ a2_0 [.pointer (some ⟨bm0, 0, none⟩)]) {rr : (List zo) × zp × Int} (hF : zel q0 p1 q2_1 = some rr) :
  Ctr Tryz.prog 39 #[.pointer (some ⟨bm0, 0, none⟩), .int .i64 p1, .func (.func 40) #[] #[(.pointer (some a2_0)), (.pointer (some ⟨bm2_1, 0, none⟩))]] τ [some (bm0, ⟨[vm0_0, .int .i64 q0.at_, .bool q0.failed], 82, 3, true⟩), some (bm2_1, ⟨[.int .i64 q2_1], 3, 1, true⟩)] (fun v τ' vs' => ∃ (v0 : Value) (o0 : Ob) (u0_0 : Value), v = v0 ∧ vs' = [o0, some (bm0, ⟨[u0_0, .int .i64 rr.2.1.at_, .bool rr.2.1.failed], 82, 3, true⟩), some (bm2_1, ⟨[.int .i64 rr.2.2], 3, 1, true⟩)] ∧ zr zV 48 τ' v0 rr.1 o0 ∧ RdT Ty.u8 τ' u0_0 rr.2.1.b) := by
 obtain ⟨Am0_0, cm0_0, rfl, -⟩ := rm0_0.form
 refine zM (args := [.pointer (some ⟨bm0, 0, none⟩), .int .i64 p1, .func (.func 40) #[] #[(.pointer (some a2_0)), (.pointer (some ⟨bm2_1, 0, none⟩))]]) hm Tryz.func39 s39 rfl fun w0 σ hO Q hQ => ?_
 unfold zel at hF
 have hL := Hp.le.refl τ
 show wpn _ _ a39.body _ _ _
 unfold a39
 dsimp only
 refine zc hO [] [(0, zqA bm0), (1, zqz p1), (2, .func (.func 40) #[] #[(.pointer (some a2_0)), (.pointer (some ⟨bm2_1, 0, none⟩))])] zql fun j => ?_
 refine zc hO [] [(0, zqA bm0), (1, zqz p1), (2, .func (.func 40) #[] #[(.pointer (some a2_0)), (.pointer (some ⟨bm2_1, 0, none⟩))]), (7, .slice none 0 0)] zqm fun j => ?_
 refine ze (zd hO 2 [] [(0, zqA bm0), (2, .func (.func 40) #[] #[(.pointer (some a2_0)), (.pointer (some ⟨bm2_1, 0, none⟩))]), (7, .slice none 0 0), (9, zqA bm0), (10, zqz p1)] zqn fun j => ?_)
 obtain ⟨c4, h5, hF⟩ := bind_some hF
 have hO := hO.sel [1, 0] (by decide)
 refine zX (hs := [_]) (vs := [_]) hO (zb3 (q0 := (⟨q0.b, q0.at_, q0.failed⟩ : zp)) rm0_0 h5) rfl fun _ σ _ _ hO h6 h7 => ?_
 have hL := hL.trans h6
 have m2_0 := m2_0.le h6
 obtain ⟨v8, rfl, rfl, r11⟩ := h7
 obtain ⟨A9, c10, rfl, -⟩ := r11.form
 have hO : Obs _ _ [_, _] := hO
 refine zc hO [] [(0, zqA bm0), (2, .func (.func 40) #[] #[(.pointer (some a2_0)), (.pointer (some ⟨bm2_1, 0, none⟩))]), (7, .slice none 0 0), (8, zqz c4.1)] zqm fun j => ?_
 refine zt ?_
 have hO := hO.no
 have hO : Obs _ _ [_, _, _] := hO
 have hO := hO.sel [1, 0, 2] (by decide)
 refine zZ (fun (n : Nat) e' σ' => ∃ (A37 : Option Addr) (c38 : Nat) (x39 : List UInt8) (x41 : Int) (x42 : Bool) (x44 : Int) (A45 : Option Addr) (c46 : Nat) (o47 : Ob) (x48 : List zo) (x50 : Int) (τ' : Hp), agr [(0, zqA bm0), (2, .func (.func 40) #[] #[(.pointer (some a2_0)), (.pointer (some ⟨bm2_1, 0, none⟩))]), (7, .slice A45 x48.length c46), (8, zqz x50)] e' ∧ Obs τ' σ' [some (bm0, ⟨[.slice A37 x39.length c38, .int .i64 x41, .bool x42], 82, 3, true⟩), some (bm2_1, ⟨[.int .i64 x44], 3, 1, true⟩), o47] ∧ Hp.le τ τ' ∧ RdT Ty.u8 τ' (.slice A37 x39.length c38) x39 ∧ At τ' a2_0 [.pointer (some ⟨bm0, 0, none⟩)] ∧ zr zV 48 τ' (.slice A45 x48.length c46) x48 o47 ∧ zf2  n x39 x41 x42 x44 x48 x50 = some rr) big ⟨A9, c10, c4.2.b, c4.2.at_, c4.2.failed, q2_1, none, 0, none, [], c4.1, _, zqy zql, hO, hL, r11, m2_0, zr.nil _ _ _, hF⟩ ?_
 clear hF hO hL
 rintro n73 e σ ⟨A37, c38, x39, x41, x42, x44, A45, c46, o47, x48, x50, _, hA, hO, hL, r40, m43, w49, hF⟩
 rw [← zL _ _ hA]
 cases n73 with
 | zero => exact nomatch (show none = some rr from hF)
 | succ n73 =>
  replace hF : zjd (zf2  n73) x39 x41 x42 x44 x48 x50 = some rr := hF
  unfold zjd at hF
  refine ze (zc hO [0] [(0, zqA bm0), (2, .func (.func 40) #[] #[(.pointer (some a2_0)), (.pointer (some ⟨bm2_1, 0, none⟩))]), (7, .slice A45 x48.length c46), (8, zqz x50), (20, .bool ((decide (x50 > 0)) && (!x42)))] (And.intro (And.intro rfl rfl) (And.intro (And.intro rfl rfl) (fun _ => zqy zqm))) fun j => ?_)
  rcases zi hF with ⟨hb74, hF⟩ | ⟨hb74, hF⟩
  ·refine zk (congrArg Value.bool hb74) ?_
   refine zm (zt (zA (zd hO 2 [] [(0, zqA bm0), (2, .func (.func 40) #[] #[(.pointer (some a2_0)), (.pointer (some ⟨bm2_1, 0, none⟩))]), (8, zqz x50), (23, .slice A45 x48.length c46), (24, .func (.func 40) #[] #[(.pointer (some a2_0)), (.pointer (some ⟨bm2_1, 0, none⟩))])] zqn fun j => ?_)))
   obtain ⟨c75, h76, hF⟩ := bind_some hF
   have hO := hO.sel [2, 0, 1] (by decide)
   refine zfS (hs := [_]) (vs := [_, _]) rfl (by kernel_rfl) hO (zpf (qf0 := (⟨x39, x41, x42⟩ : zp)) r40 m43 h76) rfl fun _ σ _ _ hO h77 h78 => ?_
   have hL := hL.trans h77
   have m43 := m43.le h77
   have w49 := w49.le h77
   obtain ⟨v79, v83, v87, rfl, rfl, r80, r84, r90⟩ := h78
   obtain ⟨A81, c82, rfl, -⟩ := r80.form
   obtain ⟨A85, c86, rfl, -⟩ := r84.form
   obtain ⟨A88, c89, rfl, -⟩ := r90.form
   have hO : Obs _ _ [_, _, _] := hO
   obtain ⟨_, hr95, hF⟩ := bind_some hF
   refine zbN (T := zV) (y := (⟨c75.1.Name, c75.1.From, c75.1.To, c75.1.Vars, c75.1.Spans⟩ : zo)) hO w49 (i := 0) rfl rfl (fun _ => rfl) rfl ⟨_, _, rfl, r80, r84⟩ rfl hr95 (by decide) fun u _ σ o93 w94 hO => ?_
   obtain ⟨A91, c92, rfl, -⟩ := w94.form
   have hO : Obs _ _ [_, _, _] := hO
   refine zc hO [] [(0, zqA bm0), (2, .func (.func 40) #[] #[(.pointer (some a2_0)), (.pointer (some ⟨bm2_1, 0, none⟩))]), (7, .slice A91 (x48 ++ [(⟨c75.1.Name, c75.1.From, c75.1.To, c75.1.Vars, c75.1.Spans⟩ : zo)]).length c92), (8, zqz x50)] zqm fun j => ?_
   refine zg (zP (zj (zA (zc hO [] [(0, zqA bm0), (2, .func (.func 40) #[] #[(.pointer (some a2_0)), (.pointer (some ⟨bm2_1, 0, none⟩))]), (7, .slice A91 (x48 ++ [(⟨c75.1.Name, c75.1.From, c75.1.To, c75.1.Vars, c75.1.Spans⟩ : zo)]).length c92), (8, zqz (IntKind.i64.wrap (x50 - 1)))] zqm fun j => ?_))))
   refine zg (zj ?_)
   have hO := hO.sel [1, 2, 0] (by decide)
   exact ⟨n73, Nat.lt_succ_self _, A88, c89, c75.2.1.b, c75.2.1.at_, c75.2.1.failed, c75.2.2, A91, c92, o93, (x48 ++ [(⟨c75.1.Name, c75.1.From, c75.1.To, c75.1.Vars, c75.1.Spans⟩ : zo)]), (IntKind.i64.wrap (x50 - 1)), _, zqy zql, hO, hL, r90, m43, w94, hF⟩
  ·refine zl (congrArg Value.bool hb74) ?_
   refine zU (zY (z0 (zj (zc hO [] [(0, zqA bm0), (2, .func (.func 40) #[] #[(.pointer (some a2_0)), (.pointer (some ⟨bm2_1, 0, none⟩))]), (6, .slice A45 x48.length c46)] zql fun j => ?_))))
   refine zK ?_
   injection hF with hF
   subst hF
   have hO := hO.sel [2, 0, 1] (by decide)
   exact hQ _ _ _ _ _ rfl hO hL ⟨_, _, _, rfl, rfl, w49, r40⟩
theorem zpg {τ : Hp} {qf0 : zp} {bmf0 : Nat} {vmf0_0 : Value} {af0 : Addr} (rmf0_0 : RdT Ty.u8 τ vmf0_0 qf0.b) (mf0 : At τ af0 [.pointer (some ⟨bmf0, 0, none⟩)]) {rr : Int × zp} (hF : zdC qf0 = some rr) :
  Ctr Tryz.prog 50 #[.pointer (some af0)] τ [some (bmf0, ⟨[vmf0_0, .int .i64 qf0.at_, .bool qf0.failed], 82, 3, true⟩)] (fun v τ' vs' => ∃ (u0_0 : Value), v = .int .i64 rr.1 ∧ vs' = [some (bmf0, ⟨[u0_0, .int .i64 rr.2.at_, .bool rr.2.failed], 82, 3, true⟩)] ∧ RdT Ty.u8 τ' u0_0 rr.2.b) := by
 obtain ⟨Amf0_0, cmf0_0, rfl, -⟩ := rmf0_0.form
 refine zM (args := [.pointer (some af0)]) hm Tryz.func50 s50 rfl fun w0 σ hO Q hQ => ?_
 unfold zdC at hF
 have hL := Hp.le.refl τ
 show wpn _ _ a50.body _ _ _
 unfold a50
 dsimp only
 refine zc hO [] [(0, .pointer (some af0))] zqj fun j => ?_
 refine zy rfl (mf0.le hO.base).fst ?_
 obtain ⟨c1, h2, hF⟩ := bind_some hF
 refine zX (hs := []) (vs := [_]) hO (zb3 (q0 := (⟨qf0.b, qf0.at_, qf0.failed⟩ : zp)) rmf0_0 h2) rfl fun _ σ _ _ hO h3 h4 => ?_
 have hL := hL.trans h3
 have mf0 := mf0.le h3
 obtain ⟨v5, rfl, rfl, r8⟩ := h4
 obtain ⟨A6, c7, rfl, -⟩ := r8.form
 have hO : Obs _ _ [_] := hO
 refine zc hO [] [(0, .pointer (some af0)), (1, zqz c1.1)] zqk fun j => ?_
 refine zK ?_
 injection hF with hF
 subst hF
 exact hQ _ _ _ _ _ rfl hO hL ⟨_, rfl, rfl, r8⟩
theorem zpz {τ : Hp} {q0 : zp} {bm0 : Nat} {vm0_0 : Value} {p1 : Int} {a2_0 : Addr} (rm0_0 : RdT Ty.u8 τ vm0_0 q0.b) (m2_0 : At τ a2_0 [.pointer (some ⟨bm0, 0, none⟩)]) {rr : (List Int) × zp} (hF : zeV q0 p1 = some rr) :
  Ctr Tryz.prog 49 #[.pointer (some ⟨bm0, 0, none⟩), .int .i64 p1, .func (.func 50) #[] #[(.pointer (some a2_0))]] τ [some (bm0, ⟨[vm0_0, .int .i64 q0.at_, .bool q0.failed], 82, 3, true⟩)] (fun v τ' vs' => ∃ (v0 : Value) (o0 : Ob) (u0_0 : Value), v = v0 ∧ vs' = [o0, some (bm0, ⟨[u0_0, .int .i64 rr.2.at_, .bool rr.2.failed], 82, 3, true⟩)] ∧ zr (Ty.int .i64) 3 τ' v0 rr.1 o0 ∧ RdT Ty.u8 τ' u0_0 rr.2.b) := by
 obtain ⟨Am0_0, cm0_0, rfl, -⟩ := rm0_0.form
 refine zM (args := [.pointer (some ⟨bm0, 0, none⟩), .int .i64 p1, .func (.func 50) #[] #[(.pointer (some a2_0))]]) hm Tryz.func49 s49 rfl fun w0 σ hO Q hQ => ?_
 unfold zeV at hF
 have hL := Hp.le.refl τ
 show wpn _ _ a49.body _ _ _
 unfold a49
 dsimp only
 refine zc hO [] [(0, zqA bm0), (1, zqz p1), (2, .func (.func 50) #[] #[(.pointer (some a2_0))])] zql fun j => ?_
 refine zc hO [] [(0, zqA bm0), (1, zqz p1), (2, .func (.func 50) #[] #[(.pointer (some a2_0))]), (7, .slice none 0 0)] zqm fun j => ?_
 refine ze (zd hO 2 [] [(0, zqA bm0), (2, .func (.func 50) #[] #[(.pointer (some a2_0))]), (7, .slice none 0 0), (9, zqA bm0), (10, zqz p1)] zqn fun j => ?_)
 obtain ⟨c4, h5, hF⟩ := bind_some hF
 refine zX (hs := []) (vs := [_]) hO (zb3 (q0 := (⟨q0.b, q0.at_, q0.failed⟩ : zp)) rm0_0 h5) rfl fun _ σ _ _ hO h6 h7 => ?_
 have hL := hL.trans h6
 have m2_0 := m2_0.le h6
 obtain ⟨v8, rfl, rfl, r11⟩ := h7
 obtain ⟨A9, c10, rfl, -⟩ := r11.form
 have hO : Obs _ _ [_] := hO
 refine zc hO [] [(0, zqA bm0), (2, .func (.func 50) #[] #[(.pointer (some a2_0))]), (7, .slice none 0 0), (8, zqz c4.1)] zqm fun j => ?_
 refine zt ?_
 have hO := hO.no
 have hO : Obs _ _ [_, _] := hO
 refine zZ (fun (n : Nat) e' σ' => ∃ (A29 : Option Addr) (c30 : Nat) (x31 : List UInt8) (x33 : Int) (x34 : Bool) (A36 : Option Addr) (c37 : Nat) (o38 : Ob) (x39 : List Int) (x41 : Int) (τ' : Hp), agr [(0, zqA bm0), (2, .func (.func 50) #[] #[(.pointer (some a2_0))]), (7, .slice A36 x39.length c37), (8, zqz x41)] e' ∧ Obs τ' σ' [some (bm0, ⟨[.slice A29 x31.length c30, .int .i64 x33, .bool x34], 82, 3, true⟩), o38] ∧ Hp.le τ τ' ∧ RdT Ty.u8 τ' (.slice A29 x31.length c30) x31 ∧ At τ' a2_0 [.pointer (some ⟨bm0, 0, none⟩)] ∧ zr (Ty.int .i64) 3 τ' (.slice A36 x39.length c37) x39 o38 ∧ zdA  n x31 x33 x34 x39 x41 = some rr) big ⟨A9, c10, c4.2.b, c4.2.at_, c4.2.failed, none, 0, none, [], c4.1, _, zqy zql, hO, hL, r11, m2_0, zr.nil _ _ _, hF⟩ ?_
 clear hF hO hL
 rintro n56 e σ ⟨A29, c30, x31, x33, x34, A36, c37, o38, x39, x41, _, hA, hO, hL, r32, m35, w40, hF⟩
 rw [← zL _ _ hA]
 cases n56 with
 | zero => exact nomatch (show none = some rr from hF)
 | succ n56 =>
  replace hF : ziy (zdA  n56) x31 x33 x34 x39 x41 = some rr := hF
  unfold ziy at hF
  refine ze (zc hO [0] [(0, zqA bm0), (2, .func (.func 50) #[] #[(.pointer (some a2_0))]), (7, .slice A36 x39.length c37), (8, zqz x41), (20, .bool ((decide (x41 > 0)) && (!x34)))] (And.intro (And.intro rfl rfl) (And.intro (And.intro rfl rfl) (fun _ => zqy zqm))) fun j => ?_)
  rcases zi hF with ⟨hb57, hF⟩ | ⟨hb57, hF⟩
  ·refine zk (congrArg Value.bool hb57) ?_
   refine zm (zt (zA (zd hO 2 [] [(0, zqA bm0), (2, .func (.func 50) #[] #[(.pointer (some a2_0))]), (8, zqz x41), (23, .slice A36 x39.length c37), (24, .func (.func 50) #[] #[(.pointer (some a2_0))])] zqn fun j => ?_)))
   obtain ⟨c58, h59, hF⟩ := bind_some hF
   have hO := hO.sel [1, 0] (by decide)
   refine zfS (hs := [_]) (vs := [_]) rfl (by kernel_rfl) hO (zpg (qf0 := (⟨x31, x33, x34⟩ : zp)) r32 m35 h59) rfl fun _ σ _ _ hO h60 h61 => ?_
   have hL := hL.trans h60
   have m35 := m35.le h60
   have w40 := w40.le h60
   obtain ⟨v62, rfl, rfl, r65⟩ := h61
   obtain ⟨A63, c64, rfl, -⟩ := r65.form
   have hO : Obs _ _ [_, _] := hO
   obtain ⟨_, hr70, hF⟩ := bind_some hF
   refine zbN (T := (Ty.int .i64)) (y := c58.1) hO w40 (i := 0) rfl rfl (fun _ => rfl) rfl rfl rfl hr70 (by decide) fun u _ σ o68 w69 hO => ?_
   obtain ⟨A66, c67, rfl, -⟩ := w69.form
   have hO : Obs _ _ [_, _] := hO
   refine zc hO [] [(0, zqA bm0), (2, .func (.func 50) #[] #[(.pointer (some a2_0))]), (7, .slice A66 (x39 ++ [c58.1]).length c67), (8, zqz x41)] zqm fun j => ?_
   refine zg (zP (zj (zA (zc hO [] [(0, zqA bm0), (2, .func (.func 50) #[] #[(.pointer (some a2_0))]), (7, .slice A66 (x39 ++ [c58.1]).length c67), (8, zqz (IntKind.i64.wrap (x41 - 1)))] zqm fun j => ?_))))
   refine zg (zj ?_)
   have hO := hO.sel [1, 0] (by decide)
   exact ⟨n56, Nat.lt_succ_self _, A63, c64, c58.2.b, c58.2.at_, c58.2.failed, A66, c67, o68, (x39 ++ [c58.1]), (IntKind.i64.wrap (x41 - 1)), _, zqy zql, hO, hL, r65, m35, w69, hF⟩
  ·refine zl (congrArg Value.bool hb57) ?_
   refine zU (zY (z0 (zj (zc hO [] [(0, zqA bm0), (6, .slice A36 x39.length c37)] zqk fun j => ?_))))
   refine zK ?_
   injection hF with hF
   subst hF
   have hO := hO.sel [1, 0] (by decide)
   exact hQ _ _ _ _ _ rfl hO hL ⟨_, _, _, rfl, rfl, w40, r32⟩
theorem zm4 {τ : Hp} {qf0 : zp} {bmf0 : Nat} {vmf0_0 : Value} {af0 : Addr} (rmf0_0 : RdT Ty.u8 τ vmf0_0 qf0.b) (mf0 : At τ af0 [.pointer (some ⟨bmf0, 0, none⟩)]) {rr : zB × zp} (hF : zd2 qf0 = some rr) :
  Ctr Tryz.prog 48 #[.pointer (some af0)] τ [some (bmf0, ⟨[vmf0_0, .int .i64 qf0.at_, .bool qf0.failed], 82, 3, true⟩)] (fun v τ' vs' => ∃ (v0_2 : Value) (u0_0 : Value), v = .agg #[.int .i64 rr.1.Func, .int .i64 rr.1.Line, v0_2] ∧ vs' = [some (bmf0, ⟨[u0_0, .int .i64 rr.2.at_, .bool rr.2.failed], 82, 3, true⟩)] ∧ RdT (Ty.int .i64) τ' v0_2 rr.1.Scope ∧ RdT Ty.u8 τ' u0_0 rr.2.b) := by
 obtain ⟨Amf0_0, cmf0_0, rfl, -⟩ := rmf0_0.form
 refine zM (args := [.pointer (some af0)]) hm Tryz.func48 s48 rfl fun w0 σ hO Q hQ => ?_
 unfold zd2 at hF
 have hL := Hp.le.refl τ
 show wpn _ _ a48.body _ _ _
 unfold a48
 dsimp only
 refine zbq hO fun b1 σ hO => ?_
 have hO : Obs _ _ [_, _] := hO
 refine zh (zca (zy rfl (mf0.le hO.base).fst ?_))
 refine zh (zca (zy rfl (mf0.le hO.base).fst ?_))
 refine zh (zco (fun e' σ' => ∃ (A19 : Option Addr) (c20 : Nat) (x21 : List UInt8) (x23 : Int) (x24 : Bool) (b26 : Nat) (x27 : Int) (x28 : Int) (τ' : Hp), agr [(0, .pointer (some af0)), (1, zqA b1), (2, zqA b26)] e' ∧ Obs τ' σ' [some (bmf0, ⟨[.slice A19 x21.length c20, .int .i64 x23, .bool x24], 82, 3, true⟩), some (b1, ⟨[.int .i64 0, .int .i64 0, .slice none 0 0], 58, 3, true⟩), some (b26, ⟨[.int .i64 x27, .int .i64 x28, .slice none 0 0], 58, 3, true⟩)] ∧ Hp.le τ τ' ∧ RdT Ty.u8 τ' (.slice A19 x21.length c20) x21 ∧ At τ' af0 [.pointer (some ⟨bmf0, 0, none⟩)] ∧ zf4 x21 x23 x24 x27 x28 = some rr) ?_ ?_)
 ·refine zml ?_
  obtain ⟨c44, h45, hF⟩ := bind_some hF
  obtain ⟨c52, h53, hF⟩ := bind_some hF
  refine zhy ?_ ?_
  ·refine zbL (zbz ?_)
   have hO := hO.sel [1, 0] (by decide)
   refine zX (hs := [_]) (vs := [_]) hO (zb3 (q0 := (⟨qf0.b, qf0.at_, qf0.failed⟩ : zp)) rmf0_0 h45) rfl fun _ σ _ _ hO h46 h47 => ?_
   have hL := hL.trans h46
   have mf0 := mf0.le h46
   obtain ⟨v48, rfl, rfl, r51⟩ := h47
   obtain ⟨A49, c50, rfl, -⟩ := r51.form
   have hO : Obs _ _ [_, _] := hO
   refine zh (zbx ⟨(zbi rfl (mf0.le hO.base).fst rfl), trivial⟩ ?_)
   refine zh (zhy ?_ ?_)
   ·refine zbL (zX (hs := [_]) (vs := [_]) hO (zb3 (q0 := (⟨c44.2.b, c44.2.at_, c44.2.failed⟩ : zp)) r51 h53) rfl fun _ σ _ _ hO h54 h55 => ?_)
    have hL := hL.trans h54
    have mf0 := mf0.le h54
    obtain ⟨v56, rfl, rfl, r59⟩ := h55
    obtain ⟨A57, c58, rfl, -⟩ := r59.form
    have hO : Obs _ _ [_, _] := hO
    refine zh (zca (zc hO [] [(0, .pointer (some af0)), (1, zqA b1), (3, zqA bmf0), (5, zqA bmf0), (7, .agg #[(.int .i64 c44.1), (.int .i64 c52.1), (.slice none 0 0)])] zqn fun j => ?_))
    refine zbL (zbz (zbq hO fun b60 σ hO => ?_))
    have hO : Obs _ _ [_, _, _] := hO
    refine zh (zbx ⟨(zbi rfl (mf0.le hO.base).fst rfl), (zbi rfl (mf0.le hO.base).fst rfl), trivial⟩ ?_)
    refine zh (zbL (zO hO (i := 2) rfl (off := 0) rfl rfl rfl rfl (Nat.le_of_ble_eq_true rfl) rfl fun σ hO => ?_))
    have hO : Obs _ _ [_, _, _] := hO
    refine zh (zet (zg (zj ?_)))
    have hO := hO.sel [1, 0, 2] (by decide)
    exact ⟨A57, c58, c52.2.b, c52.2.at_, c52.2.failed, b60, c44.1, c52.1, _, zqy zqk, hO, hL, r59, mf0, hF⟩
   ·refine zbL (zbz (zbq hO fun b60 σ hO => ?_))
    have hO : Obs _ _ [_, _, _] := hO
    refine zh (zbx ⟨(zbi rfl (mf0.le hO.base).fst rfl), (zbi rfl (mf0.le hO.base).fst rfl), trivial⟩ ?_)
    refine zh (zbL ?_)
    have hO := hO.sel [0, 2, 1] (by decide)
    refine zX (hs := [_, _]) (vs := [_]) hO (zb3 (q0 := (⟨c44.2.b, c44.2.at_, c44.2.failed⟩ : zp)) r51 h53) rfl fun _ σ _ _ hO h54 h55 => ?_
    have hL := hL.trans h54
    have mf0 := mf0.le h54
    obtain ⟨v56, rfl, rfl, r59⟩ := h55
    obtain ⟨A57, c58, rfl, -⟩ := r59.form
    have hO : Obs _ _ [_, _, _] := hO
    refine zh (zca (zc hO [] [(0, .pointer (some af0)), (1, zqA b1), (2, zqA b60), (7, .agg #[(.int .i64 c44.1), (.int .i64 c52.1), (.slice none 0 0)])] zqm fun j => ?_))
    refine zbL (zO hO (i := 1) rfl (off := 0) rfl rfl rfl rfl (Nat.le_of_ble_eq_true rfl) rfl fun σ hO => ?_)
    have hO : Obs _ _ [_, _, _] := hO
    refine zh (zet (zg (zj ?_)))
    have hO := hO.sel [2, 0, 1] (by decide)
    exact ⟨A57, c58, c52.2.b, c52.2.at_, c52.2.failed, b60, c44.1, c52.1, _, zqy zqk, hO, hL, r59, mf0, hF⟩
  ·refine zbL (zbz (zbq hO fun b60 σ hO => ?_))
   have hO : Obs _ _ [_, _, _] := hO
   refine zh (zbx ⟨(zbi rfl (mf0.le hO.base).fst rfl), (zbi rfl (mf0.le hO.base).fst rfl), trivial⟩ ?_)
   refine zh (zbL (zbz ?_))
   have hO := hO.sel [1, 2, 0] (by decide)
   refine zX (hs := [_, _]) (vs := [_]) hO (zb3 (q0 := (⟨qf0.b, qf0.at_, qf0.failed⟩ : zp)) rmf0_0 h45) rfl fun _ σ _ _ hO h46 h47 => ?_
   have hL := hL.trans h46
   have mf0 := mf0.le h46
   obtain ⟨v48, rfl, rfl, r51⟩ := h47
   obtain ⟨A49, c50, rfl, -⟩ := r51.form
   have hO : Obs _ _ [_, _, _] := hO
   refine zh (zbx ⟨(zbi rfl (mf0.le hO.base).fst rfl), trivial⟩ ?_)
   refine zh (zbL (zX (hs := [_, _]) (vs := [_]) hO (zb3 (q0 := (⟨c44.2.b, c44.2.at_, c44.2.failed⟩ : zp)) r51 h53) rfl fun _ σ _ _ hO h54 h55 => ?_))
   have hL := hL.trans h54
   have mf0 := mf0.le h54
   obtain ⟨v56, rfl, rfl, r59⟩ := h55
   obtain ⟨A57, c58, rfl, -⟩ := r59.form
   have hO : Obs _ _ [_, _, _] := hO
   refine zh (zca (zc hO [] [(0, .pointer (some af0)), (1, zqA b1), (2, zqA b60), (7, .agg #[(.int .i64 c44.1), (.int .i64 c52.1), (.slice none 0 0)])] zqm fun j => ?_))
   refine zbL (zO hO (i := 1) rfl (off := 0) rfl rfl rfl rfl (Nat.le_of_ble_eq_true rfl) rfl fun σ hO => ?_)
   have hO : Obs _ _ [_, _, _] := hO
   refine zh (zet (zg (zj ?_)))
   have hO := hO.sel [2, 0, 1] (by decide)
   exact ⟨A57, c58, c52.2.b, c52.2.at_, c52.2.failed, b60, c44.1, c52.1, _, zqy zqk, hO, hL, r59, mf0, hF⟩
 ·rintro e σ ⟨A19, c20, x21, x23, x24, b26, x27, x28, _, hA, hO, hL, r22, m25, hF⟩
  rw [← zL _ _ hA]
  unfold zf4 at hF
  refine zy rfl (m25.le hO.base).fst ?_
  refine zd hO 1 [] [(0, .pointer (some af0)), (1, zqA b1), (2, zqA b26), (8, zqA bmf0), (9, .func (.func 50) #[] #[(.pointer (some af0))])] zqn fun j => ?_
  obtain ⟨c29, h30, hF⟩ := bind_some hF
  have hO := hO.sel [1, 2, 0] (by decide)
  refine zX (hs := [_, _]) (vs := [_]) hO (zpz (q0 := (⟨x21, x23, x24⟩ : zp)) r22 m25 h30) rfl fun _ σ _ _ hO h31 h32 => ?_
  have hL := hL.trans h31
  have m25 := m25.le h31
  obtain ⟨v33, o36, v38, rfl, rfl, w37, r41⟩ := h32
  obtain ⟨A34, c35, rfl, -⟩ := w37.form
  obtain ⟨A39, c40, rfl, -⟩ := r41.form
  have hO : Obs _ _ [_, _, _, _] := hO
  refine zd hO 1 [] [(0, .pointer (some af0)), (1, zqA b1), (2, zqA b26), (10, .slice A34 c29.1.length c35), (11, .pointer (some ⟨b26, 2, none⟩))] zqn fun j => ?_
  refine zO hO (i := 1) rfl (off := 2) rfl rfl rfl rfl (Nat.le_of_ble_eq_true rfl) rfl fun σ hO => ?_
  have hO : Obs _ _ [_, _, _, _] := hO
  refine zh (zd hO 1 [1] [(0, .pointer (some af0)), (1, zqA b1), (12, .agg #[(.int .i64 x27), (.int .i64 x28), (.slice A34 c29.1.length c35)])] (And.intro (And.intro rfl rfl) zql) fun j => ?_)
  refine zO hO (i := 0) rfl (off := 0) rfl rfl rfl rfl (Nat.le_of_ble_eq_true rfl) rfl fun σ hO => ?_
  have hO : Obs _ _ [_, _, _, _] := hO
  refine zh (zK ?_)
  obtain ⟨_, h43, r42, hO⟩ := w37.share hO (i := 2) rfl
  have hL := hL.trans h43
  have m25 := m25.le h43
  have r41 := r41.le h43
  have hO : Obs _ _ [_, _, _, _] := hO
  injection hF with hF
  subst hF
  have hV0 := hO.val (i := 0) rfl (off := 0) (agg := true) (n := 3) rfl
  have hO := hO.sel [3] (by decide)
  exact hQ _ _ _ _ _ (zce rfl (hV0) rfl) hO hL ⟨_, _, rfl, rfl, r42, r41⟩
theorem zn1 {τ : Hp} {q0 : zp} {bm0 : Nat} {vm0_0 : Value} {p1 : Int} {a2_0 : Addr} (rm0_0 : RdT Ty.u8 τ vm0_0 q0.b) (m2_0 : At τ a2_0 [.pointer (some ⟨bm0, 0, none⟩)]) {rr : (List zB) × zp} (hF : zeb q0 p1 = some rr) :
  Ctr Tryz.prog 47 #[.pointer (some ⟨bm0, 0, none⟩), .int .i64 p1, .func (.func 48) #[] #[(.pointer (some a2_0))]] τ [some (bm0, ⟨[vm0_0, .int .i64 q0.at_, .bool q0.failed], 82, 3, true⟩)] (fun v τ' vs' => ∃ (v0 : Value) (o0 : Ob) (u0_0 : Value), v = v0 ∧ vs' = [o0, some (bm0, ⟨[u0_0, .int .i64 rr.2.at_, .bool rr.2.failed], 82, 3, true⟩)] ∧ zr zbg 58 τ' v0 rr.1 o0 ∧ RdT Ty.u8 τ' u0_0 rr.2.b) := by
 obtain ⟨Am0_0, cm0_0, rfl, -⟩ := rm0_0.form
 refine zM (args := [.pointer (some ⟨bm0, 0, none⟩), .int .i64 p1, .func (.func 48) #[] #[(.pointer (some a2_0))]]) hm Tryz.func47 s47 rfl fun w0 σ hO Q hQ => ?_
 unfold zeb at hF
 have hL := Hp.le.refl τ
 show wpn _ _ a47.body _ _ _
 unfold a47
 dsimp only
 refine zc hO [] [(0, zqA bm0), (1, zqz p1), (2, .func (.func 48) #[] #[(.pointer (some a2_0))])] zql fun j => ?_
 refine zc hO [] [(0, zqA bm0), (1, zqz p1), (2, .func (.func 48) #[] #[(.pointer (some a2_0))]), (7, .slice none 0 0)] zqm fun j => ?_
 refine ze (zd hO 2 [] [(0, zqA bm0), (2, .func (.func 48) #[] #[(.pointer (some a2_0))]), (7, .slice none 0 0), (9, zqA bm0), (10, zqz p1)] zqn fun j => ?_)
 obtain ⟨c4, h5, hF⟩ := bind_some hF
 refine zX (hs := []) (vs := [_]) hO (zb3 (q0 := (⟨q0.b, q0.at_, q0.failed⟩ : zp)) rm0_0 h5) rfl fun _ σ _ _ hO h6 h7 => ?_
 have hL := hL.trans h6
 have m2_0 := m2_0.le h6
 obtain ⟨v8, rfl, rfl, r11⟩ := h7
 obtain ⟨A9, c10, rfl, -⟩ := r11.form
 have hO : Obs _ _ [_] := hO
 refine zc hO [] [(0, zqA bm0), (2, .func (.func 48) #[] #[(.pointer (some a2_0))]), (7, .slice none 0 0), (8, zqz c4.1)] zqm fun j => ?_
 refine zt ?_
 have hO := hO.no
 have hO : Obs _ _ [_, _] := hO
 refine zZ (fun (n : Nat) e' σ' => ∃ (A33 : Option Addr) (c34 : Nat) (x35 : List UInt8) (x37 : Int) (x38 : Bool) (A40 : Option Addr) (c41 : Nat) (o42 : Ob) (x43 : List zB) (x45 : Int) (τ' : Hp), agr [(0, zqA bm0), (2, .func (.func 48) #[] #[(.pointer (some a2_0))]), (7, .slice A40 x43.length c41), (8, zqz x45)] e' ∧ Obs τ' σ' [some (bm0, ⟨[.slice A33 x35.length c34, .int .i64 x37, .bool x38], 82, 3, true⟩), o42] ∧ Hp.le τ τ' ∧ RdT Ty.u8 τ' (.slice A33 x35.length c34) x35 ∧ At τ' a2_0 [.pointer (some ⟨bm0, 0, none⟩)] ∧ zr zbg 58 τ' (.slice A40 x43.length c41) x43 o42 ∧ zev  n x35 x37 x38 x43 x45 = some rr) big ⟨A9, c10, c4.2.b, c4.2.at_, c4.2.failed, none, 0, none, [], c4.1, _, zqy zql, hO, hL, r11, m2_0, zr.nil _ _ _, hF⟩ ?_
 clear hF hO hL
 rintro n64 e σ ⟨A33, c34, x35, x37, x38, A40, c41, o42, x43, x45, _, hA, hO, hL, r36, m39, w44, hF⟩
 rw [← zL _ _ hA]
 cases n64 with
 | zero => exact nomatch (show none = some rr from hF)
 | succ n64 =>
  replace hF : zim (zev  n64) x35 x37 x38 x43 x45 = some rr := hF
  unfold zim at hF
  refine ze (zc hO [0] [(0, zqA bm0), (2, .func (.func 48) #[] #[(.pointer (some a2_0))]), (7, .slice A40 x43.length c41), (8, zqz x45), (20, .bool ((decide (x45 > 0)) && (!x38)))] (And.intro (And.intro rfl rfl) (And.intro (And.intro rfl rfl) (fun _ => zqy zqm))) fun j => ?_)
  rcases zi hF with ⟨hb65, hF⟩ | ⟨hb65, hF⟩
  ·refine zk (congrArg Value.bool hb65) ?_
   refine zm (zt (zA (zd hO 2 [] [(0, zqA bm0), (2, .func (.func 48) #[] #[(.pointer (some a2_0))]), (8, zqz x45), (23, .slice A40 x43.length c41), (24, .func (.func 48) #[] #[(.pointer (some a2_0))])] zqn fun j => ?_)))
   obtain ⟨c66, h67, hF⟩ := bind_some hF
   have hO := hO.sel [1, 0] (by decide)
   refine zfS (hs := [_]) (vs := [_]) rfl (by kernel_rfl) hO (zm4 (qf0 := (⟨x35, x37, x38⟩ : zp)) r36 m39 h67) rfl fun _ σ _ _ hO h68 h69 => ?_
   have hL := hL.trans h68
   have m39 := m39.le h68
   have w44 := w44.le h68
   obtain ⟨v70, v74, rfl, rfl, r71, r77⟩ := h69
   obtain ⟨A72, c73, rfl, -⟩ := r71.form
   obtain ⟨A75, c76, rfl, -⟩ := r77.form
   have hO : Obs _ _ [_, _] := hO
   obtain ⟨_, hr82, hF⟩ := bind_some hF
   refine zbN (T := zbg) (y := (⟨c66.1.Func, c66.1.Line, c66.1.Scope⟩ : zB)) hO w44 (i := 0) rfl rfl (fun _ => rfl) rfl ⟨_, rfl, r71⟩ rfl hr82 (by decide) fun u _ σ o80 w81 hO => ?_
   obtain ⟨A78, c79, rfl, -⟩ := w81.form
   have hO : Obs _ _ [_, _] := hO
   refine zc hO [] [(0, zqA bm0), (2, .func (.func 48) #[] #[(.pointer (some a2_0))]), (7, .slice A78 (x43 ++ [(⟨c66.1.Func, c66.1.Line, c66.1.Scope⟩ : zB)]).length c79), (8, zqz x45)] zqm fun j => ?_
   refine zg (zP (zj (zA (zc hO [] [(0, zqA bm0), (2, .func (.func 48) #[] #[(.pointer (some a2_0))]), (7, .slice A78 (x43 ++ [(⟨c66.1.Func, c66.1.Line, c66.1.Scope⟩ : zB)]).length c79), (8, zqz (IntKind.i64.wrap (x45 - 1)))] zqm fun j => ?_))))
   refine zg (zj ?_)
   have hO := hO.sel [1, 0] (by decide)
   exact ⟨n64, Nat.lt_succ_self _, A75, c76, c66.2.b, c66.2.at_, c66.2.failed, A78, c79, o80, (x43 ++ [(⟨c66.1.Func, c66.1.Line, c66.1.Scope⟩ : zB)]), (IntKind.i64.wrap (x45 - 1)), _, zqy zql, hO, hL, r77, m39, w81, hF⟩
  ·refine zl (congrArg Value.bool hb65) ?_
   refine zU (zY (z0 (zj (zc hO [] [(0, zqA bm0), (6, .slice A40 x43.length c41)] zqk fun j => ?_))))
   refine zK ?_
   injection hF with hF
   subst hF
   have hO := hO.sel [1, 0] (by decide)
   exact hQ _ _ _ _ _ rfl hO hL ⟨_, _, _, rfl, rfl, w44, r36⟩
theorem zk3 {τ : Hp} {v0 : Value} {p0 : (List UInt8)} {p1 : Int} (r0 : RdT Ty.u8 τ v0 p0) {rr : (List zo) × (List zB) × Int × Int} (hF : zds p0 p1 = some rr) :
  Ctr Tryz.prog 19 #[v0, .int .i64 p1] τ [] (fun v τ' vs' => ∃ (v0 : Value) (v1 : Value), v = .tuple #[v0, v1, .int .i64 rr.2.2.1, .int .i64 rr.2.2.2] ∧ vs' = [] ∧ RdT zV τ' v0 rr.1 ∧ RdT zbg τ' v1 rr.2.1) := by
 obtain ⟨A0, c0, rfl, -⟩ := r0.form
 refine zM (args := [.slice A0 p0.length c0, .int .i64 p1]) hm Tryz.func19 s19 rfl fun w0 σ hO Q hQ => ?_
 unfold zds at hF
 have hL := Hp.le.refl τ
 show wpn _ _ a19.body _ _ _
 unfold a19
 dsimp only
 refine zc hO [] [(0, .slice A0 p0.length c0), (1, zqz p1)] zqk fun j => ?_
 refine ze (zc hO [] [(0, .slice A0 p0.length c0), (1, zqz p1), (17, .bool ((decide (p1 < 0)) || (decide (p1 > (p0.length : Int)))))] (And.intro (And.intro rfl rfl) (fun _ => zqy zqk)) fun j => ?_)
 rcases zi hF with ⟨hb3, hF⟩ | ⟨hb3, hF⟩
 ·refine zk (congrArg Value.bool hb3) ?_
  refine ze (zc hO [] [(4, .slice none 0 0), (5, .slice none 0 0), (6, zqz 0), (7, zqz 1)] zqm fun j => ?_)
  refine zu ?_
  injection hF with hF
  subst hF
  exact hQ _ _ _ _ _ rfl hO hL ⟨_, _, rfl, rfl, (RdT.nil _ _), (RdT.nil _ _)⟩
 ·refine zl (congrArg Value.bool hb3) ?_
  refine zm (zd hO 3 [] [(20, .agg #[(.slice A0 p0.length c0), (.int .i64 p1), (.bool false)])] zqj fun j => ?_)
  refine zb2 (n := 3) hO rfl rfl fun b4 σ hO => ?_
  have hO : Obs _ _ [_] := hO
  refine zbq hO fun b5 σ hO => ?_
  have hO : Obs _ _ [_, _] := hO
  refine zO hO (i := 1) rfl (off := 0) rfl rfl rfl rfl (Nat.le_of_ble_eq_true rfl) rfl fun σ hO => ?_
  have hO : Obs _ _ [_, _] := hO
  refine zh (zbq hO fun b6 σ hO => ?_)
  have hO : Obs _ _ [_, _, _] := hO
  refine zO hO (i := 2) rfl (off := 0) rfl rfl rfl rfl (Nat.le_of_ble_eq_true rfl) rfl fun σ hO => ?_
  have hO : Obs _ _ [_, _, _] := hO
  refine zh (zd hO 2 [1] [(8, zqA b5), (22, zqA b4), (23, .func (.func 40) #[] #[(.pointer (some ⟨b5, 0, none⟩)), (.pointer (some ⟨b6, 0, none⟩))])] (And.intro (And.intro rfl rfl) zql) fun j => ?_)
  obtain ⟨_, h8, m7, hO⟩ := hO.shareV (i := 1) rfl
  have hL := hL.trans h8
  have r0 := r0.le h8
  have hO : Obs _ _ [_, _, _] := hO
  obtain ⟨c9, h10, hF⟩ := bind_some hF
  have hO := hO.sel [1, 0, 2] (by decide)
  refine zX (hs := [_]) (vs := [_, _]) hO (znM (q0 := (⟨p0, p1, false⟩ : zp)) r0 m7 h10) rfl fun _ σ _ _ hO h11 h12 => ?_
  have hL := hL.trans h11
  have m7 := m7.le h11
  obtain ⟨v13, o16, v18, rfl, rfl, w17, r21⟩ := h12
  obtain ⟨A14, c15, rfl, -⟩ := w17.form
  obtain ⟨A19, c20, rfl, -⟩ := r21.form
  have hO : Obs _ _ [_, _, _, _] := hO
  refine zc hO [] [(4, .slice A14 c9.1.length c15), (8, .pointer (some (⟨b5, 0, none⟩ : Addr)))] zqk fun j => ?_
  refine zy rfl (m7.le hO.base).fst ?_
  refine zd hO 1 [] [(4, .slice A14 c9.1.length c15), (8, .pointer (some (⟨b5, 0, none⟩ : Addr))), (25, zqA b4), (26, .func (.func 48) #[] #[(.pointer (some (⟨b5, 0, none⟩ : Addr)))])] zqm fun j => ?_
  obtain ⟨c22, h23, hF⟩ := bind_some hF
  have hO := hO.sel [0, 1, 3, 2] (by decide)
  refine zX (hs := [_, _, _]) (vs := [_]) hO (zn1 (q0 := (⟨c9.2.1.b, c9.2.1.at_, c9.2.1.failed⟩ : zp)) r21 m7 h23) rfl fun _ σ _ _ hO h24 h25 => ?_
  have hL := hL.trans h24
  have w17 := w17.le h24
  have m7 := m7.le h24
  obtain ⟨v26, o29, v31, rfl, rfl, w30, r34⟩ := h25
  obtain ⟨A27, c28, rfl, -⟩ := w30.form
  obtain ⟨A32, c33, rfl, -⟩ := r34.form
  have hO : Obs _ _ [_, _, _, _, _] := hO
  refine zc hO [] [(4, .slice A14 c9.1.length c15), (5, .slice A27 c22.1.length c28), (8, .pointer (some (⟨b5, 0, none⟩ : Addr)))] zql fun j => ?_
  refine ze (zy rfl (m7.le hO.base).fst ?_)
  refine zd hO 4 [4] [(4, .slice A14 c9.1.length c15), (5, .slice A27 c22.1.length c28), (8, .pointer (some (⟨b5, 0, none⟩ : Addr))), (32, .bool c22.2.failed)] (And.intro (And.intro rfl rfl) zqm) fun j => ?_
  obtain ⟨_, h36, r35, hO⟩ := w17.share hO (i := 1) rfl
  have hL := hL.trans h36
  have w30 := w30.le h36
  have m7 := m7.le h36
  have r34 := r34.le h36
  have hO : Obs _ _ [_, _, _, _, _] := hO
  obtain ⟨_, h38, r37, hO⟩ := w30.share hO (i := 3) rfl
  have hL := hL.trans h38
  have r35 := r35.le h38
  have m7 := m7.le h38
  have r34 := r34.le h38
  have hO : Obs _ _ [_, _, _, _, _] := hO
  have hO := hO.sel [4] (by decide)
  have hO : Obs _ _ [_] := hO
  obtain ⟨c39, h40, hF⟩ := bind_some hF
  refine zbQ 2 (fun e' σ' => ∃ (τ' : Hp), agr [(37, .bool c39), (4, .slice A14 c9.1.length c15), (5, .slice A27 c22.1.length c28), (8, .pointer (some (⟨b5, 0, none⟩ : Addr)))] e' ∧ Obs τ' σ' [some (b4, ⟨[.slice A32 c22.2.b.length c33, .int .i64 c22.2.at_, .bool c22.2.failed], 82, 3, true⟩)] ∧ Hp.le τ τ' ∧ RdT zV τ' (.slice A14 c9.1.length c15) c9.1 ∧ RdT zbg τ' (.slice A27 c22.1.length c28) c22.1 ∧ At τ' (⟨b5, 0, none⟩ : Addr) [.pointer (some ⟨b4, 0, none⟩)] ∧ RdT Ty.u8 τ' (.slice A32 c22.2.b.length c33) c22.2.b) ?_ ?_
  ·have hF := h40
   rcases zi hF with ⟨hb41, hF⟩ | ⟨hb41, hF⟩
   ·refine z9 (congrArg (fun x => isB (.bool x) false) hb41) ?_
    refine zJ (congrArg Value.bool hb41) ?_
    refine zh ?_
    injection hF with hF
    subst hF
    refine zg ?_
    exact ⟨rfl, _, zqy zql, hO, hL, r35, r37, m7, r34⟩
   ·refine z7 (congrArg (fun x => isB (.bool x) false) hb41) ?_
    refine zd hO 2 [] [(4, .slice A14 c9.1.length c15), (5, .slice A27 c22.1.length c28), (8, .pointer (some (⟨b5, 0, none⟩ : Addr))), (32, .bool c22.2.failed), (33, .slice A14 c9.1.length c15), (34, .slice A27 c22.1.length c28)] zqo fun j => ?_
    obtain ⟨c42, h43, hF⟩ := bind_some hF
    refine zD hO (zj8 r35 r37 h43) rfl fun _ σ _ _ hO h44 h45 => ?_
    have hL := hL.trans h44
    have r35 := r35.le h44
    have r37 := r37.le h44
    have m7 := m7.le h44
    have r34 := r34.le h44
    obtain ⟨rfl, rfl⟩ := h45
    have hO : Obs _ _ [_] := hO
    refine zd hO 1 [] [(4, .slice A14 c9.1.length c15), (5, .slice A27 c22.1.length c28), (8, .pointer (some (⟨b5, 0, none⟩ : Addr))), (32, .bool c22.2.failed), (36, .bool (!c42))] zqn fun j => ?_
    refine zJ (congrArg Value.bool hb41) ?_
    refine zh ?_
    injection hF with hF
    subst hF
    refine zg ?_
    exact ⟨rfl, _, zqy zql, hO, hL, r35, r37, m7, r34⟩
  ·rintro e σ ⟨_, hA, hO, hL, r35, r37, m7, r34⟩
   rw [← zL _ _ hA]
   refine zh ?_
   rcases zi hF with ⟨hb46, hF⟩ | ⟨hb46, hF⟩
   ·refine zk (congrArg Value.bool hb46) ?_
    refine ze (zc hO [] [(4, .slice none 0 0), (5, .slice none 0 0), (6, zqz 0), (7, zqz 5)] zqm fun j => ?_)
    refine zu ?_
    injection hF with hF
    subst hF
    have hO := hO.sel [] (by decide)
    exact hQ _ _ _ _ _ rfl hO hL ⟨_, _, rfl, rfl, (RdT.nil _ _), (RdT.nil _ _)⟩
   ·refine zl (congrArg Value.bool hb46) ?_
    refine zm (zbr (zd hO 2 [] [(8, .pointer (some (⟨b5, 0, none⟩ : Addr))), (38, .slice A14 c9.1.length c15), (39, .slice A27 c22.1.length c28)] zql fun j => ?_))
    refine zy rfl (m7.le hO.base).fst ?_
    refine zd hO 3 [0] [(8, .pointer (some (⟨b5, 0, none⟩ : Addr))), (38, .slice A14 c9.1.length c15), (39, .slice A27 c22.1.length c28), (40, zqA b4), (42, .pointer (some ⟨b4, 1, none⟩)), (43, zqz c22.2.at_)] (And.intro (And.intro rfl rfl) zqo) fun j => ?_
    refine zbz (zc hO [] [(4, .slice A14 c9.1.length c15), (8, .pointer (some (⟨b5, 0, none⟩ : Addr))), (39, .slice A27 c22.1.length c28), (40, zqA b4), (42, .pointer (some ⟨b4, 1, none⟩)), (43, zqz c22.2.at_)] zqo fun j => ?_)
    refine zbx ⟨(zbi rfl (hO.val (i := 0) (off := 1) (agg := false) (n := 1) rfl rfl) rfl), (zbi rfl (m7.le hO.base).fst rfl), trivial⟩ ?_
    refine zbz (zc hO [] [(4, .slice A14 c9.1.length c15), (5, .slice A27 c22.1.length c28), (8, .pointer (some (⟨b5, 0, none⟩ : Addr))), (40, zqA b4), (42, .pointer (some ⟨b4, 1, none⟩)), (43, zqz c22.2.at_)] zqo fun j => ?_)
    refine zbx ⟨(zbi rfl (hO.val (i := 0) (off := 1) (agg := false) (n := 1) rfl rfl) rfl), (zbi rfl (m7.le hO.base).fst rfl), trivial⟩ ?_
    refine zc hO [] [(4, .slice A14 c9.1.length c15), (5, .slice A27 c22.1.length c28), (6, zqz c22.2.at_), (7, zqz 0)] zqm fun j => ?_
    refine zK ?_
    injection hF with hF
    subst hF
    have hO := hO.sel [] (by decide)
    exact hQ _ _ _ _ _ rfl hO hL ⟨_, _, rfl, rfl, r35, r37⟩
theorem zol {τ : Hp}   {rr : zjn} (hF : zix  = some rr) :
  Ctr Tryz.prog 22 #[] τ [] (fun v τ' vs' => ∃ (v0_0 : Value) (v0_1 : Value), v = .agg #[v0_0, v0_1] ∧ vs' = [] ∧ RdT zV τ' v0_0 rr.L ∧ RdT zbg τ' v0_1 rr.Points) := by
 refine zM (args := []) hm Tryz.func22 s22 rfl fun w0 σ hO Q hQ => ?_
 unfold zix at hF
 have hL := Hp.le.refl τ
 show wpn _ _ a22.body _ _ _
 unfold a22
 dsimp only
 refine zbq hO fun b1 σ hO => ?_
 have hO : Obs _ _ [_] := hO
 refine zh (zd hO 2 [] [(0, zqA b1), (4, .agg #[(.string (⟨#[120]⟩ : ByteArray)), (.int .u8 1), (.int .i64 0), (.string (⟨#[]⟩ : ByteArray)), (.int .i64 1), (.slice none 0 0)])] zqk fun j => ?_)
 refine zbq hO fun b2 σ hO => ?_
 have hO : Obs _ _ [_, _] := hO
 refine zO hO (i := 1) rfl (off := 0) rfl rfl rfl rfl (Nat.le_of_ble_eq_true rfl) rfl fun σ hO => ?_
 have hO : Obs _ _ [_, _] := hO
 refine zh (zd hO 1 [] [(0, zqA b1), (1, zqA b2), (5, .agg #[(.int .u8 2), (.int .i64 1)])] zql fun j => ?_)
 refine zbX (T := zbs) (l := ([(⟨(2 : UInt8), 1⟩ : zE)] : List zE)) (cs := [.int .u8 2, .int .i64 1]) hO rfl ⟨[.int .u8 2, .int .i64 1], _, rfl, rfl, rfl⟩ rfl (by decide) fun _ σ o5 w6 hO => ?_
 obtain ⟨A3, c4, rfl, -⟩ := w6.form
 have hO : Obs _ _ [_, _, _] := hO
 refine zd hO 1 [] [(0, zqA b1), (1, zqA b2), (7, .agg #[(.int .i64 2), (.int .i64 5), (.slice A3 ([(⟨(2 : UInt8), 1⟩ : zE)] : List zE).length c4)])] zql fun j => ?_
 obtain ⟨_, h8, r7, hO⟩ := w6.share hO (i := 2) rfl
 have hL := hL.trans h8
 have hO : Obs _ _ [_, _, _] := hO
 refine zbX (T := zT) (l := ([(⟨2, 5, ([(⟨(2 : UInt8), 1⟩ : zE)] : List zE)⟩ : zq)] : List zq)) (cs := [.int .i64 2, .int .i64 5, .slice A3 ([(⟨(2 : UInt8), 1⟩ : zE)] : List zE).length c4]) hO rfl ⟨[.int .i64 2, .int .i64 5, .slice A3 ([(⟨(2 : UInt8), 1⟩ : zE)] : List zE).length c4], _, rfl, ⟨_, rfl, r7⟩, rfl⟩ rfl (by decide) fun _ σ o11 w12 hO => ?_
 obtain ⟨A9, c10, rfl, -⟩ := w12.form
 have hO : Obs _ _ [_, _, _, _] := hO
 refine zc hO [] [(0, zqA b1), (1, zqA b2), (2, .slice A9 ([(⟨2, 5, ([(⟨(2 : UInt8), 1⟩ : zE)] : List zE)⟩ : zq)] : List zq).length c10)] zql fun j => ?_
 refine zd hO 1 [1] [(0, zqA b1), (2, .slice A9 ([(⟨2, 5, ([(⟨(2 : UInt8), 1⟩ : zE)] : List zE)⟩ : zq)] : List zq).length c10), (9, .agg #[(.string (⟨#[120]⟩ : ByteArray)), (.int .u8 1), (.int .i64 0), (.string (⟨#[]⟩ : ByteArray)), (.int .i64 1), (.slice none 0 0)])] (And.intro (And.intro rfl rfl) zql) fun j => ?_
 refine zbX (T := zby) (l := ([(⟨(⟨#[120]⟩ : ByteArray), (⟨(1 : UInt8), 0, (⟨#[]⟩ : ByteArray)⟩ : zbp), 1, []⟩ : zG)] : List zG)) (cs := [.string (⟨#[120]⟩ : ByteArray), .int .u8 1, .int .i64 0, .string (⟨#[]⟩ : ByteArray), .int .i64 1, .slice none 0 0]) hO rfl ⟨[.string (⟨#[120]⟩ : ByteArray), .int .u8 1, .int .i64 0, .string (⟨#[]⟩ : ByteArray), .int .i64 1, .slice none 0 0], _, rfl, ⟨_, rfl, RdT.nil _ _⟩, rfl⟩ rfl (by decide) fun _ σ o15 w16 hO => ?_
 obtain ⟨A13, c14, rfl, -⟩ := w16.form
 have hO : Obs _ _ [_, _, _, _, _] := hO
 refine zd hO 1 [] [(0, zqA b1), (10, .slice A13 ([(⟨(⟨#[120]⟩ : ByteArray), (⟨(1 : UInt8), 0, (⟨#[]⟩ : ByteArray)⟩ : zbp), 1, []⟩ : zG)] : List zG).length c14), (11, .slice A9 ([(⟨2, 5, ([(⟨(2 : UInt8), 1⟩ : zE)] : List zE)⟩ : zq)] : List zq).length c10)] zql fun j => ?_
 obtain ⟨_, h18, r17, hO⟩ := w12.share hO (i := 3) rfl
 have hL := hL.trans h18
 have w16 := w16.le h18
 have hO : Obs _ _ [_, _, _, _, _] := hO
 refine zbX (T := (Ty.slice zT)) (l := ([([(⟨2, 5, ([(⟨(2 : UInt8), 1⟩ : zE)] : List zE)⟩ : zq)] : List zq)] : List (List zq))) (cs := [.slice A9 ([(⟨2, 5, ([(⟨(2 : UInt8), 1⟩ : zE)] : List zE)⟩ : zq)] : List zq).length c10]) hO rfl ⟨[.slice A9 ([(⟨2, 5, ([(⟨(2 : UInt8), 1⟩ : zE)] : List zE)⟩ : zq)] : List zq).length c10], _, rfl, ⟨_, rfl, r17⟩, rfl⟩ rfl (by decide) fun _ σ o21 w22 hO => ?_
 obtain ⟨A19, c20, rfl, -⟩ := w22.form
 have hO : Obs _ _ [_, _, _, _, _, _] := hO
 refine zd hO 1 [] [(0, zqA b1), (13, .agg #[(.string (⟨#[102]⟩ : ByteArray)), (.int .i64 0), (.int .i64 9), (.slice A13 ([(⟨(⟨#[120]⟩ : ByteArray), (⟨(1 : UInt8), 0, (⟨#[]⟩ : ByteArray)⟩ : zbp), 1, []⟩ : zG)] : List zG).length c14), (.slice A19 ([([(⟨2, 5, ([(⟨(2 : UInt8), 1⟩ : zE)] : List zE)⟩ : zq)] : List zq)] : List (List zq)).length c20)])] zqk fun j => ?_
 obtain ⟨_, h24, r23, hO⟩ := w16.share hO (i := 4) rfl
 have hL := hL.trans h24
 have w22 := w22.le h24
 have hO : Obs _ _ [_, _, _, _, _, _] := hO
 obtain ⟨_, h26, r25, hO⟩ := w22.share hO (i := 5) rfl
 have hL := hL.trans h26
 have r23 := r23.le h26
 have hO : Obs _ _ [_, _, _, _, _, _] := hO
 refine zbX (T := zV) (l := ([(⟨(⟨#[102]⟩ : ByteArray), 0, 9, ([(⟨(⟨#[120]⟩ : ByteArray), (⟨(1 : UInt8), 0, (⟨#[]⟩ : ByteArray)⟩ : zbp), 1, []⟩ : zG)] : List zG), ([([(⟨2, 5, ([(⟨(2 : UInt8), 1⟩ : zE)] : List zE)⟩ : zq)] : List zq)] : List (List zq))⟩ : zo)] : List zo)) (cs := [.string (⟨#[102]⟩ : ByteArray), .int .i64 0, .int .i64 9, .slice A13 ([(⟨(⟨#[120]⟩ : ByteArray), (⟨(1 : UInt8), 0, (⟨#[]⟩ : ByteArray)⟩ : zbp), 1, []⟩ : zG)] : List zG).length c14, .slice A19 ([([(⟨2, 5, ([(⟨(2 : UInt8), 1⟩ : zE)] : List zE)⟩ : zq)] : List zq)] : List (List zq)).length c20]) hO rfl ⟨[.string (⟨#[102]⟩ : ByteArray), .int .i64 0, .int .i64 9, .slice A13 ([(⟨(⟨#[120]⟩ : ByteArray), (⟨(1 : UInt8), 0, (⟨#[]⟩ : ByteArray)⟩ : zbp), 1, []⟩ : zG)] : List zG).length c14, .slice A19 ([([(⟨2, 5, ([(⟨(2 : UInt8), 1⟩ : zE)] : List zE)⟩ : zq)] : List zq)] : List (List zq)).length c20], _, rfl, ⟨_, _, rfl, r23, r25⟩, rfl⟩ rfl (by decide) fun _ σ o29 w30 hO => ?_
 obtain ⟨A27, c28, rfl, -⟩ := w30.form
 have hO : Obs _ _ [_, _, _, _, _, _, _] := hO
 refine zbX (T := (Ty.int .i64)) (l := ([0] : List Int)) (cs := [.int .i64 0]) hO rfl ⟨[.int .i64 0], _, rfl, rfl, rfl⟩ rfl (by decide) fun _ σ o33 w34 hO => ?_
 obtain ⟨A31, c32, rfl, -⟩ := w34.form
 have hO : Obs _ _ [_, _, _, _, _, _, _, _] := hO
 refine zd hO 1 [] [(0, zqA b1), (14, .slice A27 ([(⟨(⟨#[102]⟩ : ByteArray), 0, 9, ([(⟨(⟨#[120]⟩ : ByteArray), (⟨(1 : UInt8), 0, (⟨#[]⟩ : ByteArray)⟩ : zbp), 1, []⟩ : zG)] : List zG), ([([(⟨2, 5, ([(⟨(2 : UInt8), 1⟩ : zE)] : List zE)⟩ : zq)] : List zq)] : List (List zq))⟩ : zo)] : List zo).length c28), (16, .agg #[(.int .i64 0), (.int .i64 3), (.slice A31 ([0] : List Int).length c32)])] zql fun j => ?_
 obtain ⟨_, h36, r35, hO⟩ := w34.share hO (i := 7) rfl
 have hL := hL.trans h36
 have w30 := w30.le h36
 have hO : Obs _ _ [_, _, _, _, _, _, _, _] := hO
 refine zbX (T := zbg) (l := ([(⟨0, 3, ([0] : List Int)⟩ : zB)] : List zB)) (cs := [.int .i64 0, .int .i64 3, .slice A31 ([0] : List Int).length c32]) hO rfl ⟨[.int .i64 0, .int .i64 3, .slice A31 ([0] : List Int).length c32], _, rfl, ⟨_, rfl, r35⟩, rfl⟩ rfl (by decide) fun _ σ o39 w40 hO => ?_
 obtain ⟨A37, c38, rfl, -⟩ := w40.form
 have hO : Obs _ _ [_, _, _, _, _, _, _, _, _] := hO
 refine zd hO 1 [] [(0, zqA b1), (18, .agg #[(.slice A27 ([(⟨(⟨#[102]⟩ : ByteArray), 0, 9, ([(⟨(⟨#[120]⟩ : ByteArray), (⟨(1 : UInt8), 0, (⟨#[]⟩ : ByteArray)⟩ : zbp), 1, []⟩ : zG)] : List zG), ([([(⟨2, 5, ([(⟨(2 : UInt8), 1⟩ : zE)] : List zE)⟩ : zq)] : List zq)] : List (List zq))⟩ : zo)] : List zo).length c28), (.slice A37 ([(⟨0, 3, ([0] : List Int)⟩ : zB)] : List zB).length c38)])] zqk fun j => ?_
 refine zO hO (i := 0) rfl (off := 0) rfl rfl rfl rfl (Nat.le_of_ble_eq_true rfl) rfl fun σ hO => ?_
 have hO : Obs _ _ [_, _, _, _, _, _, _, _, _] := hO
 refine zh (zK ?_)
 obtain ⟨_, h42, r41, hO⟩ := w30.share hO (i := 6) rfl
 have hL := hL.trans h42
 have w40 := w40.le h42
 have hO : Obs _ _ [_, _, _, _, _, _, _, _, _] := hO
 obtain ⟨_, h44, r43, hO⟩ := w40.share hO (i := 8) rfl
 have hL := hL.trans h44
 have r41 := r41.le h44
 have hO : Obs _ _ [_, _, _, _, _, _, _, _, _] := hO
 injection hF with hF
 subst hF
 have hV0 := hO.val (i := 0) rfl (off := 0) (agg := true) (n := 2) rfl
 have hO := hO.sel [] (by decide)
 exact hQ _ _ _ _ _ (zce rfl (hV0) rfl) hO hL ⟨_, _, rfl, rfl, r41, r43⟩
theorem zo9 {τ : Hp} {v0 : Value} {p0 : (List zo)} {p1 : Int} (r0 : RdT zV τ v0 p0) {rr : Int × Bool} (hF : zir p0 p1 = some rr) :
  Ctr Tryz.prog 23 #[v0, .int .i64 p1] τ [] (fun v τ' vs' => v = .tuple #[.int .i64 rr.1, .bool rr.2] ∧ vs' = []) := by
 obtain ⟨A0, c0, rfl, -⟩ := r0.form
 refine zM (args := [.slice A0 p0.length c0, .int .i64 p1]) hm Tryz.func23 s23 rfl fun w0 σ hO Q hQ => ?_
 unfold zir at hF
 have hL := Hp.le.refl τ
 show wpn _ _ a23.body _ _ _
 unfold a23
 dsimp only
 refine zc hO [] [(0, .slice A0 p0.length c0), (1, zqz p1)] zqk fun j => ?_
 refine ze (zc hO [] [(1, zqz p1), (8, .slice A0 p0.length c0), (9, zqz (p0.length : Int)), (10, zqz 0)] zqm fun j => ?_)
 refine zt (zZ (fun (n : Nat) e' σ' => ∃ (x21 : Int) (τ' : Hp), agr [(1, zqz p1), (8, .slice A0 p0.length c0), (9, zqz (p0.length : Int)), (10, zqz x21)] e' ∧ Obs τ' σ' [] ∧ Hp.le τ τ' ∧ RdT zV τ' (.slice A0 p0.length c0) p0 ∧ zg3 p0 p1 n x21 = some rr) big ⟨0, _, zqy zql, hO, hL, r0, hF⟩ ?_)
 clear hF hO hL
 rintro n38 e σ ⟨x21, _, hA, hO, hL, r20, hF⟩
 rw [← zL _ _ hA]
 cases n38 with
 | zero => exact nomatch (show none = some rr from hF)
 | succ n38 =>
  replace hF : ziE (zg3 p0 p1 n38) p0 p1 x21 = some rr := hF
  unfold ziE at hF
  refine zc hO [] [(1, zqz p1), (8, .slice A0 p0.length c0), (9, zqz (p0.length : Int)), (10, zqz x21), (11, .bool (decide (x21 < (p0.length : Int))))] zqn fun j => ?_
  rcases zi hF with ⟨hb39, hF⟩ | ⟨hb39, hF⟩
  ·refine zk (congrArg Value.bool hb39) ?_
   refine zm (zt (zd hO 1 [] [(1, zqz p1), (8, .slice A0 p0.length c0), (9, zqz (p0.length : Int)), (10, zqz x21), (12, zqz x21)] zqn fun j => ?_))
   obtain ⟨y40, g41, hF⟩ := bind_some hF
   refine zC (T := zV) r20 hO.base rfl rfl g41 (by decide) fun a42 _ k43 m44 => ?_
   obtain ⟨v45, v49, rfl, r46, r50⟩ := k43
   obtain ⟨A47, c48, rfl, -⟩ := r46.form
   obtain ⟨A51, c52, rfl, -⟩ := r50.form
   refine zy rfl ((m44.le hO.base).all rfl) ?_
   refine zbq hO fun b53 σ hO => ?_
   have hO : Obs _ _ [_] := hO
   refine zd hO 1 [] [(1, zqz p1), (6, zqz x21), (7, zqA b53), (8, .slice A0 p0.length c0), (9, zqz (p0.length : Int)), (10, zqz x21), (14, .agg #[(.string y40.Name), (.int .i64 y40.From), (.int .i64 y40.To), (.slice A47 y40.Vars.length c48), (.slice A51 y40.Spans.length c52)])] zqp fun j => ?_
   refine zO hO (i := 0) rfl (off := 0) rfl rfl rfl rfl (Nat.le_of_ble_eq_true rfl) rfl fun σ hO => ?_
   have hO : Obs _ _ [_] := hO
   refine zh (zc hO [0, 0] [(1, zqz p1), (6, zqz x21), (8, .slice A0 p0.length c0), (9, zqz (p0.length : Int)), (10, zqz x21), (24, .bool ((decide (y40.From ≤ p1)) && (decide (p1 < y40.To))))] (And.intro (And.intro rfl rfl) (And.intro (And.intro rfl rfl) (And.intro (And.intro rfl rfl) (fun _ => zqy zqn)))) fun j => ?_)
   refine zbl ?_
   rcases zi hF with ⟨hb54, hF⟩ | ⟨hb54, hF⟩
   ·refine zk (congrArg Value.bool hb54) ?_
    refine ze (zc hO [] [(4, zqz x21), (5, .bool true)] zqk fun j => ?_)
    refine zu (zw (zn (zn (zw (zn ?_)))))
    injection hF with hF
    subst hF
    have hO := hO.sel [] (by decide)
    exact hQ _ _ _ _ _ rfl hO hL ⟨rfl, rfl⟩
   ·refine zl (congrArg Value.bool hb54) ?_
    refine zm (zg (zP (zj (zA (zc hO [] [(1, zqz p1), (8, .slice A0 p0.length c0), (9, zqz (p0.length : Int)), (10, zqz (IntKind.i64.wrap (x21 + 1)))] zqm fun j => ?_)))))
    refine zg (zj ?_)
    have hO := hO.sel [] (by decide)
    exact ⟨n38, Nat.lt_succ_self _, (IntKind.i64.wrap (x21 + 1)), _, zqy zql, hO, hL, r20, hF⟩
  ·refine zl (congrArg Value.bool hb39) ?_
   refine zU (zY (z0 (zj (zc hO [] [(4, zqz 0), (5, .bool false)] zqk fun j => ?_))))
   refine zK ?_
   injection hF with hF
   subst hF
   exact hQ _ _ _ _ _ rfl hO hL ⟨rfl, rfl⟩
theorem zon {τ : Hp} {v0 : Value} {p0 : (List zo)} {v1 : Value} {p1 : (List zB)} {p2 : Int} {p3 : ByteArray} (r0 : RdT zV τ v0 p0) (r1 : RdT zbg τ v1 p1) {rr : Int × Bool} (hF : zjJ p0 p1 p2 p3 = some rr) :
  Ctr Tryz.prog 24 #[v0, v1, .int .i64 p2, .string p3] τ [] (fun v τ' vs' => v = .tuple #[.int .i64 rr.1, .bool rr.2] ∧ vs' = []) := by
 obtain ⟨A0, c0, rfl, -⟩ := r0.form
 obtain ⟨A1, c1, rfl, -⟩ := r1.form
 refine zM (args := [.slice A0 p0.length c0, .slice A1 p1.length c1, .int .i64 p2, .string p3]) hm Tryz.func24 s24 rfl fun w0 σ hO Q hQ => ?_
 unfold zjJ at hF
 have hL := Hp.le.refl τ
 show wpn _ _ a24.body _ _ _
 unfold a24
 dsimp only
 refine zc hO [] [(0, .slice A0 p0.length c0), (1, .slice A1 p1.length c1), (2, zqz p2), (3, .string p3), (8, zqz 0), (9, .bool false)] zqo fun j => ?_
 refine ze (zc hO [] [(0, .slice A0 p0.length c0), (1, .slice A1 p1.length c1), (2, zqz p2), (3, .string p3), (8, zqz 0), (9, .bool false), (21, .bool ((decide (p2 < 0)) || (decide (p2 ≥ (p1.length : Int)))))] (And.intro (And.intro rfl rfl) (fun _ => zqy zqo)) fun j => ?_)
 rcases zi hF with ⟨hb5, hF⟩ | ⟨hb5, hF⟩
 ·refine zk (congrArg Value.bool hb5) ?_
  refine ze (zc hO [] [(8, zqz 0), (9, .bool false)] zqk fun j => ?_)
  refine zu ?_
  injection hF with hF
  subst hF
  exact hQ _ _ _ _ _ rfl hO hL ⟨rfl, rfl⟩
 ·refine zl (congrArg Value.bool hb5) ?_
  refine zm (zd hO 2 [] [(0, .slice A0 p0.length c0), (3, .string p3), (8, zqz 0), (9, .bool false), (22, .slice A1 p1.length c1), (23, zqz p2)] zqo fun j => ?_)
  obtain ⟨y6, g7, hF⟩ := bind_some hF
  refine zC (T := zbg) r1 hO.base rfl rfl g7 (by decide) fun a8 _ k9 m10 => ?_
  obtain ⟨v11, rfl, r12⟩ := k9
  obtain ⟨A13, c14, rfl, -⟩ := r12.form
  refine zy rfl ((m10.le hO.base).all rfl) ?_
  refine zbq hO fun b15 σ hO => ?_
  have hO : Obs _ _ [_] := hO
  refine zO hO (i := 0) rfl (off := 0) rfl rfl rfl rfl (Nat.le_of_ble_eq_true rfl) rfl fun σ hO => ?_
  have hO : Obs _ _ [_] := hO
  refine zh (ze (zc hO [0, 0] [(0, .slice A0 p0.length c0), (3, .string p3), (8, zqz 0), (9, .bool false), (10, zqA b15), (35, .bool ((decide (y6.Func < 0)) || (decide (y6.Func ≥ (p0.length : Int)))))] (And.intro (And.intro rfl rfl) (And.intro (And.intro rfl rfl) (And.intro (And.intro rfl rfl) (fun _ => zqy zqn)))) fun j => ?_))
  rcases zi hF with ⟨hb16, hF⟩ | ⟨hb16, hF⟩
  ·refine zk (congrArg Value.bool hb16) ?_
   refine ze (zc hO [] [(8, zqz 0), (9, .bool false)] zqk fun j => ?_)
   refine zu ?_
   injection hF with hF
   subst hF
   have hO := hO.sel [] (by decide)
   exact hQ _ _ _ _ _ rfl hO hL ⟨rfl, rfl⟩
  ·refine zl (congrArg Value.bool hb16) ?_
   refine zm (ze (zc hO [0] [(0, .slice A0 p0.length c0), (3, .string p3), (8, zqz 0), (9, .bool false), (10, zqA b15), (37, .slice A13 y6.Scope.length c14), (38, zqz (y6.Scope.length : Int)), (39, zqz 0)] (And.intro (And.intro rfl rfl) zqq) fun j => ?_))
   refine zt (zZ (fun (n : Nat) e' σ' => ∃ (x53 : Int) (x54 : Bool) (x57 : Int) (τ' : Hp), agr [(0, .slice A0 p0.length c0), (3, .string p3), (8, zqz x53), (9, .bool x54), (10, zqA b15), (37, .slice A13 y6.Scope.length c14), (38, zqz (y6.Scope.length : Int)), (39, zqz x57)] e' ∧ Obs τ' σ' [some (b15, ⟨[.int .i64 y6.Func, .int .i64 y6.Line, .slice A13 y6.Scope.length c14], 58, 3, true⟩)] ∧ Hp.le τ τ' ∧ RdT zV τ' (.slice A0 p0.length c0) p0 ∧ RdT (Ty.int .i64) τ' (.slice A13 y6.Scope.length c14) y6.Scope ∧ RdT (Ty.int .i64) τ' (.slice A13 y6.Scope.length c14) y6.Scope ∧ zhN p0 p3 y6 n x53 x54 x57 = some rr) big ⟨0, false, 0, _, zqy zqp, hO, hL, r0, r12, r12, hF⟩ ?_)
   clear hF hO hL
   rintro n90 e σ ⟨x53, x54, x57, _, hA, hO, hL, r52, r55, r56, hF⟩
   rw [← zL _ _ hA]
   cases n90 with
   | zero => exact nomatch (show none = some rr from hF)
   | succ n90 =>
    replace hF : zjm (zhN p0 p3 y6 n90) p0 p3 y6 x53 x54 x57 = some rr := hF
    unfold zjm at hF
    refine zc hO [] [(0, .slice A0 p0.length c0), (3, .string p3), (8, zqz x53), (9, .bool x54), (10, zqA b15), (37, .slice A13 y6.Scope.length c14), (38, zqz (y6.Scope.length : Int)), (39, zqz x57), (40, .bool (decide (x57 < (y6.Scope.length : Int))))] zqr fun j => ?_
    rcases zi hF with ⟨hb91, hF⟩ | ⟨hb91, hF⟩
    ·refine zk (congrArg Value.bool hb91) ?_
     refine zm (zt ?_)
     obtain ⟨y92, g93, hF⟩ := bind_some hF
     refine zC (T := (Ty.int .i64)) r56 hO.base rfl rfl g93 (by decide) fun a94 _ k95 m96 => ?_
     obtain rfl : _ = ([.int .i64 y92] : List Value) := k95
     refine zy rfl (m96.le hO.base).fst ?_
     refine zc hO [] [(0, .slice A0 p0.length c0), (3, .string p3), (8, zqz x53), (9, .bool x54), (10, zqA b15), (12, zqz y92), (37, .slice A13 y6.Scope.length c14), (38, zqz (y6.Scope.length : Int)), (39, zqz x57)] zqr fun j => ?_
     refine zd hO 3 [0] [(0, .slice A0 p0.length c0), (3, .string p3), (8, zqz x53), (9, .bool x54), (10, zqA b15), (12, zqz y92), (37, .slice A13 y6.Scope.length c14), (38, zqz (y6.Scope.length : Int)), (39, zqz x57), (43, .slice A0 p0.length c0), (45, zqz y6.Func)] (And.intro (And.intro rfl rfl) zqt) fun j => ?_
     obtain ⟨y97, g98, hF⟩ := bind_some hF
     refine zC (T := zV) r52 hO.base rfl rfl g98 (by decide) fun a99 _ k100 m101 => ?_
     obtain ⟨v102, v106, rfl, r103, r107⟩ := k100
     obtain ⟨A104, c105, rfl, -⟩ := r103.form
     obtain ⟨A108, c109, rfl, -⟩ := r107.form
     refine zd hO 1 [] [(0, .slice A0 p0.length c0), (3, .string p3), (8, zqz x53), (9, .bool x54), (10, zqA b15), (12, zqz y92), (37, .slice A13 y6.Scope.length c14), (38, zqz (y6.Scope.length : Int)), (39, zqz x57), (47, .pointer (some (a99.add 3)))] zqs fun j => ?_
     refine zy rfl ((m101.le hO.base).one 3 rfl) ?_
     refine zc hO [] [(0, .slice A0 p0.length c0), (3, .string p3), (8, zqz x53), (9, .bool x54), (10, zqA b15), (12, zqz y92), (13, .slice A104 y97.Vars.length c105), (37, .slice A13 y6.Scope.length c14), (38, zqz (y6.Scope.length : Int)), (39, zqz x57)] zqs fun j => ?_
     refine zd hO 6 [] [(0, .slice A0 p0.length c0), (3, .string p3), (8, zqz x53), (9, .bool x54), (10, zqA b15), (12, zqz y92), (13, .slice A104 y97.Vars.length c105), (37, .slice A13 y6.Scope.length c14), (38, zqz (y6.Scope.length : Int)), (39, zqz x57), (57, .bool ((decide (y92 ≥ 0)) && (decide (y92 < (y97.Vars.length : Int)))))] (And.intro (And.intro rfl rfl) (fun _ => zqy zqs)) fun j => ?_
     obtain ⟨c110, h111, hF⟩ := bind_some hF
     refine zbK 2 [(65, .bool c110), (0, .slice A0 p0.length c0), (3, .string p3), (8, zqz x53), (9, .bool x54), (10, zqA b15), (12, zqz y92), (37, .slice A13 y6.Scope.length c14), (38, zqz (y6.Scope.length : Int)), (39, zqz x57)] (fun Q hQ => ?_) fun j => ?_
     ·have hF := h111
      rcases zi hF with ⟨hb112, hF⟩ | ⟨hb112, hF⟩
      ·refine z7 (congrArg (fun x => isB (.bool x) true) hb112) ?_
       refine zd hO 2 [] [(0, .slice A0 p0.length c0), (3, .string p3), (8, zqz x53), (9, .bool x54), (10, zqA b15), (12, zqz y92), (37, .slice A13 y6.Scope.length c14), (38, zqz (y6.Scope.length : Int)), (39, zqz x57), (57, .bool ((decide (y92 ≥ 0)) && (decide (y92 < (y97.Vars.length : Int))))), (58, .slice A104 y97.Vars.length c105), (59, zqz y92)] zqu fun j => ?_
       obtain ⟨y113, g114, hF⟩ := bind_some hF
       refine zC (T := zby) r103 hO.base rfl rfl g114 (by decide) fun a115 _ k116 m117 => ?_
       obtain ⟨v118, rfl, r119⟩ := k116
       obtain ⟨A120, c121, rfl, -⟩ := r119.form
       refine zd hO 1 [] [(0, .slice A0 p0.length c0), (3, .string p3), (8, zqz x53), (9, .bool x54), (10, zqA b15), (12, zqz y92), (37, .slice A13 y6.Scope.length c14), (38, zqz (y6.Scope.length : Int)), (39, zqz x57), (57, .bool ((decide (y92 ≥ 0)) && (decide (y92 < (y97.Vars.length : Int))))), (61, .pointer (some a115))] zqt fun j => ?_
       refine zy rfl (m117.le hO.base).fst ?_
       refine zd hO 2 [] [(0, .slice A0 p0.length c0), (3, .string p3), (8, zqz x53), (9, .bool x54), (10, zqA b15), (12, zqz y92), (37, .slice A13 y6.Scope.length c14), (38, zqz (y6.Scope.length : Int)), (39, zqz x57), (57, .bool ((decide (y92 ≥ 0)) && (decide (y92 < (y97.Vars.length : Int))))), (64, .bool (zbu y113.Name p3))] zqt fun j => ?_
       refine zJ (congrArg Value.bool hb112) ?_
       refine zh ?_
       injection hF with hF
       subst hF
       refine zg ?_
       exact hQ _ zqs
      ·refine z9 (congrArg (fun x => isB (.bool x) true) hb112) ?_
       refine zJ (congrArg Value.bool hb112) ?_
       refine zh ?_
       injection hF with hF
       subst hF
       refine zg ?_
       exact hQ _ zqs
     ·refine zh (zbl ?_)
      rcases zi hF with ⟨hb122, hF⟩ | ⟨hb122, hF⟩
      ·refine zk (congrArg Value.bool hb122) ?_
       refine zc hO [] [(0, .slice A0 p0.length c0), (3, .string p3), (8, zqz y92), (9, .bool true), (10, zqA b15), (37, .slice A13 y6.Scope.length c14), (38, zqz (y6.Scope.length : Int)), (39, zqz x57)] zqq fun j => ?_
       refine zg (zP (zj (zA (zc hO [] [(0, .slice A0 p0.length c0), (3, .string p3), (8, zqz y92), (9, .bool true), (10, zqA b15), (37, .slice A13 y6.Scope.length c14), (38, zqz (y6.Scope.length : Int)), (39, zqz (IntKind.i64.wrap (x57 + 1)))] zqq fun j => ?_))))
       refine zg (zj ?_)
       exact ⟨n90, Nat.lt_succ_self _, y92, true, (IntKind.i64.wrap (x57 + 1)), _, zqy zqp, hO, hL, r52, r55, r56, hF⟩
      ·refine zl (congrArg Value.bool hb122) ?_
       refine zm (zg (zP (zj (zA (zc hO [] [(0, .slice A0 p0.length c0), (3, .string p3), (8, zqz x53), (9, .bool x54), (10, zqA b15), (37, .slice A13 y6.Scope.length c14), (38, zqz (y6.Scope.length : Int)), (39, zqz (IntKind.i64.wrap (x57 + 1)))] zqq fun j => ?_)))))
       refine zg (zj ?_)
       exact ⟨n90, Nat.lt_succ_self _, x53, x54, (IntKind.i64.wrap (x57 + 1)), _, zqy zqp, hO, hL, r52, r55, r56, hF⟩
    ·refine zl (congrArg Value.bool hb91) ?_
     refine zU (zY (z0 (zj (zc hO [] [(8, zqz x53), (9, .bool x54)] zqk fun j => ?_))))
     refine zK ?_
     injection hF with hF
     subst hF
     have hO := hO.sel [] (by decide)
     exact hQ _ _ _ _ _ rfl hO hL ⟨rfl, rfl⟩
theorem zka {τ : Hp}   {rr : Bool} (hF : zfq  = some rr) :
  Ctr Tryz.prog 6 #[] τ [] (fun v τ' vs' => v = .bool rr ∧ vs' = []) := by
 refine zM (args := []) hm Tryz.func6 s6 rfl fun w0 σ hO Q hQ => ?_
 unfold zfq at hF
 have hL := Hp.le.refl τ
 show wpn _ _ a6.body _ _ _
 unfold a6
 dsimp only
 refine zc hO [] [] (trivial) fun j => ?_
 obtain ⟨c1, h2, hF⟩ := bind_some hF
 refine zD hO (zol h2) rfl fun _ σ _ _ hO h3 h4 => ?_
 have hL := hL.trans h3
 obtain ⟨v5, v9, rfl, rfl, r6, r10⟩ := h4
 obtain ⟨A7, c8, rfl, -⟩ := r6.form
 obtain ⟨A11, c12, rfl, -⟩ := r10.form
 have hO : Obs _ _ [] := hO
 refine zbq hO fun b13 σ hO => ?_
 have hO : Obs _ _ [_] := hO
 refine zO hO (i := 0) rfl (off := 0) rfl rfl rfl rfl (Nat.le_of_ble_eq_true rfl) rfl fun σ hO => ?_
 have hO : Obs _ _ [_] := hO
 refine zh (zd hO 4 [0, 0] [(1, zqA b13), (15, .slice A7 c1.L.length c8), (17, .slice A11 c1.Points.length c12)] (And.intro (And.intro rfl rfl) (And.intro (And.intro rfl rfl) zql)) fun j => ?_)
 obtain ⟨c14, h15, hF⟩ := bind_some hF
 refine zD hO (zps (RdT.nil Ty.u8 _) r6 r10 h15) rfl fun _ σ _ _ hO h16 h17 => ?_
 have hL := hL.trans h16
 have r6 := r6.le h16
 have r10 := r10.le h16
 obtain ⟨v18, o21, rfl, rfl, w22⟩ := h17
 obtain ⟨A19, c20, rfl, -⟩ := w22.form
 have hO : Obs _ _ [_, _] := hO
 refine zc hO [] [(1, zqA b13), (2, .slice A19 c14.1.length c20), (3, zqz c14.2)] zql fun j => ?_
 refine zd hO 1 [] [(1, zqA b13), (2, .slice A19 c14.1.length c20), (3, zqz c14.2), (22, .slice A19 c14.1.length c20)] zqm fun j => ?_
 obtain ⟨_, h24, r23, hO⟩ := w22.share hO (i := 1) rfl
 have hL := hL.trans h24
 have r6 := r6.le h24
 have r10 := r10.le h24
 have hO : Obs _ _ [_, _] := hO
 obtain ⟨c25, h26, hF⟩ := bind_some hF
 refine zD hO (zk3 r23 h26) rfl fun _ σ _ _ hO h27 h28 => ?_
 have hL := hL.trans h27
 have r23 := r23.le h27
 have r6 := r6.le h27
 have r10 := r10.le h27
 obtain ⟨v29, v33, rfl, rfl, r32, r36⟩ := h28
 obtain ⟨A30, c31, rfl, -⟩ := r32.form
 obtain ⟨A34, c35, rfl, -⟩ := r36.form
 have hO : Obs _ _ [_, _] := hO
 refine zc hO [] [(1, zqA b13), (2, .slice A19 c14.1.length c20), (3, zqz c14.2), (4, .slice A30 c25.1.length c31), (5, .slice A34 c25.2.1.length c35), (6, zqz c25.2.2.1), (7, zqz c25.2.2.2)] zqp fun j => ?_
 refine zd hO 1 [] [(1, zqA b13), (2, .slice A19 c14.1.length c20), (3, zqz c14.2), (4, .slice A30 c25.1.length c31), (5, .slice A34 c25.2.1.length c35), (6, zqz c25.2.2.1), (7, zqz c25.2.2.2), (29, .slice A30 c25.1.length c31)] zqq fun j => ?_
 obtain ⟨c37, h38, hF⟩ := bind_some hF
 refine zD hO (zo9 r32 h38) rfl fun _ σ _ _ hO h39 h40 => ?_
 have hL := hL.trans h39
 have r23 := r23.le h39
 have r32 := r32.le h39
 have r36 := r36.le h39
 have r6 := r6.le h39
 have r10 := r10.le h39
 obtain ⟨rfl, rfl⟩ := h40
 have hO : Obs _ _ [_, _] := hO
 refine zc hO [] [(1, zqA b13), (2, .slice A19 c14.1.length c20), (3, zqz c14.2), (4, .slice A30 c25.1.length c31), (5, .slice A34 c25.2.1.length c35), (6, zqz c25.2.2.1), (7, zqz c25.2.2.2), (8, zqz c37.1), (9, .bool c37.2)] zqr fun j => ?_
 refine zd hO 2 [] [(1, zqA b13), (2, .slice A19 c14.1.length c20), (3, zqz c14.2), (4, .slice A30 c25.1.length c31), (5, .slice A34 c25.2.1.length c35), (6, zqz c25.2.2.1), (7, zqz c25.2.2.2), (8, zqz c37.1), (9, .bool c37.2), (34, .slice A30 c25.1.length c31), (35, .slice A34 c25.2.1.length c35)] zqt fun j => ?_
 obtain ⟨c41, h42, hF⟩ := bind_some hF
 refine zD hO (zon (p3 := (⟨#[120]⟩ : ByteArray)) r32 r36 h42) rfl fun _ σ _ _ hO h43 h44 => ?_
 have hL := hL.trans h43
 have r23 := r23.le h43
 have r32 := r32.le h43
 have r36 := r36.le h43
 have r6 := r6.le h43
 have r10 := r10.le h43
 obtain ⟨rfl, rfl⟩ := h44
 have hO : Obs _ _ [_, _] := hO
 refine zc hO [] [(1, zqA b13), (2, .slice A19 c14.1.length c20), (3, zqz c14.2), (4, .slice A30 c25.1.length c31), (5, .slice A34 c25.2.1.length c35), (6, zqz c25.2.2.1), (7, zqz c25.2.2.2), (8, zqz c37.1), (9, .bool c37.2), (10, zqz c41.1), (11, .bool c41.2)] zqt fun j => ?_
 refine zd hO 12 [] [(1, zqA b13), (4, .slice A30 c25.1.length c31), (5, .slice A34 c25.2.1.length c35), (8, zqz c37.1), (9, .bool c37.2), (10, zqz c41.1), (11, .bool c41.2), (54, .bool ((((c14.2 == 0) && ((c14.1.length : Int) == 20)) && (c25.2.2.2 == 0)) && (c25.2.2.1 == 20)))] (And.intro (And.intro rfl rfl) (fun _ => And.intro (And.intro rfl rfl) (fun _ => And.intro (And.intro rfl rfl) (fun _ => zqy zqp)))) fun j => ?_
 have hO := hO.sel [0] (by decide)
 have hO : Obs _ _ [_] := hO
 obtain ⟨c45, h46, hF⟩ := bind_some hF
 refine zbQ 2 (fun e' σ' => ∃ (τ' : Hp), agr [(59, .bool c45), (1, zqA b13), (5, .slice A34 c25.2.1.length c35), (8, zqz c37.1), (9, .bool c37.2), (10, zqz c41.1), (11, .bool c41.2)] e' ∧ Obs τ' σ' [some (b13, ⟨[.slice A7 c1.L.length c8, .slice A11 c1.Points.length c12], 26, 2, true⟩)] ∧ Hp.le τ τ' ∧ RdT zbg τ' (.slice A34 c25.2.1.length c35) c25.2.1 ∧ RdT zV τ' (.slice A7 c1.L.length c8) c1.L ∧ RdT zbg τ' (.slice A11 c1.Points.length c12) c1.Points) ?_ ?_
 ·have hF := h46
  rcases zi hF with ⟨hb47, hF⟩ | ⟨hb47, hF⟩
  ·refine z7 (congrArg (fun x => isB (.bool x) true) hb47) ?_
   refine zd hO 3 [0] [(1, zqA b13), (5, .slice A34 c25.2.1.length c35), (8, zqz c37.1), (9, .bool c37.2), (10, zqz c41.1), (11, .bool c41.2), (54, .bool ((((c14.2 == 0) && ((c14.1.length : Int) == 20)) && (c25.2.2.2 == 0)) && (c25.2.2.1 == 20))), (55, .slice A30 c25.1.length c31), (57, .slice A7 c1.L.length c8)] (And.intro (And.intro rfl rfl) zqr) fun j => ?_
   obtain ⟨c48, h49, hF⟩ := bind_some hF
   refine zD hO (zjL r32 r6 h49) rfl fun _ σ _ _ hO h50 h51 => ?_
   have hL := hL.trans h50
   have r36 := r36.le h50
   have r32 := r32.le h50
   have r6 := r6.le h50
   have r10 := r10.le h50
   obtain ⟨rfl, rfl⟩ := h51
   have hO : Obs _ _ [_] := hO
   refine zJ (congrArg Value.bool hb47) ?_
   refine zh ?_
   injection hF with hF
   subst hF
   refine zg ?_
   exact ⟨rfl, _, zqy zqo, hO, hL, r36, r6, r10⟩
  ·refine z9 (congrArg (fun x => isB (.bool x) true) hb47) ?_
   refine zJ (congrArg Value.bool hb47) ?_
   refine zh ?_
   injection hF with hF
   subst hF
   refine zg ?_
   exact ⟨rfl, _, zqy zqo, hO, hL, r36, r6, r10⟩
 ·rintro e σ ⟨_, hA, hO, hL, r36, r6, r10⟩
  rw [← zL _ _ hA]
  refine zd hO 1 [] [(1, zqA b13), (5, .slice A34 c25.2.1.length c35), (8, zqz c37.1), (9, .bool c37.2), (10, zqz c41.1), (11, .bool c41.2), (60, .bool c45)] zqp fun j => ?_
  obtain ⟨c52, h53, hF⟩ := bind_some hF
  refine zbQ 2 (fun e' σ' => ∃ (τ' : Hp), agr [(65, .bool c52), (8, zqz c37.1), (9, .bool c37.2), (10, zqz c41.1), (11, .bool c41.2)] e' ∧ Obs τ' σ' [some (b13, ⟨[.slice A7 c1.L.length c8, .slice A11 c1.Points.length c12], 26, 2, true⟩)] ∧ Hp.le τ τ' ∧ RdT zV τ' (.slice A7 c1.L.length c8) c1.L ∧ RdT zbg τ' (.slice A11 c1.Points.length c12) c1.Points) ?_ ?_
  ·have hF := h53
   rcases zi hF with ⟨hb54, hF⟩ | ⟨hb54, hF⟩
   ·refine z7 (congrArg (fun x => isB (.bool x) true) hb54) ?_
    refine zd hO 3 [0] [(8, zqz c37.1), (9, .bool c37.2), (10, zqz c41.1), (11, .bool c41.2), (60, .bool c45), (61, .slice A34 c25.2.1.length c35), (63, .slice A11 c1.Points.length c12)] (And.intro (And.intro rfl rfl) zqp) fun j => ?_
    obtain ⟨c55, h56, hF⟩ := bind_some hF
    refine zD hO (zkN r36 r10 h56) rfl fun _ σ _ _ hO h57 h58 => ?_
    have hL := hL.trans h57
    have r36 := r36.le h57
    have r10 := r10.le h57
    have r6 := r6.le h57
    obtain ⟨rfl, rfl⟩ := h58
    have hO : Obs _ _ [_] := hO
    refine zJ (congrArg Value.bool hb54) ?_
    refine zh ?_
    injection hF with hF
    subst hF
    refine zg ?_
    exact ⟨rfl, _, zqy zqm, hO, hL, r6, r10⟩
   ·refine z9 (congrArg (fun x => isB (.bool x) true) hb54) ?_
    refine zJ (congrArg Value.bool hb54) ?_
    refine zh ?_
    injection hF with hF
    subst hF
    refine zg ?_
    exact ⟨rfl, _, zqy zqm, hO, hL, r6, r10⟩
  ·rintro e σ ⟨_, hA, hO, hL, r6, r10⟩
   rw [← zL _ _ hA]
   refine zc hO [] [(0, .bool ((((c52 && (c37.1 == 0)) && c37.2) && (c41.1 == 0)) && c41.2))] (And.intro (And.intro rfl rfl) (fun _ => And.intro (And.intro rfl rfl) (fun _ => And.intro (And.intro rfl rfl) (fun _ => And.intro (And.intro rfl rfl) (fun _ => zqy trivial))))) fun j => ?_
   refine zK ?_
   injection hF with hF
   subst hF
   have hO := hO.sel [] (by decide)
   exact hQ _ _ _ _ _ rfl hO hL ⟨rfl, rfl⟩
end Go.Proofs.YtckcngkkofemjaaGreat
