import Derived.Test.YtckcngkkofemjaaGreatG0
namespace Go.Proofs.YtckcngkkofemjaaGreat
open Go.Ab Go.RowKit
set_option linter.unusedVariables false
set_option linter.unusedSimpArgs false
set_option maxRecDepth 10000
set_option maxHeartbeats 1000000
theorem zpS {τ : Hp} {v0 : Value} {p0 : (List UInt8)} {v1 : Value} {p1 : (List zq)} (r0 : RdT Ty.u8 τ v0 p0) (r1 : RdT zT τ v1 p1) {rr : (List UInt8) × Int} (hF : zjB p0 p1 = some rr) :
  Ctr Tryz.prog 79 #[v0, v1] τ [] (fun v τ' vs' => ∃ (v0 : Value) (o0 : Ob), v = .tuple #[v0, .int .i64 rr.2] ∧ vs' = [o0] ∧ zr Ty.u8 5 τ' v0 rr.1 o0) := by
 obtain ⟨A0, c0, rfl, -⟩ := r0.form
 obtain ⟨A1, c1, rfl, -⟩ := r1.form
 refine zM (args := [.slice A0 p0.length c0, .slice A1 p1.length c1]) hm Tryz.func79 s79 rfl fun w0 σ hO Q hQ => ?_
 unfold zjB at hF
 have hL := Hp.le.refl τ
 show wpn _ _ a79.body _ _ _
 unfold a79
 dsimp only
 refine zc hO [] [(0, .slice A0 p0.length c0), (1, .slice A1 p1.length c1)] zqk fun j => ?_
 refine ze (zd hO 1 [] [(0, .slice A0 p0.length c0), (1, .slice A1 p1.length c1), (10, .slice A1 p1.length c1)] zql fun j => ?_)
 obtain ⟨c3, h4, hF⟩ := bind_some hF
 refine zD hO (zib r1 h4) rfl fun _ σ _ _ hO h5 h6 => ?_
 have hL := hL.trans h5
 have r0 := r0.le h5
 have r1 := r1.le h5
 obtain ⟨rfl, rfl⟩ := h6
 have hO : Obs _ _ [] := hO
 refine zc hO [] [(0, .slice A0 p0.length c0), (1, .slice A1 p1.length c1), (12, .bool (!c3))] zql fun j => ?_
 rcases zi hF with ⟨hb7, hF⟩ | ⟨hb7, hF⟩
 ·refine zk (congrArg Value.bool hb7) ?_
  refine ze (zc hO [] [(4, .slice none 0 0), (5, zqz 1)] zqk fun j => ?_)
  refine zu ?_
  have hO := hO.no
  have hO : Obs _ _ [_] := hO
  injection hF with hF
  subst hF
  exact hQ _ _ _ _ _ rfl hO hL ⟨_, _, rfl, rfl, (zr.nil _ _ _)⟩
 ·refine zl (congrArg Value.bool hb7) ?_
  refine zm (zd hO 4 [] [(1, .slice A1 p1.length c1), (13, .slice A0 p0.length c0), (16, .int .u64 (IntKind.u64.wrap (p1.length : Int)))] zql fun j => ?_)
  obtain ⟨c8, h9, hF⟩ := bind_some hF
  refine zD hO (zdV r0 h9) rfl fun _ σ _ _ hO h10 h11 => ?_
  have hL := hL.trans h10
  have r1 := r1.le h10
  have r0 := r0.le h10
  obtain ⟨v12, o15, rfl, rfl, w16⟩ := h11
  obtain ⟨A13, c14, rfl, -⟩ := w16.form
  have hO : Obs _ _ [_] := hO
  refine zc hO [] [(1, .slice A1 p1.length c1), (6, .slice A13 c8.length c14)] zqk fun j => ?_
  refine zc hO [] [(1, .slice A1 p1.length c1), (6, .slice A13 c8.length c14), (7, zqz 0)] zql fun j => ?_
  refine ze (zc hO [] [(6, .slice A13 c8.length c14), (7, zqz 0), (18, .slice A1 p1.length c1), (19, zqz (p1.length : Int)), (20, zqz 0)] zqn fun j => ?_)
  refine zt (zZ (fun (n : Nat) e' σ' => ∃ (A67 : Option Addr) (c68 : Nat) (o69 : Ob) (x70 : List UInt8) (x72 : Int) (x74 : Int) (τ' : Hp), agr [(6, .slice A67 x70.length c68), (7, zqz x72), (18, .slice A1 p1.length c1), (19, zqz (p1.length : Int)), (20, zqz x74)] e' ∧ Obs τ' σ' [o69] ∧ Hp.le τ τ' ∧ zr Ty.u8 5 τ' (.slice A67 x70.length c68) x70 o69 ∧ RdT zT τ' (.slice A1 p1.length c1) p1 ∧ zhT p1 n x70 x72 x74 = some rr) big ⟨A13, c14, o15, c8, 0, 0, _, zqy zqm, hO, hL, w16, r1, hF⟩ ?_)
  clear hF hO hL
  rintro n119 e σ ⟨A67, c68, o69, x70, x72, x74, _, hA, hO, hL, w71, r73, hF⟩
  rw [← zL _ _ hA]
  cases n119 with
  | zero => exact nomatch (show none = some rr from hF)
  | succ n119 =>
   replace hF : ziZ (zhT p1 n119) p1 x70 x72 x74 = some rr := hF
   unfold ziZ at hF
   refine zc hO [] [(6, .slice A67 x70.length c68), (7, zqz x72), (18, .slice A1 p1.length c1), (19, zqz (p1.length : Int)), (20, zqz x74), (21, .bool (decide (x74 < (p1.length : Int))))] zqo fun j => ?_
   rcases zi hF with ⟨hb120, hF⟩ | ⟨hb120, hF⟩
   ·refine zk (congrArg Value.bool hb120) ?_
    refine zm (zt ?_)
    obtain ⟨y121, g122, hF⟩ := bind_some hF
    refine zC (T := zT) r73 hO.base rfl rfl g122 (by decide) fun a123 _ k124 m125 => ?_
    obtain ⟨v126, rfl, r127⟩ := k124
    obtain ⟨A128, c129, rfl, -⟩ := r127.form
    refine zy rfl ((m125.le hO.base).all rfl) ?_
    refine zbq hO fun b130 σ hO => ?_
    have hO : Obs _ _ [_, _] := hO
    refine zO hO (i := 1) rfl (off := 0) rfl rfl rfl rfl (Nat.le_of_ble_eq_true rfl) rfl fun σ hO => ?_
    have hO : Obs _ _ [_, _] := hO
    refine zh (zbr (zd hO 12 [1, 1, 1] [(9, zqA b130), (18, .slice A1 p1.length c1), (19, zqz (p1.length : Int)), (20, zqz x74), (24, .slice A67 x70.length c68), (29, .int .u64 (IntKind.u64.wrap (IntKind.i64.wrap (y121.From - x72)))), (31, .pointer (some ⟨b130, 1, none⟩)), (32, zqz y121.To), (33, zqA b130), (34, zqz y121.From), (36, .int .u64 (IntKind.u64.wrap (IntKind.i64.wrap (y121.To - y121.From))))] (And.intro (And.intro rfl rfl) (And.intro (And.intro rfl rfl) (And.intro (And.intro rfl rfl) zqt))) fun j => ?_))
    refine zbz ?_
    obtain ⟨_, h132, r131, hO⟩ := w71.share hO (i := 0) rfl
    have hL := hL.trans h132
    have r73 := r73.le h132
    have r127 := r127.le h132
    have hO : Obs _ _ [_, _] := hO
    obtain ⟨c133, h134, hF⟩ := bind_some hF
    refine zD hO (zdV r131 h134) rfl fun _ σ _ _ hO h135 h136 => ?_
    have hL := hL.trans h135
    have r73 := r73.le h135
    have r131 := r131.le h135
    have r127 := r127.le h135
    obtain ⟨v137, o140, rfl, rfl, w141⟩ := h136
    obtain ⟨A138, c139, rfl, -⟩ := w141.form
    have hO : Obs _ _ [_, _, _] := hO
    refine zh (zbx ⟨(zbi rfl (hO.val (i := 1) (off := 0) (agg := false) (n := 1) rfl rfl) rfl), (zbi rfl (hO.val (i := 1) (off := 1) (agg := false) (n := 1) rfl rfl) rfl), trivial⟩ ?_)
    obtain ⟨_, h143, r142, hO⟩ := w141.share hO (i := 2) rfl
    have hL := hL.trans h143
    have r73 := r73.le h143
    have r131 := r131.le h143
    have r127 := r127.le h143
    have hO : Obs _ _ [_, _, _] := hO
    obtain ⟨c144, h145, hF⟩ := bind_some hF
    refine zD hO (zdV r142 h145) rfl fun _ σ _ _ hO h146 h147 => ?_
    have hL := hL.trans h146
    have r73 := r73.le h146
    have r131 := r131.le h146
    have r142 := r142.le h146
    have r127 := r127.le h146
    obtain ⟨v148, o151, rfl, rfl, w152⟩ := h147
    obtain ⟨A149, c150, rfl, -⟩ := w152.form
    have hO : Obs _ _ [_, _, _, _] := hO
    refine zc hO [] [(6, .slice A149 c144.length c150), (9, zqA b130), (18, .slice A1 p1.length c1), (19, zqz (p1.length : Int)), (20, zqz x74)] zqn fun j => ?_
    refine zd hO 3 [1] [(9, zqA b130), (18, .slice A1 p1.length c1), (19, zqz (p1.length : Int)), (20, zqz x74), (39, .slice A149 c144.length c150), (41, .slice A128 y121.At.length c129)] (And.intro (And.intro rfl rfl) zqo) fun j => ?_
    obtain ⟨_, h154, r153, hO⟩ := w152.share hO (i := 3) rfl
    have hL := hL.trans h154
    have r73 := r73.le h154
    have r127 := r127.le h154
    have hO : Obs _ _ [_, _, _, _] := hO
    obtain ⟨c155, h156, hF⟩ := bind_some hF
    refine zD hO (zoc r153 r127 h156) rfl fun _ σ _ _ hO h157 h158 => ?_
    have hL := hL.trans h157
    have r73 := r73.le h157
    have r153 := r153.le h157
    have r127 := r127.le h157
    obtain ⟨v159, o162, rfl, rfl, w163⟩ := h158
    obtain ⟨A160, c161, rfl, -⟩ := w163.form
    have hO : Obs _ _ [_, _, _, _, _] := hO
    refine zc hO [] [(6, .slice A160 c155.1.length c161), (9, zqA b130), (18, .slice A1 p1.length c1), (19, zqz (p1.length : Int)), (20, zqz x74)] zqn fun j => ?_
    refine zA (zc hO [1] [(6, .slice A160 c155.1.length c161), (7, zqz y121.To), (18, .slice A1 p1.length c1), (19, zqz (p1.length : Int)), (20, zqz x74)] (And.intro (And.intro rfl rfl) zqn) fun j => ?_)
    refine zg (zP (zj (zA (zc hO [] [(6, .slice A160 c155.1.length c161), (7, zqz y121.To), (18, .slice A1 p1.length c1), (19, zqz (p1.length : Int)), (20, zqz (IntKind.i64.wrap (x74 + 1)))] zqn fun j => ?_))))
    refine zg (zj ?_)
    have hO := hO.sel [4] (by decide)
    exact ⟨n119, Nat.lt_succ_self _, A160, c161, o162, c155.1, y121.To, (IntKind.i64.wrap (x74 + 1)), _, zqy zqm, hO, hL, w163, r73, hF⟩
   ·refine zl (congrArg Value.bool hb120) ?_
    refine zU (zY (z0 (zj (zc hO [] [(4, .slice A67 x70.length c68), (5, zqz 0)] zqk fun j => ?_))))
    refine zK ?_
    injection hF with hF
    subst hF
    exact hQ _ _ _ _ _ rfl hO hL ⟨_, _, rfl, rfl, w71⟩
theorem zhC {τ : Hp} {q0 : z8} {bm0 : Nat} {vm0_0 : Value} {om0_0 : Ob} {p1 : ByteArray} (wm0_0 : zr Ty.u8 5 τ vm0_0 q0.b om0_0) {rr : z8} (hF : zed q0 p1 = some rr) :
  Ctr Tryz.prog 57 #[.pointer (some ⟨bm0, 0, none⟩), .string p1] τ [some (bm0, ⟨[vm0_0], 68, 1, true⟩), om0_0] (fun v τ' vs' => ∃ (u0_0 : Value) (y0_0 : Ob), v = .tuple #[] ∧ vs' = [some (bm0, ⟨[u0_0], 68, 1, true⟩), y0_0] ∧ zr Ty.u8 5 τ' u0_0 rr.b y0_0) := by
 obtain ⟨Am0_0, cm0_0, rfl, -⟩ := wm0_0.form
 refine zhW (args := [.pointer (some ⟨bm0, 0, none⟩), .string p1]) hm Tryz.func57 s57 rfl fun w0 σ hO Q hQ => ?_
 unfold zed at hF
 have hL := Hp.le.refl τ
 show wpn _ _ a57.body _ _ _
 unfold a57
 dsimp only
 refine zA (zd hO 6 [0] [(0, zqA bm0), (5, zqA bm0), (9, .slice Am0_0 q0.b.length cm0_0), (10, .string p1)] (And.intro (And.intro rfl rfl) zqm) fun j => ?_)
 obtain ⟨_, h4, r3, hO⟩ := wm0_0.share hO (i := 1) rfl
 have hL := hL.trans h4
 have hO : Obs _ _ [_, _] := hO
 obtain ⟨c5, h6, hF⟩ := bind_some hF
 refine zD hO (zoF r3 h6) rfl fun _ σ _ _ hO h7 h8 => ?_
 have hL := hL.trans h7
 have r3 := r3.le h7
 obtain ⟨v9, o12, rfl, rfl, w13⟩ := h8
 obtain ⟨A10, c11, rfl, -⟩ := w13.form
 have hO : Obs _ _ [_, _, _] := hO
 refine zd hO 5 [] [(0, zqA bm0), (12, .slice A10 c5.1.length c11), (15, zqA bm0)] zql fun j => ?_
 refine zO hO (i := 0) rfl (off := 0) rfl rfl rfl rfl (Nat.le_of_ble_eq_true rfl) rfl fun σ hO => ?_
 have hO : Obs _ _ [_, _, _] := hO
 refine zh (zg ?_)
 injection hF with hF
 subst hF
 have hO := hO.sel [0, 2] (by decide)
 exact (hQ _ _ _ _ _ rfl hO hL ⟨_, _, rfl, rfl, w13⟩).2
theorem zcM {τ : Hp} {q0 : z8} {bm0 : Nat} {vm0_0 : Value} {om0_0 : Ob} {p1 : Int} (wm0_0 : zr Ty.u8 5 τ vm0_0 q0.b om0_0) {rr : z8} (hF : zcr q0 p1 = some rr) :
  Ctr Tryz.prog 28 #[.pointer (some ⟨bm0, 0, none⟩), .int .i64 p1] τ [some (bm0, ⟨[vm0_0], 68, 1, true⟩), om0_0] (fun v τ' vs' => ∃ (u0_0 : Value) (y0_0 : Ob), v = .tuple #[] ∧ vs' = [some (bm0, ⟨[u0_0], 68, 1, true⟩), y0_0] ∧ zr Ty.u8 5 τ' u0_0 rr.b y0_0) := by
 obtain ⟨Am0_0, cm0_0, rfl, -⟩ := wm0_0.form
 refine zhW (args := [.pointer (some ⟨bm0, 0, none⟩), .int .i64 p1]) hm Tryz.func28 s28 rfl fun w0 σ hO Q hQ => ?_
 unfold zcr at hF
 have hL := Hp.le.refl τ
 show wpn _ _ a28.body _ _ _
 unfold a28
 dsimp only
 refine zA (zd hO 7 [0] [(0, zqA bm0), (4, zqA bm0), (8, .slice Am0_0 q0.b.length cm0_0), (10, .int .u64 (IntKind.u64.wrap p1))] (And.intro (And.intro rfl rfl) zqm) fun j => ?_)
 obtain ⟨_, h4, r3, hO⟩ := wm0_0.share hO (i := 1) rfl
 have hL := hL.trans h4
 have hO : Obs _ _ [_, _] := hO
 obtain ⟨c5, h6, hF⟩ := bind_some hF
 refine zD hO (zdV r3 h6) rfl fun _ σ _ _ hO h7 h8 => ?_
 have hL := hL.trans h7
 have r3 := r3.le h7
 obtain ⟨v9, o12, rfl, rfl, w13⟩ := h8
 obtain ⟨A10, c11, rfl, -⟩ := w13.form
 have hO : Obs _ _ [_, _, _] := hO
 refine zd hO 2 [] [(0, zqA bm0), (11, .slice A10 c5.length c11), (13, zqA bm0)] zql fun j => ?_
 refine zO hO (i := 0) rfl (off := 0) rfl rfl rfl rfl (Nat.le_of_ble_eq_true rfl) rfl fun σ hO => ?_
 have hO : Obs _ _ [_, _, _] := hO
 refine zh (zg ?_)
 injection hF with hF
 subst hF
 have hO := hO.sel [0, 2] (by decide)
 exact (hQ _ _ _ _ _ rfl hO hL ⟨_, _, rfl, rfl, w13⟩).2
theorem zm2 {τ : Hp} {q0 : z8} {bm0 : Nat} {vm0_0 : Value} {om0_0 : Ob} {p1 : zG} {v1_5 : Value} {v2 : Value} {p2 : (List zq)} (wm0_0 : zr Ty.u8 5 τ vm0_0 q0.b om0_0) (r1_5 : RdT Ty.str τ v1_5 p1.Fields) (r2 : RdT zT τ v2 p2) {rr : z8} (hF : zh2 q0 p1 p2 = some rr) :
  Ctr Tryz.prog 58 #[.pointer (some ⟨bm0, 0, none⟩), .agg #[.string p1.Name, .int .u8 p1.Type_.Kind.toNat, .int .i64 p1.Type_.N, .string p1.Type_.Name, .int .i64 p1.Words, v1_5], v2] τ [some (bm0, ⟨[vm0_0], 68, 1, true⟩), om0_0] (fun v τ' vs' => ∃ (u0_0 : Value) (y0_0 : Ob), v = .tuple #[] ∧ vs' = [some (bm0, ⟨[u0_0], 68, 1, true⟩), y0_0] ∧ zr Ty.u8 5 τ' u0_0 rr.b y0_0) := by
 obtain ⟨Am0_0, cm0_0, rfl, -⟩ := wm0_0.form
 obtain ⟨A1_5, c1_5, rfl, -⟩ := r1_5.form
 obtain ⟨A2, c2, rfl, -⟩ := r2.form
 refine zhW (args := [.pointer (some ⟨bm0, 0, none⟩), .agg #[.string p1.Name, .int .u8 p1.Type_.Kind.toNat, .int .i64 p1.Type_.N, .string p1.Type_.Name, .int .i64 p1.Words, (.slice A1_5 p1.Fields.length c1_5)], .slice A2 p2.length c2]) hm Tryz.func58 s58 rfl fun w0 σ hO Q hQ => ?_
 unfold zh2 at hF
 have hL := Hp.le.refl τ
 show wpn _ _ a58.body _ _ _
 unfold a58
 dsimp only
 refine zb2 (n := 6) hO rfl rfl fun b4 σ hO => ?_
 have hO : Obs _ _ [_, _, _] := hO
 refine zh (zd hO 3 [2] [(0, zqA bm0), (2, .slice A2 p2.length c2), (4, zqA b4), (8, zqA bm0), (10, .string p1.Name)] (And.intro (And.intro rfl rfl) zqn) fun j => ?_)
 obtain ⟨c5, h6, hF⟩ := bind_some hF
 have hO := hO.sel [2, 0, 1] (by decide)
 refine zX (hs := [_]) (vs := [_, _]) hO (zhC (q0 := (⟨q0.b⟩ : z8)) wm0_0 h6) rfl fun _ σ _ _ hO h7 h8 => ?_
 have hL := hL.trans h7
 have r2 := r2.le h7
 have r1_5 := r1_5.le h7
 obtain ⟨v9, o12, rfl, rfl, w13⟩ := h8
 obtain ⟨A10, c11, rfl, -⟩ := w13.form
 have hO : Obs _ _ [_, _, _] := hO
 refine zh (zbr (zd hO 8 [1, 0] [(0, zqA bm0), (2, .slice A2 p2.length c2), (4, zqA b4), (12, zqA bm0), (15, zqA bm0), (16, .slice A10 c5.b.length c11), (19, .int .u8 (p1.Type_.Kind.toNat : Int))] (And.intro (And.intro rfl rfl) (And.intro (And.intro rfl rfl) zqp)) fun j => ?_))
 refine zbz (zbX (T := Ty.u8) (l := ([p1.Type_.Kind] : List UInt8)) (cs := [.int .u8 (p1.Type_.Kind.toNat : Int)]) hO rfl ⟨[.int .u8 (p1.Type_.Kind.toNat : Int)], _, rfl, rfl, rfl⟩ rfl (by decide) fun _ σ o16 w17 hO => ?_)
 obtain ⟨A14, c15, rfl, -⟩ := w17.form
 have hO : Obs _ _ [_, _, _, _] := hO
 refine zh (zbx ⟨(zbi rfl (hO.val (i := 1) (off := 0) (agg := false) (n := 1) rfl rfl) rfl), trivial⟩ ?_)
 obtain ⟨_, hr22, hF⟩ := bind_some hF
 refine zjt (T := Ty.u8) zoz hO w13 (i := 2) rfl rfl rfl (w17.rd hO (i := 3) rfl) hr22 (by decide) fun _ σ o20 w21 hO => ?_
 obtain ⟨A18, c19, rfl, -⟩ := w21.form
 have hO : Obs _ _ [_, _, _, _] := hO
 refine zd hO 2 [] [(0, zqA bm0), (2, .slice A2 p2.length c2), (4, zqA b4), (21, .slice A18 (c5.b ++ ([p1.Type_.Kind] : List UInt8)).length c19), (23, zqA bm0)] zqn fun j => ?_
 refine zO hO (i := 1) rfl (off := 0) rfl rfl rfl rfl (Nat.le_of_ble_eq_true rfl) rfl fun σ hO => ?_
 have hO : Obs _ _ [_, _, _, _] := hO
 refine zh (ze (zc hO [0] [(0, zqA bm0), (2, .slice A2 p2.length c2), (4, zqA b4), (26, .int .u8 (p1.Type_.Kind.toNat : Int))] (And.intro (And.intro rfl rfl) zqm) fun j => ?_))
 refine zjT (fun e' σ' => ∃ (A113 : Option Addr) (c114 : Nat) (o115 : Ob) (x116 : List UInt8) (τ' : Hp), agr [(0, zqA bm0), (2, .slice A2 p2.length c2)] e' ∧ Obs τ' σ' [some (bm0, ⟨[.slice A113 x116.length c114], 68, 1, true⟩), o115] ∧ Hp.le τ τ' ∧ zr Ty.u8 5 τ' (.slice A113 x116.length c114) x116 o115 ∧ RdT zT τ' (.slice A2 p2.length c2) p2 ∧ ze6 p2 x116 = some rr) ?_ ?_
 ·refine zc hO [] [(0, zqA bm0), (2, .slice A2 p2.length c2), (4, zqA b4), (26, .int .u8 (p1.Type_.Kind.toNat : Int)), (27, .bool ((p1.Type_.Kind.toNat : Int) == 3))] zqn fun j => ?_
  refine zbl ?_
  rcases zi hF with ⟨hb130, hF⟩ | ⟨hb130, hF⟩
  ·refine zk (congrArg Value.bool hb130) ?_
   refine zd hO 4 [0] [(0, zqA bm0), (2, .slice A2 p2.length c2), (29, zqA bm0), (32, zqz p1.Type_.N)] (And.intro (And.intro rfl rfl) zqm) fun j => ?_
   obtain ⟨c131, h132, hF⟩ := bind_some hF
   have hO := hO.sel [0, 3, 1, 2] (by decide)
   refine zX (hs := [_, _]) (vs := [_, _]) hO (zcM (q0 := (⟨(c5.b ++ ([p1.Type_.Kind] : List UInt8))⟩ : z8)) w21 h132) rfl fun _ σ _ _ hO h133 h134 => ?_
   have hL := hL.trans h133
   have r2 := r2.le h133
   have r1_5 := r1_5.le h133
   obtain ⟨v135, o138, rfl, rfl, w139⟩ := h134
   obtain ⟨A136, c137, rfl, -⟩ := w139.form
   have hO : Obs _ _ [_, _, _, _] := hO
   refine zh (zg (zP (zj ?_)))
   have hO := hO.sel [2, 3] (by decide)
   exact ⟨A136, c137, o138, c131.b, _, zqy zqj, hO, hL, w139, r2, hF⟩
  ·refine zl (congrArg Value.bool hb130) ?_
   refine ze (zc hO [] [(0, zqA bm0), (2, .slice A2 p2.length c2), (4, zqA b4), (34, .bool ((p1.Type_.Kind.toNat : Int) == 4))] zqm fun j => ?_)
   rcases zi hF with ⟨hb140, hF⟩ | ⟨hb140, hF⟩
   ·refine zk (congrArg Value.bool hb140) ?_
    refine ze (zd hO 4 [0] [(0, zqA bm0), (2, .slice A2 p2.length c2), (4, zqA b4), (36, zqA bm0), (39, .string p1.Type_.Name)] (And.intro (And.intro rfl rfl) zqn) fun j => ?_)
    obtain ⟨c141, h142, hF⟩ := bind_some hF
    have hO := hO.sel [0, 3, 1, 2] (by decide)
    refine zX (hs := [_, _]) (vs := [_, _]) hO (zhC (q0 := (⟨(c5.b ++ ([p1.Type_.Kind] : List UInt8))⟩ : z8)) w21 h142) rfl fun _ σ _ _ hO h143 h144 => ?_
    have hL := hL.trans h143
    have r2 := r2.le h143
    have r1_5 := r1_5.le h143
    obtain ⟨v145, o148, rfl, rfl, w149⟩ := h144
    obtain ⟨A146, c147, rfl, -⟩ := w149.form
    have hO : Obs _ _ [_, _, _, _] := hO
    refine zh (ze (zd hO 4 [0] [(0, zqA bm0), (2, .slice A2 p2.length c2), (4, zqA b4), (41, zqA bm0), (44, zqz (p1.Fields.length : Int))] (And.intro (And.intro rfl rfl) zqn) fun j => ?_))
    obtain ⟨c150, h151, hF⟩ := bind_some hF
    refine zX (hs := [_, _]) (vs := [_, _]) hO (zcM (q0 := (⟨c141.b⟩ : z8)) w149 h151) rfl fun _ σ _ _ hO h152 h153 => ?_
    have hL := hL.trans h152
    have r2 := r2.le h152
    have r1_5 := r1_5.le h152
    obtain ⟨v154, o157, rfl, rfl, w158⟩ := h153
    obtain ⟨A155, c156, rfl, -⟩ := w158.form
    have hO : Obs _ _ [_, _, _, _] := hO
    refine zh (ze (zc hO [0] [(0, zqA bm0), (2, .slice A2 p2.length c2), (47, .slice A1_5 p1.Fields.length c1_5), (48, zqz (p1.Fields.length : Int)), (49, zqz 0)] (And.intro (And.intro rfl rfl) zqn) fun j => ?_))
    refine zt ?_
    have hO := hO.sel [2, 3] (by decide)
    refine zZ (fun (n : Nat) e' σ' => ∃ (A181 : Option Addr) (c182 : Nat) (o183 : Ob) (x184 : List UInt8) (x188 : Int) (τ' : Hp), agr [(0, zqA bm0), (2, .slice A2 p2.length c2), (47, .slice A1_5 p1.Fields.length c1_5), (48, zqz (p1.Fields.length : Int)), (49, zqz x188)] e' ∧ Obs τ' σ' [some (bm0, ⟨[.slice A181 x184.length c182], 68, 1, true⟩), o183] ∧ Hp.le τ τ' ∧ zr Ty.u8 5 τ' (.slice A181 x184.length c182) x184 o183 ∧ RdT zT τ' (.slice A2 p2.length c2) p2 ∧ RdT Ty.str τ' (.slice A1_5 p1.Fields.length c1_5) p1.Fields ∧ zgZ p1 p2 n x184 x188 = some rr) big ⟨A155, c156, o157, c150.b, 0, _, zqy zqm, hO, hL, w158, r2, r1_5, hF⟩ ?_
    clear hF hO hL
    rintro n204 e σ ⟨A181, c182, o183, x184, x188, _, hA, hO, hL, w185, r186, r187, hF⟩
    rw [← zL _ _ hA]
    cases n204 with
    | zero => exact nomatch (show none = some rr from hF)
    | succ n204 =>
     replace hF : zik (zgZ p1 p2 n204) p1 p2 x184 x188 = some rr := hF
     unfold zik at hF
     refine zc hO [] [(0, zqA bm0), (2, .slice A2 p2.length c2), (47, .slice A1_5 p1.Fields.length c1_5), (48, zqz (p1.Fields.length : Int)), (49, zqz x188), (50, .bool (decide (x188 < (p1.Fields.length : Int))))] zqo fun j => ?_
     rcases zi hF with ⟨hb205, hF⟩ | ⟨hb205, hF⟩
     ·refine zk (congrArg Value.bool hb205) ?_
      refine zm (zt ?_)
      obtain ⟨y206, g207, hF⟩ := bind_some hF
      refine zC (T := Ty.str) r187 hO.base rfl rfl g207 (by decide) fun a208 _ k209 m210 => ?_
      obtain rfl : _ = ([.string y206] : List Value) := k209
      refine zy rfl (m210.le hO.base).fst ?_
      refine zc hO [] [(0, zqA bm0), (2, .slice A2 p2.length c2), (7, .string y206), (47, .slice A1_5 p1.Fields.length c1_5), (48, zqz (p1.Fields.length : Int)), (49, zqz x188)] zqo fun j => ?_
      refine zA (zd hO 2 [] [(0, zqA bm0), (2, .slice A2 p2.length c2), (47, .slice A1_5 p1.Fields.length c1_5), (48, zqz (p1.Fields.length : Int)), (49, zqz x188), (53, zqA bm0), (54, .string y206)] zqp fun j => ?_)
      obtain ⟨c211, h212, hF⟩ := bind_some hF
      refine zX (hs := []) (vs := [_, _]) hO (zhC (q0 := (⟨x184⟩ : z8)) w185 h212) rfl fun _ σ _ _ hO h213 h214 => ?_
      have hL := hL.trans h213
      have r186 := r186.le h213
      have r187 := r187.le h213
      obtain ⟨v215, o218, rfl, rfl, w219⟩ := h214
      obtain ⟨A216, c217, rfl, -⟩ := w219.form
      have hO : Obs _ _ [_, _] := hO
      refine zh (zg (zP (zj (zA (zc hO [] [(0, zqA bm0), (2, .slice A2 p2.length c2), (47, .slice A1_5 p1.Fields.length c1_5), (48, zqz (p1.Fields.length : Int)), (49, zqz (IntKind.i64.wrap (x188 + 1)))] zqn fun j => ?_)))))
      refine zg (zj ?_)
      exact ⟨n204, Nat.lt_succ_self _, A216, c217, o218, c211.b, (IntKind.i64.wrap (x188 + 1)), _, zqy zqm, hO, hL, w219, r186, r187, hF⟩
     ·refine zl (congrArg Value.bool hb205) ?_
      refine zU (zY (z0 (zj (zg (zP (zj ?_))))))
      exact ⟨A181, c182, o183, x184, _, zqy zqj, hO, hL, w185, r186, hF⟩
   ·refine zl (congrArg Value.bool hb140) ?_
    refine zm (zg (zP (zj ?_)))
    have hO := hO.sel [1, 2] (by decide)
    exact ⟨A18, c19, o20, (c5.b ++ ([p1.Type_.Kind] : List UInt8)), _, zqy zqj, hO, hL, w21, r2, hF⟩
 ·rintro e σ ⟨A113, c114, o115, x116, _, hA, hO, hL, w117, r118, hF⟩
  rw [← zL _ _ hA]
  unfold ze6 at hF
  refine zA (zd hO 6 [0] [(0, zqA bm0), (58, zqA bm0), (62, .slice A113 x116.length c114), (63, .slice A2 p2.length c2)] (And.intro (And.intro rfl rfl) zqm) fun j => ?_)
  obtain ⟨_, h120, r119, hO⟩ := w117.share hO (i := 1) rfl
  have hL := hL.trans h120
  have r118 := r118.le h120
  have hO : Obs _ _ [_, _] := hO
  obtain ⟨c121, h122, hF⟩ := bind_some hF
  refine zD hO (zpS r119 r118 h122) rfl fun _ σ _ _ hO h123 h124 => ?_
  have hL := hL.trans h123
  have r119 := r119.le h123
  have r118 := r118.le h123
  obtain ⟨v125, o128, rfl, rfl, w129⟩ := h124
  obtain ⟨A126, c127, rfl, -⟩ := w129.form
  have hO : Obs _ _ [_, _, _] := hO
  refine zd hO 5 [] [(0, zqA bm0), (65, .slice A126 c121.1.length c127), (68, zqA bm0)] zql fun j => ?_
  refine zO hO (i := 0) rfl (off := 0) rfl rfl rfl rfl (Nat.le_of_ble_eq_true rfl) rfl fun σ hO => ?_
  have hO : Obs _ _ [_, _, _] := hO
  refine zh (zg ?_)
  injection hF with hF
  subst hF
  have hO := hO.sel [0, 2] (by decide)
  exact (hQ _ _ _ _ _ rfl hO hL ⟨_, _, rfl, rfl, w129⟩).2
theorem zoe {τ : Hp} {q0 : z8} {bm0 : Nat} {vm0_0 : Value} {om0_0 : Ob} {p1 : zo} {v1_3 : Value} {v1_4 : Value} {p2 : Int} (wm0_0 : zr Ty.u8 5 τ vm0_0 q0.b om0_0) (r1_3 : RdT zby τ v1_3 p1.Vars) (r1_4 : RdT (Ty.slice zT) τ v1_4 p1.Spans) {rr : z8} (hF : ziH q0 p1 p2 = some rr) :
  Ctr Tryz.prog 27 #[.pointer (some ⟨bm0, 0, none⟩), .agg #[.string p1.Name, .int .i64 p1.From, .int .i64 p1.To, v1_3, v1_4], .int .i64 p2] τ [some (bm0, ⟨[vm0_0], 68, 1, true⟩), om0_0] (fun v τ' vs' => ∃ (u0_0 : Value) (y0_0 : Ob), v = .tuple #[] ∧ vs' = [some (bm0, ⟨[u0_0], 68, 1, true⟩), y0_0] ∧ zr Ty.u8 5 τ' u0_0 rr.b y0_0) := by
 obtain ⟨Am0_0, cm0_0, rfl, -⟩ := wm0_0.form
 obtain ⟨A1_3, c1_3, rfl, -⟩ := r1_3.form
 obtain ⟨A1_4, c1_4, rfl, -⟩ := r1_4.form
 refine zhW (args := [.pointer (some ⟨bm0, 0, none⟩), .agg #[.string p1.Name, .int .i64 p1.From, .int .i64 p1.To, (.slice A1_3 p1.Vars.length c1_3), (.slice A1_4 p1.Spans.length c1_4)], .int .i64 p2]) hm Tryz.func27 s27 rfl fun w0 σ hO Q hQ => ?_
 unfold ziH at hF
 have hL := Hp.le.refl τ
 show wpn _ _ a27.body _ _ _
 unfold a27
 dsimp only
 refine zb2 (n := 5) hO rfl rfl fun b4 σ hO => ?_
 have hO : Obs _ _ [_, _, _] := hO
 refine zh (zd hO 3 [2] [(0, zqA bm0), (2, zqz p2), (4, zqA b4), (8, zqA bm0), (10, .string p1.Name)] (And.intro (And.intro rfl rfl) zqn) fun j => ?_)
 obtain ⟨c5, h6, hF⟩ := bind_some hF
 have hO := hO.sel [2, 0, 1] (by decide)
 refine zX (hs := [_]) (vs := [_, _]) hO (zhC (q0 := (⟨q0.b⟩ : z8)) wm0_0 h6) rfl fun _ σ _ _ hO h7 h8 => ?_
 have hL := hL.trans h7
 have r1_3 := r1_3.le h7
 have r1_4 := r1_4.le h7
 obtain ⟨v9, o12, rfl, rfl, w13⟩ := h8
 obtain ⟨A10, c11, rfl, -⟩ := w13.form
 have hO : Obs _ _ [_, _, _] := hO
 refine zh (zd hO 5 [0] [(0, zqA bm0), (4, zqA b4), (12, zqA bm0), (16, zqz (IntKind.i64.wrap (p1.From - p2)))] (And.intro (And.intro rfl rfl) zqm) fun j => ?_)
 obtain ⟨c14, h15, hF⟩ := bind_some hF
 refine zX (hs := [_]) (vs := [_, _]) hO (zcM (q0 := (⟨c5.b⟩ : z8)) w13 h15) rfl fun _ σ _ _ hO h16 h17 => ?_
 have hL := hL.trans h16
 have r1_3 := r1_3.le h16
 have r1_4 := r1_4.le h16
 obtain ⟨v18, o21, rfl, rfl, w22⟩ := h17
 obtain ⟨A19, c20, rfl, -⟩ := w22.form
 have hO : Obs _ _ [_, _, _] := hO
 refine zh (zd hO 6 [0, 0] [(0, zqA bm0), (4, zqA b4), (18, zqA bm0), (23, zqz (IntKind.i64.wrap (p1.To - p1.From)))] (And.intro (And.intro rfl rfl) (And.intro (And.intro rfl rfl) zqm)) fun j => ?_)
 obtain ⟨c23, h24, hF⟩ := bind_some hF
 refine zX (hs := [_]) (vs := [_, _]) hO (zcM (q0 := (⟨c14.b⟩ : z8)) w22 h24) rfl fun _ σ _ _ hO h25 h26 => ?_
 have hL := hL.trans h25
 have r1_3 := r1_3.le h25
 have r1_4 := r1_4.le h25
 obtain ⟨v27, o30, rfl, rfl, w31⟩ := h26
 obtain ⟨A28, c29, rfl, -⟩ := w31.form
 have hO : Obs _ _ [_, _, _] := hO
 refine zh (zd hO 4 [0] [(0, zqA bm0), (4, zqA b4), (25, zqA bm0), (28, zqz (p1.Vars.length : Int))] (And.intro (And.intro rfl rfl) zqm) fun j => ?_)
 obtain ⟨c32, h33, hF⟩ := bind_some hF
 refine zX (hs := [_]) (vs := [_, _]) hO (zcM (q0 := (⟨c23.b⟩ : z8)) w31 h33) rfl fun _ σ _ _ hO h34 h35 => ?_
 have hL := hL.trans h34
 have r1_3 := r1_3.le h34
 have r1_4 := r1_4.le h34
 obtain ⟨v36, o39, rfl, rfl, w40⟩ := h35
 obtain ⟨A37, c38, rfl, -⟩ := w40.form
 have hO : Obs _ _ [_, _, _] := hO
 refine zh (zc hO [0] [(0, zqA bm0), (4, zqA b4), (31, .slice A1_3 p1.Vars.length c1_3), (32, zqz (p1.Vars.length : Int)), (33, zqz 0)] (And.intro (And.intro rfl rfl) zqn) fun j => ?_)
 refine zcE (zt ?_)
 have hO := hO.sel [1, 2, 0] (by decide)
 refine zZ (fun (n : Nat) e' σ' => ∃ (A78 : Option Addr) (c79 : Nat) (o80 : Ob) (x81 : List UInt8) (x86 : Int) (τ' : Hp), agr [(0, zqA bm0), (4, zqA b4), (31, .slice A1_3 p1.Vars.length c1_3), (32, zqz (p1.Vars.length : Int)), (33, zqz x86)] e' ∧ Obs τ' σ' [some (bm0, ⟨[.slice A78 x81.length c79], 68, 1, true⟩), o80, some (b4, ⟨[.string p1.Name, .int .i64 p1.From, .int .i64 p1.To, .slice A1_3 p1.Vars.length c1_3, .slice A1_4 p1.Spans.length c1_4], 48, 5, true⟩)] ∧ Hp.le τ τ' ∧ zr Ty.u8 5 τ' (.slice A78 x81.length c79) x81 o80 ∧ RdT zby τ' (.slice A1_3 p1.Vars.length c1_3) p1.Vars ∧ RdT (Ty.slice zT) τ' (.slice A1_4 p1.Spans.length c1_4) p1.Spans ∧ RdT zby τ' (.slice A1_3 p1.Vars.length c1_3) p1.Vars ∧ zhj p1 n x81 x86 = some rr) big ⟨A37, c38, o39, c32.b, 0, _, zqy zqm, hO, hL, w40, r1_3, r1_4, r1_3, hF⟩ ?_
 clear hF hO hL
 rintro n116 e σ ⟨A78, c79, o80, x81, x86, _, hA, hO, hL, w82, r83, r84, r85, hF⟩
 rw [← zL _ _ hA]
 cases n116 with
 | zero => exact nomatch (show none = some rr from hF)
 | succ n116 =>
  replace hF : zjA (zhj p1 n116) p1 x81 x86 = some rr := hF
  unfold zjA at hF
  refine zc hO [] [(0, zqA bm0), (4, zqA b4), (31, .slice A1_3 p1.Vars.length c1_3), (32, zqz (p1.Vars.length : Int)), (33, zqz x86), (34, .bool (decide (x86 < (p1.Vars.length : Int))))] zqo fun j => ?_
  rcases zi hF with ⟨hb117, hF⟩ | ⟨hb117, hF⟩
  ·refine zk (congrArg Value.bool hb117) ?_
   refine zm (zt (zd hO 1 [] [(0, zqA bm0), (4, zqA b4), (31, .slice A1_3 p1.Vars.length c1_3), (32, zqz (p1.Vars.length : Int)), (33, zqz x86), (35, zqz x86)] zqo fun j => ?_))
   obtain ⟨y118, g119, hF⟩ := bind_some hF
   refine zC (T := zby) r85 hO.base rfl rfl g119 (by decide) fun a120 _ k121 m122 => ?_
   obtain ⟨v123, rfl, r124⟩ := k121
   obtain ⟨A125, c126, rfl, -⟩ := r124.form
   refine zy rfl ((m122.le hO.base).all rfl) ?_
   refine zbq hO fun b127 σ hO => ?_
   have hO : Obs _ _ [_, _, _, _] := hO
   refine zd hO 1 [] [(0, zqA bm0), (4, zqA b4), (6, zqz x86), (7, zqA b127), (31, .slice A1_3 p1.Vars.length c1_3), (32, zqz (p1.Vars.length : Int)), (33, zqz x86), (37, .agg #[(.string y118.Name), (.int .u8 (y118.Type_.Kind.toNat : Int)), (.int .i64 y118.Type_.N), (.string y118.Type_.Name), (.int .i64 y118.Words), (.slice A125 y118.Fields.length c126)])] zqq fun j => ?_
   refine zO hO (i := 3) rfl (off := 0) rfl rfl rfl rfl (Nat.le_of_ble_eq_true rfl) rfl fun σ hO => ?_
   have hO : Obs _ _ [_, _, _, _] := hO
   refine zh (zfw (zd hO 5 [3, 2] [(0, zqA bm0), (4, zqA b4), (31, .slice A1_3 p1.Vars.length c1_3), (32, zqz (p1.Vars.length : Int)), (33, zqz x86), (38, zqA bm0), (39, .agg #[(.string y118.Name), (.int .u8 (y118.Type_.Kind.toNat : Int)), (.int .i64 y118.Type_.N), (.string y118.Type_.Name), (.int .i64 y118.Words), (.slice A125 y118.Fields.length c126)]), (41, .slice A1_4 p1.Spans.length c1_4), (42, zqz x86)] (And.intro (And.intro rfl rfl) (And.intro (And.intro rfl rfl) zqr)) fun j => ?_))
   obtain ⟨y128, g129, hF⟩ := bind_some hF
   refine zC (T := (Ty.slice zT)) r84 hO.base rfl rfl g129 (by decide) fun a130 _ k131 m132 => ?_
   obtain ⟨v133, rfl, r134⟩ := k131
   obtain ⟨A135, c136, rfl, -⟩ := r134.form
   refine zy rfl (m132.le hO.base).fst ?_
   obtain ⟨c137, h138, hF⟩ := bind_some hF
   have hO := hO.sel [2, 3, 0, 1] (by decide)
   refine zX (hs := [_, _]) (vs := [_, _]) hO (zm2 (q0 := (⟨x81⟩ : z8)) (p1 := (⟨y118.Name, (⟨y118.Type_.Kind, y118.Type_.N, y118.Type_.Name⟩ : zbp), y118.Words, y118.Fields⟩ : zG)) w82 r124 r134 h138) rfl fun _ σ _ _ hO h139 h140 => ?_
   have hL := hL.trans h139
   have r85 := r85.le h139
   have r124 := r124.le h139
   have r84 := r84.le h139
   have m132 := m132.le h139
   have r134 := r134.le h139
   have r83 := r83.le h139
   obtain ⟨v141, o144, rfl, rfl, w145⟩ := h140
   obtain ⟨A142, c143, rfl, -⟩ := w145.form
   have hO : Obs _ _ [_, _, _, _] := hO
   refine zh (zg (zP (zj (zA (zc hO [] [(0, zqA bm0), (4, zqA b4), (31, .slice A1_3 p1.Vars.length c1_3), (32, zqz (p1.Vars.length : Int)), (33, zqz (IntKind.i64.wrap (x86 + 1)))] zqn fun j => ?_)))))
   refine zg (zj ?_)
   have hO := hO.sel [2, 3, 0] (by decide)
   exact ⟨n116, Nat.lt_succ_self _, A142, c143, o144, c137.b, (IntKind.i64.wrap (x86 + 1)), _, zqy zqm, hO, hL, w145, r83, r84, r85, hF⟩
  ·refine zl (congrArg Value.bool hb117) ?_
   refine zU (zY (z0 (zj (zg ?_))))
   injection hF with hF
   subst hF
   have hO := hO.sel [0, 1] (by decide)
   exact (hQ _ _ _ _ _ rfl hO hL ⟨_, _, rfl, rfl, w82⟩).2
theorem zps {τ : Hp} {v0 : Value} {p0 : (List UInt8)} {v1 : Value} {p1 : (List zo)} {v2 : Value} {p2 : (List zB)} (r0 : RdT Ty.u8 τ v0 p0) (r1 : RdT zV τ v1 p1) (r2 : RdT zbg τ v2 p2) {rr : (List UInt8) × Int} (hF : zjl p0 p1 p2 = some rr) :
  Ctr Tryz.prog 10 #[v0, v1, v2] τ [] (fun v τ' vs' => ∃ (v0 : Value) (o0 : Ob), v = .tuple #[v0, .int .i64 rr.2] ∧ vs' = [o0] ∧ zr Ty.u8 5 τ' v0 rr.1 o0) := by
 obtain ⟨A0, c0, rfl, -⟩ := r0.form
 obtain ⟨A1, c1, rfl, -⟩ := r1.form
 obtain ⟨A2, c2, rfl, -⟩ := r2.form
 refine zM (args := [.slice A0 p0.length c0, .slice A1 p1.length c1, .slice A2 p2.length c2]) hm Tryz.func10 s10 rfl fun w0 σ hO Q hQ => ?_
 unfold zjl at hF
 have hL := Hp.le.refl τ
 show wpn _ _ a10.body _ _ _
 unfold a10
 dsimp only
 refine zc hO [] [(0, .slice A0 p0.length c0), (1, .slice A1 p1.length c1), (2, .slice A2 p2.length c2)] zql fun j => ?_
 refine ze (zd hO 2 [] [(0, .slice A0 p0.length c0), (1, .slice A1 p1.length c1), (2, .slice A2 p2.length c2), (16, .slice A1 p1.length c1), (17, .slice A2 p2.length c2)] zqn fun j => ?_)
 obtain ⟨c4, h5, hF⟩ := bind_some hF
 refine zD hO (zj8 r1 r2 h5) rfl fun _ σ _ _ hO h6 h7 => ?_
 have hL := hL.trans h6
 have r0 := r0.le h6
 have r1 := r1.le h6
 have r2 := r2.le h6
 obtain ⟨rfl, rfl⟩ := h7
 have hO : Obs _ _ [] := hO
 refine zc hO [] [(0, .slice A0 p0.length c0), (1, .slice A1 p1.length c1), (2, .slice A2 p2.length c2), (19, .bool (!c4))] zqm fun j => ?_
 rcases zi hF with ⟨hb8, hF⟩ | ⟨hb8, hF⟩
 ·refine zk (congrArg Value.bool hb8) ?_
  refine ze (zc hO [] [(6, .slice none 0 0), (7, zqz 1)] zqk fun j => ?_)
  refine zu ?_
  have hO := hO.no
  have hO : Obs _ _ [_] := hO
  injection hF with hF
  subst hF
  exact hQ _ _ _ _ _ rfl hO hL ⟨_, _, rfl, rfl, (zr.nil _ _ _)⟩
 ·refine zl (congrArg Value.bool hb8) ?_
  refine zm (zd hO 4 [] [(1, .slice A1 p1.length c1), (2, .slice A2 p2.length c2), (20, .slice A0 p0.length c0), (23, .int .u64 (IntKind.u64.wrap (p1.length : Int)))] zqm fun j => ?_)
  obtain ⟨c9, h10, hF⟩ := bind_some hF
  refine zD hO (zdV r0 h10) rfl fun _ σ _ _ hO h11 h12 => ?_
  have hL := hL.trans h11
  have r1 := r1.le h11
  have r2 := r2.le h11
  have r0 := r0.le h11
  obtain ⟨v13, o16, rfl, rfl, w17⟩ := h12
  obtain ⟨A14, c15, rfl, -⟩ := w17.form
  have hO : Obs _ _ [_] := hO
  refine zd hO 1 [] [(1, .slice A1 p1.length c1), (2, .slice A2 p2.length c2), (25, .agg #[(.slice A14 c9.length c15)])] zql fun j => ?_
  refine zb2 (n := 1) hO rfl rfl fun b18 σ hO => ?_
  have hO : Obs _ _ [_, _] := hO
  refine zc hO [] [(1, .slice A1 p1.length c1), (2, .slice A2 p2.length c2), (8, zqA b18)] zql fun j => ?_
  refine zc hO [] [(1, .slice A1 p1.length c1), (2, .slice A2 p2.length c2), (8, zqA b18), (9, zqz 0)] zqm fun j => ?_
  refine ze (zc hO [] [(2, .slice A2 p2.length c2), (8, zqA b18), (9, zqz 0), (27, .slice A1 p1.length c1), (28, zqz (p1.length : Int)), (29, zqz 0)] zqo fun j => ?_)
  refine zt ?_
  have hO := hO.sel [1, 0] (by decide)
  refine zZ (fun (n : Nat) e' σ' => ∃ (A371 : Option Addr) (c372 : Nat) (o373 : Ob) (x374 : List UInt8) (x376 : Int) (x378 : Int) (τ' : Hp), agr [(2, .slice A2 p2.length c2), (8, zqA b18), (9, zqz x376), (27, .slice A1 p1.length c1), (28, zqz (p1.length : Int)), (29, zqz x378)] e' ∧ Obs τ' σ' [some (b18, ⟨[.slice A371 x374.length c372], 68, 1, true⟩), o373] ∧ Hp.le τ τ' ∧ RdT zbg τ' (.slice A2 p2.length c2) p2 ∧ zr Ty.u8 5 τ' (.slice A371 x374.length c372) x374 o373 ∧ RdT zV τ' (.slice A1 p1.length c1) p1 ∧ zg1 p1 p2 n x374 x376 x378 = some rr) big ⟨A14, c15, o16, c9, 0, 0, _, zqy zqn, hO, hL, r2, w17, r1, hF⟩ ?_
  clear hF hO hL
  rintro n723 e σ ⟨A371, c372, o373, x374, x376, x378, _, hA, hO, hL, r370, w375, r377, hF⟩
  rw [← zL _ _ hA]
  cases n723 with
  | zero => exact nomatch (show none = some rr from hF)
  | succ n723 =>
   replace hF : ziY (zg1 p1 p2 n723) p1 p2 x374 x376 x378 = some rr := hF
   unfold ziY at hF
   refine zc hO [] [(2, .slice A2 p2.length c2), (8, zqA b18), (9, zqz x376), (27, .slice A1 p1.length c1), (28, zqz (p1.length : Int)), (29, zqz x378), (30, .bool (decide (x378 < (p1.length : Int))))] zqp fun j => ?_
   rcases zi hF with ⟨hb724, hF⟩ | ⟨hb724, hF⟩
   ·refine zk (congrArg Value.bool hb724) ?_
    refine zm (zt ?_)
    obtain ⟨y725, g726, hF⟩ := bind_some hF
    refine zC (T := zV) r377 hO.base rfl rfl g726 (by decide) fun a727 _ k728 m729 => ?_
    obtain ⟨v730, v734, rfl, r731, r735⟩ := k728
    obtain ⟨A732, c733, rfl, -⟩ := r731.form
    obtain ⟨A736, c737, rfl, -⟩ := r735.form
    refine zy rfl ((m729.le hO.base).all rfl) ?_
    refine zbq hO fun b738 σ hO => ?_
    have hO : Obs _ _ [_, _, _] := hO
    refine zO hO (i := 2) rfl (off := 0) rfl rfl rfl rfl (Nat.le_of_ble_eq_true rfl) rfl fun σ hO => ?_
    have hO : Obs _ _ [_, _, _] := hO
    refine zh (zd hO 3 [2] [(2, .slice A2 p2.length c2), (8, zqA b18), (11, zqA b738), (27, .slice A1 p1.length c1), (28, zqz (p1.length : Int)), (29, zqz x378), (33, zqA b18), (34, .agg #[(.string y725.Name), (.int .i64 y725.From), (.int .i64 y725.To), (.slice A732 y725.Vars.length c733), (.slice A736 y725.Spans.length c737)]), (35, zqz x376)] (And.intro (And.intro rfl rfl) zqr) fun j => ?_)
    obtain ⟨c739, h740, hF⟩ := bind_some hF
    have hO := hO.sel [2, 0, 1] (by decide)
    refine zX (hs := [_]) (vs := [_, _]) hO (zoe (q0 := (⟨x374⟩ : z8)) (p1 := (⟨y725.Name, y725.From, y725.To, y725.Vars, y725.Spans⟩ : zo)) w375 r731 r735 h740) rfl fun _ σ _ _ hO h741 h742 => ?_
    have hL := hL.trans h741
    have r370 := r370.le h741
    have r377 := r377.le h741
    have r731 := r731.le h741
    have r735 := r735.le h741
    obtain ⟨v743, o746, rfl, rfl, w747⟩ := h742
    obtain ⟨A744, c745, rfl, -⟩ := w747.form
    have hO : Obs _ _ [_, _, _] := hO
    refine zh (zA (zc hO [0] [(2, .slice A2 p2.length c2), (8, zqA b18), (9, zqz y725.To), (27, .slice A1 p1.length c1), (28, zqz (p1.length : Int)), (29, zqz x378)] (And.intro (And.intro rfl rfl) zqo) fun j => ?_))
    refine zg (zP (zj (zA (zc hO [] [(2, .slice A2 p2.length c2), (8, zqA b18), (9, zqz y725.To), (27, .slice A1 p1.length c1), (28, zqz (p1.length : Int)), (29, zqz (IntKind.i64.wrap (x378 + 1)))] zqo fun j => ?_))))
    refine zg (zj ?_)
    have hO := hO.sel [1, 2] (by decide)
    exact ⟨n723, Nat.lt_succ_self _, A744, c745, o746, c739.b, y725.To, (IntKind.i64.wrap (x378 + 1)), _, zqy zqn, hO, hL, r370, w747, r377, hF⟩
   ·refine zl (congrArg Value.bool hb724) ?_
    refine zU (zY (z0 (zj (zd hO 3 [] [(2, .slice A2 p2.length c2), (8, zqA b18), (40, zqA b18), (42, zqz (p2.length : Int))] zqm fun j => ?_))))
    obtain ⟨c748, h749, hF⟩ := bind_some hF
    refine zX (hs := []) (vs := [_, _]) hO (zcM (q0 := (⟨x374⟩ : z8)) w375 h749) rfl fun _ σ _ _ hO h750 h751 => ?_
    have hL := hL.trans h750
    have r370 := r370.le h750
    obtain ⟨v752, o755, rfl, rfl, w756⟩ := h751
    obtain ⟨A753, c754, rfl, -⟩ := w756.form
    have hO : Obs _ _ [_, _] := hO
    refine zh (ze (zc hO [] [(8, zqA b18), (44, .slice A2 p2.length c2), (45, zqz (p2.length : Int)), (46, zqz 0)] zqm fun j => ?_))
    refine zt (zZ (fun (n : Nat) e' σ' => ∃ (A862 : Option Addr) (c863 : Nat) (o864 : Ob) (x865 : List UInt8) (x868 : Int) (τ' : Hp), agr [(8, zqA b18), (44, .slice A2 p2.length c2), (45, zqz (p2.length : Int)), (46, zqz x868)] e' ∧ Obs τ' σ' [some (b18, ⟨[.slice A862 x865.length c863], 68, 1, true⟩), o864] ∧ Hp.le τ τ' ∧ zr Ty.u8 5 τ' (.slice A862 x865.length c863) x865 o864 ∧ RdT zbg τ' (.slice A2 p2.length c2) p2 ∧ zdG p2 n x865 x868 = some rr) big ⟨A753, c754, o755, c748.b, 0, _, zqy zql, hO, hL, w756, r370, hF⟩ ?_)
    clear hF hO hL
    rintro n968 e σ ⟨A862, c863, o864, x865, x868, _, hA, hO, hL, w866, r867, hF⟩
    rw [← zL _ _ hA]
    cases n968 with
    | zero => exact nomatch (show none = some rr from hF)
    | succ n968 =>
     replace hF : zia (zdG p2 n968) p2 x865 x868 = some rr := hF
     unfold zia at hF
     refine zc hO [] [(8, zqA b18), (44, .slice A2 p2.length c2), (45, zqz (p2.length : Int)), (46, zqz x868), (47, .bool (decide (x868 < (p2.length : Int))))] zqn fun j => ?_
     rcases zi hF with ⟨hb969, hF⟩ | ⟨hb969, hF⟩
     ·refine zk (congrArg Value.bool hb969) ?_
      refine zm (zt ?_)
      obtain ⟨y970, g971, hF⟩ := bind_some hF
      refine zC (T := zbg) r867 hO.base rfl rfl g971 (by decide) fun a972 _ k973 m974 => ?_
      obtain ⟨v975, rfl, r976⟩ := k973
      obtain ⟨A977, c978, rfl, -⟩ := r976.form
      refine zy rfl ((m974.le hO.base).all rfl) ?_
      refine zbq hO fun b979 σ hO => ?_
      have hO : Obs _ _ [_, _, _] := hO
      refine zO hO (i := 2) rfl (off := 0) rfl rfl rfl rfl (Nat.le_of_ble_eq_true rfl) rfl fun σ hO => ?_
      have hO : Obs _ _ [_, _, _] := hO
      refine zh (zd hO 3 [2] [(8, zqA b18), (13, zqA b979), (44, .slice A2 p2.length c2), (45, zqz (p2.length : Int)), (46, zqz x868), (50, zqA b18), (52, zqz y970.Func)] (And.intro (And.intro rfl rfl) zqp) fun j => ?_)
      obtain ⟨c980, h981, hF⟩ := bind_some hF
      have hO := hO.sel [2, 0, 1] (by decide)
      refine zX (hs := [_]) (vs := [_, _]) hO (zcM (q0 := (⟨x865⟩ : z8)) w866 h981) rfl fun _ σ _ _ hO h982 h983 => ?_
      have hL := hL.trans h982
      have r867 := r867.le h982
      have r976 := r976.le h982
      obtain ⟨v984, o987, rfl, rfl, w988⟩ := h983
      obtain ⟨A985, c986, rfl, -⟩ := w988.form
      have hO : Obs _ _ [_, _, _] := hO
      refine zh (zd hO 3 [0] [(8, zqA b18), (13, zqA b979), (44, .slice A2 p2.length c2), (45, zqz (p2.length : Int)), (46, zqz x868), (54, zqA b18), (56, zqz y970.Line)] (And.intro (And.intro rfl rfl) zqp) fun j => ?_)
      obtain ⟨c989, h990, hF⟩ := bind_some hF
      refine zX (hs := [_]) (vs := [_, _]) hO (zcM (q0 := (⟨c980.b⟩ : z8)) w988 h990) rfl fun _ σ _ _ hO h991 h992 => ?_
      have hL := hL.trans h991
      have r867 := r867.le h991
      have r976 := r976.le h991
      obtain ⟨v993, o996, rfl, rfl, w997⟩ := h992
      obtain ⟨A994, c995, rfl, -⟩ := w997.form
      have hO : Obs _ _ [_, _, _] := hO
      refine zh (zd hO 4 [0] [(8, zqA b18), (13, zqA b979), (44, .slice A2 p2.length c2), (45, zqz (p2.length : Int)), (46, zqz x868), (58, zqA b18), (61, zqz (y970.Scope.length : Int))] (And.intro (And.intro rfl rfl) zqp) fun j => ?_)
      obtain ⟨c998, h999, hF⟩ := bind_some hF
      refine zX (hs := [_]) (vs := [_, _]) hO (zcM (q0 := (⟨c989.b⟩ : z8)) w997 h999) rfl fun _ σ _ _ hO h1000 h1001 => ?_
      have hL := hL.trans h1000
      have r867 := r867.le h1000
      have r976 := r976.le h1000
      obtain ⟨v1002, o1005, rfl, rfl, w1006⟩ := h1001
      obtain ⟨A1003, c1004, rfl, -⟩ := w1006.form
      have hO : Obs _ _ [_, _, _] := hO
      refine zh (zc hO [0] [(8, zqA b18), (44, .slice A2 p2.length c2), (45, zqz (p2.length : Int)), (46, zqz x868), (64, .slice A977 y970.Scope.length c978), (65, zqz (y970.Scope.length : Int)), (66, zqz 0)] (And.intro (And.intro rfl rfl) zqp) fun j => ?_)
      refine zcE (zt ?_)
      have hO := hO.sel [1, 2] (by decide)
      refine zZ (fun (n : Nat) e' σ' => ∃ (A1029 : Option Addr) (c1030 : Nat) (o1031 : Ob) (x1032 : List UInt8) (x1036 : Int) (τ' : Hp), agr [(8, zqA b18), (44, .slice A2 p2.length c2), (45, zqz (p2.length : Int)), (46, zqz x868), (64, .slice A977 y970.Scope.length c978), (65, zqz (y970.Scope.length : Int)), (66, zqz x1036)] e' ∧ Obs τ' σ' [some (b18, ⟨[.slice A1029 x1032.length c1030], 68, 1, true⟩), o1031] ∧ Hp.le τ τ' ∧ zr Ty.u8 5 τ' (.slice A1029 x1032.length c1030) x1032 o1031 ∧ RdT zbg τ' (.slice A2 p2.length c2) p2 ∧ RdT (Ty.int .i64) τ' (.slice A977 y970.Scope.length c978) y970.Scope ∧ zhx (zdG p2 n968) x868 y970 n x1032 x1036 = some rr) big ⟨A1003, c1004, o1005, c998.b, 0, _, zqy zqo, hO, hL, w1006, r867, r976, hF⟩ ?_
      clear hF hO hL
      rintro n1052 e σ ⟨A1029, c1030, o1031, x1032, x1036, _, hA, hO, hL, w1033, r1034, r1035, hF⟩
      rw [← zL _ _ hA]
      cases n1052 with
      | zero => exact nomatch (show none = some rr from hF)
      | succ n1052 =>
       replace hF : zi5 (zhx (zdG p2 n968) x868 y970 n1052) (zdG p2 n968) x868 y970 x1032 x1036 = some rr := hF
       unfold zi5 at hF
       refine zc hO [] [(8, zqA b18), (44, .slice A2 p2.length c2), (45, zqz (p2.length : Int)), (46, zqz x868), (64, .slice A977 y970.Scope.length c978), (65, zqz (y970.Scope.length : Int)), (66, zqz x1036), (67, .bool (decide (x1036 < (y970.Scope.length : Int))))] zqq fun j => ?_
       rcases zi hF with ⟨hb1053, hF⟩ | ⟨hb1053, hF⟩
       ·refine zk (congrArg Value.bool hb1053) ?_
        refine zm (zt ?_)
        obtain ⟨y1054, g1055, hF⟩ := bind_some hF
        refine zC (T := (Ty.int .i64)) r1035 hO.base rfl rfl g1055 (by decide) fun a1056 _ k1057 m1058 => ?_
        obtain rfl : _ = ([.int .i64 y1054] : List Value) := k1057
        refine zy rfl (m1058.le hO.base).fst ?_
        refine zc hO [] [(8, zqA b18), (15, zqz y1054), (44, .slice A2 p2.length c2), (45, zqz (p2.length : Int)), (46, zqz x868), (64, .slice A977 y970.Scope.length c978), (65, zqz (y970.Scope.length : Int)), (66, zqz x1036)] zqq fun j => ?_
        refine zA (zd hO 2 [] [(8, zqA b18), (44, .slice A2 p2.length c2), (45, zqz (p2.length : Int)), (46, zqz x868), (64, .slice A977 y970.Scope.length c978), (65, zqz (y970.Scope.length : Int)), (66, zqz x1036), (70, zqA b18), (71, zqz y1054)] zqr fun j => ?_)
        obtain ⟨c1059, h1060, hF⟩ := bind_some hF
        refine zX (hs := []) (vs := [_, _]) hO (zcM (q0 := (⟨x1032⟩ : z8)) w1033 h1060) rfl fun _ σ _ _ hO h1061 h1062 => ?_
        have hL := hL.trans h1061
        have r1034 := r1034.le h1061
        have r1035 := r1035.le h1061
        obtain ⟨v1063, o1066, rfl, rfl, w1067⟩ := h1062
        obtain ⟨A1064, c1065, rfl, -⟩ := w1067.form
        have hO : Obs _ _ [_, _] := hO
        refine zh (zg (zP (zj (zA (zc hO [] [(8, zqA b18), (44, .slice A2 p2.length c2), (45, zqz (p2.length : Int)), (46, zqz x868), (64, .slice A977 y970.Scope.length c978), (65, zqz (y970.Scope.length : Int)), (66, zqz (IntKind.i64.wrap (x1036 + 1)))] zqp fun j => ?_)))))
        refine zg (zj ?_)
        exact ⟨n1052, Nat.lt_succ_self _, A1064, c1065, o1066, c1059.b, (IntKind.i64.wrap (x1036 + 1)), _, zqy zqo, hO, hL, w1067, r1034, r1035, hF⟩
       ·refine zl (congrArg Value.bool hb1053) ?_
        refine zU (zY (z0 (zj (zg (zP (zj ?_))))))
        refine zA (zc hO [] [(8, zqA b18), (44, .slice A2 p2.length c2), (45, zqz (p2.length : Int)), (46, zqz (IntKind.i64.wrap (x868 + 1)))] zqm fun j => ?_)
        refine zg (zj ?_)
        exact ⟨n968, Nat.lt_succ_self _, A1029, c1030, o1031, x1032, (IntKind.i64.wrap (x868 + 1)), _, zqy zql, hO, hL, w1033, r1034, hF⟩
     ·refine zl (congrArg Value.bool hb969) ?_
      refine zU (zY (z0 (zj (zc hO [0] [(6, .slice A862 x865.length c863), (7, zqz 0)] (And.intro (And.intro rfl rfl) zqk) fun j => ?_))))
      refine zK ?_
      injection hF with hF
      subst hF
      have hO := hO.sel [1] (by decide)
      exact hQ _ _ _ _ _ rfl hO hL ⟨_, _, rfl, rfl, w866⟩
theorem zm8 {τ : Hp} {p0 : zG} {v0_5 : Value} {p1 : zG} {v1_5 : Value} (r0_5 : RdT Ty.str τ v0_5 p0.Fields) (r1_5 : RdT Ty.str τ v1_5 p1.Fields) {rr : Bool} (hF : zew p0 p1 = some rr) :
  Ctr Tryz.prog 32 #[.agg #[.string p0.Name, .int .u8 p0.Type_.Kind.toNat, .int .i64 p0.Type_.N, .string p0.Type_.Name, .int .i64 p0.Words, v0_5], .agg #[.string p1.Name, .int .u8 p1.Type_.Kind.toNat, .int .i64 p1.Type_.N, .string p1.Type_.Name, .int .i64 p1.Words, v1_5]] τ [] (fun v τ' vs' => v = .bool rr ∧ vs' = []) := by
 obtain ⟨A0_5, c0_5, rfl, -⟩ := r0_5.form
 obtain ⟨A1_5, c1_5, rfl, -⟩ := r1_5.form
 refine zM (args := [.agg #[.string p0.Name, .int .u8 p0.Type_.Kind.toNat, .int .i64 p0.Type_.N, .string p0.Type_.Name, .int .i64 p0.Words, (.slice A0_5 p0.Fields.length c0_5)], .agg #[.string p1.Name, .int .u8 p1.Type_.Kind.toNat, .int .i64 p1.Type_.N, .string p1.Type_.Name, .int .i64 p1.Words, (.slice A1_5 p1.Fields.length c1_5)]]) hm Tryz.func32 s32 rfl fun w0 σ hO Q hQ => ?_
 unfold zew at hF
 have hL := Hp.le.refl τ
 show wpn _ _ a32.body _ _ _
 unfold a32
 dsimp only
 refine zb2 (n := 6) hO rfl rfl fun b3 σ hO => ?_
 have hO : Obs _ _ [_] := hO
 refine zb2 (n := 6) hO rfl rfl fun b4 σ hO => ?_
 have hO : Obs _ _ [_, _] := hO
 refine zc hO [] [(2, zqA b3), (3, zqA b4)] zqk fun j => ?_
 refine ze (zc hO [0, 1, 0, 1, 0, 1, 0, 1] [(2, zqA b3), (3, zqA b4), (33, .bool ((((!(zbu p0.Name p1.Name)) || (!(( (p0.Type_.Kind.toNat : Int) == (p1.Type_.Kind.toNat : Int)) && (( p0.Type_.N == p1.Type_.N) && ((zbu p0.Type_.Name p1.Type_.Name) && true))))) || (p0.Words != p1.Words)) || ((p0.Fields.length : Int) != (p1.Fields.length : Int))))] (And.intro (And.intro rfl rfl) (And.intro (And.intro rfl rfl) (And.intro (And.intro rfl rfl) (And.intro (And.intro rfl rfl) (And.intro (And.intro rfl rfl) (fun _ => And.intro (And.intro rfl rfl) (And.intro (And.intro rfl rfl) (And.intro (And.intro rfl rfl) (fun _ => And.intro (And.intro rfl rfl) (And.intro (And.intro rfl rfl) (And.intro (And.intro rfl rfl) (fun _ => zqy zqk)))))))))))) fun j => ?_)
 rcases zi hF with ⟨hb5, hF⟩ | ⟨hb5, hF⟩
 ·refine zk (congrArg Value.bool hb5) ?_
  refine ze (zc hO [] [(4, .bool false)] zqj fun j => ?_)
  refine zu ?_
  injection hF with hF
  subst hF
  have hO := hO.sel [] (by decide)
  exact hQ _ _ _ _ _ rfl hO hL ⟨rfl, rfl⟩
 ·refine zl (congrArg Value.bool hb5) ?_
  refine zm (ze (zc hO [] [(2, zqA b3), (3, zqA b4), (5, zqz 0)] zql fun j => ?_))
  refine zt (zZ (fun (n : Nat) e' σ' => ∃ (x22 : Int) (τ' : Hp), agr [(2, zqA b3), (3, zqA b4), (5, zqz x22)] e' ∧ Obs τ' σ' [some (b3, ⟨[.string p0.Name, .int .u8 (p0.Type_.Kind.toNat : Int), .int .i64 p0.Type_.N, .string p0.Type_.Name, .int .i64 p0.Words, .slice A0_5 p0.Fields.length c0_5], 53, 6, true⟩), some (b4, ⟨[.string p1.Name, .int .u8 (p1.Type_.Kind.toNat : Int), .int .i64 p1.Type_.N, .string p1.Type_.Name, .int .i64 p1.Words, .slice A1_5 p1.Fields.length c1_5], 53, 6, true⟩)] ∧ Hp.le τ τ' ∧ RdT Ty.str τ' (.slice A0_5 p0.Fields.length c0_5) p0.Fields ∧ RdT Ty.str τ' (.slice A1_5 p1.Fields.length c1_5) p1.Fields ∧ zfK p0 p1 n x22 = some rr) big ⟨0, _, zqy zqk, hO, hL, r0_5, r1_5, hF⟩ ?_)
  clear hF hO hL
  rintro n35 e σ ⟨x22, _, hA, hO, hL, r20, r21, hF⟩
  rw [← zL _ _ hA]
  cases n35 with
  | zero => exact nomatch (show none = some rr from hF)
  | succ n35 =>
   replace hF : zgC (zfK p0 p1 n35) p0 p1 x22 = some rr := hF
   unfold zgC at hF
   refine ze (zc hO [0] [(2, zqA b3), (3, zqA b4), (5, zqz x22), (38, .bool (decide (x22 < (p0.Fields.length : Int))))] (And.intro (And.intro rfl rfl) zqm) fun j => ?_)
   rcases zi hF with ⟨hb36, hF⟩ | ⟨hb36, hF⟩
   ·refine zk (congrArg Value.bool hb36) ?_
    refine zm (zt (zbr (zd hO 3 [0] [(2, zqA b3), (3, zqA b4), (5, zqz x22), (42, .slice A0_5 p0.Fields.length c0_5), (43, zqz x22)] (And.intro (And.intro rfl rfl) zqn) fun j => ?_)))
    obtain ⟨y37, g38, hF⟩ := bind_some hF
    refine zC (T := Ty.str) r20 hO.base rfl rfl g38 (by decide) fun a39 _ k40 m41 => ?_
    obtain rfl : _ = ([.string y37] : List Value) := k40
    refine zy rfl (m41.le hO.base).fst ?_
    refine zd hO 3 [1] [(2, zqA b3), (3, zqA b4), (5, zqz x22), (45, .string y37), (47, .slice A1_5 p1.Fields.length c1_5), (48, zqz x22)] (And.intro (And.intro rfl rfl) zqo) fun j => ?_
    obtain ⟨y42, g43, hF⟩ := bind_some hF
    refine zC (T := Ty.str) r21 hO.base rfl rfl g43 (by decide) fun a44 _ k45 m46 => ?_
    obtain rfl : _ = ([.string y42] : List Value) := k45
    refine zy rfl (m46.le hO.base).fst ?_
    refine zc hO [] [(2, zqA b3), (3, zqA b4), (5, zqz x22), (51, .bool (!(zbu y37 y42)))] zqm fun j => ?_
    refine zbl ?_
    rcases zi hF with ⟨hb47, hF⟩ | ⟨hb47, hF⟩
    ·refine zk (congrArg Value.bool hb47) ?_
     refine ze (zc hO [] [(4, .bool false)] zqj fun j => ?_)
     refine zu (zw (zn (zn (zw (zn ?_)))))
     injection hF with hF
     subst hF
     have hO := hO.sel [] (by decide)
     exact hQ _ _ _ _ _ rfl hO hL ⟨rfl, rfl⟩
    ·refine zl (congrArg Value.bool hb47) ?_
     refine zm (zg (zP (zj (zA (zc hO [] [(2, zqA b3), (3, zqA b4), (5, zqz (IntKind.i64.wrap (x22 + 1)))] zql fun j => ?_)))))
     refine zg (zj ?_)
     exact ⟨n35, Nat.lt_succ_self _, (IntKind.i64.wrap (x22 + 1)), _, zqy zqk, hO, hL, r20, r21, hF⟩
   ·refine zl (congrArg Value.bool hb36) ?_
    refine zU (zY (z0 (zj (zc hO [] [(4, .bool true)] zqj fun j => ?_))))
    refine zK ?_
    injection hF with hF
    subst hF
    have hO := hO.sel [] (by decide)
    exact hQ _ _ _ _ _ rfl hO hL ⟨rfl, rfl⟩
theorem zqf {τ : Hp} {v0 : Value} {p0 : (List zE)} {v1 : Value} {p1 : (List zE)} (r0 : RdT zbs τ v0 p0) (r1 : RdT zbs τ v1 p1) {rr : Bool} (hF : zfb p0 p1 = some rr) :
  Ctr Tryz.prog 63 #[v0, v1] τ [] (fun v τ' vs' => v = .bool rr ∧ vs' = []) := by
 obtain ⟨A0, c0, rfl, -⟩ := r0.form
 obtain ⟨A1, c1, rfl, -⟩ := r1.form
 refine zM (args := [.slice A0 p0.length c0, .slice A1 p1.length c1]) hm Tryz.func63 s63 rfl fun w0 σ hO Q hQ => ?_
 unfold zfb at hF
 have hL := Hp.le.refl τ
 show wpn _ _ a63.body _ _ _
 unfold a63
 dsimp only
 refine zc hO [] [(0, .slice A0 p0.length c0), (1, .slice A1 p1.length c1)] zqk fun j => ?_
 refine ze (zc hO [] [(0, .slice A0 p0.length c0), (1, .slice A1 p1.length c1), (10, .bool ((p0.length : Int) != (p1.length : Int)))] zql fun j => ?_)
 rcases zi hF with ⟨hb3, hF⟩ | ⟨hb3, hF⟩
 ·refine zk (congrArg Value.bool hb3) ?_
  refine ze (zc hO [] [(4, .bool false)] zqj fun j => ?_)
  refine zu ?_
  injection hF with hF
  subst hF
  exact hQ _ _ _ _ _ rfl hO hL ⟨rfl, rfl⟩
 ·refine zl (congrArg Value.bool hb3) ?_
  refine zm (ze (zc hO [] [(0, .slice A0 p0.length c0), (1, .slice A1 p1.length c1), (5, zqz 0)] zql fun j => ?_))
  refine zt (zZ (fun (n : Nat) e' σ' => ∃ (x20 : Int) (τ' : Hp), agr [(0, .slice A0 p0.length c0), (1, .slice A1 p1.length c1), (5, zqz x20)] e' ∧ Obs τ' σ' [] ∧ Hp.le τ τ' ∧ RdT zbs τ' (.slice A0 p0.length c0) p0 ∧ RdT zbs τ' (.slice A1 p1.length c1) p1 ∧ zfN p0 p1 n x20 = some rr) big ⟨0, _, zqy zqk, hO, hL, r0, r1, hF⟩ ?_)
  clear hF hO hL
  rintro n33 e σ ⟨x20, _, hA, hO, hL, r18, r19, hF⟩
  rw [← zL _ _ hA]
  cases n33 with
  | zero => exact nomatch (show none = some rr from hF)
  | succ n33 =>
   replace hF : zfL (zfN p0 p1 n33) p0 p1 x20 = some rr := hF
   unfold zfL at hF
   refine ze (zc hO [] [(0, .slice A0 p0.length c0), (1, .slice A1 p1.length c1), (5, zqz x20), (14, .bool (decide (x20 < (p0.length : Int))))] zqm fun j => ?_)
   rcases zi hF with ⟨hb34, hF⟩ | ⟨hb34, hF⟩
   ·refine zk (congrArg Value.bool hb34) ?_
    refine zm (zt (zbr (zd hO 2 [] [(0, .slice A0 p0.length c0), (1, .slice A1 p1.length c1), (5, zqz x20), (17, .slice A0 p0.length c0), (18, zqz x20)] zqn fun j => ?_)))
    obtain ⟨y35, g36, hF⟩ := bind_some hF
    refine zC (T := zbs) r18 hO.base rfl rfl g36 (by decide) fun a37 _ k38 m39 => ?_
    obtain rfl : _ = ([.int .u8 y35.Kind.toNat, .int .i64 y35.N] : List Value) := k38
    refine zy rfl ((m39.le hO.base).all rfl) ?_
    refine zd hO 2 [] [(0, .slice A0 p0.length c0), (1, .slice A1 p1.length c1), (5, zqz x20), (20, .agg #[(.int .u8 (y35.Kind.toNat : Int)), (.int .i64 y35.N)]), (21, .slice A1 p1.length c1), (22, zqz x20)] zqo fun j => ?_
    obtain ⟨y40, g41, hF⟩ := bind_some hF
    refine zC (T := zbs) r19 hO.base rfl rfl g41 (by decide) fun a42 _ k43 m44 => ?_
    obtain rfl : _ = ([.int .u8 y40.Kind.toNat, .int .i64 y40.N] : List Value) := k43
    refine zy rfl ((m44.le hO.base).all rfl) ?_
    refine zc hO [] [(0, .slice A0 p0.length c0), (1, .slice A1 p1.length c1), (5, zqz x20), (25, .bool (!(( (y35.Kind.toNat : Int) == (y40.Kind.toNat : Int)) && (( y35.N == y40.N) && true))))] zqm fun j => ?_
    refine zbl ?_
    rcases zi hF with ⟨hb45, hF⟩ | ⟨hb45, hF⟩
    ·refine zk (congrArg Value.bool hb45) ?_
     refine ze (zc hO [] [(4, .bool false)] zqj fun j => ?_)
     refine zu (zw (zn (zn (zw (zn ?_)))))
     injection hF with hF
     subst hF
     exact hQ _ _ _ _ _ rfl hO hL ⟨rfl, rfl⟩
    ·refine zl (congrArg Value.bool hb45) ?_
     refine zm (zg (zP (zj (zA (zc hO [] [(0, .slice A0 p0.length c0), (1, .slice A1 p1.length c1), (5, zqz (IntKind.i64.wrap (x20 + 1)))] zql fun j => ?_)))))
     refine zg (zj ?_)
     exact ⟨n33, Nat.lt_succ_self _, (IntKind.i64.wrap (x20 + 1)), _, zqy zqk, hO, hL, r18, r19, hF⟩
   ·refine zl (congrArg Value.bool hb34) ?_
    refine zU (zY (z0 (zj (zc hO [] [(4, .bool true)] zqj fun j => ?_))))
    refine zK ?_
    injection hF with hF
    subst hF
    exact hQ _ _ _ _ _ rfl hO hL ⟨rfl, rfl⟩
theorem zmS {τ : Hp} {v0 : Value} {p0 : (List zq)} {v1 : Value} {p1 : (List zq)} (r0 : RdT zT τ v0 p0) (r1 : RdT zT τ v1 p1) {rr : Bool} (hF : zgV p0 p1 = some rr) :
  Ctr Tryz.prog 33 #[v0, v1] τ [] (fun v τ' vs' => v = .bool rr ∧ vs' = []) := by
 obtain ⟨A0, c0, rfl, -⟩ := r0.form
 obtain ⟨A1, c1, rfl, -⟩ := r1.form
 refine zM (args := [.slice A0 p0.length c0, .slice A1 p1.length c1]) hm Tryz.func33 s33 rfl fun w0 σ hO Q hQ => ?_
 unfold zgV at hF
 have hL := Hp.le.refl τ
 show wpn _ _ a33.body _ _ _
 unfold a33
 dsimp only
 refine zc hO [] [(0, .slice A0 p0.length c0), (1, .slice A1 p1.length c1)] zqk fun j => ?_
 refine ze (zc hO [] [(0, .slice A0 p0.length c0), (1, .slice A1 p1.length c1), (10, .bool ((p0.length : Int) != (p1.length : Int)))] zql fun j => ?_)
 rcases zi hF with ⟨hb3, hF⟩ | ⟨hb3, hF⟩
 ·refine zk (congrArg Value.bool hb3) ?_
  refine ze (zc hO [] [(4, .bool false)] zqj fun j => ?_)
  refine zu ?_
  injection hF with hF
  subst hF
  exact hQ _ _ _ _ _ rfl hO hL ⟨rfl, rfl⟩
 ·refine zl (congrArg Value.bool hb3) ?_
  refine zm (ze (zc hO [] [(0, .slice A0 p0.length c0), (1, .slice A1 p1.length c1), (5, zqz 0)] zql fun j => ?_))
  refine zt (zZ (fun (n : Nat) e' σ' => ∃ (x74 : Int) (τ' : Hp), agr [(0, .slice A0 p0.length c0), (1, .slice A1 p1.length c1), (5, zqz x74)] e' ∧ Obs τ' σ' [] ∧ Hp.le τ τ' ∧ RdT zT τ' (.slice A0 p0.length c0) p0 ∧ RdT zT τ' (.slice A1 p1.length c1) p1 ∧ zfc p0 p1 n x74 = some rr) big ⟨0, _, zqy zqk, hO, hL, r0, r1, hF⟩ ?_)
  clear hF hO hL
  rintro n141 e σ ⟨x74, _, hA, hO, hL, r72, r73, hF⟩
  rw [← zL _ _ hA]
  cases n141 with
  | zero => exact nomatch (show none = some rr from hF)
  | succ n141 =>
   replace hF : zf9 (zfc p0 p1 n141) p0 p1 x74 = some rr := hF
   unfold zf9 at hF
   refine ze (zc hO [] [(0, .slice A0 p0.length c0), (1, .slice A1 p1.length c1), (5, zqz x74), (14, .bool (decide (x74 < (p0.length : Int))))] zqm fun j => ?_)
   rcases zi hF with ⟨hb142, hF⟩ | ⟨hb142, hF⟩
   ·refine zk (congrArg Value.bool hb142) ?_
    refine zm (zt (zbr (zd hO 2 [] [(0, .slice A0 p0.length c0), (1, .slice A1 p1.length c1), (5, zqz x74), (17, .slice A0 p0.length c0), (18, zqz x74)] zqn fun j => ?_)))
    obtain ⟨y143, g144, hF⟩ := bind_some hF
    refine zC (T := zT) r72 hO.base rfl rfl g144 (by decide) fun a145 _ k146 m147 => ?_
    obtain ⟨v148, rfl, r149⟩ := k146
    obtain ⟨A150, c151, rfl, -⟩ := r149.form
    refine zd hO 1 [] [(0, .slice A0 p0.length c0), (1, .slice A1 p1.length c1), (5, zqz x74), (20, .pointer (some a145))] zqm fun j => ?_
    refine zy rfl (m147.le hO.base).fst ?_
    refine zd hO 2 [] [(0, .slice A0 p0.length c0), (1, .slice A1 p1.length c1), (5, zqz x74), (21, zqz y143.From), (22, .slice A1 p1.length c1), (23, zqz x74)] zqo fun j => ?_
    obtain ⟨y152, g153, hF⟩ := bind_some hF
    refine zC (T := zT) r73 hO.base rfl rfl g153 (by decide) fun a154 _ k155 m156 => ?_
    obtain ⟨v157, rfl, r158⟩ := k155
    obtain ⟨A159, c160, rfl, -⟩ := r158.form
    refine zd hO 1 [] [(0, .slice A0 p0.length c0), (1, .slice A1 p1.length c1), (5, zqz x74), (21, zqz y143.From), (25, .pointer (some a154))] zqn fun j => ?_
    refine zy rfl (m156.le hO.base).fst ?_
    refine zd hO 2 [] [(0, .slice A0 p0.length c0), (1, .slice A1 p1.length c1), (5, zqz x74), (28, .bool (y143.From != y152.From))] zqm fun j => ?_
    obtain ⟨c161, h162, hF⟩ := bind_some hF
    refine zbK 2 [(40, .bool c161), (0, .slice A0 p0.length c0), (1, .slice A1 p1.length c1), (5, zqz x74)] (fun Q hQ => ?_) fun j => ?_
    ·have hF := h162
     rcases zi hF with ⟨hb163, hF⟩ | ⟨hb163, hF⟩
     ·refine z9 (congrArg (fun x => isB (.bool x) false) hb163) ?_
      refine zJ (congrArg Value.bool hb163) ?_
      refine zh ?_
      injection hF with hF
      subst hF
      refine zg ?_
      exact hQ _ zqm
     ·refine z7 (congrArg (fun x => isB (.bool x) false) hb163) ?_
      refine zd hO 2 [] [(0, .slice A0 p0.length c0), (1, .slice A1 p1.length c1), (5, zqz x74), (28, .bool (y143.From != y152.From)), (29, .slice A0 p0.length c0), (30, zqz x74)] zqo fun j => ?_
      obtain ⟨y164, g165, hF⟩ := bind_some hF
      refine zC (T := zT) r72 hO.base rfl rfl g165 (by decide) fun a166 _ k167 m168 => ?_
      obtain ⟨v169, rfl, r170⟩ := k167
      obtain ⟨A171, c172, rfl, -⟩ := r170.form
      refine zd hO 1 [] [(0, .slice A0 p0.length c0), (1, .slice A1 p1.length c1), (5, zqz x74), (28, .bool (y143.From != y152.From)), (32, .pointer (some (a166.add 1)))] zqn fun j => ?_
      refine zy rfl ((m168.le hO.base).one 1 rfl) ?_
      refine zd hO 2 [] [(0, .slice A0 p0.length c0), (1, .slice A1 p1.length c1), (5, zqz x74), (28, .bool (y143.From != y152.From)), (33, zqz y164.To), (34, .slice A1 p1.length c1), (35, zqz x74)] zqp fun j => ?_
      obtain ⟨y173, g174, hF⟩ := bind_some hF
      refine zC (T := zT) r73 hO.base rfl rfl g174 (by decide) fun a175 _ k176 m177 => ?_
      obtain ⟨v178, rfl, r179⟩ := k176
      obtain ⟨A180, c181, rfl, -⟩ := r179.form
      refine zd hO 1 [] [(0, .slice A0 p0.length c0), (1, .slice A1 p1.length c1), (5, zqz x74), (28, .bool (y143.From != y152.From)), (33, zqz y164.To), (37, .pointer (some (a175.add 1)))] zqo fun j => ?_
      refine zy rfl ((m177.le hO.base).one 1 rfl) ?_
      refine zd hO 1 [] [(0, .slice A0 p0.length c0), (1, .slice A1 p1.length c1), (5, zqz x74), (28, .bool (y143.From != y152.From)), (39, .bool (y164.To != y173.To))] zqn fun j => ?_
      refine zJ (congrArg Value.bool hb163) ?_
      refine zh ?_
      injection hF with hF
      subst hF
      refine zg ?_
      exact hQ _ zqm
    ·refine zd hO 1 [] [(0, .slice A0 p0.length c0), (1, .slice A1 p1.length c1), (5, zqz x74), (41, .bool c161)] zqm fun j => ?_
     obtain ⟨c182, h183, hF⟩ := bind_some hF
     refine zbQ 2 (fun e' σ' => ∃ (τ' : Hp), agr [(54, .bool c182), (0, .slice A0 p0.length c0), (1, .slice A1 p1.length c1), (5, zqz x74)] e' ∧ Obs τ' σ' [] ∧ Hp.le τ τ' ∧ RdT zT τ' (.slice A0 p0.length c0) p0 ∧ RdT zT τ' (.slice A1 p1.length c1) p1) ?_ ?_
     ·have hF := h183
      rcases zi hF with ⟨hb184, hF⟩ | ⟨hb184, hF⟩
      ·refine z9 (congrArg (fun x => isB (.bool x) false) hb184) ?_
       refine zJ (congrArg Value.bool hb184) ?_
       refine zh ?_
       injection hF with hF
       subst hF
       refine zg ?_
       exact ⟨rfl, _, zqy zql, hO, hL, r72, r73⟩
      ·refine z7 (congrArg (fun x => isB (.bool x) false) hb184) ?_
       refine zd hO 2 [] [(0, .slice A0 p0.length c0), (1, .slice A1 p1.length c1), (5, zqz x74), (41, .bool c161), (42, .slice A0 p0.length c0), (43, zqz x74)] zqo fun j => ?_
       obtain ⟨y185, g186, hF⟩ := bind_some hF
       refine zC (T := zT) r72 hO.base rfl rfl g186 (by decide) fun a187 _ k188 m189 => ?_
       obtain ⟨v190, rfl, r191⟩ := k188
       obtain ⟨A192, c193, rfl, -⟩ := r191.form
       refine zd hO 1 [] [(0, .slice A0 p0.length c0), (1, .slice A1 p1.length c1), (5, zqz x74), (41, .bool c161), (45, .pointer (some (a187.add 2)))] zqn fun j => ?_
       refine zy rfl ((m189.le hO.base).one 2 rfl) ?_
       refine zd hO 2 [] [(0, .slice A0 p0.length c0), (1, .slice A1 p1.length c1), (5, zqz x74), (41, .bool c161), (46, .slice A192 y185.At.length c193), (47, .slice A1 p1.length c1), (48, zqz x74)] zqp fun j => ?_
       obtain ⟨y194, g195, hF⟩ := bind_some hF
       refine zC (T := zT) r73 hO.base rfl rfl g195 (by decide) fun a196 _ k197 m198 => ?_
       obtain ⟨v199, rfl, r200⟩ := k197
       obtain ⟨A201, c202, rfl, -⟩ := r200.form
       refine zd hO 1 [] [(0, .slice A0 p0.length c0), (1, .slice A1 p1.length c1), (5, zqz x74), (41, .bool c161), (46, .slice A192 y185.At.length c193), (50, .pointer (some (a196.add 2)))] zqo fun j => ?_
       refine zy rfl ((m198.le hO.base).one 2 rfl) ?_
       obtain ⟨c203, h204, hF⟩ := bind_some hF
       refine zD hO (zqf r191 r200 h204) rfl fun _ σ _ _ hO h205 h206 => ?_
       have hL := hL.trans h205
       have r72 := r72.le h205
       have r73 := r73.le h205
       have r191 := r191.le h205
       have m198 := m198.le h205
       have r200 := r200.le h205
       obtain ⟨rfl, rfl⟩ := h206
       have hO : Obs _ _ [] := hO
       refine zd hO 1 [] [(0, .slice A0 p0.length c0), (1, .slice A1 p1.length c1), (5, zqz x74), (41, .bool c161), (53, .bool (!c203))] zqn fun j => ?_
       refine zJ (congrArg Value.bool hb184) ?_
       refine zh ?_
       injection hF with hF
       subst hF
       refine zg ?_
       exact ⟨rfl, _, zqy zql, hO, hL, r72, r73⟩
     ·rintro e σ ⟨_, hA, hO, hL, r72, r73⟩
      rw [← zL _ _ hA]
      refine zh (zbl ?_)
      rcases zi hF with ⟨hb207, hF⟩ | ⟨hb207, hF⟩
      ·refine zk (congrArg Value.bool hb207) ?_
       refine ze (zc hO [] [(4, .bool false)] zqj fun j => ?_)
       refine zu (zw (zn (zn (zw (zn ?_)))))
       injection hF with hF
       subst hF
       exact hQ _ _ _ _ _ rfl hO hL ⟨rfl, rfl⟩
      ·refine zl (congrArg Value.bool hb207) ?_
       refine zm (zg (zP (zj (zA (zc hO [] [(0, .slice A0 p0.length c0), (1, .slice A1 p1.length c1), (5, zqz (IntKind.i64.wrap (x74 + 1)))] zql fun j => ?_)))))
       refine zg (zj ?_)
       exact ⟨n141, Nat.lt_succ_self _, (IntKind.i64.wrap (x74 + 1)), _, zqy zqk, hO, hL, r72, r73, hF⟩
   ·refine zl (congrArg Value.bool hb142) ?_
    refine zU (zY (z0 (zj (zc hO [] [(4, .bool true)] zqj fun j => ?_))))
    refine zK ?_
    injection hF with hF
    subst hF
    exact hQ _ _ _ _ _ rfl hO hL ⟨rfl, rfl⟩
theorem zjL {τ : Hp} {v0 : Value} {p0 : (List zo)} {v1 : Value} {p1 : (List zo)} (r0 : RdT zV τ v0 p0) (r1 : RdT zV τ v1 p1) {rr : Bool} (hF : zeC p0 p1 = some rr) :
  Ctr Tryz.prog 14 #[v0, v1] τ [] (fun v τ' vs' => v = .bool rr ∧ vs' = []) := by
 obtain ⟨A0, c0, rfl, -⟩ := r0.form
 obtain ⟨A1, c1, rfl, -⟩ := r1.form
 refine zM (args := [.slice A0 p0.length c0, .slice A1 p1.length c1]) hm Tryz.func14 s14 rfl fun w0 σ hO Q hQ => ?_
 unfold zeC at hF
 have hL := Hp.le.refl τ
 show wpn _ _ a14.body _ _ _
 unfold a14
 dsimp only
 refine zc hO [] [(0, .slice A0 p0.length c0), (1, .slice A1 p1.length c1)] zqk fun j => ?_
 refine ze (zc hO [] [(0, .slice A0 p0.length c0), (1, .slice A1 p1.length c1), (12, .bool ((p0.length : Int) != (p1.length : Int)))] zql fun j => ?_)
 rcases zi hF with ⟨hb3, hF⟩ | ⟨hb3, hF⟩
 ·refine zk (congrArg Value.bool hb3) ?_
  refine ze (zc hO [] [(4, .bool false)] zqj fun j => ?_)
  refine zu ?_
  injection hF with hF
  subst hF
  exact hQ _ _ _ _ _ rfl hO hL ⟨rfl, rfl⟩
 ·refine zl (congrArg Value.bool hb3) ?_
  refine zm (ze (zc hO [] [(0, .slice A0 p0.length c0), (1, .slice A1 p1.length c1), (5, zqz 0)] zql fun j => ?_))
  refine zt (zZ (fun (n : Nat) e' σ' => ∃ (x932 : Int) (τ' : Hp), agr [(0, .slice A0 p0.length c0), (1, .slice A1 p1.length c1), (5, zqz x932)] e' ∧ Obs τ' σ' [] ∧ Hp.le τ τ' ∧ RdT zV τ' (.slice A0 p0.length c0) p0 ∧ RdT zV τ' (.slice A1 p1.length c1) p1 ∧ zcn p0 p1 n x932 = some rr) big ⟨0, _, zqy zqk, hO, hL, r0, r1, hF⟩ ?_)
  clear hF hO hL
  rintro n1857 e σ ⟨x932, _, hA, hO, hL, r930, r931, hF⟩
  rw [← zL _ _ hA]
  cases n1857 with
  | zero => exact nomatch (show none = some rr from hF)
  | succ n1857 =>
   replace hF : zft (zcn p0 p1 n1857) p0 p1 x932 = some rr := hF
   unfold zft at hF
   refine ze (zc hO [] [(0, .slice A0 p0.length c0), (1, .slice A1 p1.length c1), (5, zqz x932), (16, .bool (decide (x932 < (p0.length : Int))))] zqm fun j => ?_)
   rcases zi hF with ⟨hb1858, hF⟩ | ⟨hb1858, hF⟩
   ·refine zk (congrArg Value.bool hb1858) ?_
    refine zm (zt (ze (zbr (zd hO 2 [] [(0, .slice A0 p0.length c0), (1, .slice A1 p1.length c1), (5, zqz x932), (19, .slice A0 p0.length c0), (20, zqz x932)] zqn fun j => ?_))))
    obtain ⟨y1859, g1860, hF⟩ := bind_some hF
    refine zC (T := zV) r930 hO.base rfl rfl g1860 (by decide) fun a1861 _ k1862 m1863 => ?_
    obtain ⟨v1864, v1868, rfl, r1865, r1869⟩ := k1862
    obtain ⟨A1866, c1867, rfl, -⟩ := r1865.form
    obtain ⟨A1870, c1871, rfl, -⟩ := r1869.form
    refine zd hO 1 [] [(0, .slice A0 p0.length c0), (1, .slice A1 p1.length c1), (5, zqz x932), (22, .pointer (some a1861))] zqm fun j => ?_
    refine zy rfl (m1863.le hO.base).fst ?_
    refine zd hO 2 [] [(0, .slice A0 p0.length c0), (1, .slice A1 p1.length c1), (5, zqz x932), (23, .string y1859.Name), (24, .slice A1 p1.length c1), (25, zqz x932)] zqo fun j => ?_
    obtain ⟨y1872, g1873, hF⟩ := bind_some hF
    refine zC (T := zV) r931 hO.base rfl rfl g1873 (by decide) fun a1874 _ k1875 m1876 => ?_
    obtain ⟨v1877, v1881, rfl, r1878, r1882⟩ := k1875
    obtain ⟨A1879, c1880, rfl, -⟩ := r1878.form
    obtain ⟨A1883, c1884, rfl, -⟩ := r1882.form
    refine zd hO 1 [] [(0, .slice A0 p0.length c0), (1, .slice A1 p1.length c1), (5, zqz x932), (23, .string y1859.Name), (27, .pointer (some a1874))] zqn fun j => ?_
    refine zy rfl (m1876.le hO.base).fst ?_
    refine zd hO 2 [] [(0, .slice A0 p0.length c0), (1, .slice A1 p1.length c1), (5, zqz x932), (30, .bool (!(zbu y1859.Name y1872.Name)))] zqm fun j => ?_
    obtain ⟨c1885, h1886, hF⟩ := bind_some hF
    refine zbK 2 [(42, .bool c1885), (0, .slice A0 p0.length c0), (1, .slice A1 p1.length c1), (5, zqz x932)] (fun Q hQ => ?_) fun j => ?_
    ·have hF := h1886
     rcases zi hF with ⟨hb1887, hF⟩ | ⟨hb1887, hF⟩
     ·refine z9 (congrArg (fun x => isB (.bool x) false) hb1887) ?_
      refine zJ (congrArg Value.bool hb1887) ?_
      refine zh ?_
      injection hF with hF
      subst hF
      refine zg ?_
      exact hQ _ zqm
     ·refine z7 (congrArg (fun x => isB (.bool x) false) hb1887) ?_
      refine zd hO 2 [] [(0, .slice A0 p0.length c0), (1, .slice A1 p1.length c1), (5, zqz x932), (30, .bool (!(zbu y1859.Name y1872.Name))), (31, .slice A0 p0.length c0), (32, zqz x932)] zqo fun j => ?_
      obtain ⟨y1888, g1889, hF⟩ := bind_some hF
      refine zC (T := zV) r930 hO.base rfl rfl g1889 (by decide) fun a1890 _ k1891 m1892 => ?_
      obtain ⟨v1893, v1897, rfl, r1894, r1898⟩ := k1891
      obtain ⟨A1895, c1896, rfl, -⟩ := r1894.form
      obtain ⟨A1899, c1900, rfl, -⟩ := r1898.form
      refine zd hO 1 [] [(0, .slice A0 p0.length c0), (1, .slice A1 p1.length c1), (5, zqz x932), (30, .bool (!(zbu y1859.Name y1872.Name))), (34, .pointer (some (a1890.add 1)))] zqn fun j => ?_
      refine zy rfl ((m1892.le hO.base).one 1 rfl) ?_
      refine zd hO 2 [] [(0, .slice A0 p0.length c0), (1, .slice A1 p1.length c1), (5, zqz x932), (30, .bool (!(zbu y1859.Name y1872.Name))), (35, zqz y1888.From), (36, .slice A1 p1.length c1), (37, zqz x932)] zqp fun j => ?_
      obtain ⟨y1901, g1902, hF⟩ := bind_some hF
      refine zC (T := zV) r931 hO.base rfl rfl g1902 (by decide) fun a1903 _ k1904 m1905 => ?_
      obtain ⟨v1906, v1910, rfl, r1907, r1911⟩ := k1904
      obtain ⟨A1908, c1909, rfl, -⟩ := r1907.form
      obtain ⟨A1912, c1913, rfl, -⟩ := r1911.form
      refine zd hO 1 [] [(0, .slice A0 p0.length c0), (1, .slice A1 p1.length c1), (5, zqz x932), (30, .bool (!(zbu y1859.Name y1872.Name))), (35, zqz y1888.From), (39, .pointer (some (a1903.add 1)))] zqo fun j => ?_
      refine zy rfl ((m1905.le hO.base).one 1 rfl) ?_
      refine zd hO 1 [] [(0, .slice A0 p0.length c0), (1, .slice A1 p1.length c1), (5, zqz x932), (30, .bool (!(zbu y1859.Name y1872.Name))), (41, .bool (y1888.From != y1901.From))] zqn fun j => ?_
      refine zJ (congrArg Value.bool hb1887) ?_
      refine zh ?_
      injection hF with hF
      subst hF
      refine zg ?_
      exact hQ _ zqm
    ·refine zd hO 1 [] [(0, .slice A0 p0.length c0), (1, .slice A1 p1.length c1), (5, zqz x932), (43, .bool c1885)] zqm fun j => ?_
     obtain ⟨c1914, h1915, hF⟩ := bind_some hF
     refine zbK 2 [(55, .bool c1914), (0, .slice A0 p0.length c0), (1, .slice A1 p1.length c1), (5, zqz x932)] (fun Q hQ => ?_) fun j => ?_
     ·have hF := h1915
      rcases zi hF with ⟨hb1916, hF⟩ | ⟨hb1916, hF⟩
      ·refine z9 (congrArg (fun x => isB (.bool x) false) hb1916) ?_
       refine zJ (congrArg Value.bool hb1916) ?_
       refine zh ?_
       injection hF with hF
       subst hF
       refine zg ?_
       exact hQ _ zqm
      ·refine z7 (congrArg (fun x => isB (.bool x) false) hb1916) ?_
       refine zd hO 2 [] [(0, .slice A0 p0.length c0), (1, .slice A1 p1.length c1), (5, zqz x932), (43, .bool c1885), (44, .slice A0 p0.length c0), (45, zqz x932)] zqo fun j => ?_
       obtain ⟨y1917, g1918, hF⟩ := bind_some hF
       refine zC (T := zV) r930 hO.base rfl rfl g1918 (by decide) fun a1919 _ k1920 m1921 => ?_
       obtain ⟨v1922, v1926, rfl, r1923, r1927⟩ := k1920
       obtain ⟨A1924, c1925, rfl, -⟩ := r1923.form
       obtain ⟨A1928, c1929, rfl, -⟩ := r1927.form
       refine zd hO 1 [] [(0, .slice A0 p0.length c0), (1, .slice A1 p1.length c1), (5, zqz x932), (43, .bool c1885), (47, .pointer (some (a1919.add 2)))] zqn fun j => ?_
       refine zy rfl ((m1921.le hO.base).one 2 rfl) ?_
       refine zd hO 2 [] [(0, .slice A0 p0.length c0), (1, .slice A1 p1.length c1), (5, zqz x932), (43, .bool c1885), (48, zqz y1917.To), (49, .slice A1 p1.length c1), (50, zqz x932)] zqp fun j => ?_
       obtain ⟨y1930, g1931, hF⟩ := bind_some hF
       refine zC (T := zV) r931 hO.base rfl rfl g1931 (by decide) fun a1932 _ k1933 m1934 => ?_
       obtain ⟨v1935, v1939, rfl, r1936, r1940⟩ := k1933
       obtain ⟨A1937, c1938, rfl, -⟩ := r1936.form
       obtain ⟨A1941, c1942, rfl, -⟩ := r1940.form
       refine zd hO 1 [] [(0, .slice A0 p0.length c0), (1, .slice A1 p1.length c1), (5, zqz x932), (43, .bool c1885), (48, zqz y1917.To), (52, .pointer (some (a1932.add 2)))] zqo fun j => ?_
       refine zy rfl ((m1934.le hO.base).one 2 rfl) ?_
       refine zd hO 1 [] [(0, .slice A0 p0.length c0), (1, .slice A1 p1.length c1), (5, zqz x932), (43, .bool c1885), (54, .bool (y1917.To != y1930.To))] zqn fun j => ?_
       refine zJ (congrArg Value.bool hb1916) ?_
       refine zh ?_
       injection hF with hF
       subst hF
       refine zg ?_
       exact hQ _ zqm
     ·refine zd hO 1 [] [(0, .slice A0 p0.length c0), (1, .slice A1 p1.length c1), (5, zqz x932), (56, .bool c1914)] zqm fun j => ?_
      obtain ⟨c1943, h1944, hF⟩ := bind_some hF
      refine zbK 2 [(70, .bool c1943), (0, .slice A0 p0.length c0), (1, .slice A1 p1.length c1), (5, zqz x932)] (fun Q hQ => ?_) fun j => ?_
      ·have hF := h1944
       rcases zi hF with ⟨hb1945, hF⟩ | ⟨hb1945, hF⟩
       ·refine z9 (congrArg (fun x => isB (.bool x) false) hb1945) ?_
        refine zJ (congrArg Value.bool hb1945) ?_
        refine zh ?_
        injection hF with hF
        subst hF
        refine zg ?_
        exact hQ _ zqm
       ·refine z7 (congrArg (fun x => isB (.bool x) false) hb1945) ?_
        refine zd hO 2 [] [(0, .slice A0 p0.length c0), (1, .slice A1 p1.length c1), (5, zqz x932), (56, .bool c1914), (57, .slice A0 p0.length c0), (58, zqz x932)] zqo fun j => ?_
        obtain ⟨y1946, g1947, hF⟩ := bind_some hF
        refine zC (T := zV) r930 hO.base rfl rfl g1947 (by decide) fun a1948 _ k1949 m1950 => ?_
        obtain ⟨v1951, v1955, rfl, r1952, r1956⟩ := k1949
        obtain ⟨A1953, c1954, rfl, -⟩ := r1952.form
        obtain ⟨A1957, c1958, rfl, -⟩ := r1956.form
        refine zd hO 1 [] [(0, .slice A0 p0.length c0), (1, .slice A1 p1.length c1), (5, zqz x932), (56, .bool c1914), (60, .pointer (some (a1948.add 3)))] zqn fun j => ?_
        refine zy rfl ((m1950.le hO.base).one 3 rfl) ?_
        refine zd hO 3 [] [(0, .slice A0 p0.length c0), (1, .slice A1 p1.length c1), (5, zqz x932), (56, .bool c1914), (62, zqz (y1946.Vars.length : Int)), (63, .slice A1 p1.length c1), (64, zqz x932)] zqp fun j => ?_
        obtain ⟨y1959, g1960, hF⟩ := bind_some hF
        refine zC (T := zV) r931 hO.base rfl rfl g1960 (by decide) fun a1961 _ k1962 m1963 => ?_
        obtain ⟨v1964, v1968, rfl, r1965, r1969⟩ := k1962
        obtain ⟨A1966, c1967, rfl, -⟩ := r1965.form
        obtain ⟨A1970, c1971, rfl, -⟩ := r1969.form
        refine zd hO 1 [] [(0, .slice A0 p0.length c0), (1, .slice A1 p1.length c1), (5, zqz x932), (56, .bool c1914), (62, zqz (y1946.Vars.length : Int)), (66, .pointer (some (a1961.add 3)))] zqo fun j => ?_
        refine zy rfl ((m1963.le hO.base).one 3 rfl) ?_
        refine zd hO 2 [] [(0, .slice A0 p0.length c0), (1, .slice A1 p1.length c1), (5, zqz x932), (56, .bool c1914), (69, .bool ((y1946.Vars.length : Int) != (y1959.Vars.length : Int)))] zqn fun j => ?_
        refine zJ (congrArg Value.bool hb1945) ?_
        refine zh ?_
        injection hF with hF
        subst hF
        refine zg ?_
        exact hQ _ zqm
      ·refine zd hO 1 [] [(0, .slice A0 p0.length c0), (1, .slice A1 p1.length c1), (5, zqz x932), (71, .bool c1943)] zqm fun j => ?_
       obtain ⟨c1972, h1973, hF⟩ := bind_some hF
       refine zbK 2 [(85, .bool c1972), (0, .slice A0 p0.length c0), (1, .slice A1 p1.length c1), (5, zqz x932)] (fun Q hQ => ?_) fun j => ?_
       ·have hF := h1973
        rcases zi hF with ⟨hb1974, hF⟩ | ⟨hb1974, hF⟩
        ·refine z9 (congrArg (fun x => isB (.bool x) false) hb1974) ?_
         refine zJ (congrArg Value.bool hb1974) ?_
         refine zh ?_
         injection hF with hF
         subst hF
         refine zg ?_
         exact hQ _ zqm
        ·refine z7 (congrArg (fun x => isB (.bool x) false) hb1974) ?_
         refine zd hO 2 [] [(0, .slice A0 p0.length c0), (1, .slice A1 p1.length c1), (5, zqz x932), (71, .bool c1943), (72, .slice A0 p0.length c0), (73, zqz x932)] zqo fun j => ?_
         obtain ⟨y1975, g1976, hF⟩ := bind_some hF
         refine zC (T := zV) r930 hO.base rfl rfl g1976 (by decide) fun a1977 _ k1978 m1979 => ?_
         obtain ⟨v1980, v1984, rfl, r1981, r1985⟩ := k1978
         obtain ⟨A1982, c1983, rfl, -⟩ := r1981.form
         obtain ⟨A1986, c1987, rfl, -⟩ := r1985.form
         refine zd hO 1 [] [(0, .slice A0 p0.length c0), (1, .slice A1 p1.length c1), (5, zqz x932), (71, .bool c1943), (75, .pointer (some (a1977.add 4)))] zqn fun j => ?_
         refine zy rfl ((m1979.le hO.base).one 4 rfl) ?_
         refine zd hO 3 [] [(0, .slice A0 p0.length c0), (1, .slice A1 p1.length c1), (5, zqz x932), (71, .bool c1943), (77, zqz (y1975.Spans.length : Int)), (78, .slice A1 p1.length c1), (79, zqz x932)] zqp fun j => ?_
         obtain ⟨y1988, g1989, hF⟩ := bind_some hF
         refine zC (T := zV) r931 hO.base rfl rfl g1989 (by decide) fun a1990 _ k1991 m1992 => ?_
         obtain ⟨v1993, v1997, rfl, r1994, r1998⟩ := k1991
         obtain ⟨A1995, c1996, rfl, -⟩ := r1994.form
         obtain ⟨A1999, c2000, rfl, -⟩ := r1998.form
         refine zd hO 1 [] [(0, .slice A0 p0.length c0), (1, .slice A1 p1.length c1), (5, zqz x932), (71, .bool c1943), (77, zqz (y1975.Spans.length : Int)), (81, .pointer (some (a1990.add 4)))] zqo fun j => ?_
         refine zy rfl ((m1992.le hO.base).one 4 rfl) ?_
         refine zd hO 2 [] [(0, .slice A0 p0.length c0), (1, .slice A1 p1.length c1), (5, zqz x932), (71, .bool c1943), (84, .bool ((y1975.Spans.length : Int) != (y1988.Spans.length : Int)))] zqn fun j => ?_
         refine zJ (congrArg Value.bool hb1974) ?_
         refine zh ?_
         injection hF with hF
         subst hF
         refine zg ?_
         exact hQ _ zqm
       ·refine zh ?_
        rcases zi hF with ⟨hb2001, hF⟩ | ⟨hb2001, hF⟩
        ·refine zk (congrArg Value.bool hb2001) ?_
         refine ze (zc hO [] [(4, .bool false)] zqj fun j => ?_)
         refine zu (zw (zn (zn (zw (zn ?_)))))
         injection hF with hF
         subst hF
         exact hQ _ _ _ _ _ rfl hO hL ⟨rfl, rfl⟩
        ·refine zl (congrArg Value.bool hb2001) ?_
         refine zm (ze (zc hO [] [(0, .slice A0 p0.length c0), (1, .slice A1 p1.length c1), (5, zqz x932), (6, zqz 0)] zqm fun j => ?_))
         refine zt (zZ (fun (n : Nat) e' σ' => ∃ (x2264 : Int) (τ' : Hp), agr [(0, .slice A0 p0.length c0), (1, .slice A1 p1.length c1), (5, zqz x932), (6, zqz x2264)] e' ∧ Obs τ' σ' [] ∧ Hp.le τ τ' ∧ RdT zV τ' (.slice A0 p0.length c0) p0 ∧ RdT zV τ' (.slice A1 p1.length c1) p1 ∧ zeM (zcn p0 p1 n1857) p0 p1 x932 n x2264 = some rr) big ⟨0, _, zqy zql, hO, hL, r930, r931, hF⟩ ?_)
         clear hF hO hL
         rintro n2523 e σ ⟨x2264, _, hA, hO, hL, r2262, r2263, hF⟩
         rw [← zL _ _ hA]
         cases n2523 with
         | zero => exact nomatch (show none = some rr from hF)
         | succ n2523 =>
          replace hF : zgT (zeM (zcn p0 p1 n1857) p0 p1 x932 n2523) (zcn p0 p1 n1857) p0 p1 x932 x2264 = some rr := hF
          unfold zgT at hF
          refine ze (zd hO 3 [] [(0, .slice A0 p0.length c0), (1, .slice A1 p1.length c1), (5, zqz x932), (6, zqz x2264), (86, zqz x2264), (87, .slice A0 p0.length c0), (88, zqz x932)] zqp fun j => ?_)
          obtain ⟨y2524, g2525, hF⟩ := bind_some hF
          refine zC (T := zV) r2262 hO.base rfl rfl g2525 (by decide) fun a2526 _ k2527 m2528 => ?_
          obtain ⟨v2529, v2533, rfl, r2530, r2534⟩ := k2527
          obtain ⟨A2531, c2532, rfl, -⟩ := r2530.form
          obtain ⟨A2535, c2536, rfl, -⟩ := r2534.form
          refine zd hO 1 [] [(0, .slice A0 p0.length c0), (1, .slice A1 p1.length c1), (5, zqz x932), (6, zqz x2264), (86, zqz x2264), (90, .pointer (some (a2526.add 3)))] zqo fun j => ?_
          refine zy rfl ((m2528.le hO.base).one 3 rfl) ?_
          refine zc hO [] [(0, .slice A0 p0.length c0), (1, .slice A1 p1.length c1), (5, zqz x932), (6, zqz x2264), (93, .bool (decide (x2264 < (y2524.Vars.length : Int))))] zqn fun j => ?_
          rcases zi hF with ⟨hb2537, hF⟩ | ⟨hb2537, hF⟩
          ·refine zk (congrArg Value.bool hb2537) ?_
           refine zm (zt (zbr (zd hO 2 [] [(0, .slice A0 p0.length c0), (1, .slice A1 p1.length c1), (5, zqz x932), (6, zqz x2264), (96, .slice A0 p0.length c0), (97, zqz x932)] zqo fun j => ?_)))
           obtain ⟨y2538, g2539, hF⟩ := bind_some hF
           refine zC (T := zV) r2262 hO.base rfl rfl g2539 (by decide) fun a2540 _ k2541 m2542 => ?_
           obtain ⟨v2543, v2547, rfl, r2544, r2548⟩ := k2541
           obtain ⟨A2545, c2546, rfl, -⟩ := r2544.form
           obtain ⟨A2549, c2550, rfl, -⟩ := r2548.form
           refine zd hO 1 [] [(0, .slice A0 p0.length c0), (1, .slice A1 p1.length c1), (5, zqz x932), (6, zqz x2264), (99, .pointer (some (a2540.add 3)))] zqn fun j => ?_
           refine zy rfl ((m2542.le hO.base).one 3 rfl) ?_
           refine zd hO 1 [] [(0, .slice A0 p0.length c0), (1, .slice A1 p1.length c1), (5, zqz x932), (6, zqz x2264), (100, .slice A2545 y2538.Vars.length c2546), (101, zqz x2264)] zqo fun j => ?_
           obtain ⟨y2551, g2552, hF⟩ := bind_some hF
           refine zC (T := zby) r2544 hO.base rfl rfl g2552 (by decide) fun a2553 _ k2554 m2555 => ?_
           obtain ⟨v2556, rfl, r2557⟩ := k2554
           obtain ⟨A2558, c2559, rfl, -⟩ := r2557.form
           refine zy rfl ((m2555.le hO.base).all rfl) ?_
           refine zd hO 2 [] [(0, .slice A0 p0.length c0), (1, .slice A1 p1.length c1), (5, zqz x932), (6, zqz x2264), (103, .agg #[(.string y2551.Name), (.int .u8 (y2551.Type_.Kind.toNat : Int)), (.int .i64 y2551.Type_.N), (.string y2551.Type_.Name), (.int .i64 y2551.Words), (.slice A2558 y2551.Fields.length c2559)]), (104, .slice A1 p1.length c1), (105, zqz x932)] zqp fun j => ?_
           obtain ⟨y2560, g2561, hF⟩ := bind_some hF
           refine zC (T := zV) r2263 hO.base rfl rfl g2561 (by decide) fun a2562 _ k2563 m2564 => ?_
           obtain ⟨v2565, v2569, rfl, r2566, r2570⟩ := k2563
           obtain ⟨A2567, c2568, rfl, -⟩ := r2566.form
           obtain ⟨A2571, c2572, rfl, -⟩ := r2570.form
           refine zd hO 1 [] [(0, .slice A0 p0.length c0), (1, .slice A1 p1.length c1), (5, zqz x932), (6, zqz x2264), (103, .agg #[(.string y2551.Name), (.int .u8 (y2551.Type_.Kind.toNat : Int)), (.int .i64 y2551.Type_.N), (.string y2551.Type_.Name), (.int .i64 y2551.Words), (.slice A2558 y2551.Fields.length c2559)]), (107, .pointer (some (a2562.add 3)))] zqo fun j => ?_
           refine zy rfl ((m2564.le hO.base).one 3 rfl) ?_
           refine zd hO 1 [] [(0, .slice A0 p0.length c0), (1, .slice A1 p1.length c1), (5, zqz x932), (6, zqz x2264), (103, .agg #[(.string y2551.Name), (.int .u8 (y2551.Type_.Kind.toNat : Int)), (.int .i64 y2551.Type_.N), (.string y2551.Type_.Name), (.int .i64 y2551.Words), (.slice A2558 y2551.Fields.length c2559)]), (108, .slice A2567 y2560.Vars.length c2568), (109, zqz x2264)] zqp fun j => ?_
           obtain ⟨y2573, g2574, hF⟩ := bind_some hF
           refine zC (T := zby) r2566 hO.base rfl rfl g2574 (by decide) fun a2575 _ k2576 m2577 => ?_
           obtain ⟨v2578, rfl, r2579⟩ := k2576
           obtain ⟨A2580, c2581, rfl, -⟩ := r2579.form
           refine zy rfl ((m2577.le hO.base).all rfl) ?_
           obtain ⟨c2582, h2583, hF⟩ := bind_some hF
           refine zD hO (zm8 (p0 := (⟨y2551.Name, (⟨y2551.Type_.Kind, y2551.Type_.N, y2551.Type_.Name⟩ : zbp), y2551.Words, y2551.Fields⟩ : zG)) (p1 := (⟨y2573.Name, (⟨y2573.Type_.Kind, y2573.Type_.N, y2573.Type_.Name⟩ : zbp), y2573.Words, y2573.Fields⟩ : zG)) r2557 r2579 h2583) rfl fun _ σ _ _ hO h2584 h2585 => ?_
           have hL := hL.trans h2584
           have r2262 := r2262.le h2584
           have r2263 := r2263.le h2584
           have r2557 := r2557.le h2584
           have r2566 := r2566.le h2584
           have m2577 := m2577.le h2584
           have r2579 := r2579.le h2584
           obtain ⟨rfl, rfl⟩ := h2585
           have hO : Obs _ _ [] := hO
           refine zc hO [] [(0, .slice A0 p0.length c0), (1, .slice A1 p1.length c1), (5, zqz x932), (6, zqz x2264), (113, .bool (!c2582))] zqn fun j => ?_
           refine zbl ?_
           rcases zi hF with ⟨hb2586, hF⟩ | ⟨hb2586, hF⟩
           ·refine zk (congrArg Value.bool hb2586) ?_
            refine ze (zc hO [] [(4, .bool false)] zqj fun j => ?_)
            refine zu (zw (zn (zn (zw (zn (zw ?_))))))
            refine zn (zn (zw (zn ?_)))
            injection hF with hF
            subst hF
            exact hQ _ _ _ _ _ rfl hO hL ⟨rfl, rfl⟩
           ·refine zl (congrArg Value.bool hb2586) ?_
            refine zm (zg (zP (zj (zA (zc hO [] [(0, .slice A0 p0.length c0), (1, .slice A1 p1.length c1), (5, zqz x932), (6, zqz (IntKind.i64.wrap (x2264 + 1)))] zqm fun j => ?_)))))
            refine zg (zj ?_)
            exact ⟨n2523, Nat.lt_succ_self _, (IntKind.i64.wrap (x2264 + 1)), _, zqy zql, hO, hL, r2262, r2263, hF⟩
          ·refine zl (congrArg Value.bool hb2537) ?_
           refine zU (zY (z0 (zj (zc hO [] [(0, .slice A0 p0.length c0), (1, .slice A1 p1.length c1), (5, zqz x932), (7, zqz 0)] zqm fun j => ?_))))
           refine zcE (zt (zZ (fun (n : Nat) e' σ' => ∃ (x2654 : Int) (τ' : Hp), agr [(0, .slice A0 p0.length c0), (1, .slice A1 p1.length c1), (5, zqz x932), (7, zqz x2654)] e' ∧ Obs τ' σ' [] ∧ Hp.le τ τ' ∧ RdT zV τ' (.slice A0 p0.length c0) p0 ∧ RdT zV τ' (.slice A1 p1.length c1) p1 ∧ zgF (zcn p0 p1 n1857) p0 p1 x932 n x2654 = some rr) big ⟨0, _, zqy zql, hO, hL, r2262, r2263, hF⟩ ?_))
           clear hF hO hL
           rintro n2718 e σ ⟨x2654, _, hA, hO, hL, r2652, r2653, hF⟩
           rw [← zL _ _ hA]
           cases n2718 with
           | zero => exact nomatch (show none = some rr from hF)
           | succ n2718 =>
            replace hF : zeQ (zgF (zcn p0 p1 n1857) p0 p1 x932 n2718) (zcn p0 p1 n1857) p0 p1 x932 x2654 = some rr := hF
            unfold zeQ at hF
            refine ze (zd hO 3 [] [(0, .slice A0 p0.length c0), (1, .slice A1 p1.length c1), (5, zqz x932), (7, zqz x2654), (114, zqz x2654), (115, .slice A0 p0.length c0), (116, zqz x932)] zqp fun j => ?_)
            obtain ⟨y2719, g2720, hF⟩ := bind_some hF
            refine zC (T := zV) r2652 hO.base rfl rfl g2720 (by decide) fun a2721 _ k2722 m2723 => ?_
            obtain ⟨v2724, v2728, rfl, r2725, r2729⟩ := k2722
            obtain ⟨A2726, c2727, rfl, -⟩ := r2725.form
            obtain ⟨A2730, c2731, rfl, -⟩ := r2729.form
            refine zd hO 1 [] [(0, .slice A0 p0.length c0), (1, .slice A1 p1.length c1), (5, zqz x932), (7, zqz x2654), (114, zqz x2654), (118, .pointer (some (a2721.add 4)))] zqo fun j => ?_
            refine zy rfl ((m2723.le hO.base).one 4 rfl) ?_
            refine zc hO [] [(0, .slice A0 p0.length c0), (1, .slice A1 p1.length c1), (5, zqz x932), (7, zqz x2654), (121, .bool (decide (x2654 < (y2719.Spans.length : Int))))] zqn fun j => ?_
            rcases zi hF with ⟨hb2732, hF⟩ | ⟨hb2732, hF⟩
            ·refine zk (congrArg Value.bool hb2732) ?_
             refine zm (zt (zbr (zd hO 2 [] [(0, .slice A0 p0.length c0), (1, .slice A1 p1.length c1), (5, zqz x932), (7, zqz x2654), (124, .slice A0 p0.length c0), (125, zqz x932)] zqo fun j => ?_)))
             obtain ⟨y2733, g2734, hF⟩ := bind_some hF
             refine zC (T := zV) r2652 hO.base rfl rfl g2734 (by decide) fun a2735 _ k2736 m2737 => ?_
             obtain ⟨v2738, v2742, rfl, r2739, r2743⟩ := k2736
             obtain ⟨A2740, c2741, rfl, -⟩ := r2739.form
             obtain ⟨A2744, c2745, rfl, -⟩ := r2743.form
             refine zd hO 1 [] [(0, .slice A0 p0.length c0), (1, .slice A1 p1.length c1), (5, zqz x932), (7, zqz x2654), (127, .pointer (some (a2735.add 4)))] zqn fun j => ?_
             refine zy rfl ((m2737.le hO.base).one 4 rfl) ?_
             refine zd hO 1 [] [(0, .slice A0 p0.length c0), (1, .slice A1 p1.length c1), (5, zqz x932), (7, zqz x2654), (128, .slice A2744 y2733.Spans.length c2745), (129, zqz x2654)] zqo fun j => ?_
             obtain ⟨y2746, g2747, hF⟩ := bind_some hF
             refine zC (T := (Ty.slice zT)) r2743 hO.base rfl rfl g2747 (by decide) fun a2748 _ k2749 m2750 => ?_
             obtain ⟨v2751, rfl, r2752⟩ := k2749
             obtain ⟨A2753, c2754, rfl, -⟩ := r2752.form
             refine zy rfl (m2750.le hO.base).fst ?_
             refine zd hO 2 [] [(0, .slice A0 p0.length c0), (1, .slice A1 p1.length c1), (5, zqz x932), (7, zqz x2654), (131, .slice A2753 y2746.length c2754), (132, .slice A1 p1.length c1), (133, zqz x932)] zqp fun j => ?_
             obtain ⟨y2755, g2756, hF⟩ := bind_some hF
             refine zC (T := zV) r2653 hO.base rfl rfl g2756 (by decide) fun a2757 _ k2758 m2759 => ?_
             obtain ⟨v2760, v2764, rfl, r2761, r2765⟩ := k2758
             obtain ⟨A2762, c2763, rfl, -⟩ := r2761.form
             obtain ⟨A2766, c2767, rfl, -⟩ := r2765.form
             refine zd hO 1 [] [(0, .slice A0 p0.length c0), (1, .slice A1 p1.length c1), (5, zqz x932), (7, zqz x2654), (131, .slice A2753 y2746.length c2754), (135, .pointer (some (a2757.add 4)))] zqo fun j => ?_
             refine zy rfl ((m2759.le hO.base).one 4 rfl) ?_
             refine zd hO 1 [] [(0, .slice A0 p0.length c0), (1, .slice A1 p1.length c1), (5, zqz x932), (7, zqz x2654), (131, .slice A2753 y2746.length c2754), (136, .slice A2766 y2755.Spans.length c2767), (137, zqz x2654)] zqp fun j => ?_
             obtain ⟨y2768, g2769, hF⟩ := bind_some hF
             refine zC (T := (Ty.slice zT)) r2765 hO.base rfl rfl g2769 (by decide) fun a2770 _ k2771 m2772 => ?_
             obtain ⟨v2773, rfl, r2774⟩ := k2771
             obtain ⟨A2775, c2776, rfl, -⟩ := r2774.form
             refine zy rfl (m2772.le hO.base).fst ?_
             obtain ⟨c2777, h2778, hF⟩ := bind_some hF
             refine zD hO (zmS r2752 r2774 h2778) rfl fun _ σ _ _ hO h2779 h2780 => ?_
             have hL := hL.trans h2779
             have r2652 := r2652.le h2779
             have r2653 := r2653.le h2779
             have r2752 := r2752.le h2779
             have r2765 := r2765.le h2779
             have m2772 := m2772.le h2779
             have r2774 := r2774.le h2779
             obtain ⟨rfl, rfl⟩ := h2780
             have hO : Obs _ _ [] := hO
             refine zc hO [] [(0, .slice A0 p0.length c0), (1, .slice A1 p1.length c1), (5, zqz x932), (7, zqz x2654), (141, .bool (!c2777))] zqn fun j => ?_
             refine zbl ?_
             rcases zi hF with ⟨hb2781, hF⟩ | ⟨hb2781, hF⟩
             ·refine zk (congrArg Value.bool hb2781) ?_
              refine ze (zc hO [] [(4, .bool false)] zqj fun j => ?_)
              refine zu (zw (zn (zn (zw (zn (zw ?_))))))
              refine zn (zn (zw (zn ?_)))
              injection hF with hF
              subst hF
              exact hQ _ _ _ _ _ rfl hO hL ⟨rfl, rfl⟩
             ·refine zl (congrArg Value.bool hb2781) ?_
              refine zm (zg (zP (zj (zA (zc hO [] [(0, .slice A0 p0.length c0), (1, .slice A1 p1.length c1), (5, zqz x932), (7, zqz (IntKind.i64.wrap (x2654 + 1)))] zqm fun j => ?_)))))
              refine zg (zj ?_)
              exact ⟨n2718, Nat.lt_succ_self _, (IntKind.i64.wrap (x2654 + 1)), _, zqy zql, hO, hL, r2652, r2653, hF⟩
            ·refine zl (congrArg Value.bool hb2732) ?_
             refine zU (zY (z0 (zj (zg (zP (zj ?_))))))
             refine zA (zc hO [] [(0, .slice A0 p0.length c0), (1, .slice A1 p1.length c1), (5, zqz (IntKind.i64.wrap (x932 + 1)))] zql fun j => ?_)
             refine zg (zj ?_)
             exact ⟨n1857, Nat.lt_succ_self _, (IntKind.i64.wrap (x932 + 1)), _, zqy zqk, hO, hL, r2652, r2653, hF⟩
   ·refine zl (congrArg Value.bool hb1858) ?_
    refine zU (zY (z0 (zj (zc hO [] [(4, .bool true)] zqj fun j => ?_))))
    refine zK ?_
    injection hF with hF
    subst hF
    exact hQ _ _ _ _ _ rfl hO hL ⟨rfl, rfl⟩
theorem zkN {τ : Hp} {v0 : Value} {p0 : (List zB)} {v1 : Value} {p1 : (List zB)} (r0 : RdT zbg τ v0 p0) (r1 : RdT zbg τ v1 p1) {rr : Bool} (hF : zez p0 p1 = some rr) :
  Ctr Tryz.prog 15 #[v0, v1] τ [] (fun v τ' vs' => v = .bool rr ∧ vs' = []) := by
 obtain ⟨A0, c0, rfl, -⟩ := r0.form
 obtain ⟨A1, c1, rfl, -⟩ := r1.form
 refine zM (args := [.slice A0 p0.length c0, .slice A1 p1.length c1]) hm Tryz.func15 s15 rfl fun w0 σ hO Q hQ => ?_
 unfold zez at hF
 have hL := Hp.le.refl τ
 show wpn _ _ a15.body _ _ _
 unfold a15
 dsimp only
 refine zc hO [] [(0, .slice A0 p0.length c0), (1, .slice A1 p1.length c1)] zqk fun j => ?_
 refine ze (zc hO [] [(0, .slice A0 p0.length c0), (1, .slice A1 p1.length c1), (11, .bool ((p0.length : Int) != (p1.length : Int)))] zql fun j => ?_)
 rcases zi hF with ⟨hb3, hF⟩ | ⟨hb3, hF⟩
 ·refine zk (congrArg Value.bool hb3) ?_
  refine ze (zc hO [] [(4, .bool false)] zqj fun j => ?_)
  refine zu ?_
  injection hF with hF
  subst hF
  exact hQ _ _ _ _ _ rfl hO hL ⟨rfl, rfl⟩
 ·refine zl (congrArg Value.bool hb3) ?_
  refine zm (ze (zc hO [] [(0, .slice A0 p0.length c0), (1, .slice A1 p1.length c1), (5, zqz 0)] zql fun j => ?_))
  refine zt (zZ (fun (n : Nat) e' σ' => ∃ (x193 : Int) (τ' : Hp), agr [(0, .slice A0 p0.length c0), (1, .slice A1 p1.length c1), (5, zqz x193)] e' ∧ Obs τ' σ' [] ∧ Hp.le τ τ' ∧ RdT zbg τ' (.slice A0 p0.length c0) p0 ∧ RdT zbg τ' (.slice A1 p1.length c1) p1 ∧ zcS p0 p1 n x193 = some rr) big ⟨0, _, zqy zqk, hO, hL, r0, r1, hF⟩ ?_)
  clear hF hO hL
  rintro n379 e σ ⟨x193, _, hA, hO, hL, r191, r192, hF⟩
  rw [← zL _ _ hA]
  cases n379 with
  | zero => exact nomatch (show none = some rr from hF)
  | succ n379 =>
   replace hF : zeZ (zcS p0 p1 n379) p0 p1 x193 = some rr := hF
   unfold zeZ at hF
   refine ze (zc hO [] [(0, .slice A0 p0.length c0), (1, .slice A1 p1.length c1), (5, zqz x193), (15, .bool (decide (x193 < (p0.length : Int))))] zqm fun j => ?_)
   rcases zi hF with ⟨hb380, hF⟩ | ⟨hb380, hF⟩
   ·refine zk (congrArg Value.bool hb380) ?_
    refine zm (zt (ze (zbr (zd hO 2 [] [(0, .slice A0 p0.length c0), (1, .slice A1 p1.length c1), (5, zqz x193), (18, .slice A0 p0.length c0), (19, zqz x193)] zqn fun j => ?_))))
    obtain ⟨y381, g382, hF⟩ := bind_some hF
    refine zC (T := zbg) r191 hO.base rfl rfl g382 (by decide) fun a383 _ k384 m385 => ?_
    obtain ⟨v386, rfl, r387⟩ := k384
    obtain ⟨A388, c389, rfl, -⟩ := r387.form
    refine zd hO 1 [] [(0, .slice A0 p0.length c0), (1, .slice A1 p1.length c1), (5, zqz x193), (21, .pointer (some a383))] zqm fun j => ?_
    refine zy rfl (m385.le hO.base).fst ?_
    refine zd hO 2 [] [(0, .slice A0 p0.length c0), (1, .slice A1 p1.length c1), (5, zqz x193), (22, zqz y381.Func), (23, .slice A1 p1.length c1), (24, zqz x193)] zqo fun j => ?_
    obtain ⟨y390, g391, hF⟩ := bind_some hF
    refine zC (T := zbg) r192 hO.base rfl rfl g391 (by decide) fun a392 _ k393 m394 => ?_
    obtain ⟨v395, rfl, r396⟩ := k393
    obtain ⟨A397, c398, rfl, -⟩ := r396.form
    refine zd hO 1 [] [(0, .slice A0 p0.length c0), (1, .slice A1 p1.length c1), (5, zqz x193), (22, zqz y381.Func), (26, .pointer (some a392))] zqn fun j => ?_
    refine zy rfl (m394.le hO.base).fst ?_
    refine zd hO 2 [] [(0, .slice A0 p0.length c0), (1, .slice A1 p1.length c1), (5, zqz x193), (29, .bool (y381.Func != y390.Func))] zqm fun j => ?_
    obtain ⟨c399, h400, hF⟩ := bind_some hF
    refine zbK 2 [(41, .bool c399), (0, .slice A0 p0.length c0), (1, .slice A1 p1.length c1), (5, zqz x193)] (fun Q hQ => ?_) fun j => ?_
    ·have hF := h400
     rcases zi hF with ⟨hb401, hF⟩ | ⟨hb401, hF⟩
     ·refine z9 (congrArg (fun x => isB (.bool x) false) hb401) ?_
      refine zJ (congrArg Value.bool hb401) ?_
      refine zh ?_
      injection hF with hF
      subst hF
      refine zg ?_
      exact hQ _ zqm
     ·refine z7 (congrArg (fun x => isB (.bool x) false) hb401) ?_
      refine zd hO 2 [] [(0, .slice A0 p0.length c0), (1, .slice A1 p1.length c1), (5, zqz x193), (29, .bool (y381.Func != y390.Func)), (30, .slice A0 p0.length c0), (31, zqz x193)] zqo fun j => ?_
      obtain ⟨y402, g403, hF⟩ := bind_some hF
      refine zC (T := zbg) r191 hO.base rfl rfl g403 (by decide) fun a404 _ k405 m406 => ?_
      obtain ⟨v407, rfl, r408⟩ := k405
      obtain ⟨A409, c410, rfl, -⟩ := r408.form
      refine zd hO 1 [] [(0, .slice A0 p0.length c0), (1, .slice A1 p1.length c1), (5, zqz x193), (29, .bool (y381.Func != y390.Func)), (33, .pointer (some (a404.add 1)))] zqn fun j => ?_
      refine zy rfl ((m406.le hO.base).one 1 rfl) ?_
      refine zd hO 2 [] [(0, .slice A0 p0.length c0), (1, .slice A1 p1.length c1), (5, zqz x193), (29, .bool (y381.Func != y390.Func)), (34, zqz y402.Line), (35, .slice A1 p1.length c1), (36, zqz x193)] zqp fun j => ?_
      obtain ⟨y411, g412, hF⟩ := bind_some hF
      refine zC (T := zbg) r192 hO.base rfl rfl g412 (by decide) fun a413 _ k414 m415 => ?_
      obtain ⟨v416, rfl, r417⟩ := k414
      obtain ⟨A418, c419, rfl, -⟩ := r417.form
      refine zd hO 1 [] [(0, .slice A0 p0.length c0), (1, .slice A1 p1.length c1), (5, zqz x193), (29, .bool (y381.Func != y390.Func)), (34, zqz y402.Line), (38, .pointer (some (a413.add 1)))] zqo fun j => ?_
      refine zy rfl ((m415.le hO.base).one 1 rfl) ?_
      refine zd hO 1 [] [(0, .slice A0 p0.length c0), (1, .slice A1 p1.length c1), (5, zqz x193), (29, .bool (y381.Func != y390.Func)), (40, .bool (y402.Line != y411.Line))] zqn fun j => ?_
      refine zJ (congrArg Value.bool hb401) ?_
      refine zh ?_
      injection hF with hF
      subst hF
      refine zg ?_
      exact hQ _ zqm
    ·refine zd hO 1 [] [(0, .slice A0 p0.length c0), (1, .slice A1 p1.length c1), (5, zqz x193), (42, .bool c399)] zqm fun j => ?_
     obtain ⟨c420, h421, hF⟩ := bind_some hF
     refine zbK 2 [(56, .bool c420), (0, .slice A0 p0.length c0), (1, .slice A1 p1.length c1), (5, zqz x193)] (fun Q hQ => ?_) fun j => ?_
     ·have hF := h421
      rcases zi hF with ⟨hb422, hF⟩ | ⟨hb422, hF⟩
      ·refine z9 (congrArg (fun x => isB (.bool x) false) hb422) ?_
       refine zJ (congrArg Value.bool hb422) ?_
       refine zh ?_
       injection hF with hF
       subst hF
       refine zg ?_
       exact hQ _ zqm
      ·refine z7 (congrArg (fun x => isB (.bool x) false) hb422) ?_
       refine zd hO 2 [] [(0, .slice A0 p0.length c0), (1, .slice A1 p1.length c1), (5, zqz x193), (42, .bool c399), (43, .slice A0 p0.length c0), (44, zqz x193)] zqo fun j => ?_
       obtain ⟨y423, g424, hF⟩ := bind_some hF
       refine zC (T := zbg) r191 hO.base rfl rfl g424 (by decide) fun a425 _ k426 m427 => ?_
       obtain ⟨v428, rfl, r429⟩ := k426
       obtain ⟨A430, c431, rfl, -⟩ := r429.form
       refine zd hO 1 [] [(0, .slice A0 p0.length c0), (1, .slice A1 p1.length c1), (5, zqz x193), (42, .bool c399), (46, .pointer (some (a425.add 2)))] zqn fun j => ?_
       refine zy rfl ((m427.le hO.base).one 2 rfl) ?_
       refine zd hO 3 [] [(0, .slice A0 p0.length c0), (1, .slice A1 p1.length c1), (5, zqz x193), (42, .bool c399), (48, zqz (y423.Scope.length : Int)), (49, .slice A1 p1.length c1), (50, zqz x193)] zqp fun j => ?_
       obtain ⟨y432, g433, hF⟩ := bind_some hF
       refine zC (T := zbg) r192 hO.base rfl rfl g433 (by decide) fun a434 _ k435 m436 => ?_
       obtain ⟨v437, rfl, r438⟩ := k435
       obtain ⟨A439, c440, rfl, -⟩ := r438.form
       refine zd hO 1 [] [(0, .slice A0 p0.length c0), (1, .slice A1 p1.length c1), (5, zqz x193), (42, .bool c399), (48, zqz (y423.Scope.length : Int)), (52, .pointer (some (a434.add 2)))] zqo fun j => ?_
       refine zy rfl ((m436.le hO.base).one 2 rfl) ?_
       refine zd hO 2 [] [(0, .slice A0 p0.length c0), (1, .slice A1 p1.length c1), (5, zqz x193), (42, .bool c399), (55, .bool ((y423.Scope.length : Int) != (y432.Scope.length : Int)))] zqn fun j => ?_
       refine zJ (congrArg Value.bool hb422) ?_
       refine zh ?_
       injection hF with hF
       subst hF
       refine zg ?_
       exact hQ _ zqm
     ·refine zh ?_
      rcases zi hF with ⟨hb441, hF⟩ | ⟨hb441, hF⟩
      ·refine zk (congrArg Value.bool hb441) ?_
       refine ze (zc hO [] [(4, .bool false)] zqj fun j => ?_)
       refine zu (zw (zn (zn (zw (zn ?_)))))
       injection hF with hF
       subst hF
       exact hQ _ _ _ _ _ rfl hO hL ⟨rfl, rfl⟩
      ·refine zl (congrArg Value.bool hb441) ?_
       refine zm (zc hO [] [(0, .slice A0 p0.length c0), (1, .slice A1 p1.length c1), (5, zqz x193), (6, zqz 0)] zqm fun j => ?_)
       refine zcE (zt (zZ (fun (n : Nat) e' σ' => ∃ (x485 : Int) (τ' : Hp), agr [(0, .slice A0 p0.length c0), (1, .slice A1 p1.length c1), (5, zqz x193), (6, zqz x485)] e' ∧ Obs τ' σ' [] ∧ Hp.le τ τ' ∧ RdT zbg τ' (.slice A0 p0.length c0) p0 ∧ RdT zbg τ' (.slice A1 p1.length c1) p1 ∧ zeS (zcS p0 p1 n379) p0 p1 x193 n x485 = some rr) big ⟨0, _, zqy zql, hO, hL, r191, r192, hF⟩ ?_))
       clear hF hO hL
       rintro n525 e σ ⟨x485, _, hA, hO, hL, r483, r484, hF⟩
       rw [← zL _ _ hA]
       cases n525 with
       | zero => exact nomatch (show none = some rr from hF)
       | succ n525 =>
        replace hF : zf3 (zeS (zcS p0 p1 n379) p0 p1 x193 n525) (zcS p0 p1 n379) p0 p1 x193 x485 = some rr := hF
        unfold zf3 at hF
        refine ze (zd hO 3 [] [(0, .slice A0 p0.length c0), (1, .slice A1 p1.length c1), (5, zqz x193), (6, zqz x485), (57, zqz x485), (58, .slice A0 p0.length c0), (59, zqz x193)] zqp fun j => ?_)
        obtain ⟨y526, g527, hF⟩ := bind_some hF
        refine zC (T := zbg) r483 hO.base rfl rfl g527 (by decide) fun a528 _ k529 m530 => ?_
        obtain ⟨v531, rfl, r532⟩ := k529
        obtain ⟨A533, c534, rfl, -⟩ := r532.form
        refine zd hO 1 [] [(0, .slice A0 p0.length c0), (1, .slice A1 p1.length c1), (5, zqz x193), (6, zqz x485), (57, zqz x485), (61, .pointer (some (a528.add 2)))] zqo fun j => ?_
        refine zy rfl ((m530.le hO.base).one 2 rfl) ?_
        refine zc hO [] [(0, .slice A0 p0.length c0), (1, .slice A1 p1.length c1), (5, zqz x193), (6, zqz x485), (64, .bool (decide (x485 < (y526.Scope.length : Int))))] zqn fun j => ?_
        rcases zi hF with ⟨hb535, hF⟩ | ⟨hb535, hF⟩
        ·refine zk (congrArg Value.bool hb535) ?_
         refine zm (zt (zbr (zd hO 2 [] [(0, .slice A0 p0.length c0), (1, .slice A1 p1.length c1), (5, zqz x193), (6, zqz x485), (67, .slice A0 p0.length c0), (68, zqz x193)] zqo fun j => ?_)))
         obtain ⟨y536, g537, hF⟩ := bind_some hF
         refine zC (T := zbg) r483 hO.base rfl rfl g537 (by decide) fun a538 _ k539 m540 => ?_
         obtain ⟨v541, rfl, r542⟩ := k539
         obtain ⟨A543, c544, rfl, -⟩ := r542.form
         refine zd hO 1 [] [(0, .slice A0 p0.length c0), (1, .slice A1 p1.length c1), (5, zqz x193), (6, zqz x485), (70, .pointer (some (a538.add 2)))] zqn fun j => ?_
         refine zy rfl ((m540.le hO.base).one 2 rfl) ?_
         refine zd hO 1 [] [(0, .slice A0 p0.length c0), (1, .slice A1 p1.length c1), (5, zqz x193), (6, zqz x485), (71, .slice A543 y536.Scope.length c544), (72, zqz x485)] zqo fun j => ?_
         obtain ⟨y545, g546, hF⟩ := bind_some hF
         refine zC (T := (Ty.int .i64)) r542 hO.base rfl rfl g546 (by decide) fun a547 _ k548 m549 => ?_
         obtain rfl : _ = ([.int .i64 y545] : List Value) := k548
         refine zy rfl (m549.le hO.base).fst ?_
         refine zd hO 2 [] [(0, .slice A0 p0.length c0), (1, .slice A1 p1.length c1), (5, zqz x193), (6, zqz x485), (74, zqz y545), (75, .slice A1 p1.length c1), (76, zqz x193)] zqp fun j => ?_
         obtain ⟨y550, g551, hF⟩ := bind_some hF
         refine zC (T := zbg) r484 hO.base rfl rfl g551 (by decide) fun a552 _ k553 m554 => ?_
         obtain ⟨v555, rfl, r556⟩ := k553
         obtain ⟨A557, c558, rfl, -⟩ := r556.form
         refine zd hO 1 [] [(0, .slice A0 p0.length c0), (1, .slice A1 p1.length c1), (5, zqz x193), (6, zqz x485), (74, zqz y545), (78, .pointer (some (a552.add 2)))] zqo fun j => ?_
         refine zy rfl ((m554.le hO.base).one 2 rfl) ?_
         refine zd hO 1 [] [(0, .slice A0 p0.length c0), (1, .slice A1 p1.length c1), (5, zqz x193), (6, zqz x485), (74, zqz y545), (79, .slice A557 y550.Scope.length c558), (80, zqz x485)] zqp fun j => ?_
         obtain ⟨y559, g560, hF⟩ := bind_some hF
         refine zC (T := (Ty.int .i64)) r556 hO.base rfl rfl g560 (by decide) fun a561 _ k562 m563 => ?_
         obtain rfl : _ = ([.int .i64 y559] : List Value) := k562
         refine zy rfl (m563.le hO.base).fst ?_
         refine zc hO [] [(0, .slice A0 p0.length c0), (1, .slice A1 p1.length c1), (5, zqz x193), (6, zqz x485), (83, .bool (y545 != y559))] zqn fun j => ?_
         refine zbl ?_
         rcases zi hF with ⟨hb564, hF⟩ | ⟨hb564, hF⟩
         ·refine zk (congrArg Value.bool hb564) ?_
          refine ze (zc hO [] [(4, .bool false)] zqj fun j => ?_)
          refine zu (zw (zn (zn (zw (zn (zw ?_))))))
          refine zn (zn (zw (zn ?_)))
          injection hF with hF
          subst hF
          exact hQ _ _ _ _ _ rfl hO hL ⟨rfl, rfl⟩
         ·refine zl (congrArg Value.bool hb564) ?_
          refine zm (zg (zP (zj (zA (zc hO [] [(0, .slice A0 p0.length c0), (1, .slice A1 p1.length c1), (5, zqz x193), (6, zqz (IntKind.i64.wrap (x485 + 1)))] zqm fun j => ?_)))))
          refine zg (zj ?_)
          exact ⟨n525, Nat.lt_succ_self _, (IntKind.i64.wrap (x485 + 1)), _, zqy zql, hO, hL, r483, r484, hF⟩
        ·refine zl (congrArg Value.bool hb535) ?_
         refine zU (zY (z0 (zj (zg (zP (zj ?_))))))
         refine zA (zc hO [] [(0, .slice A0 p0.length c0), (1, .slice A1 p1.length c1), (5, zqz (IntKind.i64.wrap (x193 + 1)))] zql fun j => ?_)
         refine zg (zj ?_)
         exact ⟨n379, Nat.lt_succ_self _, (IntKind.i64.wrap (x193 + 1)), _, zqy zqk, hO, hL, r483, r484, hF⟩
   ·refine zl (congrArg Value.bool hb380) ?_
    refine zU (zY (z0 (zj (zc hO [] [(4, .bool true)] zqj fun j => ?_))))
    refine zK ?_
    injection hF with hF
    subst hF
    exact hQ _ _ _ _ _ rfl hO hL ⟨rfl, rfl⟩
theorem zl4 {τ : Hp} {v0 : Value} {p0 : (List UInt8)} (r0 : RdT Ty.u8 τ v0 p0) {rr : Int × Int} (hF : ze4 p0 = some rr) :
  Ctr Tryz.prog 101 #[v0] τ [] (fun v τ' vs' => v = .tuple #[.int .u64 rr.1, .int .i64 rr.2] ∧ vs' = []) := by
 obtain ⟨A0, c0, rfl, -⟩ := r0.form
 refine zM (args := [.slice A0 p0.length c0]) hm Tryz.func101 zpZ rfl fun w0 σ hO Q hQ => ?_
 unfold ze4 at hF
 have hL := Hp.le.refl τ
 show wpn _ _ ziG.body _ _ _
 unfold ziG
 dsimp only
 refine zc hO [] [(0, .slice A0 p0.length c0), (2, .int .u64 0)] zqk fun j => ?_
 refine ze (zc hO [] [(0, .slice A0 p0.length c0), (2, .int .u64 0), (7, zqz (zbY (p0.length : Int) 10)), (8, zqz 0)] zqm fun j => ?_)
 refine zt (zZ (fun (n : Nat) e' σ' => ∃ (x18 : Int) (x19 : Int) (τ' : Hp), agr [(0, .slice A0 p0.length c0), (2, .int .u64 x18), (7, zqz (zbY (p0.length : Int) 10)), (8, zqz x19)] e' ∧ Obs τ' σ' [] ∧ Hp.le τ τ' ∧ RdT Ty.u8 τ' (.slice A0 p0.length c0) p0 ∧ zfg p0 n x18 x19 = some rr) big ⟨0, 0, _, zqy zql, hO, hL, r0, hF⟩ ?_)
 clear hF hO hL
 rintro n34 e σ ⟨x18, x19, _, hA, hO, hL, r17, hF⟩
 rw [← zL _ _ hA]
 cases n34 with
 | zero => exact nomatch (show none = some rr from hF)
 | succ n34 =>
  replace hF : zf7 (zfg p0 n34) p0 x18 x19 = some rr := hF
  unfold zf7 at hF
  refine zc hO [] [(0, .slice A0 p0.length c0), (2, .int .u64 x18), (7, zqz (zbY (p0.length : Int) 10)), (8, zqz x19), (9, .bool (decide (x19 < (zbY (p0.length : Int) 10))))] zqn fun j => ?_
  rcases zi hF with ⟨hb35, hF⟩ | ⟨hb35, hF⟩
  ·refine zk (congrArg Value.bool hb35) ?_
   refine zm (zt (zc hO [] [(0, .slice A0 p0.length c0), (2, .int .u64 x18), (4, zqz x19), (7, zqz (zbY (p0.length : Int) 10)), (8, zqz x19)] zqn fun j => ?_))
   refine zd hO 3 [] [(0, .slice A0 p0.length c0), (4, zqz x19), (7, zqz (zbY (p0.length : Int) 10)), (8, zqz x19), (11, .int .u64 x18), (12, .slice A0 p0.length c0), (13, zqz x19)] zqp fun j => ?_
   obtain ⟨y36, g37, hF⟩ := bind_some hF
   refine zC (T := Ty.u8) r17 hO.base rfl rfl g37 (by decide) fun a38 _ k39 m40 => ?_
   obtain rfl : _ = ([.int .u8 y36.toNat] : List Value) := k39
   refine zy rfl (m40.le hO.base).fst ?_
   refine zd hO 4 [] [(0, .slice A0 p0.length c0), (4, zqz x19), (7, zqz (zbY (p0.length : Int) 10)), (8, zqz x19), (11, .int .u64 x18), (17, .int .u64 (IntKind.u64.wrap (zdK .u8 (y36.toNat : Int) 127))), (19, zqz (IntKind.i64.wrap (7 * x19)))] zqp fun j => ?_
   obtain ⟨y41, g42, hF⟩ := bind_some hF
   refine zde (zen g42) ?_
   refine zc hO [] [(0, .slice A0 p0.length c0), (2, .int .u64 (orI .u64 x18 y41)), (4, zqz x19), (7, zqz (zbY (p0.length : Int) 10)), (8, zqz x19)] zqn fun j => ?_
   refine zd hO 2 [] [(0, .slice A0 p0.length c0), (2, .int .u64 (orI .u64 x18 y41)), (4, zqz x19), (7, zqz (zbY (p0.length : Int) 10)), (8, zqz x19), (22, .slice A0 p0.length c0), (23, zqz x19)] zqp fun j => ?_
   obtain ⟨y43, g44, hF⟩ := bind_some hF
   refine zC (T := Ty.u8) r17 hO.base rfl rfl g44 (by decide) fun a45 _ k46 m47 => ?_
   obtain rfl : _ = ([.int .u8 y43.toNat] : List Value) := k46
   refine zy rfl (m47.le hO.base).fst ?_
   refine zc hO [] [(0, .slice A0 p0.length c0), (2, .int .u64 (orI .u64 x18 y41)), (4, zqz x19), (7, zqz (zbY (p0.length : Int) 10)), (8, zqz x19), (26, .bool (decide ((y43.toNat : Int) < 128)))] zqo fun j => ?_
   refine zbl ?_
   rcases zi hF with ⟨hb48, hF⟩ | ⟨hb48, hF⟩
   ·refine zk (congrArg Value.bool hb48) ?_
    refine ze (zc hO [] [(2, .int .u64 (orI .u64 x18 y41)), (3, zqz (IntKind.i64.wrap (x19 + 1)))] zqk fun j => ?_)
    refine zu (zw (zn (zn (zw (zn ?_)))))
    injection hF with hF
    subst hF
    exact hQ _ _ _ _ _ rfl hO hL ⟨rfl, rfl⟩
   ·refine zl (congrArg Value.bool hb48) ?_
    refine zm (zg (zP (zj (zA (zc hO [] [(0, .slice A0 p0.length c0), (2, .int .u64 (orI .u64 x18 y41)), (7, zqz (zbY (p0.length : Int) 10)), (8, zqz (IntKind.i64.wrap (x19 + 1)))] zqm fun j => ?_)))))
    refine zg (zj ?_)
    exact ⟨n34, Nat.lt_succ_self _, (orI .u64 x18 y41), (IntKind.i64.wrap (x19 + 1)), _, zqy zql, hO, hL, r17, hF⟩
  ·refine zl (congrArg Value.bool hb35) ?_
   refine zU (zY (z0 (zj (zc hO [] [(2, .int .u64 0), (3, zqz 0)] zqk fun j => ?_))))
   refine zK ?_
   injection hF with hF
   subst hF
   exact hQ _ _ _ _ _ rfl hO hL ⟨rfl, rfl⟩
theorem zj3 {τ : Hp} {v0 : Value} {p0 : (List UInt8)} {v1 : Value} {p1 : (List UInt8)} (r0 : RdT Ty.u8 τ v0 p0) (r1 : RdT Ty.u8 τ v1 p1) {rr : Bool} (hF : zer p0 p1 = some rr) :
  Ctr Tryz.prog 102 #[v0, v1] τ [] (fun v τ' vs' => v = .bool rr ∧ vs' = []) := by
 obtain ⟨A0, c0, rfl, -⟩ := r0.form
 obtain ⟨A1, c1, rfl, -⟩ := r1.form
 refine zM (args := [.slice A0 p0.length c0, .slice A1 p1.length c1]) hm Tryz.func102 znB rfl fun w0 σ hO Q hQ => ?_
 unfold zer at hF
 have hL := Hp.le.refl τ
 show wpn _ _ ziR.body _ _ _
 unfold ziR
 dsimp only
 refine zc hO [] [(0, .slice A0 p0.length c0), (1, .slice A1 p1.length c1)] zqk fun j => ?_
 refine ze (zc hO [] [(0, .slice A0 p0.length c0), (1, .slice A1 p1.length c1), (10, .bool ((p0.length : Int) != (p1.length : Int)))] zql fun j => ?_)
 rcases zi hF with ⟨hb3, hF⟩ | ⟨hb3, hF⟩
 ·refine zk (congrArg Value.bool hb3) ?_
  refine ze (zc hO [] [(4, .bool false)] zqj fun j => ?_)
  refine zu ?_
  injection hF with hF
  subst hF
  exact hQ _ _ _ _ _ rfl hO hL ⟨rfl, rfl⟩
 ·refine zl (congrArg Value.bool hb3) ?_
  refine zm (ze (zc hO [] [(0, .slice A0 p0.length c0), (1, .slice A1 p1.length c1), (12, zqz (p0.length : Int)), (13, zqz 0)] zqm fun j => ?_))
  refine zt (zZ (fun (n : Nat) e' σ' => ∃ (x20 : Int) (τ' : Hp), agr [(0, .slice A0 p0.length c0), (1, .slice A1 p1.length c1), (12, zqz (p0.length : Int)), (13, zqz x20)] e' ∧ Obs τ' σ' [] ∧ Hp.le τ τ' ∧ RdT Ty.u8 τ' (.slice A0 p0.length c0) p0 ∧ RdT Ty.u8 τ' (.slice A1 p1.length c1) p1 ∧ zfH p0 p1 n x20 = some rr) big ⟨0, _, zqy zql, hO, hL, r0, r1, hF⟩ ?_)
  clear hF hO hL
  rintro n33 e σ ⟨x20, _, hA, hO, hL, r18, r19, hF⟩
  rw [← zL _ _ hA]
  cases n33 with
  | zero => exact nomatch (show none = some rr from hF)
  | succ n33 =>
   replace hF : zgB (zfH p0 p1 n33) p0 p1 x20 = some rr := hF
   unfold zgB at hF
   refine zc hO [] [(0, .slice A0 p0.length c0), (1, .slice A1 p1.length c1), (12, zqz (p0.length : Int)), (13, zqz x20), (14, .bool (decide (x20 < (p0.length : Int))))] zqn fun j => ?_
   rcases zi hF with ⟨hb34, hF⟩ | ⟨hb34, hF⟩
   ·refine zk (congrArg Value.bool hb34) ?_
    refine zm (zt (zc hO [] [(0, .slice A0 p0.length c0), (1, .slice A1 p1.length c1), (5, zqz x20), (12, zqz (p0.length : Int)), (13, zqz x20)] zqn fun j => ?_))
    refine zbr (zd hO 2 [] [(0, .slice A0 p0.length c0), (1, .slice A1 p1.length c1), (5, zqz x20), (12, zqz (p0.length : Int)), (13, zqz x20), (16, .slice A0 p0.length c0), (17, zqz x20)] zqp fun j => ?_)
    obtain ⟨y35, g36, hF⟩ := bind_some hF
    refine zC (T := Ty.u8) r18 hO.base rfl rfl g36 (by decide) fun a37 _ k38 m39 => ?_
    obtain rfl : _ = ([.int .u8 y35.toNat] : List Value) := k38
    refine zy rfl (m39.le hO.base).fst ?_
    refine zd hO 2 [] [(0, .slice A0 p0.length c0), (1, .slice A1 p1.length c1), (12, zqz (p0.length : Int)), (13, zqz x20), (19, .int .u8 (y35.toNat : Int)), (20, .slice A1 p1.length c1), (21, zqz x20)] zqp fun j => ?_
    obtain ⟨y40, g41, hF⟩ := bind_some hF
    refine zC (T := Ty.u8) r19 hO.base rfl rfl g41 (by decide) fun a42 _ k43 m44 => ?_
    obtain rfl : _ = ([.int .u8 y40.toNat] : List Value) := k43
    refine zy rfl (m44.le hO.base).fst ?_
    refine zc hO [] [(0, .slice A0 p0.length c0), (1, .slice A1 p1.length c1), (12, zqz (p0.length : Int)), (13, zqz x20), (24, .bool ((y35.toNat : Int) != (y40.toNat : Int)))] zqn fun j => ?_
    refine zbl ?_
    rcases zi hF with ⟨hb45, hF⟩ | ⟨hb45, hF⟩
    ·refine zk (congrArg Value.bool hb45) ?_
     refine ze (zc hO [] [(4, .bool false)] zqj fun j => ?_)
     refine zu (zw (zn (zn (zw (zn ?_)))))
     injection hF with hF
     subst hF
     exact hQ _ _ _ _ _ rfl hO hL ⟨rfl, rfl⟩
    ·refine zl (congrArg Value.bool hb45) ?_
     refine zm (zg (zP (zj (zA (zc hO [] [(0, .slice A0 p0.length c0), (1, .slice A1 p1.length c1), (12, zqz (p0.length : Int)), (13, zqz (IntKind.i64.wrap (x20 + 1)))] zqm fun j => ?_)))))
     refine zg (zj ?_)
     exact ⟨n33, Nat.lt_succ_self _, (IntKind.i64.wrap (x20 + 1)), _, zqy zql, hO, hL, r18, r19, hF⟩
   ·refine zl (congrArg Value.bool hb34) ?_
    refine zU (zY (z0 (zj (zc hO [] [(4, .bool true)] zqj fun j => ?_))))
    refine zK ?_
    injection hF with hF
    subst hF
    exact hQ _ _ _ _ _ rfl hO hL ⟨rfl, rfl⟩
theorem zna {τ : Hp} {p0 : Int} {p1 : Int}  {rr : Int} (hF : zg8 p0 p1 = some rr) :
  Ctr Tryz.prog 88 #[.int .u64 p0, .int .i64 p1] τ [] (fun v τ' vs' => v = .int .u64 rr ∧ vs' = []) := by
 refine zM (args := [.int .u64 p0, .int .i64 p1]) hm Tryz.func88 s88 rfl fun w0 σ hO Q hQ => ?_
 unfold zg8 at hF
 have hL := Hp.le.refl τ
 show wpn _ _ a88.body _ _ _
 unfold a88
 dsimp only
 refine zc hO [] [(0, .int .u64 p0)] zqj fun j => ?_
 refine zc hO [] [(4, .int .u64 p0)] zqj fun j => ?_
 refine zK ?_
 injection hF with hF
 subst hF
 exact hQ _ _ _ _ _ rfl hO hL ⟨rfl, rfl⟩
theorem zpL {τ : Hp} {v0 : Value} {p0 : (List UInt8)} {p1 : Int} (r0 : RdT Ty.u8 τ v0 p0) {rr : Int × Int × Int} (hF : zhp p0 p1 = some rr) :
  Ctr Tryz.prog 87 #[v0, .int .i64 p1, .func (.func 88) #[] #[], .func (.func 26) #[] #[]] τ [] (fun v τ' vs' => v = .tuple #[.int .u64 rr.1, .int .i64 rr.2.1, .int .i64 rr.2.2] ∧ vs' = []) := by
 obtain ⟨A0, c0, rfl, -⟩ := r0.form
 refine zM (args := [.slice A0 p0.length c0, .int .i64 p1, .func (.func 88) #[] #[], .func (.func 26) #[] #[]]) hm Tryz.func87 s87 rfl fun w0 σ hO Q hQ => ?_
 unfold zhp at hF
 have hL := Hp.le.refl τ
 show wpn _ _ a87.body _ _ _
 unfold a87
 dsimp only
 refine zc hO [] [(0, .slice A0 p0.length c0), (1, zqz p1), (2, .func (.func 88) #[] #[]), (3, .func (.func 26) #[] #[])] zqm fun j => ?_
 refine ze (zc hO [] [(0, .slice A0 p0.length c0), (1, zqz p1), (2, .func (.func 88) #[] #[]), (3, .func (.func 26) #[] #[]), (21, .bool ((decide (p1 < 0)) || (decide (p1 > (p0.length : Int)))))] (And.intro (And.intro rfl rfl) (fun _ => zqy zqm)) fun j => ?_)
 rcases zi hF with ⟨hb5, hF⟩ | ⟨hb5, hF⟩
 ·refine zk (congrArg Value.bool hb5) ?_
  refine ze (zc hO [] [(8, .int .u64 0), (9, zqz 0), (10, zqz 1)] zql fun j => ?_)
  refine zu ?_
  injection hF with hF
  subst hF
  exact hQ _ _ _ _ _ rfl hO hL ⟨rfl, rfl⟩
 ·refine zl (congrArg Value.bool hb5) ?_
  refine zm (zd hO 2 [] [(0, .slice A0 p0.length c0), (1, zqz p1), (2, .func (.func 88) #[] #[]), (3, .func (.func 26) #[] #[]), (23, .slice A0 p0.length c0), (24, zqz p1)] zqo fun j => ?_)
  obtain ⟨y6, g7, hF⟩ := bind_some hF
  refine zdQ (T := Ty.u8) r0 rfl rfl rfl g7 fun _ r8 => ?_
  obtain ⟨A9, c10, rfl, -⟩ := r8.form
  obtain ⟨c11, h12, hF⟩ := bind_some hF
  refine zD hO (zl4 r8 h12) rfl fun _ σ _ _ hO h13 h14 => ?_
  have hL := hL.trans h13
  have r0 := r0.le h13
  have r8 := r8.le h13
  obtain ⟨rfl, rfl⟩ := h14
  have hO : Obs _ _ [] := hO
  refine zc hO [] [(0, .slice A0 p0.length c0), (1, zqz p1), (2, .func (.func 88) #[] #[]), (3, .func (.func 26) #[] #[]), (11, .int .u64 c11.1), (12, zqz c11.2)] zqo fun j => ?_
  refine zd hO 3 [] [(0, .slice A0 p0.length c0), (1, zqz p1), (3, .func (.func 26) #[] #[]), (12, zqz c11.2), (29, .func (.func 88) #[] #[]), (30, .int .u64 c11.1), (31, zqz c11.2)] zqp fun j => ?_
  obtain ⟨c15, h16, hF⟩ := bind_some hF
  refine zhc rfl (by kernel_rfl) hO (zna h16) rfl fun _ σ _ _ hO h17 h18 => ?_
  have hL := hL.trans h17
  have r0 := r0.le h17
  obtain ⟨rfl, rfl⟩ := h18
  have hO : Obs _ _ [] := hO
  refine zc hO [] [(0, .slice A0 p0.length c0), (1, zqz p1), (3, .func (.func 26) #[] #[]), (12, zqz c11.2), (13, .int .u64 c15)] zqn fun j => ?_
  refine ze (zbr (zd hO 3 [] [(0, .slice A0 p0.length c0), (1, zqz p1), (3, .func (.func 26) #[] #[]), (12, zqz c11.2), (13, .int .u64 c15), (35, .bool (c11.2 == 0))] zqo fun j => ?_))
  obtain ⟨c19, h20, hF⟩ := bind_some hF
  refine zbQ 2 (fun e' σ' => ∃ (τ' : Hp), agr [(47, .bool c19), (1, zqz p1), (12, zqz c11.2), (13, .int .u64 c15)] e' ∧ Obs τ' σ' [] ∧ Hp.le τ τ') ?_ ?_
  ·have hF := h20
   rcases zi hF with ⟨hb21, hF⟩ | ⟨hb21, hF⟩
   ·refine z9 (congrArg (fun x => isB (.bool x) false) hb21) ?_
    refine zJ (congrArg Value.bool hb21) ?_
    refine zh ?_
    injection hF with hF
    subst hF
    refine zg ?_
    exact ⟨rfl, _, zqy zql, hO, hL⟩
   ·refine z7 (congrArg (fun x => isB (.bool x) false) hb21) ?_
    refine zd hO 7 [] [(1, zqz p1), (12, zqz c11.2), (13, .int .u64 c15), (35, .bool (c11.2 == 0)), (36, .func (.func 26) #[] #[]), (37, .int .u64 c15), (39, .slice A0 p0.length c0), (40, zqz p1), (43, zqz (IntKind.i64.wrap (p1 + c11.2)))] zqr fun j => ?_
    obtain ⟨y22, g23, hF⟩ := bind_some hF
    refine zdQ (T := Ty.u8) r0 rfl rfl rfl g23 fun _ r24 => ?_
    obtain ⟨A25, c26, rfl, -⟩ := r24.form
    obtain ⟨c27, h28, hF⟩ := bind_some hF
    refine zhc rfl (by kernel_rfl) hO (zdV (RdT.nil Ty.u8 _) h28) rfl fun _ σ _ _ hO h29 h30 => ?_
    have hL := hL.trans h29
    have r0 := r0.le h29
    have r24 := r24.le h29
    obtain ⟨v31, o34, rfl, rfl, w35⟩ := h30
    obtain ⟨A32, c33, rfl, -⟩ := w35.form
    have hO : Obs _ _ [_] := hO
    obtain ⟨_, h37, r36, hO⟩ := w35.share hO (i := 0) rfl
    have hL := hL.trans h37
    have r0 := r0.le h37
    have r24 := r24.le h37
    have hO : Obs _ _ [_] := hO
    obtain ⟨c38, h39, hF⟩ := bind_some hF
    refine zD hO (zj3 r36 r24 h39) rfl fun _ σ _ _ hO h40 h41 => ?_
    have hL := hL.trans h40
    have r36 := r36.le h40
    have r0 := r0.le h40
    have r24 := r24.le h40
    obtain ⟨rfl, rfl⟩ := h41
    have hO : Obs _ _ [_] := hO
    refine zd hO 1 [] [(1, zqz p1), (12, zqz c11.2), (13, .int .u64 c15), (35, .bool (c11.2 == 0)), (46, .bool (!c38))] zqn fun j => ?_
    refine zJ (congrArg Value.bool hb21) ?_
    refine zh ?_
    injection hF with hF
    subst hF
    refine zg ?_
    have hO := hO.sel [] (by decide)
    exact ⟨rfl, _, zqy zql, hO, hL⟩
  ·rintro e σ ⟨_, hA, hO, hL⟩
   rw [← zL _ _ hA]
   refine zh ?_
   rcases zi hF with ⟨hb42, hF⟩ | ⟨hb42, hF⟩
   ·refine zk (congrArg Value.bool hb42) ?_
    refine ze (zc hO [] [(8, .int .u64 0), (9, zqz 0), (10, zqz 5)] zql fun j => ?_)
    refine zu ?_
    injection hF with hF
    subst hF
    exact hQ _ _ _ _ _ rfl hO hL ⟨rfl, rfl⟩
   ·refine zl (congrArg Value.bool hb42) ?_
    refine zm (zc hO [] [(8, .int .u64 c15), (9, zqz (IntKind.i64.wrap (p1 + c11.2))), (10, zqz 0)] zql fun j => ?_)
    refine zK ?_
    injection hF with hF
    subst hF
    exact hQ _ _ _ _ _ rfl hO hL ⟨rfl, rfl⟩
theorem ze8 {τ : Hp} {v0 : Value} {p0 : (List UInt8)} {p1 : Int} (r0 : RdT Ty.u8 τ v0 p0) {rr : Int × Int × Int} (hF : zcZ p0 p1 = some rr) :
  Ctr Tryz.prog 70 #[v0, .int .i64 p1] τ [] (fun v τ' vs' => v = .tuple #[.int .u64 rr.1, .int .i64 rr.2.1, .int .i64 rr.2.2] ∧ vs' = []) := by
 obtain ⟨A0, c0, rfl, -⟩ := r0.form
 refine zM (args := [.slice A0 p0.length c0, .int .i64 p1]) hm Tryz.func70 s70 rfl fun w0 σ hO Q hQ => ?_
 unfold zcZ at hF
 have hL := Hp.le.refl τ
 show wpn _ _ a70.body _ _ _
 unfold a70
 dsimp only
 refine zc hO [] [(0, .slice A0 p0.length c0), (1, zqz p1)] zqk fun j => ?_
 refine zd hO 2 [] [(7, .slice A0 p0.length c0), (8, zqz p1)] zqk fun j => ?_
 obtain ⟨c3, h4, hF⟩ := bind_some hF
 refine zD hO (zpL r0 h4) rfl fun _ σ _ _ hO h5 h6 => ?_
 have hL := hL.trans h5
 have r0 := r0.le h5
 obtain ⟨rfl, rfl⟩ := h6
 have hO : Obs _ _ [] := hO
 refine zc hO [] [(4, .int .u64 c3.1), (5, zqz c3.2.1), (6, zqz c3.2.2)] zql fun j => ?_
 refine zK ?_
 injection hF with hF
 subst hF
 exact hQ _ _ _ _ _ rfl hO hL ⟨rfl, rfl⟩
theorem zb3 {τ : Hp} {q0 : zp} {bm0 : Nat} {vm0_0 : Value} {p1 : Int} (rm0_0 : RdT Ty.u8 τ vm0_0 q0.b) {rr : Int × zp} (hF : zbB q0 p1 = some rr) :
  Ctr Tryz.prog 42 #[.pointer (some ⟨bm0, 0, none⟩), .int .i64 p1] τ [some (bm0, ⟨[vm0_0, .int .i64 q0.at_, .bool q0.failed], 82, 3, true⟩)] (fun v τ' vs' => ∃ (u0_0 : Value), v = .int .i64 rr.1 ∧ vs' = [some (bm0, ⟨[u0_0, .int .i64 rr.2.at_, .bool rr.2.failed], 82, 3, true⟩)] ∧ RdT Ty.u8 τ' u0_0 rr.2.b) := by
 obtain ⟨Am0_0, cm0_0, rfl, -⟩ := rm0_0.form
 refine zM (args := [.pointer (some ⟨bm0, 0, none⟩), .int .i64 p1]) hm Tryz.func42 s42 rfl fun w0 σ hO Q hQ => ?_
 unfold zbB at hF
 have hL := Hp.le.refl τ
 show wpn _ _ a42.body _ _ _
 unfold a42
 dsimp only
 refine zc hO [] [(0, zqA bm0), (1, zqz p1)] zqk fun j => ?_
 refine zbr (zd hO 8 [0, 0] [(0, zqA bm0), (1, zqz p1), (12, .slice Am0_0 q0.b.length cm0_0), (16, zqz q0.at_)] (And.intro (And.intro rfl rfl) (And.intro (And.intro rfl rfl) zqm)) fun j => ?_)
 obtain ⟨c3, h4, hF⟩ := bind_some hF
 refine zD hO (ze8 rm0_0 h4) rfl fun _ σ _ _ hO h5 h6 => ?_
 have hL := hL.trans h5
 have rm0_0 := rm0_0.le h5
 obtain ⟨rfl, rfl⟩ := h6
 have hO : Obs _ _ [_] := hO
 refine zc hO [] [(0, zqA bm0), (1, zqz p1), (5, .int .u64 c3.1), (6, zqz c3.2.1), (7, zqz c3.2.2)] zqn fun j => ?_
 refine ze (zc hO [0] [(0, zqA bm0), (5, .int .u64 c3.1), (6, zqz c3.2.1), (34, .bool ((q0.failed || (c3.2.2 != 0)) || (decide (c3.1 > (IntKind.u64.wrap p1)))))] (And.intro (And.intro rfl rfl) (And.intro (And.intro rfl rfl) (fun _ => And.intro (And.intro rfl rfl) (fun _ => zqy zql)))) fun j => ?_)
 rcases zi hF with ⟨hb7, hF⟩ | ⟨hb7, hF⟩
 ·refine zk (congrArg Value.bool hb7) ?_
  refine ze (zd hO 3 [] [(0, zqA bm0), (37, .pointer (some ⟨bm0, 2, none⟩))] zqk fun j => ?_)
  refine zO hO (i := 0) rfl (off := 2) rfl rfl rfl rfl (Nat.le_of_ble_eq_true rfl) rfl fun σ hO => ?_
  have hO : Obs _ _ [_] := hO
  refine zh (ze (zc hO [] [(0, zqA bm0), (4, zqz 0)] zqk fun j => ?_))
  refine zu ?_
  injection hF with hF
  subst hF
  exact hQ _ _ _ _ _ rfl hO hL ⟨_, rfl, rfl, rm0_0⟩
 ·refine zl (congrArg Value.bool hb7) ?_
  refine zm (zd hO 4 [] [(0, zqA bm0), (5, .int .u64 c3.1), (39, zqz c3.2.1), (41, .pointer (some ⟨bm0, 1, none⟩))] zqm fun j => ?_)
  refine zO hO (i := 0) rfl (off := 1) rfl rfl rfl rfl (Nat.le_of_ble_eq_true rfl) rfl fun σ hO => ?_
  have hO : Obs _ _ [_] := hO
  refine zh (zc hO [] [(0, zqA bm0), (4, zqz (IntKind.i64.wrap c3.1))] zqk fun j => ?_)
  refine zK ?_
  injection hF with hF
  subst hF
  exact hQ _ _ _ _ _ rfl hO hL ⟨_, rfl, rfl, rm0_0⟩
theorem zkp {τ : Hp} {v0 : Value} {p0 : (List UInt8)} {p1 : Int} {p2 : Int} (r0 : RdT Ty.u8 τ v0 p0) {rr : (List UInt8) × Int × Int} (hF : zcJ p0 p1 p2 = some rr) :
  Ctr Tryz.prog 86 #[v0, .int .i64 p1, .int .i64 p2] τ [] (fun v τ' vs' => ∃ (v0 : Value), v = .tuple #[v0, .int .i64 rr.2.1, .int .i64 rr.2.2] ∧ vs' = [] ∧ RdT Ty.u8 τ' v0 rr.1) := by
 obtain ⟨A0, c0, rfl, -⟩ := r0.form
 refine zM (args := [.slice A0 p0.length c0, .int .i64 p1, .int .i64 p2]) hm Tryz.func86 s86 rfl fun w0 σ hO Q hQ => ?_
 unfold zcJ at hF
 have hL := Hp.le.refl τ
 show wpn _ _ a86.body _ _ _
 unfold a86
 dsimp only
 refine zc hO [] [(0, .slice A0 p0.length c0), (1, zqz p1), (2, zqz p2)] zql fun j => ?_
 refine ze (zc hO [] [(0, .slice A0 p0.length c0), (1, zqz p1), (2, zqz p2), (17, .bool ((decide (p1 < 0)) || (decide (p1 > (p0.length : Int)))))] (And.intro (And.intro rfl rfl) (fun _ => zqy zql)) fun j => ?_)
 rcases zi hF with ⟨hb4, hF⟩ | ⟨hb4, hF⟩
 ·refine zk (congrArg Value.bool hb4) ?_
  refine ze (zc hO [] [(6, .slice none 0 0), (7, zqz 0), (8, zqz 1)] zql fun j => ?_)
  refine zu ?_
  injection hF with hF
  subst hF
  exact hQ _ _ _ _ _ rfl hO hL ⟨_, rfl, rfl, (RdT.nil _ _)⟩
 ·refine zl (congrArg Value.bool hb4) ?_
  refine zm (ze (zd hO 2 [] [(1, zqz p1), (2, zqz p2), (18, .slice A0 p0.length c0), (19, zqz p1)] zqm fun j => ?_))
  obtain ⟨y5, g6, hF⟩ := bind_some hF
  refine zdQ (T := Ty.u8) r0 rfl rfl rfl g6 fun _ r7 => ?_
  obtain ⟨A8, c9, rfl, -⟩ := r7.form
  refine zc hO [] [(1, zqz p1), (2, zqz p2), (9, .slice A8 y5.length c9)] zql fun j => ?_
  refine ze (zc hO [] [(1, zqz p1), (2, zqz p2), (9, .slice A8 y5.length c9), (24, .bool (decide ((y5.length : Int) ≥ p2)))] zqm fun j => ?_)
  rcases zi hF with ⟨hb10, hF⟩ | ⟨hb10, hF⟩
  ·refine zk (congrArg Value.bool hb10) ?_
   refine ze (zd hO 2 [] [(1, zqz p1), (2, zqz p2), (25, .slice A8 y5.length c9), (26, zqz p2)] zqm fun j => ?_)
   obtain ⟨y11, g12, hF⟩ := bind_some hF
   refine zdQ (T := Ty.u8) r7 rfl rfl rfl g12 fun _ r13 => ?_
   obtain ⟨A14, c15, rfl, -⟩ := r13.form
   refine zc hO [] [(6, .slice A14 y11.length c15), (7, zqz (IntKind.i64.wrap (p1 + p2))), (8, zqz 0)] zql fun j => ?_
   refine zu ?_
   injection hF with hF
   subst hF
   exact hQ _ _ _ _ _ rfl hO hL ⟨_, rfl, rfl, r13⟩
  ·refine zl (congrArg Value.bool hb10) ?_
   refine zm (zc hO [] [(6, .slice none 0 0), (7, zqz 0), (8, zqz 5)] zql fun j => ?_)
   refine zK ?_
   injection hF with hF
   subst hF
   exact hQ _ _ _ _ _ rfl hO hL ⟨_, rfl, rfl, (RdT.nil _ _)⟩
theorem zkR {τ : Hp} {v0 : Value} {p0 : (List UInt8)} {p1 : Int} (r0 : RdT Ty.u8 τ v0 p0) {rr : Int × Int × Int} (hF : zcI p0 p1 = some rr) :
  Ctr Tryz.prog 85 #[v0, .int .i64 p1] τ [] (fun v τ' vs' => v = .tuple #[.int .u8 rr.1, .int .i64 rr.2.1, .int .i64 rr.2.2] ∧ vs' = []) := by
 obtain ⟨A0, c0, rfl, -⟩ := r0.form
 refine zM (args := [.slice A0 p0.length c0, .int .i64 p1]) hm Tryz.func85 s85 rfl fun w0 σ hO Q hQ => ?_
 unfold zcI at hF
 have hL := Hp.le.refl τ
 show wpn _ _ a85.body _ _ _
 unfold a85
 dsimp only
 refine zc hO [] [(0, .slice A0 p0.length c0), (1, zqz p1)] zqk fun j => ?_
 refine zd hO 2 [] [(9, .slice A0 p0.length c0), (10, zqz p1)] zqk fun j => ?_
 obtain ⟨c3, h4, hF⟩ := bind_some hF
 refine zD hO (zkp r0 h4) rfl fun _ σ _ _ hO h5 h6 => ?_
 have hL := hL.trans h5
 have r0 := r0.le h5
 obtain ⟨v7, rfl, rfl, r10⟩ := h6
 obtain ⟨A8, c9, rfl, -⟩ := r10.form
 have hO : Obs _ _ [] := hO
 refine zc hO [] [(5, zqz c3.2.1), (6, zqz c3.2.2), (7, .slice A8 c3.1.length c9)] zql fun j => ?_
 refine ze (zc hO [] [(5, zqz c3.2.1), (6, zqz c3.2.2), (7, .slice A8 c3.1.length c9), (16, .bool (c3.2.2 != 0))] zqm fun j => ?_)
 rcases zi hF with ⟨hb11, hF⟩ | ⟨hb11, hF⟩
 ·refine zk (congrArg Value.bool hb11) ?_
  refine ze (zc hO [] [(4, .int .u8 0), (5, zqz 0), (6, zqz c3.2.2)] zql fun j => ?_)
  refine zu ?_
  injection hF with hF
  subst hF
  exact hQ _ _ _ _ _ rfl hO hL ⟨rfl, rfl⟩
 ·refine zl (congrArg Value.bool hb11) ?_
  refine zm (zd hO 1 [] [(5, zqz c3.2.1), (18, .slice A8 c3.1.length c9)] zqk fun j => ?_)
  obtain ⟨y12, g13, hF⟩ := bind_some hF
  refine zC (T := Ty.u8) r10 hO.base rfl rfl g13 (by decide) fun a14 _ k15 m16 => ?_
  obtain rfl : _ = ([.int .u8 y12.toNat] : List Value) := k15
  refine zy rfl (m16.le hO.base).fst ?_
  refine zc hO [] [(4, .int .u8 (y12.toNat : Int)), (5, zqz c3.2.1), (6, zqz 0)] zql fun j => ?_
  refine zK ?_
  injection hF with hF
  subst hF
  exact hQ _ _ _ _ _ rfl hO hL ⟨rfl, rfl⟩
theorem zmJ {τ : Hp} {v0 : Value} {p0 : (List UInt8)} {p1 : Int} (r0 : RdT Ty.u8 τ v0 p0) {rr : ByteArray × Int × Int} (hF : zcq p0 p1 = some rr) :
  Ctr Tryz.prog 69 #[v0, .int .i64 p1] τ [] (fun v τ' vs' => v = .tuple #[.string rr.1, .int .i64 rr.2.1, .int .i64 rr.2.2] ∧ vs' = []) := by
 obtain ⟨A0, c0, rfl, -⟩ := r0.form
 refine zM (args := [.slice A0 p0.length c0, .int .i64 p1]) hm Tryz.func69 s69 rfl fun w0 σ hO Q hQ => ?_
 unfold zcq at hF
 have hL := Hp.le.refl τ
 show wpn _ _ a69.body _ _ _
 unfold a69
 dsimp only
 refine zc hO [] [(0, .slice A0 p0.length c0), (1, zqz p1)] zqk fun j => ?_
 refine zd hO 2 [] [(0, .slice A0 p0.length c0), (10, .slice A0 p0.length c0), (11, zqz p1)] zql fun j => ?_
 obtain ⟨c3, h4, hF⟩ := bind_some hF
 refine zD hO (zkR r0 h4) rfl fun _ σ _ _ hO h5 h6 => ?_
 have hL := hL.trans h5
 have r0 := r0.le h5
 obtain ⟨rfl, rfl⟩ := h6
 have hO : Obs _ _ [] := hO
 refine zc hO [] [(0, .slice A0 p0.length c0), (5, zqz c3.2.1), (6, zqz c3.2.2), (7, .int .u8 c3.1)] zqm fun j => ?_
 refine ze (zc hO [] [(0, .slice A0 p0.length c0), (5, zqz c3.2.1), (6, zqz c3.2.2), (7, .int .u8 c3.1), (17, .bool (c3.2.2 != 0))] zqn fun j => ?_)
 rcases zi hF with ⟨hb7, hF⟩ | ⟨hb7, hF⟩
 ·refine zk (congrArg Value.bool hb7) ?_
  refine ze (zc hO [] [(4, .string (⟨#[]⟩ : ByteArray)), (5, zqz 0), (6, zqz c3.2.2)] zql fun j => ?_)
  refine zu ?_
  injection hF with hF
  subst hF
  exact hQ _ _ _ _ _ rfl hO hL ⟨rfl, rfl⟩
 ·refine zl (congrArg Value.bool hb7) ?_
  refine zm (zd hO 4 [] [(20, .slice A0 p0.length c0), (21, zqz c3.2.1), (23, zqz (IntKind.i64.wrap c3.1))] zql fun j => ?_)
  obtain ⟨c8, h9, hF⟩ := bind_some hF
  refine zD hO (zkp r0 h9) rfl fun _ σ _ _ hO h10 h11 => ?_
  have hL := hL.trans h10
  have r0 := r0.le h10
  obtain ⟨v12, rfl, rfl, r15⟩ := h11
  obtain ⟨A13, c14, rfl, -⟩ := r15.form
  have hO : Obs _ _ [] := hO
  refine zc hO [] [(5, zqz c8.2.1), (6, zqz c8.2.2), (8, .slice A13 c8.1.length c14)] zql fun j => ?_
  refine zd hO 1 [] [(5, zqz c8.2.1), (6, zqz c8.2.2), (28, .slice A13 c8.1.length c14)] zql fun j => ?_
  refine zkC (l := c8.1) (r15.le hO.base) rfl ?_
  refine zc hO [] [(4, .string (⟨c8.1.toArray⟩ : ByteArray)), (5, zqz c8.2.1), (6, zqz c8.2.2)] zql fun j => ?_
  refine zK ?_
  injection hF with hF
  subst hF
  exact hQ _ _ _ _ _ rfl hO hL ⟨rfl, rfl⟩
theorem zgd {τ : Hp} {q0 : zp} {bm0 : Nat} {vm0_0 : Value} (rm0_0 : RdT Ty.u8 τ vm0_0 q0.b) {rr : ByteArray × zp} (hF : zcx q0 = some rr) :
  Ctr Tryz.prog 41 #[.pointer (some ⟨bm0, 0, none⟩)] τ [some (bm0, ⟨[vm0_0, .int .i64 q0.at_, .bool q0.failed], 82, 3, true⟩)] (fun v τ' vs' => ∃ (u0_0 : Value), v = .string rr.1 ∧ vs' = [some (bm0, ⟨[u0_0, .int .i64 rr.2.at_, .bool rr.2.failed], 82, 3, true⟩)] ∧ RdT Ty.u8 τ' u0_0 rr.2.b) := by
 obtain ⟨Am0_0, cm0_0, rfl, -⟩ := rm0_0.form
 refine zM (args := [.pointer (some ⟨bm0, 0, none⟩)]) hm Tryz.func41 s41 rfl fun w0 σ hO Q hQ => ?_
 unfold zcx at hF
 have hL := Hp.le.refl τ
 show wpn _ _ a41.body _ _ _
 unfold a41
 dsimp only
 refine zc hO [] [(0, zqA bm0)] zqj fun j => ?_
 refine zbr (zd hO 8 [0, 0] [(0, zqA bm0), (10, .slice Am0_0 q0.b.length cm0_0), (14, zqz q0.at_)] (And.intro (And.intro rfl rfl) (And.intro (And.intro rfl rfl) zql)) fun j => ?_)
 obtain ⟨c2, h3, hF⟩ := bind_some hF
 refine zD hO (zmJ rm0_0 h3) rfl fun _ σ _ _ hO h4 h5 => ?_
 have hL := hL.trans h4
 have rm0_0 := rm0_0.le h4
 obtain ⟨rfl, rfl⟩ := h5
 have hO : Obs _ _ [_] := hO
 refine zc hO [] [(0, zqA bm0), (3, .string c2.1), (4, zqz c2.2.1), (5, zqz c2.2.2)] zqm fun j => ?_
 refine ze (zc hO [0] [(0, zqA bm0), (3, .string c2.1), (4, zqz c2.2.1), (26, .bool (q0.failed || (c2.2.2 != 0)))] (And.intro (And.intro rfl rfl) (And.intro (And.intro rfl rfl) (fun _ => zqy zql))) fun j => ?_)
 rcases zi hF with ⟨hb6, hF⟩ | ⟨hb6, hF⟩
 ·refine zk (congrArg Value.bool hb6) ?_
  refine ze (zd hO 3 [] [(0, zqA bm0), (29, .pointer (some ⟨bm0, 2, none⟩))] zqk fun j => ?_)
  refine zO hO (i := 0) rfl (off := 2) rfl rfl rfl rfl (Nat.le_of_ble_eq_true rfl) rfl fun σ hO => ?_
  have hO : Obs _ _ [_] := hO
  refine zh (ze (zc hO [] [(0, zqA bm0), (2, .string (⟨#[]⟩ : ByteArray))] zqk fun j => ?_))
  refine zu ?_
  injection hF with hF
  subst hF
  exact hQ _ _ _ _ _ rfl hO hL ⟨_, rfl, rfl, rm0_0⟩
 ·refine zl (congrArg Value.bool hb6) ?_
  refine zm (zd hO 4 [] [(0, zqA bm0), (3, .string c2.1), (31, zqz c2.2.1), (33, .pointer (some ⟨bm0, 1, none⟩))] zqm fun j => ?_)
  refine zO hO (i := 0) rfl (off := 1) rfl rfl rfl rfl (Nat.le_of_ble_eq_true rfl) rfl fun σ hO => ?_
  have hO : Obs _ _ [_] := hO
  refine zh (zc hO [] [(0, zqA bm0), (2, .string c2.1)] zqk fun j => ?_)
  refine zK ?_
  injection hF with hF
  subst hF
  exact hQ _ _ _ _ _ rfl hO hL ⟨_, rfl, rfl, rm0_0⟩
theorem zpD {τ : Hp} {q0 : zp} {bm0 : Nat} {vm0_0 : Value} (rm0_0 : RdT Ty.u8 τ vm0_0 q0.b) {rr : Int × zp} (hF : zck q0 = some rr) :
  Ctr Tryz.prog 71 #[.pointer (some ⟨bm0, 0, none⟩)] τ [some (bm0, ⟨[vm0_0, .int .i64 q0.at_, .bool q0.failed], 82, 3, true⟩)] (fun v τ' vs' => ∃ (u0_0 : Value), v = .int .u8 rr.1 ∧ vs' = [some (bm0, ⟨[u0_0, .int .i64 rr.2.at_, .bool rr.2.failed], 82, 3, true⟩)] ∧ RdT Ty.u8 τ' u0_0 rr.2.b) := by
 obtain ⟨Am0_0, cm0_0, rfl, -⟩ := rm0_0.form
 refine zM (args := [.pointer (some ⟨bm0, 0, none⟩)]) hm Tryz.func71 s71 rfl fun w0 σ hO Q hQ => ?_
 unfold zck at hF
 have hL := Hp.le.refl τ
 show wpn _ _ a71.body _ _ _
 unfold a71
 dsimp only
 refine zc hO [] [(0, zqA bm0)] zqj fun j => ?_
 refine zbr (zd hO 8 [0, 0] [(0, zqA bm0), (10, .slice Am0_0 q0.b.length cm0_0), (14, zqz q0.at_)] (And.intro (And.intro rfl rfl) (And.intro (And.intro rfl rfl) zql)) fun j => ?_)
 obtain ⟨c2, h3, hF⟩ := bind_some hF
 refine zD hO (zkR rm0_0 h3) rfl fun _ σ _ _ hO h4 h5 => ?_
 have hL := hL.trans h4
 have rm0_0 := rm0_0.le h4
 obtain ⟨rfl, rfl⟩ := h5
 have hO : Obs _ _ [_] := hO
 refine zc hO [] [(0, zqA bm0), (3, .int .u8 c2.1), (4, zqz c2.2.1), (5, zqz c2.2.2)] zqm fun j => ?_
 refine ze (zc hO [0] [(0, zqA bm0), (3, .int .u8 c2.1), (4, zqz c2.2.1), (26, .bool (q0.failed || (c2.2.2 != 0)))] (And.intro (And.intro rfl rfl) (And.intro (And.intro rfl rfl) (fun _ => zqy zql))) fun j => ?_)
 rcases zi hF with ⟨hb6, hF⟩ | ⟨hb6, hF⟩
 ·refine zk (congrArg Value.bool hb6) ?_
  refine ze (zd hO 3 [] [(0, zqA bm0), (29, .pointer (some ⟨bm0, 2, none⟩))] zqk fun j => ?_)
  refine zO hO (i := 0) rfl (off := 2) rfl rfl rfl rfl (Nat.le_of_ble_eq_true rfl) rfl fun σ hO => ?_
  have hO : Obs _ _ [_] := hO
  refine zh (ze (zc hO [] [(0, zqA bm0), (2, .int .u8 0)] zqk fun j => ?_))
  refine zu ?_
  injection hF with hF
  subst hF
  exact hQ _ _ _ _ _ rfl hO hL ⟨_, rfl, rfl, rm0_0⟩
 ·refine zl (congrArg Value.bool hb6) ?_
  refine zm (zd hO 4 [] [(0, zqA bm0), (3, .int .u8 c2.1), (31, zqz c2.2.1), (33, .pointer (some ⟨bm0, 1, none⟩))] zqm fun j => ?_)
  refine zO hO (i := 0) rfl (off := 1) rfl rfl rfl rfl (Nat.le_of_ble_eq_true rfl) rfl fun σ hO => ?_
  have hO : Obs _ _ [_] := hO
  refine zh (zc hO [] [(0, zqA bm0), (2, .int .u8 c2.1)] zqk fun j => ?_)
  refine zK ?_
  injection hF with hF
  subst hF
  exact hQ _ _ _ _ _ rfl hO hL ⟨_, rfl, rfl, rm0_0⟩
end Go.Proofs.YtckcngkkofemjaaGreat
