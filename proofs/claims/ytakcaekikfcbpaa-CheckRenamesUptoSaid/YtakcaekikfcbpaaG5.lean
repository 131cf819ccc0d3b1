import Derived.Test.YtakcaekikfcbpaaG4
namespace Go.Proofs.Ytakcaekikfcbpaa
open Go.Ab Go.RowKit
set_option linter.unusedVariables false
set_option linter.unusedSimpArgs false
set_option maxRecDepth 10000
set_option maxHeartbeats 1000000
theorem zmC {τ : Hp} {p0 : zm} {l9 m0 : Value} (j6 : RdT zx τ l9 p0.Structs) (f8 : RdT zr τ m0 p0.Funcs) {rr : Bool} (hF : zhv p0 = some rr) :
  Ctr Try.prog 7 #[.agg #[l9, m0]] τ [] (fun v τ' vs' => v = .bool rr ∧ vs' = []) := by
 obtain ⟨d0, d5, rfl, -⟩ := j6.form
 obtain ⟨c7, c9, rfl, -⟩ := f8.form
 refine zbi (args := [.agg #[(zrn d0 p0.Structs d5), (zrn c7 p0.Funcs c9)]]) hm Try.func7 s7 rfl fun w0 σ hO Q hQ => ?_
 unfold zhv at hF
 have hL := Hp.le.refl τ
 show wpn _ _ a7.body _ _ _
 unfold a7
 dsimp only
 refine zbQ (n := 2) hO rfl rfl fun b2 σ hO => ?_
 have hO := zrl1 hO
 refine ze hO [] [] [1] zq0 fun j => ?_
 refine zl (zd hO 1 [0] [(15, .agg #[(zrn d0 p0.Structs d5), (zrn c7 p0.Funcs c9)])] [1] (And.intro (And.intro rfl rfl) zq1) fun j => ?_)
 obtain ⟨c3, h4, hF⟩ := zrm hF
 refine zL hO (zpN (j6.le hL) (f8.le hL) h4) rfl fun _ σ _ _ hO h5 h6 => ?_
 have hL := hL.trans h5
 obtain ⟨rfl, rfl⟩ := h6
 have hO := zrl1 hO
 refine ze hO [] [(17, .bool (decide (c3 > 3000)))] [1] zq1 fun j => ?_
 refine zy hF rfl (fun hF => ?_) fun hF => ?_
 ·refine zl ?_
  obtain ⟨c8, h9, hF⟩ := zrm hF
  refine zL hO (zli h9) rfl fun _ σ _ _ hO x3 x4 => ?_
  have hL := hL.trans x3
  obtain ⟨rfl, rfl⟩ := x4
  have hO := zrl1 hO
  refine zA hO [] [(2, .bool c8)] zq0 fun j => ?_
  refine zbt ?_
  cases hF
  have hO := hO.sel []
  exact hQ _ _ _ _ _ rfl hO hL ⟨rfl, rfl⟩
 refine zF (zd hO 3 [0] [(21, .agg #[(zrn d0 p0.Structs d5), (.slice none 0 0)])] [1] (And.intro (And.intro rfl rfl) zq1) fun j => ?_)
 refine zbl hO fun j5 σ hO => ?_
 have hO := zrl2 hO
 refine zC hO (i := 1) rfl (off := 0) rfl rfl rfl rfl (Nat.le_of_ble_eq_true rfl) rfl fun σ hO => ?_
 have hO := zrl2 hO
 refine zf (zl (ze hO [] [(4, zrg 0)] [1, 3] zq2 fun j => ?_))
 refine zY ?_
 have hO := hO.no
 have hO := zrl3 hO
 refine zbH (fun (n : Nat) e' σ' => ∃ (f9 : Option Addr) (g0 : Nat) (h2 : Ob) (b5 : List zG) (D : Int) (τ' : Hp), agr [(1, zrh b2), (3, zrh j5), (4, zrg D)] e' ∧ Obs τ' σ' [some (b2, ⟨[zrn d0 p0.Structs d5, zrn c7 p0.Funcs c9], 25, 2, true⟩), some (j5, ⟨[zrn d0 p0.Structs d5, zrn f9 b5 g0], 25, 2, true⟩), h2] ∧ Hp.le τ τ' ∧ za zr 53 τ' (zrn f9 b5 g0) b5 h2 ∧ zdq p0 n b5 D = some rr) big ⟨none, 0, none, [], 0, _, zrf zq1, hO, hL, za.nil _ _ _, hF⟩ ?_
 clear hF hO hL
 rintro d6 e σ ⟨f9, g0, h2, b5, D, _, hA, hO, hL, f3, hF⟩
 rw [← zV _ _ hA]
 cases d6 with
 | zero => exact nomatch (show none = some rr from hF)
 | succ d6 =>
 replace hF : zer (zdq p0 d6) p0 b5 D = some rr := hF
 unfold zer at hF
 refine zl (ze hO [0] [(26, .bool (decide (D < (p0.Funcs.length : Int))))] [1, 3, 4] (And.intro (And.intro rfl rfl) zq3) fun j => ?_)
 refine zy hF rfl (fun hF => ?_) fun hF => ?_
 ·refine zF (zY (zd hO 3 [0] [(30, zrn c7 p0.Funcs c9), (31, zrg D)] [1, 3, 4] (And.intro (And.intro rfl rfl) zq4) fun j => ?_))
  obtain ⟨q, m3, hF⟩ := zrm hF
  refine zO (T := zr) (f8.le hL) hO.base rfl rfl m3 (by decide) fun a2222 _ m4 m5 => ?_
  obtain ⟨x5, x6, rfl, j7, h3⟩ := m4
  obtain ⟨x7, x8, rfl, -⟩ := j7.form
  obtain ⟨m6, m7, rfl, -⟩ := h3.form
  refine zE rfl ((m5.le hO.base).all rfl) ?_
  refine zbl hO fun b8 σ hO => ?_
  have hO := zrl4 hO
  refine zC hO (i := 3) rfl (off := 0) rfl rfl rfl rfl (Nat.le_of_ble_eq_true rfl) rfl fun σ hO => ?_
  have hO := zrl4 hO
  refine zf (zd hO 2 [3] [(35, zrn m6 q.Body m7)] [1, 3, 4, 5] (And.intro (And.intro rfl rfl) zq4) fun j => ?_)
  obtain ⟨m8, m9, hF⟩ := zrm hF
  refine zL hO (znr h3 m9) rfl fun _ σ _ _ hO h7 n0 => ?_
  have hL := hL.trans h7
  have h3 := h3.le h7
  have f3 := f3.le h7
  have j7 := j7.le h7
  obtain ⟨x9, n1, rfl, rfl, l0⟩ := n0
  obtain ⟨n2, n3, rfl, -⟩ := l0.form
  have hO := zrl5 hO
  refine zd hO 1 [] [(37, .pointer (some ⟨b8, 6, none⟩))] [1, 3, 4, 5, 36] zq5 fun j => ?_
  refine zC hO (i := 3) rfl (off := 6) rfl rfl rfl rfl (Nat.le_of_ble_eq_true rfl) rfl fun σ hO => ?_
  have hO := zrl5 hO
  refine zf (zd hO 1 [] [(38, .pointer (some ⟨b8, 2, none⟩))] [1, 3, 4, 5] zq4 fun j => ?_)
  refine zC hO (i := 3) rfl (off := 2) rfl rfl rfl rfl (Nat.le_of_ble_eq_true rfl) rfl fun σ hO => ?_
  have hO := zrl5 hO
  refine zf (zl (ze hO [] [(6, zrg 0)] [1, 3, 4, 5] zq4 fun j => ?_))
  refine zY ?_
  have hO := hO.no
  have hO := zrl6 hO
  have hO := hO.sel [0, 1, 2, 3, 5, 4]
  refine zbH (fun (n : Nat) e' σ' => ∃ (g1 : Option Addr) (g2 : Nat) (h8 : Ob) (b6 : List zG) (f4 : Option Addr) (f5 : Nat) (j8 : Ob) (I : List zbM) (g3 : Option Addr) (g4 : Nat) (i0 : Ob) (b3 : List zi) (U : Int) (τ' : Hp), agr [(1, zrh b2), (3, zrh j5), (4, zrg D), (5, zrh b8), (6, zrg U)] e' ∧ Obs τ' σ' [some (b2, ⟨[zrn d0 p0.Structs d5, zrn c7 p0.Funcs c9], 25, 2, true⟩), some (j5, ⟨[zrn d0 p0.Structs d5, zrn g1 b6 g2], 25, 2, true⟩), h8, zec b8 q.Name q.Line (zrn f4 I f5) (q.Result.Kind.toNat : Int) q.Result.N q.Result.Name (zrn g3 b3 g4), j8, i0] ∧ Hp.le τ τ' ∧ za zr 53 τ' (zrn g1 b6 g2) b6 h8 ∧ za zb2 78 τ' (zrn f4 I f5) I j8 ∧ za zX 73 τ' (zrn g3 b3 g4) b3 i0 ∧ ze9 (zdq p0 d6) p0 D q n b6 I b3 U = some rr) big ⟨f9, g0, h2, b5, none, 0, none, [], n2, n3, n1, m8, 0, _, zrf zq3, hO, hL, f3, za.nil _ _ _, l0, hF⟩ ?_
  clear hF hO hL
  rintro i1 e σ ⟨g1, g2, h8, b6, f4, f5, j8, I, g3, g4, i0, b3, U, _, hA, hO, hL, b9, i2, f6, hF⟩
  rw [← zV _ _ hA]
  cases i1 with
  | zero => exact nomatch (show none = some rr from hF)
  | succ i1 =>
  replace hF : zf6 (ze9 (zdq p0 d6) p0 D q i1) (zdq p0 d6) p0 D q b6 I b3 U = some rr := hF
  unfold zf6 at hF
  refine zl (zd hO 4 [0] [(39, zrg U), (41, zrn c7 p0.Funcs c9), (42, zrg D)] [1, 3, 4, 5, 6] (And.intro (And.intro rfl rfl) zq7) fun j => ?_)
  obtain ⟨n4, n5, hF⟩ := zrm hF
  refine zO (T := zr) (f8.le hL) hO.base rfl rfl n5 (by decide) fun a2415 _ n6 n7 => ?_
  obtain ⟨y0, y1, rfl, n8, n9⟩ := n6
  obtain ⟨y2, y3, rfl, -⟩ := n8.form
  obtain ⟨y4, y5, rfl, -⟩ := n9.form
  refine zd hO 1 [] [(44, .pointer (some (a2415.add 2)))] [1, 3, 4, 5, 6, 39] zq6 fun j => ?_
  refine zE rfl ((n7.le hO.base).one 2 rfl) ?_
  refine ze hO [] [(47, .bool (decide (U < (n4.Params.length : Int))))] [1, 3, 4, 5, 6] zq5 fun j => ?_
  refine zy hF rfl (fun hF => ?_) fun hF => ?_
  ·refine zF (zY (zeo (zd hO 5 [3, 0] [(50, .pointer (some ⟨b8, 2, none⟩)), (51, zrn f4 I f5), (53, zrn c7 p0.Funcs c9), (54, zrg D)] [1, 3, 4, 5, 6] (And.intro (And.intro rfl rfl) (And.intro (And.intro rfl rfl) zq8)) fun j => ?_)))
   obtain ⟨y6, o0, hF⟩ := zrm hF
   refine zO (T := zr) (f8.le hL) hO.base rfl rfl o0 (by decide) fun a2429 _ o1 o2 => ?_
   obtain ⟨y7, y8, rfl, l1, o3⟩ := o1
   obtain ⟨y9, A0, rfl, -⟩ := l1.form
   obtain ⟨A1, A2, rfl, -⟩ := o3.form
   refine zd hO 1 [] [(56, .pointer (some (a2429.add 2)))] [1, 3, 4, 5, 6, 50, 51] zq7 fun j => ?_
   refine zE rfl ((o2.le hO.base).one 2 rfl) ?_
   refine zd hO 1 [] [(58, zrg U)] [1, 3, 4, 5, 6, 50, 51, 57] zq8 fun j => ?_
   obtain ⟨g5, o4, hF⟩ := zrm hF
   refine zO (T := zb2) l1 hO.base rfl rfl o4 (by decide) fun a2442 _ o5 o6 => ?_
   obtain rfl : _ = ([.string g5.Name, .int .u8 g5.Type_.Kind.toNat, .int .i64 g5.Type_.N, .string g5.Type_.Name] : List Value) := o5
   refine zd hO 1 [] [(60, .pointer (some a2442))] [1, 3, 4, 5, 6, 50, 51] zq7 fun j => ?_
   refine zE rfl (o6.le hO.base).fst ?_
   refine zd hO 3 [0] [(63, .pointer (some ⟨b2, 1, none⟩)), (64, zrn c7 p0.Funcs c9), (65, zrg D)] [1, 3, 4, 5, 6, 50, 51, 61] (And.intro (And.intro rfl rfl) zra) fun j => ?_
   obtain ⟨A3, o7, hF⟩ := zrm hF
   refine zO (T := zr) (f8.le hL) hO.base rfl rfl o7 (by decide) fun a2447 _ o8 i3 => ?_
   obtain ⟨A4, A5, rfl, i4, j9⟩ := o8
   obtain ⟨A6, A7, rfl, -⟩ := i4.form
   obtain ⟨A8, A9, rfl, -⟩ := j9.form
   refine zK hO 1 [] [(1, zrh b2), (3, zrh j5), (4, zrg D), (5, zrh b8), (6, zrg U), (50, .pointer (some ⟨b8, 2, none⟩)), (51, zrn f4 I f5), (61, .string g5.Name), (63, .pointer (some ⟨b2, 1, none⟩)), (64, zrn c7 p0.Funcs c9), (67, .pointer (some (a2447.add 2)))] zra fun j => ?_
   refine zE rfl ((i3.le hO.base).one 2 rfl) ?_
   refine zd hO 1 [] [(69, zrg U)] [1, 3, 4, 5, 6, 50, 51, 61, 63, 64, 67, 68] zrc fun j => ?_
   obtain ⟨o, o9, hF⟩ := zrm hF
   refine zO (T := zb2) i4 hO.base rfl rfl o9 (by decide) fun a2460 _ p2 i5 => ?_
   obtain rfl : _ = ([.string o.Name, .int .u8 o.Type_.Kind.toNat, .int .i64 o.Type_.N, .string o.Type_.Name] : List Value) := p2
   refine zd hO 1 [] [(71, .pointer (some (a2460.add 1)))] [1, 3, 4, 5, 6, 50, 51, 61, 63, 64, 67, 68] zrc fun j => ?_
   refine zE rfl ((i5.le hO.base).part (off := 1) (ds := [.int .u8 (o.Type_.Kind.toNat : Int), .int .i64 o.Type_.N, .string o.Type_.Name]) rfl rfl) ?_
   refine zcp ?_
   obtain ⟨g6, p3, hF⟩ := zrm hF
   refine zL hO (zgU p3) rfl fun _ σ _ _ hO c0 p4 => ?_
   have hL := hL.trans c0
   have i2 := i2.le c0
   have i3 := i3.le c0
   have i4 := i4.le c0
   have j9 := j9.le c0
   have i5 := i5.le c0
   have b9 := b9.le c0
   have f6 := f6.le c0
   obtain ⟨rfl, rfl⟩ := p4
   have hO := zrl6 hO
   refine zf (zcj ⟨(zbp rfl ((i5.le hO.base).part (off := 1) (ds := [.int .u8 (o.Type_.Kind.toNat : Int), .int .i64 o.Type_.N, .string o.Type_.Name]) rfl rfl) rfl), (zbp rfl ((i3.le hO.base).one 2 rfl) rfl), (zbp rfl (hO.val (i := 0) (off := 1) (agg := false) (n := 1) rfl rfl) rfl), (zbp rfl (hO.val (i := 3) (off := 2) (agg := false) (n := 1) rfl rfl) rfl), trivial⟩ ?_)
   refine zd hO 1 [] [(73, .agg #[(.string g6), (.int .u8 (o.Type_.Kind.toNat : Int)), (.int .i64 o.Type_.N), (.string o.Type_.Name)])] [1, 3, 4, 5, 6, 50, 51] zq7 fun j => ?_
   refine zcp (zbG (T := zb2) (l := ([(⟨g6, (⟨o.Type_.Kind, o.Type_.N, o.Type_.Name⟩ : zz)⟩ : zbM)] : List zbM)) (cs := [.string g6, .int .u8 (o.Type_.Kind.toNat : Int), .int .i64 o.Type_.N, .string o.Type_.Name]) hO rfl ⟨[.string g6, .int .u8 (o.Type_.Kind.toNat : Int), .int .i64 o.Type_.N, .string o.Type_.Name], _, rfl, rfl, rfl⟩ rfl (by decide) fun _ σ B0 l2 hO => ?_)
   obtain ⟨B1, B2, rfl, -⟩ := l2.form
   have hO := zrl7 hO
   refine zf (zcj ⟨(zbp rfl (hO.val (i := 3) (off := 2) (agg := false) (n := 1) rfl rfl) rfl), trivial⟩ ?_)
   obtain ⟨_, m1, hF⟩ := zrm hF
   refine zkn (T := zb2) zoi hO i2 (i := 4) rfl rfl rfl (l2.rd hO (i := 6) rfl) m1 (by decide) fun _ σ p5 l3 hO => ?_
   obtain ⟨p6, p7, rfl, -⟩ := l3.form
   have hO := zrl7 hO
   refine zd hO 1 [] [(76, .pointer (some ⟨b8, 2, none⟩))] [1, 3, 4, 5, 6, 75] zq6 fun j => ?_
   refine zC hO (i := 3) rfl (off := 2) rfl rfl rfl rfl (Nat.le_of_ble_eq_true rfl) rfl fun σ hO => ?_
   have hO := zrl7 hO
   refine zf (zg (z3 (zk (zbd (ze hO [] [(6, zrg (IntKind.i64.wrap (U + 1)))] [1, 3, 4, 5] zq4 fun j => ?_)))))
   refine zg (zk ?_)
   have hO := hO.sel [0, 1, 2, 3, 4, 5]
   exact ⟨i1, Nat.lt_succ_self _, g1, g2, h8, b6, p6, p7, p5, (I ++ ([(⟨g6, (⟨o.Type_.Kind, o.Type_.N, o.Type_.Name⟩ : zz)⟩ : zbM)] : List zbM)), g3, g4, i0, b3, (IntKind.i64.wrap (U + 1)), _, zrf zq3, hO, hL, b9, l3, f6, hF⟩
  refine zbF (zbB (zbD (zk (zbd (zd hO 3 [1, 3] [(78, zrn g1 b6 g2), (79, .agg #[(.string q.Name), (.int .i64 q.Line), (zrn f4 I f5), (.int .u8 (q.Result.Kind.toNat : Int)), (.int .i64 q.Result.N), (.string q.Result.Name), (zrn g3 b3 g4)])] [1, 3, 4] (And.intro (And.intro rfl rfl) (And.intro (And.intro rfl rfl) zq4)) fun j => ?_)))))
  obtain ⟨_, k0, k1, hO⟩ := i2.share hO (i := 4) rfl
  have hL := hL.trans k0
  have b9 := b9.le k0
  have f6 := f6.le k0
  have hO := zrl6 hO
  obtain ⟨_, k2, p8, hO⟩ := f6.share hO (i := 5) rfl
  have hL := hL.trans k2
  have b9 := b9.le k2
  have k1 := k1.le k2
  have hO := zrl6 hO
  obtain ⟨_, m2, hF⟩ := zrm hF
  refine zdk (T := zr) (y := (⟨q.Name, q.Line, I, (⟨q.Result.Kind, q.Result.N, q.Result.Name⟩ : zz), b3⟩ : zG)) hO b9 (i := 2) rfl rfl (fun _ => rfl) rfl ⟨_, _, rfl, k1, p8⟩ rfl m2 (by decide) fun u _ σ p9 l4 hO => ?_
  obtain ⟨q2, q3, rfl, -⟩ := l4.form
  have hO := zrl6 hO
  refine zd hO 1 [] [(82, .pointer (some ⟨j5, 1, none⟩))] [1, 3, 4, 81] zq4 fun j => ?_
  refine zC hO (i := 1) rfl (off := 1) rfl rfl rfl rfl (Nat.le_of_ble_eq_true rfl) rfl fun σ hO => ?_
  have hO := zrl6 hO
  refine zf (zg (z3 (zk (zbd (ze hO [] [(4, zrg (IntKind.i64.wrap (D + 1)))] [1, 3] zq2 fun j => ?_)))))
  refine zg (zk ?_)
  have hO := hO.sel [0, 1, 2]
  exact ⟨d6, Nat.lt_succ_self _, q2, q3, p9, (b6 ++ [(⟨q.Name, q.Line, I, (⟨q.Result.Kind, q.Result.N, q.Result.Name⟩ : zz), b3⟩ : zG)]), (IntKind.i64.wrap (D + 1)), _, zrf zq1, hO, hL, l4, hF⟩
 refine zbF (zbB (zbD (zk (zd hO 1 [0] [(84, .agg #[(zrn d0 p0.Structs d5), (zrn c7 p0.Funcs c9)])] [3] (And.intro (And.intro rfl rfl) zq1) fun j => ?_))))
 obtain ⟨g, q4, hF⟩ := zrm hF
 refine zL hO (ze5 (j6.le hL) (f8.le hL) q4) rfl fun _ σ _ _ hO l5 q5 => ?_
 have hL := hL.trans l5
 have f3 := f3.le l5
 obtain ⟨B3, B4, rfl, rfl, V, S⟩ := q5
 obtain ⟨W, X, rfl, -⟩ := V.form
 obtain ⟨c1, c2, rfl, -⟩ := S.form
 have hO := zrl3 hO
 refine zd hO 4 [] [(86, .agg #[(zrn W g.1.Bodies X), (.int .i64 g.1.Main), (zrn c1 g.1.Points c2)]), (87, zrg g.2.1), (88, zrg g.2.2)] [3] zq3 fun j => ?_
 refine zbl hO fun Y σ hO => ?_
 have hO := zrl4 hO
 refine zC hO (i := 3) rfl (off := 0) rfl rfl rfl rfl (Nat.le_of_ble_eq_true rfl) rfl fun σ hO => ?_
 have hO := zrl4 hO
 refine ze hO [] [(8, zrg g.2.1), (9, zrg g.2.2)] [3, 7] zq3 fun j => ?_
 refine zd hO 1 [1] [(90, .agg #[(zrn d0 p0.Structs d5), (zrn f9 b5 g0)])] [7, 8, 9] (And.intro (And.intro rfl rfl) zq3) fun j => ?_
 obtain ⟨_, k3, k4, hO⟩ := f3.share hO (i := 2) rfl
 have hL := hL.trans k3
 have V := V.le k3
 have S := S.le k3
 have hO := zrl4 hO
 obtain ⟨h, q6, hF⟩ := zrm hF
 refine zL hO (ze5 (p0 := (⟨p0.Structs, b5⟩ : zm)) (j6.le hL) k4 q6) rfl fun _ σ _ _ hO i6 q7 => ?_
 have hL := hL.trans i6
 have k4 := k4.le i6
 have V := V.le i6
 have S := S.le i6
 obtain ⟨B5, B6, rfl, rfl, d7, c4⟩ := q7
 obtain ⟨Z, b0, rfl, -⟩ := d7.form
 obtain ⟨c5, c6, rfl, -⟩ := c4.form
 have hO := zrl4 hO
 refine zd hO 4 [] [(92, .agg #[(zrn Z h.1.Bodies b0), (.int .i64 h.1.Main), (zrn c5 h.1.Points c6)]), (93, zrg h.2.1), (94, zrg h.2.2)] [7, 8, 9] zq5 fun j => ?_
 refine zbl hO fun G σ hO => ?_
 have hO := zrl5 hO
 refine zC hO (i := 4) rfl (off := 0) rfl rfl rfl rfl (Nat.le_of_ble_eq_true rfl) rfl fun σ hO => ?_
 have hO := zrl5 hO
 refine ze hO [] [(11, zrg h.2.1), (12, zrg h.2.2)] [7, 8, 9, 10] zq5 fun j => ?_
 refine zl (zd hO 10 [3, 4] [(112, .bool (((g.2.1 != h.2.1) || (g.2.2 != h.2.2)) || ((g.1.Bodies.length : Int) != (h.1.Bodies.length : Int))))] [7, 10] (And.intro (And.intro rfl rfl) (fun _ => And.intro (And.intro rfl rfl) (And.intro (And.intro rfl rfl) (And.intro (And.intro rfl rfl) (fun _ => zrf zq1))))) fun j => ?_)
 have hO := hO.sel [3, 4]
 have hO := zrl2 hO
 obtain ⟨q8, q9, hF⟩ := zrm hF
 refine zcA 2 (fun e' σ' => ∃ (τ' : Hp), agr [(119, .bool q8), (7, zrh Y), (10, zrh G)] e' ∧ Obs τ' σ' [zfg Y (zrn W g.1.Bodies X) g.1.Main (zrn c1 g.1.Points c2), zfg G (zrn Z h.1.Bodies b0) h.1.Main (zrn c5 h.1.Points c6)] ∧ Hp.le τ τ' ∧ RdT zp τ' (zrn W g.1.Bodies X) g.1.Bodies ∧ RdT zo τ' (zrn c1 g.1.Points c2) g.1.Points ∧ RdT zp τ' (zrn Z h.1.Bodies b0) h.1.Bodies ∧ RdT zo τ' (zrn c5 h.1.Points c6) h.1.Points) ?_ ?_
 ·have hF := q9
  rcases zbL hF with ⟨f1, hF⟩ | ⟨f1, hF⟩
  ·refine zbz (zrj f1) ?_
   refine zW (zri f1) ?_
   refine zf ?_
   cases hF
   refine zg ?_
   exact ⟨rfl, _, zrf zq1, hO, hL, V, S, d7, c4⟩
  refine zbn (zrj f1) ?_
  refine zK hO 4 [0, 1] [(7, zrh Y), (10, zrh G), (112, .bool (((g.2.1 != h.2.1) || (g.2.2 != h.2.2)) || ((g.1.Bodies.length : Int) != (h.1.Bodies.length : Int)))), (114, zrn c1 g.1.Points c2), (116, zrn c5 h.1.Points c6)] (And.intro (And.intro rfl rfl) (And.intro (And.intro rfl rfl) zq4)) fun j => ?_
  obtain ⟨r0, r1, hF⟩ := zrm hF
  refine zL hO (zm4 S c4 r1) rfl fun _ σ _ _ hO g7 r2 => ?_
  have hL := hL.trans g7
  have S := S.le g7
  have c4 := c4.le g7
  have V := V.le g7
  have d7 := d7.le g7
  obtain ⟨rfl, rfl⟩ := r2
  have hO := zrl2 hO
  refine zd hO 1 [] [(118, .bool (!r0))] [7, 10, 112] zq3 fun j => ?_
  refine zW (zri f1) ?_
  refine zf ?_
  cases hF
  refine zg ?_
  exact ⟨rfl, _, zrf zq1, hO, hL, V, S, d7, c4⟩
 rintro e σ ⟨_, hA, hO, hL, V, S, d7, c4⟩
 rw [← zV _ _ hA]
 refine zf (zy hF rfl (fun hF => ?_) fun hF => ?_)
 ·refine zl (zA hO [] [(2, .bool false)] zq0 fun j => ?_)
  refine zbt ?_
  cases hF
  have hO := hO.sel []
  exact hQ _ _ _ _ _ rfl hO hL ⟨rfl, rfl⟩
 refine zF (zl (zA hO [] [(7, zrh Y), (10, zrh G), (13, zrg 0)] zq2 fun j => ?_))
 refine zY (zbH (fun (n : Nat) e' σ' => ∃ (z : Int) (τ' : Hp), agr [(7, zrh Y), (10, zrh G), (13, zrg z)] e' ∧ Obs τ' σ' [zfg Y (zrn W g.1.Bodies X) g.1.Main (zrn c1 g.1.Points c2), zfg G (zrn Z h.1.Bodies b0) h.1.Main (zrn c5 h.1.Points c6)] ∧ Hp.le τ τ' ∧ RdT zp τ' (zrn W g.1.Bodies X) g.1.Bodies ∧ RdT zo τ' (zrn c1 g.1.Points c2) g.1.Points ∧ RdT zp τ' (zrn Z h.1.Bodies b0) h.1.Bodies ∧ RdT zo τ' (zrn c5 h.1.Points c6) h.1.Points ∧ zcN g h n z = some rr) big ⟨0, _, zrf zq1, hO, hL, V, S, d7, c4, hF⟩ ?_)
 clear hF hO hL
 rintro d8 e σ ⟨z, _, hA, hO, hL, d9, g8, f0, g9, hF⟩
 rw [← zV _ _ hA]
 cases d8 with
 | zero => exact nomatch (show none = some rr from hF)
 | succ d8 =>
 replace hF : zem (zcN g h d8) g h z = some rr := hF
 unfold zem at hF
 refine zl (ze hO [0] [(124, .bool (decide (z < (g.1.Bodies.length : Int))))] [7, 10, 13] (And.intro (And.intro rfl rfl) zq3) fun j => ?_)
 refine zy hF rfl (fun hF => ?_) fun hF => ?_
 ·refine zF (zY (zl (zcw (zd hO 3 [0] [(128, zrn W g.1.Bodies X), (129, zrg z)] [7, 10, 13] (And.intro (And.intro rfl rfl) zq4) fun j => ?_))))
  obtain ⟨B7, r3, hF⟩ := zrm hF
  refine zO (T := zp) d9 hO.base rfl rfl r3 (by decide) fun a3062 _ r4 r5 => ?_
  obtain ⟨B8, B9, rfl, r6, i7⟩ := r4
  obtain ⟨C0, C1, rfl, -⟩ := r6.form
  obtain ⟨C2, C3, rfl, -⟩ := i7.form
  refine zd hO 1 [] [(131, .pointer (some (a3062.add 4)))] [7, 10, 13] zq3 fun j => ?_
  refine zE rfl ((r5.le hO.base).one 4 rfl) ?_
  refine zd hO 3 [1] [(134, zrn Z h.1.Bodies b0), (135, zrg z)] [7, 10, 13, 132] (And.intro (And.intro rfl rfl) zq5) fun j => ?_
  obtain ⟨C4, r7, hF⟩ := zrm hF
  refine zO (T := zp) f0 hO.base rfl rfl r7 (by decide) fun a3075 _ r8 k5 => ?_
  obtain ⟨C5, C6, rfl, k6, i8⟩ := r8
  obtain ⟨C7, C8, rfl, -⟩ := k6.form
  obtain ⟨C9, D0, rfl, -⟩ := i8.form
  refine zd hO 1 [] [(137, .pointer (some (a3075.add 4)))] [7, 10, 13, 132] zq4 fun j => ?_
  refine zE rfl ((k5.le hO.base).one 4 rfl) ?_
  obtain ⟨l6, r9, hF⟩ := zrm hF
  refine zL hO (zqN i7 i8 r9) rfl fun _ σ _ _ hO b7 t0 => ?_
  have hL := hL.trans b7
  have i7 := i7.le b7
  have k5 := k5.le b7
  have k6 := k6.le b7
  have i8 := i8.le b7
  have d9 := d9.le b7
  have g8 := g8.le b7
  have f0 := f0.le b7
  have g9 := g9.le b7
  obtain ⟨rfl, rfl⟩ := t0
  have hO := zrl2 hO
  refine zd hO 2 [] [(141, .bool (!l6))] [7, 10, 13] zq3 fun j => ?_
  obtain ⟨t1, t2, hF⟩ := zrm hF
  refine zdF 2 [(157, .bool t1), (7, zrh Y), (10, zrh G), (13, zrg z)] (fun Q hQ => ?_) fun j => ?_
  ·have hF := t2
   rcases zbL hF with ⟨f2, hF⟩ | ⟨f2, hF⟩
   ·refine zbz (zrj f2) ?_
    refine zW (zri f2) ?_
    refine zf ?_
    cases hF
    refine zg ?_
    exact hQ _ zq3
   refine zbn (zrj f2) ?_
   refine zd hO 3 [0] [(143, zrn W g.1.Bodies X), (144, zrg z)] [7, 10, 13, 141] (And.intro (And.intro rfl rfl) zq5) fun j => ?_
   obtain ⟨l7, t3, hF⟩ := zrm hF
   refine zO (T := zp) d9 hO.base rfl rfl t3 (by decide) fun a3095 _ t4 t5 => ?_
   obtain ⟨D1, D2, rfl, t6, t7⟩ := t4
   obtain ⟨D3, D4, rfl, -⟩ := t6.form
   obtain ⟨D5, D6, rfl, -⟩ := t7.form
   refine zd hO 1 [] [(146, .pointer (some (a3095.add 3)))] [7, 10, 13, 141] zq4 fun j => ?_
   refine zE rfl ((t5.le hO.base).one 3 rfl) ?_
   refine zK hO 4 [1] [(7, zrh Y), (10, zrh G), (13, zrg z), (141, .bool (!l6)), (148, zrg (l7.Vars.length : Int)), (150, zrn Z h.1.Bodies b0), (151, zrg z)] (And.intro (And.intro rfl rfl) zq6) fun j => ?_
   obtain ⟨t8, t9, hF⟩ := zrm hF
   refine zO (T := zp) f0 hO.base rfl rfl t9 (by decide) fun a3108 _ u0 u1 => ?_
   obtain ⟨D7, D8, rfl, u2, u3⟩ := u0
   obtain ⟨D9, E0, rfl, -⟩ := u2.form
   obtain ⟨E1, E2, rfl, -⟩ := u3.form
   refine zd hO 1 [] [(153, .pointer (some (a3108.add 3)))] [7, 10, 13, 141, 148] zq5 fun j => ?_
   refine zE rfl ((u1.le hO.base).one 3 rfl) ?_
   refine zd hO 2 [] [(156, .bool ((l7.Vars.length : Int) != (t8.Vars.length : Int)))] [7, 10, 13, 141] zq4 fun j => ?_
   refine zW (zri f2) ?_
   refine zf ?_
   cases hF
   refine zg ?_
   exact hQ _ zq3
  refine zf (zy hF rfl (fun hF => ?_) fun hF => ?_)
  ·refine zl (zA hO [] [(2, .bool false)] zq0 fun j => ?_)
   refine zbt (zbo (zbc (zbc (zbo (zbc ?_)))))
   cases hF
   have hO := hO.sel []
   exact hQ _ _ _ _ _ rfl hO hL ⟨rfl, rfl⟩
  refine zF (ze hO [] [(14, zrg 0)] [7, 10, 13] zq3 fun j => ?_)
  refine zlh (zY (zbH (fun (n : Nat) e' σ' => ∃ (b1 : Int) (τ' : Hp), agr [(7, zrh Y), (10, zrh G), (13, zrg z), (14, zrg b1)] e' ∧ Obs τ' σ' [zfg Y (zrn W g.1.Bodies X) g.1.Main (zrn c1 g.1.Points c2), zfg G (zrn Z h.1.Bodies b0) h.1.Main (zrn c5 h.1.Points c6)] ∧ Hp.le τ τ' ∧ RdT zp τ' (zrn W g.1.Bodies X) g.1.Bodies ∧ RdT zo τ' (zrn c1 g.1.Points c2) g.1.Points ∧ RdT zp τ' (zrn Z h.1.Bodies b0) h.1.Bodies ∧ RdT zo τ' (zrn c5 h.1.Points c6) h.1.Points ∧ zeP (zcN g h d8) g h z n b1 = some rr) big ⟨0, _, zrf zq2, hO, hL, d9, g8, f0, g9, hF⟩ ?_))
  clear hF hO hL
  rintro i9 e σ ⟨b1, _, hA, hO, hL, f7, j0, h0, j1, hF⟩
  rw [← zV _ _ hA]
  cases i9 with
  | zero => exact nomatch (show none = some rr from hF)
  | succ i9 =>
  replace hF : zfO (zeP (zcN g h d8) g h z i9) (zcN g h d8) g h z b1 = some rr := hF
  unfold zfO at hF
  refine zl (zd hO 4 [0] [(158, zrg b1), (160, zrn W g.1.Bodies X), (161, zrg z)] [7, 10, 13, 14] (And.intro (And.intro rfl rfl) zq6) fun j => ?_)
  obtain ⟨u4, u5, hF⟩ := zrm hF
  refine zO (T := zp) f7 hO.base rfl rfl u5 (by decide) fun a3258 _ u6 u7 => ?_
  obtain ⟨E3, E4, rfl, u9, v0⟩ := u6
  obtain ⟨E5, E6, rfl, -⟩ := u9.form
  obtain ⟨E7, E8, rfl, -⟩ := v0.form
  refine zd hO 1 [] [(163, .pointer (some (a3258.add 3)))] [7, 10, 13, 14, 158] zq5 fun j => ?_
  refine zE rfl ((u7.le hO.base).one 3 rfl) ?_
  refine ze hO [] [(166, .bool (decide (b1 < (u4.Vars.length : Int))))] [7, 10, 13, 14] zq4 fun j => ?_
  refine zy hF rfl (fun hF => ?_) fun hF => ?_
  ·refine zF (zY (zcw (zd hO 3 [0] [(170, zrn W g.1.Bodies X), (171, zrg z)] [7, 10, 13, 14] (And.intro (And.intro rfl rfl) zq5) fun j => ?_)))
   obtain ⟨E9, v1, hF⟩ := zrm hF
   refine zO (T := zp) f7 hO.base rfl rfl v1 (by decide) fun a3272 _ v2 v3 => ?_
   obtain ⟨F0, F1, rfl, l8, v4⟩ := v2
   obtain ⟨F2, F3, rfl, -⟩ := l8.form
   obtain ⟨F4, F5, rfl, -⟩ := v4.form
   refine zd hO 1 [] [(173, .pointer (some (a3272.add 3)))] [7, 10, 13, 14] zq4 fun j => ?_
   refine zE rfl ((v3.le hO.base).one 3 rfl) ?_
   refine zd hO 1 [] [(175, zrg b1)] [7, 10, 13, 14, 174] zq5 fun j => ?_
   obtain ⟨v5, v6, hF⟩ := zrm hF
   refine zO (T := zq) l8 hO.base rfl rfl v6 (by decide) fun a3285 _ v7 v8 => ?_
   obtain ⟨F6, rfl, v9⟩ := v7
   obtain ⟨F7, F8, rfl, -⟩ := v9.form
   refine zd hO 1 [] [(177, .pointer (some a3285))] [7, 10, 13, 14] zq4 fun j => ?_
   refine zE rfl (v8.le hO.base).fst ?_
   refine zd hO 3 [1] [(180, zrh G), (181, zrn Z h.1.Bodies b0), (182, zrg z)] [7, 10, 13, 14, 178] (And.intro (And.intro rfl rfl) zq7) fun j => ?_
   obtain ⟨F9, w2, hF⟩ := zrm hF
   refine zO (T := zp) h0 hO.base rfl rfl w2 (by decide) fun a3294 _ w3 j2 => ?_
   obtain ⟨G0, G1, rfl, j3, k7⟩ := w3
   obtain ⟨G2, G3, rfl, -⟩ := j3.form
   obtain ⟨G4, G5, rfl, -⟩ := k7.form
   refine zK hO 1 [] [(7, zrh Y), (10, zrh G), (13, zrg z), (14, zrg b1), (178, .string v5.Name), (180, zrh G), (181, zrn Z h.1.Bodies b0), (184, .pointer (some (a3294.add 3)))] zq7 fun j => ?_
   refine zE rfl ((j2.le hO.base).one 3 rfl) ?_
   refine zd hO 1 [] [(186, zrg b1)] [7, 10, 13, 14, 178, 180, 181, 184, 185] zq9 fun j => ?_
   obtain ⟨w4, w5, hF⟩ := zrm hF
   refine zO (T := zq) j3 hO.base rfl rfl w5 (by decide) fun a3307 _ w6 j4 => ?_
   obtain ⟨G6, rfl, k8⟩ := w6
   obtain ⟨G7, G8, rfl, -⟩ := k8.form
   refine zd hO 1 [] [(188, .pointer (some a3307))] [7, 10, 13, 14, 178, 180, 181, 184, 185] zq9 fun j => ?_
   refine zE rfl (j4.le hO.base).fst ?_
   refine zcp ?_
   obtain ⟨w7, w8, hF⟩ := zrm hF
   refine zL hO (zgU w8) rfl fun _ σ _ _ hO b4 w9 => ?_
   have hL := hL.trans b4
   have h0 := h0.le b4
   have j2 := j2.le b4
   have j3 := j3.le b4
   have k7 := k7.le b4
   have j4 := j4.le b4
   have k8 := k8.le b4
   have f7 := f7.le b4
   have j0 := j0.le b4
   have j1 := j1.le b4
   obtain ⟨rfl, rfl⟩ := w9
   have hO := zrl2 hO
   refine zf (zcj ⟨(zbp rfl (j4.le hO.base).fst rfl), (zbp rfl ((j2.le hO.base).one 3 rfl) rfl), (zbp rfl (hO.val (i := 1) (off := 0) (agg := false) (n := 1) rfl rfl) rfl), trivial⟩ ?_)
   refine ze hO [] [(190, .bool (!(zP w7 w4.Name)))] [7, 10, 13, 14] zq4 fun j => ?_
   refine zbC (zy hF rfl (fun hF => ?_) fun hF => ?_)
   ·refine zl (zA hO [] [(2, .bool false)] zq0 fun j => ?_)
    refine zbt (zbo (zbc (zbc (zbo (zbc (zbo ?_))))))
    refine zbc (zbc (zbo (zbc ?_)))
    cases hF
    have hO := hO.sel []
    exact hQ _ _ _ _ _ rfl hO hL ⟨rfl, rfl⟩
   refine zF (zg (z3 (zk (zbd (ze hO [] [(14, zrg (IntKind.i64.wrap (b1 + 1)))] [7, 10, 13] zq3 fun j => ?_)))))
   refine zg (zk ?_)
   exact ⟨i9, Nat.lt_succ_self _, (IntKind.i64.wrap (b1 + 1)), _, zrf zq2, hO, hL, f7, j0, h0, j1, hF⟩
  refine zbF (zbB (zbD (zk (zg (z3 (zk ?_))))))
  refine zbd (ze hO [] [(13, zrg (IntKind.i64.wrap (z + 1)))] [7, 10] zq2 fun j => ?_)
  refine zg (zk ?_)
  exact ⟨d8, Nat.lt_succ_self _, (IntKind.i64.wrap (z + 1)), _, zrf zq1, hO, hL, f7, j0, h0, j1, hF⟩
 refine zbF (zbB (zbD (zk ?_)))
 obtain ⟨x0, x1, hF⟩ := zrm hF
 refine zL hO (zli x1) rfl fun _ σ _ _ hO h1 x2 => ?_
 have hL := hL.trans h1
 have d9 := d9.le h1
 have g8 := g8.le h1
 have f0 := f0.le h1
 have g9 := g9.le h1
 obtain ⟨rfl, rfl⟩ := x2
 have hO := zrl2 hO
 refine zA hO [] [(2, .bool x0)] zq0 fun j => ?_
 refine zba ?_
 cases hF
 have hO := hO.sel []
 exact hQ _ _ _ _ _ rfl hO hL ⟨rfl, rfl⟩
end Go.Proofs.Ytakcaekikfcbpaa
