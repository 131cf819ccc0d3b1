import Derived.Test.YtakcaekikfcbpaaG0
namespace Go.Proofs.Ytakcaekikfcbpaa
open Go.Ab Go.RowKit
set_option linter.unusedVariables false
set_option linter.unusedSimpArgs false
set_option maxRecDepth 10000
set_option maxHeartbeats 1000000
theorem znX {gn : Nat} (ih_check_checker_vals : zfl gn) (ih_check_checker_exp : zfz gn) (ih_check_checker_place : zeT gn) (ih_check_checker_unary : ze3 gn) (ih_check_checker_binary : zeO gn) {τ : Hp} {q0 : zb} {G : Nat} {c9 d0 d5 : Value} {d6 : Ob} {d7 : Value} {d8 : Ob} {d9 : Value} {f0 : Ob} {f1 : Value} {f2 : Ob} {p1 : zc} {f3 : Value} (h : RdT zx τ c9 q0.prog.Structs) (o : RdT zr τ d0 q0.prog.Funcs) (q : za zp 59 τ d5 q0.tree.Bodies d6) (z : za zo 87 τ d7 q0.tree.Points d8) (g : za zq 82 τ d9 q0.vars f0) (D : za (Ty.int .i64) 3 τ f1 q0.scope f2) (c8 : RdT z5 τ f3 p1.Kids) {rr : Except (Value × zb) (zj × Int × zb)} (hF : zgh ((zD gn).1) ((zD gn).2.1) ((zD gn).2.2.1) ((zD gn).2.2.2.1) ((zD gn).2.2.2.2) q0 p1 = some rr) :
  zbu Try.prog 103 #[.pointer (some ⟨G, 0, none⟩), .agg #[.int .u8 p1.Kind.toNat, .int .i64 p1.Num, .string p1.Name, .string p1.Field, .string p1.Op, f3]] τ [zn G c9 d0 d5 q0.tree.Main d7 q0.fn d9 f1, d6, d8, f0, f2] (fun v τ' vs' => match (generalizing := false) rr with | .ok rr => ∃ (f4 U V W : Value) (X : Ob) (Y : Value) (Z : Ob) (b0 : Value) (b1 : Ob) (b2 : Value) (b5 : Ob), v = .tuple #[.agg #[.int .u8 rr.1.Kind.toNat, .int .u8 rr.1.Op.toNat, .int .i64 rr.1.Var, .int .i64 rr.1.Num, f4], .int .u8 rr.2.1] ∧ vs' = [zn G U V W rr.2.2.tree.Main Y rr.2.2.fn b0 b2, X, Z, b1, b5] ∧ RdT zR τ' f4 rr.1.Kids ∧ RdT zx τ' U rr.2.2.prog.Structs ∧ RdT zr τ' V rr.2.2.prog.Funcs ∧ za zp 59 τ' W rr.2.2.tree.Bodies X ∧ za zo 87 τ' Y rr.2.2.tree.Points Z ∧ za zq 82 τ' b0 rr.2.2.vars b1 ∧ za (Ty.int .i64) 3 τ' b2 rr.2.2.scope b5 | .error _ => False) (fun ch τ' vs' => match (generalizing := false) rr with | .ok _ => False | .error ee => ∃ (U V W : Value) (X : Ob) (Y : Value) (Z : Ob) (b0 : Value) (b1 : Ob) (b2 : Value) (b5 : Ob), ch = [{ v := ee.1, recovered := false }] ∧ vs' = [zn G U V W ee.2.tree.Main Y ee.2.fn b0 b2, X, Z, b1, b5] ∧ RdT zx τ' U ee.2.prog.Structs ∧ RdT zr τ' V ee.2.prog.Funcs ∧ za zp 59 τ' W ee.2.tree.Bodies X ∧ za zo 87 τ' Y ee.2.tree.Points Z ∧ za zq 82 τ' b0 ee.2.vars b1 ∧ za (Ty.int .i64) 3 τ' b2 ee.2.scope b5) := by
 obtain ⟨m4, m5, rfl, -⟩ := h.form
 obtain ⟨m6, m7, rfl, -⟩ := o.form
 obtain ⟨m8, m9, rfl, -⟩ := q.form
 obtain ⟨n0, n1, rfl, -⟩ := z.form
 obtain ⟨b8, b9, rfl, -⟩ := g.form
 obtain ⟨n2, n3, rfl, -⟩ := D.form
 obtain ⟨f5, f6, rfl, -⟩ := c8.form
 refine zcH (args := [.pointer (some ⟨G, 0, none⟩), .agg #[.int .u8 p1.Kind.toNat, .int .i64 p1.Num, .string p1.Name, .string p1.Field, .string p1.Op, (.slice f5 p1.Kids.length f6)]]) hm Try.func103 znp rfl fun w0 σ hP hO Q hQ => ?_
 unfold zgh at hF
 have hL := Hp.le.refl τ
 show wpn _ _ zjk.body _ _ _
 unfold zjk
 dsimp only
 refine zbQ (n := 6) hO rfl rfl fun b3 σ hO => ?_
 have hO := zrl6 hO
 refine zbl hO fun b4 σ hO => ?_
 have hO := zrl7 hO
 refine ze hO [] [] [0, 3, 4] zq2 fun j => ?_
 refine zd hO 3 [5] [(7, zrh G), (9, .string p1.Name)] [0, 3, 4] (And.intro (And.intro rfl rfl) zq4) fun j => ?_
 have hO := hO.sel [5, 6, 0, 1, 2, 3, 4]
 rcases z9 hF with ⟨x9, i0, hF⟩ | ⟨S, h6, hF⟩
 ·refine zbs (hs := [_, _]) hO (zfo (h.le hL) (o.le hL) (q.le hL) (z.le hL) (g.le hL) (D.le hL) i0) zqY rfl fun _ σ _ _ hO i1 i2 => ?_
  have hL := hL.trans i1
  obtain ⟨rfl, rfl⟩ := i2
  have hO := zrl7 hO
  cases hF
  have hO := hO.sel [2, 3, 4, 5, 6]
  exact hP _ _ _ _ hO hL ⟨_, _, _, _, _, _, _, _, _, _, rfl, rfl, (h.le hL), (o.le hL), (q.le hL), (z.le hL), (g.le hL), (D.le hL)⟩
 refine zbq (hs := [_, _]) hO (zfo (h.le hL) (o.le hL) (q.le hL) (z.le hL) (g.le hL) (D.le hL) h6) zqY rfl fun _ σ _ _ hO h7 h8 => ?_
 have hL := hL.trans h7
 obtain ⟨rfl, rfl⟩ := h8
 have hO := zrl7 hO
 have hO := hO.sel [2, 3, 4, 5, 6, 0, 1]
 have hO := zrl7 hO
 refine ze hO [] [(6, zrg S)] [0, 3, 4] zq3 fun j => ?_
 refine zl (ze hO [5] [(12, .int .u8 (p1.Kind.toNat : Int))] [0, 3, 4, 6] (And.intro (And.intro rfl rfl) zq4) fun j => ?_)
 refine zY (ze hO [] [(13, .bool ((p1.Kind.toNat : Int) == 3))] [0, 3, 4, 6, 12] zq5 fun j => ?_)
 refine zbC (zy hF rfl (fun hF => ?_) fun hF => ?_)
 ·refine zl (zd hO 5 [0] [(18, zrn b8 q0.vars b9), (19, zrg S)] [0, 4, 6] (And.intro (And.intro rfl rfl) zq4) fun j => ?_)
  obtain ⟨f7, i3, hF⟩ := zrm hF
  refine zd3 (T := zq) hO (g.le hL) (i := 3) rfl rfl rfl i3 (by decide) fun a16 _ i4 i5 r7 => ?_
  have i6 := i4
  obtain ⟨r8, rfl, b6⟩ := i6
  obtain ⟨r9, t0, rfl, -⟩ := b6.form
  refine zd hO 1 [] [(21, .pointer (some (a16.add 1)))] [0, 4, 6] zq3 fun j => ?_
  refine zE rfl (i5.part (off := 1) (ds := [.int .u8 (f7.Type_.Kind.toNat : Int), .int .i64 f7.Type_.N, .string f7.Type_.Name]) rfl rfl) ?_
  obtain ⟨t1, i7, hF⟩ := zrm hF
  refine zL hO (zgx i7) rfl fun _ σ _ _ hO g3 i8 => ?_
  have hL := hL.trans g3
  have b6 := b6.le g3
  obtain ⟨rfl, rfl⟩ := i8
  have hO := zrl7 hO
  rcases z9 hF with ⟨t2, i9, hF⟩ | ⟨t3, j0, hF⟩
  ·refine zbV hO (zbk i9) zqY rfl fun _ σ _ _ hO g4 j1 => ?_
   have hL := hL.trans g4
   have b6 := b6.le g4
   obtain ⟨rfl, rfl⟩ := j1
   have hO := zrl7 hO
   cases hF
   have hO := hO.sel [0, 1, 2, 3, 4]
   exact hP _ _ _ _ hO hL ⟨_, _, _, _, _, _, _, _, _, _, rfl, rfl, (h.le hL), (o.le hL), (q.le hL), (z.le hL), (g.le hL), (D.le hL)⟩
  refine zb0 hO (zbk j0) zqY rfl fun _ σ _ _ hO g5 j2 => ?_
  have hL := hL.trans g5
  have b6 := b6.le g5
  obtain ⟨rfl, rfl⟩ := j2
  have hO := zrl7 hO
  refine zf (zl (zcw (zd hO 7 [0] [(26, .agg #[(.int .u8 2), (.int .u8 0), (.int .i64 S), (.int .i64 0), (.slice none 0 0)]), (29, .pointer (some ⟨G, 6, none⟩)), (30, zrn b8 q0.vars b9), (31, zrg S)] [0, 4] (And.intro (And.intro rfl rfl) zq5) fun j => ?_)))
  obtain ⟨j3, j4, hF⟩ := zrm hF
  refine zd3 (T := zq) hO (g.le hL) (i := 3) rfl rfl rfl j4 (by decide) fun a39 _ j5 g6 j6 => ?_
  have j7 := j5
  obtain ⟨t4, rfl, j8⟩ := j7
  obtain ⟨t5, t6, rfl, -⟩ := j8.form
  have h3 := g6.rowIs hO (i := 3) rfl j6
  refine zK hO 2 [] [(0, zrh G), (4, zrh b4), (26, .agg #[(.int .u8 2), (.int .u8 0), (.int .i64 S), (.int .i64 0), (.slice none 0 0)]), (29, .pointer (some ⟨G, 6, none⟩)), (30, zrn b8 q0.vars b9), (34, .pointer (some (a39.add 1)))] zq5 fun j => ?_
  refine zE rfl (g6.one 1 rfl) ?_
  refine zcp (zC hO (i := 6) rfl (off := 0) rfl rfl rfl rfl (Nat.le_of_ble_eq_true rfl) rfl fun σ hO => ?_)
  have hO := zrl7 hO
  refine zf (zcj ⟨(zbp rfl ((h3.at hO (i := 3) rfl).one 1 rfl) rfl), (zbp rfl (hO.val (i := 0) (off := 6) (agg := false) (n := 1) rfl rfl) rfl), trivial⟩ ?_)
  refine ze hO [] [(5, .int .u8 (j3.Type_.Kind.toNat : Int))] [0, 4] zq2 fun j => ?_
  refine zbt (zbo (zbc ?_))
  cases hF
  have c7 := hO.val (i := 6) rfl (off := 0) (agg := true) (n := 5) rfl
  have hO := hO.sel [0, 1, 2, 3, 4]
  refine (hQ _ _ _ _ _ (zb8 rfl (c7) (zcv rfl)) hO hL ?_).1
  exact ⟨_, _, _, _, _, _, _, _, _, _, _, rfl, rfl, (RdT.nil _ _), (h.le hL), (o.le hL), (q.le hL), (z.le hL), (g.le hL), (D.le hL)⟩
 refine zl (ze hO [] [(36, .bool ((p1.Kind.toNat : Int) == 5))] [0, 3, 4, 6] zq4 fun j => ?_)
 refine zy hF rfl (fun hF => ?_) fun hF => ?_
 ·refine zl (zd hO 2 [] [(38, zrh G), (39, zrg S)] [0, 3, 4, 6] zq5 fun j => ?_)
  have hO := hO.sel [5, 6, 0, 1, 2, 3, 4]
  rcases z9 hF with ⟨t7, j9, hF⟩ | ⟨t8, k0, hF⟩
  ·refine zbs (hs := [_, _]) hO (zdt (h.le hL) (o.le hL) (q.le hL) (z.le hL) (g.le hL) (D.le hL) j9) zqY rfl fun _ σ _ _ hO k1 k2 => ?_
   have hL := hL.trans k1
   obtain ⟨rfl, rfl⟩ := k2
   have hO := zrl7 hO
   cases hF
   have hO := hO.sel [2, 3, 4, 5, 6]
   exact hP _ _ _ _ hO hL ⟨_, _, _, _, _, _, _, _, _, _, rfl, rfl, (h.le hL), (o.le hL), (q.le hL), (z.le hL), (g.le hL), (D.le hL)⟩
  refine zbq (hs := [_, _]) hO (zdt (h.le hL) (o.le hL) (q.le hL) (z.le hL) (g.le hL) (D.le hL) k0) zqY rfl fun _ σ _ _ hO k3 k4 => ?_
  have hL := hL.trans k3
  obtain ⟨rfl, rfl⟩ := k4
  have hO := zrl7 hO
  have hO := hO.sel [2, 3, 4, 5, 6, 0, 1]
  have hO := zrl7 hO
  refine zf (zl (zd hO 5 [5] [(41, zrg S), (42, zrh G), (43, zrg S), (45, .string p1.Field)] [0, 4] (And.intro (And.intro rfl rfl) zq5) fun j => ?_))
  have hO := hO.sel [5, 6, 0, 1, 2, 3, 4]
  rcases z9 hF with ⟨t9, k5, hF⟩ | ⟨k6, k7, hF⟩
  ·refine zbs (hs := [_, _]) hO (zhM (h.le hL) (o.le hL) (q.le hL) (z.le hL) (g.le hL) (D.le hL) k5) zqY rfl fun _ σ _ _ hO k8 k9 => ?_
   have hL := hL.trans k8
   obtain ⟨rfl, rfl⟩ := k9
   have hO := zrl7 hO
   cases hF
   have hO := hO.sel [2, 3, 4, 5, 6]
   exact hP _ _ _ _ hO hL ⟨_, _, _, _, _, _, _, _, _, _, rfl, rfl, (h.le hL), (o.le hL), (q.le hL), (z.le hL), (g.le hL), (D.le hL)⟩
  refine zbq (hs := [_, _]) hO (zhM (h.le hL) (o.le hL) (q.le hL) (z.le hL) (g.le hL) (D.le hL) k7) zqY rfl fun _ σ _ _ hO l0 l1 => ?_
  have hL := hL.trans l0
  obtain ⟨rfl, rfl⟩ := l1
  have hO := zrl7 hO
  have hO := hO.sel [2, 3, 4, 5, 6, 0, 1]
  have hO := zrl7 hO
  refine zK hO 1 [] [(0, zrh G), (4, zrh b4), (47, .agg #[(.int .u8 4), (.int .u8 0), (.int .i64 S), (.int .i64 k6), (.slice none 0 0)])] zq2 fun j => ?_
  refine zC hO (i := 6) rfl (off := 0) rfl rfl rfl rfl (Nat.le_of_ble_eq_true rfl) rfl fun σ hO => ?_
  have hO := zrl7 hO
  refine ze hO [] [(5, .int .u8 1)] [0, 4] zq2 fun j => ?_
  refine zbt (zbo (zbc ?_))
  cases hF
  have c7 := hO.val (i := 6) rfl (off := 0) (agg := true) (n := 5) rfl
  have hO := hO.sel [0, 1, 2, 3, 4]
  refine (hQ _ _ _ _ _ (zb8 rfl (c7) (zcv rfl)) hO hL ?_).1
  exact ⟨_, _, _, _, _, _, _, _, _, _, _, rfl, rfl, (RdT.nil _ _), (h.le hL), (o.le hL), (q.le hL), (z.le hL), (g.le hL), (D.le hL)⟩
 refine zF (zg (z3 (zk (zd hO 2 [] [(48, zrh G), (49, zrg S)] [0, 3, 4, 6] zq5 fun j => ?_))))
 have hO := hO.sel [5, 6, 0, 1, 2, 3, 4]
 rcases z9 hF with ⟨u0, l2, hF⟩ | ⟨u1, l3, hF⟩
 ·refine zbs (hs := [_, _]) hO (zdt (h.le hL) (o.le hL) (q.le hL) (z.le hL) (g.le hL) (D.le hL) l2) zqY rfl fun _ σ _ _ hO l4 l5 => ?_
  have hL := hL.trans l4
  obtain ⟨rfl, rfl⟩ := l5
  have hO := zrl7 hO
  cases hF
  have hO := hO.sel [2, 3, 4, 5, 6]
  exact hP _ _ _ _ hO hL ⟨_, _, _, _, _, _, _, _, _, _, rfl, rfl, (h.le hL), (o.le hL), (q.le hL), (z.le hL), (g.le hL), (D.le hL)⟩
 refine zbq (hs := [_, _]) hO (zdt (h.le hL) (o.le hL) (q.le hL) (z.le hL) (g.le hL) (D.le hL) l3) zqY rfl fun _ σ _ _ hO l6 l7 => ?_
 have hL := hL.trans l6
 obtain ⟨rfl, rfl⟩ := l7
 have hO := zrl7 hO
 have hO := hO.sel [2, 3, 4, 5, 6, 0, 1]
 have hO := zrl7 hO
 refine zf (zd hO 4 [5] [(51, zrg S), (52, zrh G), (54, zrn f5 p1.Kids f6)] [0, 4] (And.intro (And.intro rfl rfl) zq4) fun j => ?_)
 refine zbG (T := Ty.u8) (l := ([(1 : UInt8)] : List UInt8)) (cs := [.int .u8 1]) hO rfl ⟨[.int .u8 1], _, rfl, rfl, rfl⟩ rfl (by decide) fun _ σ u2 g7 hO => ?_
 obtain ⟨u3, u4, rfl, -⟩ := g7.form
 have hO := zrl8 hO
 obtain ⟨_, l8, b7, hO⟩ := g7.share hO (i := 7) rfl
 have hL := hL.trans l8
 have hO := zrl8 hO
 have hO := hO.sel [5, 6, 7, 0, 1, 2, 3, 4]
 rcases z9 hF with ⟨u5, l9, hF⟩ | ⟨m0, m1, hF⟩
 ·refine zbs (hs := [_, _, _]) hO (ih_check_checker_vals (h.le hL) (o.le hL) (q.le hL) (z.le hL) (g.le hL) (D.le hL) (c8.le hL) b7 l9) zqY rfl fun _ σ _ _ hO g8 m2 => ?_
  have hL := hL.trans g8
  have b7 := b7.le g8
  obtain ⟨u6, u7, u9, v0, n7, n8, n9, o0, o1, o2, rfl, rfl, g9, h0, f8, f9, g0, g1⟩ := m2
  obtain ⟨v1, v2, rfl, -⟩ := g9.form
  obtain ⟨v3, v4, rfl, -⟩ := h0.form
  obtain ⟨v5, v6, rfl, -⟩ := f8.form
  obtain ⟨o3, o4, rfl, -⟩ := f9.form
  obtain ⟨o5, o6, rfl, -⟩ := g0.form
  obtain ⟨o7, o8, rfl, -⟩ := g1.form
  have hO := zrl8 hO
  cases hF
  have hO := hO.sel [3, 4, 5, 6, 7]
  exact hP _ _ _ _ hO hL ⟨_, _, _, _, _, _, _, _, _, _, rfl, rfl, g9, h0, f8, f9, g0, g1⟩
 refine zbq (hs := [_, _, _]) hO (ih_check_checker_vals (h.le hL) (o.le hL) (q.le hL) (z.le hL) (g.le hL) (D.le hL) (c8.le hL) b7 m1) zqY rfl fun _ σ _ _ hO h1 m3 => ?_
 have hL := hL.trans h1
 have b7 := b7.le h1
 obtain ⟨o9, p2, p3, p4, p5, p6, p7, p8, p9, q2, q3, q4, rfl, rfl, g2, c0, c1, c2, c3, c4, c6⟩ := m3
 obtain ⟨h4, h5, rfl, -⟩ := g2.form
 obtain ⟨q5, q6, rfl, -⟩ := c0.form
 obtain ⟨q7, q8, rfl, -⟩ := c1.form
 obtain ⟨q9, r0, rfl, -⟩ := c2.form
 obtain ⟨r1, r2, rfl, -⟩ := c3.form
 obtain ⟨r3, r4, rfl, -⟩ := c4.form
 obtain ⟨r5, r6, rfl, -⟩ := c6.form
 have hO := zrl9 hO
 refine zK hO 1 [] [(0, zrh G), (4, zrh b4), (57, .agg #[(.int .u8 3), (.int .u8 0), (.int .i64 S), (.int .i64 0), (zrn h4 m0.1 h5)])] zq2 fun j => ?_
 refine zC hO (i := 1) rfl (off := 0) rfl rfl rfl rfl (Nat.le_of_ble_eq_true rfl) rfl fun σ hO => ?_
 have hO := zrl9 hO
 refine ze hO [] [(5, .int .u8 1)] [0, 4] zq2 fun j => ?_
 refine zba ?_
 obtain ⟨_, I, h9, hO⟩ := g2.share hO (i := 3) rfl
 have hL := hL.trans I
 have c0 := c0.le I
 have c1 := c1.le I
 have c2 := c2.le I
 have c3 := c3.le I
 have c4 := c4.le I
 have c6 := c6.le I
 have hO := zrl9 hO
 cases hF
 have c7 := hO.val (i := 1) rfl (off := 0) (agg := true) (n := 5) rfl
 have hO := hO.sel [4, 5, 6, 7, 8]
 refine (hQ _ _ _ _ _ (zb8 rfl (c7) (zcv rfl)) hO hL ?_).1
 exact ⟨_, _, _, _, _, _, _, _, _, _, _, rfl, rfl, h9, c0, c1, c2, c3, c4, c6⟩
theorem zoC {gn : Nat} (ih_check_checker_vals : zfl gn) (ih_check_checker_exp : zfz gn) (ih_check_checker_place : zeT gn) (ih_check_checker_unary : ze3 gn) (ih_check_checker_binary : zeO gn) {τ : Hp} {q0 : zb} {U : Nat} {f5 f6 f7 : Value} {W : Ob} {f8 : Value} {X : Ob} {f9 : Value} {Y : Ob} {g0 : Value} {Z : Ob} {p1 : zc} {h3 : Value} (d0 : RdT zx τ f5 q0.prog.Structs) (d5 : RdT zr τ f6 q0.prog.Funcs) (d6 : za zp 59 τ f7 q0.tree.Bodies W) (d7 : za zo 87 τ f8 q0.tree.Points X) (d8 : za zq 82 τ f9 q0.vars Y) (d9 : za (Ty.int .i64) 3 τ g0 q0.scope Z) (f1 : RdT z5 τ h3 p1.Kids) {rr : Except (Value × zb) (zj × Int × zb)} (hF : zf4 ((zD gn).1) ((zD gn).2.1) ((zD gn).2.2.1) ((zD gn).2.2.2.1) ((zD gn).2.2.2.2) q0 p1 = some rr) :
  zbu Try.prog 104 #[.pointer (some ⟨U, 0, none⟩), .agg #[.int .u8 p1.Kind.toNat, .int .i64 p1.Num, .string p1.Name, .string p1.Field, .string p1.Op, h3]] τ [zn U f5 f6 f7 q0.tree.Main f8 q0.fn f9 g0, W, X, Y, Z] (fun v τ' vs' => match (generalizing := false) rr with | .ok rr => ∃ (h4 b1 b2 b5 : Value) (b6 : Ob) (b7 : Value) (b8 : Ob) (b9 : Value) (c0 : Ob) (c1 : Value) (c2 : Ob), v = .tuple #[.agg #[.int .u8 rr.1.Kind.toNat, .int .u8 rr.1.Op.toNat, .int .i64 rr.1.Var, .int .i64 rr.1.Num, h4], .int .u8 rr.2.1] ∧ vs' = [zn U b1 b2 b5 rr.2.2.tree.Main b7 rr.2.2.fn b9 c1, b6, b8, c0, c2] ∧ RdT zR τ' h4 rr.1.Kids ∧ RdT zx τ' b1 rr.2.2.prog.Structs ∧ RdT zr τ' b2 rr.2.2.prog.Funcs ∧ za zp 59 τ' b5 rr.2.2.tree.Bodies b6 ∧ za zo 87 τ' b7 rr.2.2.tree.Points b8 ∧ za zq 82 τ' b9 rr.2.2.vars c0 ∧ za (Ty.int .i64) 3 τ' c1 rr.2.2.scope c2 | .error _ => False) (fun ch τ' vs' => match (generalizing := false) rr with | .ok _ => False | .error ee => ∃ (b1 b2 b5 : Value) (b6 : Ob) (b7 : Value) (b8 : Ob) (b9 : Value) (c0 : Ob) (c1 : Value) (c2 : Ob), ch = [{ v := ee.1, recovered := false }] ∧ vs' = [zn U b1 b2 b5 ee.2.tree.Main b7 ee.2.fn b9 c1, b6, b8, c0, c2] ∧ RdT zx τ' b1 ee.2.prog.Structs ∧ RdT zr τ' b2 ee.2.prog.Funcs ∧ za zp 59 τ' b5 ee.2.tree.Bodies b6 ∧ za zo 87 τ' b7 ee.2.tree.Points b8 ∧ za zq 82 τ' b9 ee.2.vars c0 ∧ za (Ty.int .i64) 3 τ' c1 ee.2.scope c2) := by
 obtain ⟨i4, i5, rfl, -⟩ := d0.form
 obtain ⟨i6, i7, rfl, -⟩ := d5.form
 obtain ⟨g1, g2, rfl, -⟩ := d6.form
 obtain ⟨g3, g4, rfl, -⟩ := d7.form
 obtain ⟨g5, g6, rfl, -⟩ := d8.form
 obtain ⟨g7, g8, rfl, -⟩ := d9.form
 obtain ⟨f2, f3, rfl, -⟩ := f1.form
 refine zcH (args := [.pointer (some ⟨U, 0, none⟩), .agg #[.int .u8 p1.Kind.toNat, .int .i64 p1.Num, .string p1.Name, .string p1.Field, .string p1.Op, (.slice f2 p1.Kids.length f3)]]) hm Try.func104 zqJ rfl fun w0 σ hP hO Q hQ => ?_
 unfold zf4 at hF
 have hL := Hp.le.refl τ
 show wpn _ _ zjy.body _ _ _
 unfold zjy
 dsimp only
 refine zbQ (n := 6) hO rfl rfl fun b3 σ hO => ?_
 have hO := zrl6 hO
 refine zbl hO fun b4 σ hO => ?_
 have hO := zrl7 hO
 refine ze hO [] [] [0, 3, 4] zq2 fun j => ?_
 refine ze hO [] [(6, .int .u8 15), (7, .int .u8 1)] [0, 3, 4] zq4 fun j => ?_
 refine zl (ze hO [5] [(11, .bool (zP p1.Op zqU))] [0, 3, 4, 6, 7] (And.intro (And.intro rfl rfl) zq5) fun j => ?_)
 refine zdD (fun e' σ' => ∃ (A6 : Option Addr) (c7 : Nat) (o8 : Ob) (x9 : List zM) (h5 : Option Addr) (h6 : Nat) (h7 : Ob) (c3 : List zH) (h8 : Option Addr) (h9 : Nat) (i0 : Ob) (c4 : List zI) (i1 : Option Addr) (i2 : Nat) (i3 : Ob) (c5 : List Int) (c6 V : Int) (τ' : Hp), agr [(0, zrh U), (3, zrh b3), (4, zrh b4), (6, .int .u8 c6), (7, .int .u8 V)] e' ∧ Obs τ' σ' [zn U (zrn i4 q0.prog.Structs i5) (zrn i6 q0.prog.Funcs i7) (zrn A6 x9 c7) q0.tree.Main (zrn h5 c3 h6) q0.fn (zrn h8 c4 h9) (zrn i1 c5 i2), o8, h7, i0, i3, zeL b3 (p1.Kind.toNat : Int) p1.Num p1.Name p1.Field p1.Op (zrn f2 p1.Kids f3), zdJ b4 0 0 0 0 (.slice none 0 0)] ∧ Hp.le τ τ' ∧ za zp 59 τ' (zrn A6 x9 c7) x9 o8 ∧ za zo 87 τ' (zrn h5 c3 h6) c3 h7 ∧ za zq 82 τ' (zrn h8 c4 h9) c4 i0 ∧ za (Ty.int .i64) 3 τ' (zrn i1 c5 i2) c5 i3 ∧ zhI (zD gn).1 q0 p1 x9 c3 c4 c5 c6 V = some rr) ?_ ?_
 ·refine zbC (zy hF rfl (fun hF => ?_) fun hF => ?_)
  ·refine ze hO [] [(6, .int .u8 14), (7, .int .u8 2)] [0, 3, 4] zq4 fun j => ?_
   refine zg (zk ?_)
   exact ⟨g1, g2, W, q0.tree.Bodies, g3, g4, X, q0.tree.Points, g5, g6, Y, q0.vars, g7, g8, Z, q0.scope, 14, 2, _, zrf zq3, hO, hL, (d6.le hL), (d7.le hL), (d8.le hL), (d9.le hL), hF⟩
  refine zF (zg (zk ?_))
  exact ⟨g1, g2, W, q0.tree.Bodies, g3, g4, X, q0.tree.Points, g5, g6, Y, q0.vars, g7, g8, Z, q0.scope, 15, 1, _, zrf zq3, hO, hL, (d6.le hL), (d7.le hL), (d8.le hL), (d9.le hL), hF⟩
 rintro e σ ⟨A6, c7, o8, x9, h5, h6, h7, c3, h8, h9, i0, c4, i1, i2, i3, c5, c6, V, _, hA, hO, hL, g9, h0, h1, h2, hF⟩
 rw [← zV _ _ hA]
 unfold zhI at hF
 refine zd hO 5 [5] [(12, .int .u8 c6), (13, zrh U), (15, zrn f2 p1.Kids f3), (16, .int .u8 V)] [0, 3, 4, 7] (And.intro (And.intro rfl rfl) zq7) fun j => ?_
 obtain ⟨z28, k3, hF⟩ := zrm hF
 refine zbG (T := Ty.u8) (l := ([z28] : List UInt8)) (cs := [.int .u8 V]) hO rfl ⟨[.int .u8 V], _, rfl, (u8R k3), rfl⟩ rfl (by decide) fun _ σ m2 i8 hO => ?_
 obtain ⟨m3, m4, rfl, -⟩ := i8.form
 have hO := zrl8 hO
 obtain ⟨_, f0, c8, hO⟩ := i8.share hO (i := 7) rfl
 have hL := hL.trans f0
 have g9 := g9.le f0
 have h0 := h0.le f0
 have h1 := h1.le f0
 have h2 := h2.le f0
 have hO := zrl8 hO
 have hO := hO.sel [5, 6, 7, 0, 1, 2, 3, 4]
 rcases z9 hF with ⟨m5, l1, hF⟩ | ⟨i9, l2, hF⟩
 ·refine zbs (hs := [_, _, _]) hO (ih_check_checker_vals (q0 := (⟨(⟨q0.prog.Structs, q0.prog.Funcs⟩ : zm), (⟨x9, q0.tree.Main, c3⟩ : zw), q0.fn, c4, c5⟩ : zb)) (d0.le hL) (d5.le hL) g9 h0 h1 h2 (f1.le hL) c8 l1) zqY rfl fun _ σ _ _ hO j0 l3 => ?_
  have hL := hL.trans j0
  have c8 := c8.le j0
  obtain ⟨m6, m7, m8, m9, n0, n1, n2, n3, n4, n5, rfl, rfl, j1, j2, j3, j4, j5, j6⟩ := l3
  obtain ⟨n6, n7, rfl, -⟩ := j1.form
  obtain ⟨n8, n9, rfl, -⟩ := j2.form
  obtain ⟨o0, o1, rfl, -⟩ := j3.form
  obtain ⟨o2, o3, rfl, -⟩ := j4.form
  obtain ⟨o4, o5, rfl, -⟩ := j5.form
  obtain ⟨o6, o7, rfl, -⟩ := j6.form
  have hO := zrl8 hO
  cases hF
  have hO := hO.sel [3, 4, 5, 6, 7]
  exact hP _ _ _ _ hO hL ⟨_, _, _, _, _, _, _, _, _, _, rfl, rfl, j1, j2, j3, j4, j5, j6⟩
 refine zbq (hs := [_, _, _]) hO (ih_check_checker_vals (q0 := (⟨(⟨q0.prog.Structs, q0.prog.Funcs⟩ : zm), (⟨x9, q0.tree.Main, c3⟩ : zw), q0.fn, c4, c5⟩ : zb)) (d0.le hL) (d5.le hL) g9 h0 h1 h2 (f1.le hL) c8 l2) zqY rfl fun _ σ _ _ hO j7 l4 => ?_
 have hL := hL.trans j7
 have c8 := c8.le j7
 obtain ⟨o9, p2, p3, p4, p5, p6, p7, p8, p9, q2, q3, l6, rfl, rfl, c9, z, D, G, I, S, g⟩ := l4
 obtain ⟨j8, j9, rfl, -⟩ := c9.form
 obtain ⟨q4, q5, rfl, -⟩ := z.form
 obtain ⟨q6, q7, rfl, -⟩ := D.form
 obtain ⟨q8, q9, rfl, -⟩ := G.form
 obtain ⟨r0, r1, rfl, -⟩ := I.form
 obtain ⟨r2, r3, rfl, -⟩ := S.form
 obtain ⟨l7, l8, rfl, -⟩ := g.form
 have hO := zrl9 hO
 refine zd hO 1 [] [(19, .agg #[(.int .u8 5), (.int .u8 c6), (.int .i64 0), (.int .i64 0), (zrn j8 i9.1 j9)])] [0, 3, 4, 7] zq4 fun j => ?_
 refine zbl hO fun l9 σ hO => ?_
 have hO := zrl10 hO
 refine zC hO (i := 9) rfl (off := 0) rfl rfl rfl rfl (Nat.le_of_ble_eq_true rfl) rfl fun σ hO => ?_
 have hO := zrl10 hO
 refine zf (zd hO 6 [0, 0] [(27, .bool ((zP p1.Op zqU) || (zP p1.Op zqV)))] [0, 4, 7, 8] (And.intro (And.intro rfl rfl) (And.intro (And.intro rfl rfl) (And.intro (And.intro rfl rfl) (fun _ => zrf zq3)))) fun j => ?_)
 rcases z9 hF with ⟨m0, k4, hF⟩ | ⟨m1, k5, hF⟩
 ·refine zbV hO (zbk k4) zqY rfl fun _ σ _ _ hO h k6 => ?_
  have hL := hL.trans h
  have z := z.le h
  have D := D.le h
  have G := G.le h
  have I := I.le h
  have S := S.le h
  have g := g.le h
  have c9 := c9.le h
  obtain ⟨rfl, rfl⟩ := k6
  have hO := zrl10 hO
  cases hF
  have hO := hO.sel [4, 5, 6, 7, 8]
  exact hP _ _ _ _ hO hL ⟨_, _, _, _, _, _, _, _, _, _, rfl, rfl, z, D, G, I, S, g⟩
 refine zb0 hO (zbk k5) zqY rfl fun _ σ _ _ hO o k7 => ?_
 have hL := hL.trans o
 have z := z.le o
 have D := D.le o
 have G := G.le o
 have I := I.le o
 have S := S.le o
 have g := g.le o
 have c9 := c9.le o
 obtain ⟨rfl, rfl⟩ := k7
 have hO := zrl10 hO
 refine zf (zd hO 2 [9] [(29, .agg #[(.int .u8 5), (.int .u8 c6), (.int .i64 0), (.int .i64 0), (zrn j8 i9.1 j9)]), (30, .int .u8 V)] [0, 4] (And.intro (And.intro rfl rfl) zq3) fun j => ?_)
 refine zC hO (i := 1) rfl (off := 0) rfl rfl rfl rfl (Nat.le_of_ble_eq_true rfl) rfl fun σ hO => ?_
 have hO := zrl10 hO
 refine ze hO [] [(5, .int .u8 V)] [0, 4] zq2 fun j => ?_
 refine zba ?_
 obtain ⟨_, q, k8, hO⟩ := c9.share hO (i := 3) rfl
 have hL := hL.trans q
 have z := z.le q
 have D := D.le q
 have G := G.le q
 have I := I.le q
 have S := S.le q
 have g := g.le q
 have hO := zrl10 hO
 obtain ⟨z115, b0, hF⟩ := zrm hF
 cases hF
 have l5 := hO.val (i := 1) rfl (off := 0) (agg := true) (n := 5) rfl
 have hO := hO.sel [4, 5, 6, 7, 8]
 refine (hQ _ _ _ _ _ (zb8 rfl (l5) (zcv rfl)) hO hL ?_).1
 exact ⟨_, _, _, _, _, _, _, _, _, _, _, (by first | rfl | (simp only [zdH b0]; done) | (simp only [← zdH b0]; try rfl)), (by first | rfl | (simp only [zdH b0]; done) | (simp only [← zdH b0]; try rfl)), k8, z, D, G, I, S, g⟩
theorem zqx {gn : Nat} (ih_check_checker_vals : zfl gn) (ih_check_checker_exp : zfz gn) (ih_check_checker_place : zeT gn) (ih_check_checker_unary : ze3 gn) (ih_check_checker_binary : zeO gn) {τ : Hp} {q0 : zb} {d8 : Nat} {u2 u3 u4 : Value} {q9 : Ob} {u5 : Value} {r0 : Ob} {u6 : Value} {r1 : Ob} {u7 : Value} {r2 : Ob} {p1 : zc} {v5 : Value} (u9 : RdT zx τ u2 q0.prog.Structs) (v0 : RdT zr τ u3 q0.prog.Funcs) (v1 : za zp 59 τ u4 q0.tree.Bodies q9) (v2 : za zo 87 τ u5 q0.tree.Points r0) (v3 : za zq 82 τ u6 q0.vars r1) (v4 : za (Ty.int .i64) 3 τ u7 q0.scope r2) (v6 : RdT z5 τ v5 p1.Kids) {rr : Except (Value × zb) (zj × Int × zb)} (hF : zjE ((zD gn).1) ((zD gn).2.1) ((zD gn).2.2.1) ((zD gn).2.2.2.1) ((zD gn).2.2.2.2) q0 p1 = some rr) :
  zbu Try.prog 105 #[.pointer (some ⟨d8, 0, none⟩), .agg #[.int .u8 p1.Kind.toNat, .int .i64 p1.Num, .string p1.Name, .string p1.Field, .string p1.Op, v5]] τ [zn d8 u2 u3 u4 q0.tree.Main u5 q0.fn u6 u7, q9, r0, r1, r2] (fun v τ' vs' => match (generalizing := false) rr with | .ok rr => ∃ (v7 m7 m8 m9 : Value) (n0 : Ob) (n1 : Value) (n2 : Ob) (n3 : Value) (n4 : Ob) (n5 : Value) (n6 : Ob), v = .tuple #[.agg #[.int .u8 rr.1.Kind.toNat, .int .u8 rr.1.Op.toNat, .int .i64 rr.1.Var, .int .i64 rr.1.Num, v7], .int .u8 rr.2.1] ∧ vs' = [zn d8 m7 m8 m9 rr.2.2.tree.Main n1 rr.2.2.fn n3 n5, n0, n2, n4, n6] ∧ RdT zR τ' v7 rr.1.Kids ∧ RdT zx τ' m7 rr.2.2.prog.Structs ∧ RdT zr τ' m8 rr.2.2.prog.Funcs ∧ za zp 59 τ' m9 rr.2.2.tree.Bodies n0 ∧ za zo 87 τ' n1 rr.2.2.tree.Points n2 ∧ za zq 82 τ' n3 rr.2.2.vars n4 ∧ za (Ty.int .i64) 3 τ' n5 rr.2.2.scope n6 | .error _ => False) (fun ch τ' vs' => match (generalizing := false) rr with | .ok _ => False | .error ee => ∃ (m7 m8 m9 : Value) (n0 : Ob) (n1 : Value) (n2 : Ob) (n3 : Value) (n4 : Ob) (n5 : Value) (n6 : Ob), ch = [{ v := ee.1, recovered := false }] ∧ vs' = [zn d8 m7 m8 m9 ee.2.tree.Main n1 ee.2.fn n3 n5, n0, n2, n4, n6] ∧ RdT zx τ' m7 ee.2.prog.Structs ∧ RdT zr τ' m8 ee.2.prog.Funcs ∧ za zp 59 τ' m9 ee.2.tree.Bodies n0 ∧ za zo 87 τ' n1 ee.2.tree.Points n2 ∧ za zq 82 τ' n3 ee.2.vars n4 ∧ za (Ty.int .i64) 3 τ' n5 ee.2.scope n6) := by
 obtain ⟨y2, y3, rfl, -⟩ := u9.form
 obtain ⟨y4, y5, rfl, -⟩ := v0.form
 obtain ⟨y6, y7, rfl, -⟩ := v1.form
 obtain ⟨y8, y9, rfl, -⟩ := v2.form
 obtain ⟨A0, A1, rfl, -⟩ := v3.form
 obtain ⟨A2, A3, rfl, -⟩ := v4.form
 obtain ⟨i6, i7, rfl, -⟩ := v6.form
 refine zcH (args := [.pointer (some ⟨d8, 0, none⟩), .agg #[.int .u8 p1.Kind.toNat, .int .i64 p1.Num, .string p1.Name, .string p1.Field, .string p1.Op, (.slice i6 p1.Kids.length i7)]]) hm Try.func105 zoJ rfl fun w0 σ hP hO Q hQ => ?_
 unfold zjE at hF
 have hL := Hp.le.refl τ
 show wpn _ _ zjg.body _ _ _
 unfold zjg
 dsimp only
 refine zbQ (n := 6) hO rfl rfl fun b3 σ hO => ?_
 have hO := zrl6 hO
 refine zbl hO fun b4 σ hO => ?_
 have hO := zrl7 hO
 refine ze hO [] [] [0, 3, 4] zq2 fun j => ?_
 refine ze hO [] [(6, .slice none 0 0)] [0, 3, 4] zq3 fun j => ?_
 refine ze hO [] [(7, .slice none 0 0)] [0, 3, 4, 6] zq4 fun j => ?_
 refine zl (ze hO [5] [(16, zrn i6 p1.Kids i7), (17, zrg (p1.Kids.length : Int)), (18, zrg 0)] [0, 3, 4, 6, 7] (And.intro (And.intro rfl rfl) zq7) fun j => ?_)
 refine zY ?_
 have hO := hO.no
 have hO := zrl8 hO
 have hO := hO.no
 have hO := zrl9 hO
 refine zbH (fun (n : Nat) e' σ' => ∃ (d9 : Option Addr) (f0 : Nat) (q : List zbh) (f1 : Option Addr) (f2 : Nat) (z : List zG) (n8 : Option Addr) (n9 : Nat) (o0 : Ob) (f6 : List zM) (b0 : Int) (o1 : Option Addr) (o2 : Nat) (o3 : Ob) (f7 : List zH) (b1 : Int) (o4 : Option Addr) (o5 : Nat) (o6 : Ob) (f8 : List zI) (o7 : Option Addr) (o8 : Nat) (o9 : Ob) (f9 : List Int) (j3 : Option Addr) (j4 : Nat) (p2 : Ob) (f3 : List zj) (j5 : Option Addr) (j6 : Nat) (p3 : Ob) (f4 : List UInt8) (i8 : Int) (τ' : Hp), agr [(0, zrh d8), (3, zrh b3), (4, zrh b4), (6, zrn j3 f3 j4), (7, zrn j5 f4 j6), (16, zrn i6 p1.Kids i7), (17, zrg (p1.Kids.length : Int)), (18, zrg i8)] e' ∧ Obs τ' σ' [zn d8 (zrn d9 q f0) (zrn f1 z f2) (zrn n8 f6 n9) b0 (zrn o1 f7 o2) b1 (zrn o4 f8 o5) (zrn o7 f9 o8), o0, o3, o6, o9, zeL b3 (p1.Kind.toNat : Int) p1.Num p1.Name p1.Field p1.Op (zrn i6 p1.Kids i7), zdJ b4 0 0 0 0 (.slice none 0 0), p2, p3] ∧ Hp.le τ τ' ∧ RdT zx τ' (zrn d9 q f0) q ∧ RdT zr τ' (zrn f1 z f2) z ∧ za zp 59 τ' (zrn n8 f6 n9) f6 o0 ∧ za zo 87 τ' (zrn o1 f7 o2) f7 o3 ∧ za zq 82 τ' (zrn o4 f8 o5) f8 o6 ∧ za (Ty.int .i64) 3 τ' (zrn o7 f9 o8) f9 o9 ∧ za zR 140 τ' (zrn j3 f3 j4) f3 p2 ∧ za Ty.u8 5 τ' (zrn j5 f4 j6) f4 p3 ∧ zep (zD gn).2.1 p1 n q z f6 b0 f7 b1 f8 f9 f3 f4 i8 = some rr) big ⟨y2, y3, q0.prog.Structs, y4, y5, q0.prog.Funcs, y6, y7, q9, q0.tree.Bodies, q0.tree.Main, y8, y9, r0, q0.tree.Points, q0.fn, A0, A1, r1, q0.vars, A2, A3, r2, q0.scope, none, 0, none, [], none, 0, none, [], 0, _, zrf zq6, hO, hL, (u9.le hL), (v0.le hL), (v1.le hL), (v2.le hL), (v3.le hL), (v4.le hL), za.nil _ _ _, za.nil _ _ _, hF⟩ ?_
 clear hF hO hL
 rintro r4 e σ ⟨d9, f0, q, f1, f2, z, n8, n9, o0, f6, b0, o1, o2, o3, f7, b1, o4, o5, o6, f8, o7, o8, o9, f9, j3, j4, p2, f3, j5, j6, p3, f4, i8, _, hA, hO, hL, j7, j8, j9, k0, k1, k2, g9, h0, hF⟩
 rw [← zV _ _ hA]
 cases r4 with
 | zero => exact nomatch (show none = some rr from hF)
 | succ r4 =>
 replace hF : zf7 (zep (zD gn).2.1 p1 r4) (zD gn).2.1 p1 q z f6 b0 f7 b1 f8 f9 f3 f4 i8 = some rr := hF
 unfold zf7 at hF
 refine ze hO [] [(19, .bool (decide (i8 < (p1.Kids.length : Int))))] [0, 3, 4, 6, 7, 16, 17, 18] zq8 fun j => ?_
 refine zy hF rfl (fun hF => ?_) fun hF => ?_
 ·refine zF (zY ?_)
  obtain ⟨k3, A9, hF⟩ := zrm hF
  refine zO (T := z5) (v6.le hL) hO.base rfl rfl A9 (by decide) fun a662 _ B0 B1 => ?_
  obtain ⟨F8, rfl, i9⟩ := zhO B0
  obtain ⟨B2, B3, rfl, -⟩ := i9.form
  refine zE rfl ((B1.le hO.base).all rfl) ?_
  refine zbl hO fun F9 σ hO => ?_
  have hO := zrl10 hO
  refine zC hO (i := 9) rfl (off := 0) rfl rfl rfl rfl (Nat.le_of_ble_eq_true rfl) rfl fun σ hO => ?_
  have hO := zrl10 hO
  refine zf (zd hO 2 [9] [(23, zrh d8), (24, .agg #[(.int .u8 (k3.Kind.toNat : Int)), (.int .i64 k3.Num), (.string k3.Name), (.string k3.Field), (.string k3.Op), (zrn B2 k3.Kids B3)])] [0, 3, 4, 6, 7, 16, 17, 18] (And.intro (And.intro rfl rfl) zq9) fun j => ?_)
  have hO := hO.sel [5, 6, 7, 8, 9, 0, 1, 2, 3, 4]
  rcases z9 hF with ⟨G0, B4, hF⟩ | ⟨g, B5, hF⟩
  ·refine zbs (hs := [_, _, _, _, _]) hO (ih_check_checker_exp (q0 := (⟨(⟨q, z⟩ : zm), (⟨f6, b0, f7⟩ : zw), b1, f8, f9⟩ : zb)) j7 j8 j9 k0 k1 k2 i9 B4) zqY rfl fun _ σ _ _ hO r5 B6 => ?_
   have hL := hL.trans r5
   have g9 := g9.le r5
   have h0 := h0.le r5
   have i9 := i9.le r5
   obtain ⟨G1, G2, G3, G4, G5, G6, G7, G8, G9, H0, rfl, rfl, v8, v9, w2, w3, w4, w5⟩ := B6
   obtain ⟨H1, H2, rfl, -⟩ := v8.form
   obtain ⟨H3, H4, rfl, -⟩ := v9.form
   obtain ⟨H5, H6, rfl, -⟩ := w2.form
   obtain ⟨H7, H8, rfl, -⟩ := w3.form
   obtain ⟨H9, I0, rfl, -⟩ := w4.form
   obtain ⟨I1, I2, rfl, -⟩ := w5.form
   have hO := zrl10 hO
   cases hF
   have hO := hO.sel [5, 6, 7, 8, 9]
   exact hP _ _ _ _ hO hL ⟨_, _, _, _, _, _, _, _, _, _, rfl, rfl, v8, v9, w2, w3, w4, w5⟩
  refine zbq (hs := [_, _, _, _, _]) hO (ih_check_checker_exp (q0 := (⟨(⟨q, z⟩ : zm), (⟨f6, b0, f7⟩ : zw), b1, f8, f9⟩ : zb)) j7 j8 j9 k0 k1 k2 i9 B5) zqY rfl fun _ σ _ _ hO r6 B7 => ?_
  have hL := hL.trans r6
  have g9 := g9.le r6
  have h0 := h0.le r6
  have i9 := i9.le r6
  obtain ⟨I3, I4, I5, I6, B8, I7, B9, I8, C0, I9, C1, rfl, rfl, w6, w7, w8, w9, x0, x1, x2⟩ := B7
  obtain ⟨x3, x4, rfl, -⟩ := w6.form
  obtain ⟨C2, C3, rfl, -⟩ := w7.form
  obtain ⟨C4, C5, rfl, -⟩ := w8.form
  obtain ⟨C6, C7, rfl, -⟩ := w9.form
  obtain ⟨C8, C9, rfl, -⟩ := x0.form
  obtain ⟨D0, D1, rfl, -⟩ := x1.form
  obtain ⟨D2, D3, rfl, -⟩ := x2.form
  have hO := zrl10 hO
  refine zd hO 3 [] [(26, .agg #[(.int .u8 (g.1.Kind.toNat : Int)), (.int .u8 (g.1.Op.toNat : Int)), (.int .i64 g.1.Var), (.int .i64 g.1.Num), (zrn x3 g.1.Kids x4)]), (27, .int .u8 g.2.1)] [0, 3, 4, 6, 7, 16, 17, 18] zq9 fun j => ?_
  refine zbl hO fun J0 σ hO => ?_
  have hO := zrl11 hO
  refine zC hO (i := 10) rfl (off := 0) rfl rfl rfl rfl (Nat.le_of_ble_eq_true rfl) rfl fun σ hO => ?_
  have hO := zrl11 hO
  refine ze hO [] [(11, .int .u8 g.2.1)] [0, 3, 4, 6, 7, 10, 16, 17, 18] zq9 fun j => ?_
  refine zbd (zd hO 2 [10] [(28, zrn j3 f3 j4), (29, .agg #[(.int .u8 (g.1.Kind.toNat : Int)), (.int .u8 (g.1.Op.toNat : Int)), (.int .i64 g.1.Var), (.int .i64 g.1.Num), (zrn x3 g.1.Kids x4)])] [0, 3, 4, 7, 11, 16, 17, 18] (And.intro (And.intro rfl rfl) zq9) fun j => ?_)
  obtain ⟨_, A4, hF⟩ := zrm hF
  refine zdk (T := zR) (y := (⟨g.1.Kind, g.1.Op, g.1.Var, g.1.Num, g.1.Kids⟩ : zj)) hO g9 (i := 2) rfl rfl (fun _ => rfl) rfl (zlf ⟨_, rfl, w6⟩) rfl A4 (by decide) fun u _ σ D4 x5 hO => ?_
  obtain ⟨x6, x7, rfl, -⟩ := x5.form
  have hO := zrl11 hO
  refine zd hO 2 [] [(32, zrn j5 f4 j6), (33, .int .u8 g.2.1)] [0, 3, 4, 16, 17, 18, 31] zq8 fun j => ?_
  obtain ⟨z744, A5, hF⟩ := zrm hF
  obtain ⟨_, A6, hF⟩ := zrm hF
  refine zdk (T := Ty.u8) (y := z744) hO h0 (i := 3) rfl rfl (fun _ => rfl) rfl (u8R A5) rfl A6 (by decide) fun u _ σ D5 x8 hO => ?_
  obtain ⟨x9, y0, rfl, -⟩ := x8.form
  have hO := zrl11 hO
  refine ze hO [] [(6, zrn x6 (f3 ++ [(⟨g.1.Kind, g.1.Op, g.1.Var, g.1.Num, g.1.Kids⟩ : zj)]) x7), (7, zrn x9 (f4 ++ [z744]) y0)] [0, 3, 4, 16, 17, 18] zq7 fun j => ?_
  refine zg (z3 (zk (zbd (ze hO [] [(18, zrg (IntKind.i64.wrap (i8 + 1)))] [0, 3, 4, 6, 7, 16, 17] zq7 fun j => ?_))))
  refine zg (zk ?_)
  have hO := hO.sel [5, 6, 7, 8, 9, 0, 1, 2, 3]
  exact ⟨r4, Nat.lt_succ_self _, C2, C3, g.2.2.prog.Structs, C4, C5, g.2.2.prog.Funcs, C6, C7, B8, g.2.2.tree.Bodies, g.2.2.tree.Main, C8, C9, B9, g.2.2.tree.Points, g.2.2.fn, D0, D1, C0, g.2.2.vars, D2, D3, C1, g.2.2.scope, x6, x7, D4, (f3 ++ [(⟨g.1.Kind, g.1.Op, g.1.Var, g.1.Num, g.1.Kids⟩ : zj)]), x9, y0, D5, (f4 ++ [z744]), (IntKind.i64.wrap (i8 + 1)), _, zrf zq6, hO, hL, w7, w8, w9, x0, x1, x2, x5, x8, hF⟩
 refine zbF (zbB (zbD (zk (zd hO 2 [5] [(38, .string p1.Op)] [0, 3, 4, 6, 7] (And.intro (And.intro rfl rfl) zq5) fun j => ?_))))
 obtain ⟨o, D6, hF⟩ := zrm hF
 refine zL hO (zpK D6) rfl fun _ σ _ _ hO h1 D7 => ?_
 have hL := hL.trans h1
 have g9 := g9.le h1
 have h0 := h0.le h1
 have j7 := j7.le h1
 have j8 := j8.le h1
 have j9 := j9.le h1
 have k0 := k0.le h1
 have k1 := k1.le h1
 have k2 := k2.le h1
 obtain ⟨rfl, rfl⟩ := D7
 have hO := zrl9 hO
 refine ze hO [] [(12, .int .u8 o)] [0, 3, 4, 6, 7] zq5 fun j => ?_
 refine ze hO [] [(13, .int .u8 1), (14, .int .u8 1)] [0, 3, 4, 6, 7, 12] zq7 fun j => ?_
 refine zl (ze hO [] [(40, .int .u8 o)] [0, 3, 4, 6, 7, 12, 13, 14] zq8 fun j => ?_)
 refine zgS (fun e' σ' => ∃ (p4 : Option Addr) (p5 : Nat) (p6 : Ob) (h4 : List zM) (p7 : Option Addr) (p8 : Nat) (p9 : Ob) (h5 : List zH) (q2 : Option Addr) (q3 : Nat) (q4 : Ob) (h6 : List zI) (q5 : Option Addr) (q6 : Nat) (q7 : Ob) (h7 : List Int) (k4 : Option Addr) (k5 : Nat) (q8 : Ob) (h2 : List zj) (r7 : Option Addr) (r8 : Nat) (r9 : Ob) (k6 : List UInt8) (h3 k7 : Int) (τ' : Hp), agr [(0, zrh d8), (3, zrh b3), (4, zrh b4), (6, zrn k4 h2 k5), (7, zrn r7 k6 r8), (12, .int .u8 o), (13, .int .u8 h3), (14, .int .u8 k7)] e' ∧ Obs τ' σ' [zn d8 (zrn d9 q f0) (zrn f1 z f2) (zrn p4 h4 p5) b0 (zrn p7 h5 p8) b1 (zrn q2 h6 q3) (zrn q5 h7 q6), p6, p9, q4, q7, zeL b3 (p1.Kind.toNat : Int) p1.Num p1.Name p1.Field p1.Op (zrn i6 p1.Kids i7), zdJ b4 0 0 0 0 (.slice none 0 0), q8, r9] ∧ Hp.le τ τ' ∧ RdT zx τ' (zrn d9 q f0) q ∧ RdT zr τ' (zrn f1 z f2) z ∧ za zp 59 τ' (zrn p4 h4 p5) h4 p6 ∧ za zo 87 τ' (zrn p7 h5 p8) h5 p9 ∧ za zq 82 τ' (zrn q2 h6 q3) h6 q4 ∧ za (Ty.int .i64) 3 τ' (zrn q5 h7 q6) h7 q7 ∧ za zR 140 τ' (zrn k4 h2 k5) h2 q8 ∧ za Ty.u8 5 τ' (zrn r7 k6 r8) k6 r9 ∧ zcB p1 q z b0 b1 o h4 h5 h6 h7 h2 k6 h3 k7 = some rr) ?_ ?_
 ·refine zl (ze hO [] [(41, .bool (o == 12))] [0, 3, 4, 6, 7, 12, 13, 14, 40] zq9 fun j => ?_)
  refine zdD (fun e' σ' => ∃ (k8 : Option Addr) (k9 : Nat) (l0 : Ob) (h8 : List zM) (l1 : Option Addr) (l2 : Nat) (l3 : Ob) (h9 : List zH) (l4 : Option Addr) (l5 : Nat) (l6 : Ob) (i0 : List zI) (l7 : Option Addr) (l8 : Nat) (l9 : Ob) (i1 : List Int) (m0 : Option Addr) (m1 : Nat) (m2 : Ob) (i2 : List zj) (m3 : Option Addr) (m4 : Nat) (m5 : Ob) (i3 : List UInt8) (t1 : Bool) (τ' : Hp), agr [(0, zrh d8), (3, zrh b3), (4, zrh b4), (6, zrn m0 i2 m1), (7, zrn m3 i3 m4), (12, .int .u8 o), (13, .int .u8 1), (14, .int .u8 1), (40, .int .u8 o), (41, .bool t1)] e' ∧ Obs τ' σ' [zn d8 (zrn d9 q f0) (zrn f1 z f2) (zrn k8 h8 k9) b0 (zrn l1 h9 l2) b1 (zrn l4 i0 l5) (zrn l7 i1 l8), l0, l3, l6, l9, zeL b3 (p1.Kind.toNat : Int) p1.Num p1.Name p1.Field p1.Op (zrn i6 p1.Kids i7), zdJ b4 0 0 0 0 (.slice none 0 0), m2, m5] ∧ Hp.le τ τ' ∧ RdT zx τ' (zrn d9 q f0) q ∧ RdT zr τ' (zrn f1 z f2) z ∧ za zp 59 τ' (zrn k8 h8 k9) h8 l0 ∧ za zo 87 τ' (zrn l1 h9 l2) h9 l3 ∧ za zq 82 τ' (zrn l4 i0 l5) i0 l6 ∧ za (Ty.int .i64) 3 τ' (zrn l7 i1 l8) i1 l9 ∧ za zR 140 τ' (zrn m0 i2 m1) i2 m2 ∧ za Ty.u8 5 τ' (zrn m3 i3 m4) i3 m5 ∧ zd0 p1 q z b0 b1 o h8 h9 i0 i1 i2 i3 t1 = some rr) ?_ ?_
  ·refine zbC (zy hF rfl (fun hF => ?_) fun hF => ?_)
   ·refine zF (zg (zk ?_))
    exact ⟨n8, n9, o0, f6, o1, o2, o3, f7, o4, o5, o6, f8, o7, o8, o9, f9, j3, j4, p2, f3, j5, j6, p3, f4, (o == 12), _, zrf zq8, hO, hL, j7, j8, j9, k0, k1, k2, g9, h0, hF⟩
   refine ze hO [] [(41, .bool (o == 13))] [0, 3, 4, 6, 7, 12, 13, 14, 40] zq9 fun j => ?_
   refine zg (zk ?_)
   exact ⟨n8, n9, o0, f6, o1, o2, o3, f7, o4, o5, o6, f8, o7, o8, o9, f9, j3, j4, p2, f3, j5, j6, p3, f4, (o == 13), _, zrf zq8, hO, hL, j7, j8, j9, k0, k1, k2, g9, h0, hF⟩
  rintro e σ ⟨k8, k9, l0, h8, l1, l2, l3, h9, l4, l5, l6, i0, l7, l8, l9, i1, m0, m1, m2, i2, m3, m4, m5, i3, t1, _, hA, hO, hL, t2, t3, t4, t5, t6, t7, t8, t9, hF⟩
  rw [← zV _ _ hA]
  unfold zd0 at hF
  refine zbC (zy hF rfl (fun hF => ?_) fun hF => ?_)
  ·refine ze hO [] [(13, .int .u8 2), (14, .int .u8 2)] [0, 3, 4, 6, 7, 12] zq7 fun j => ?_
   refine zg (z3 (zk ?_))
   exact ⟨k8, k9, l0, h8, l1, l2, l3, h9, l4, l5, l6, i0, l7, l8, l9, i1, m0, m1, m2, i2, m3, m4, m5, i3, 2, 2, _, zrf zq6, hO, hL, t2, t3, t4, t5, t6, t7, t8, t9, hF⟩
  refine zl (zl (ze hO [] [(44, .bool (o == 6))] [0, 3, 4, 6, 7, 12, 13, 14, 40] zq9 fun j => ?_))
  refine zdD (fun e' σ' => ∃ (b2 : Option Addr) (b5 : Nat) (b6 : Ob) (I : List zM) (b7 : Option Addr) (b8 : Nat) (b9 : Ob) (S : List zH) (c0 : Option Addr) (c1 : Nat) (c2 : Ob) (U : List zI) (c3 : Option Addr) (c4 : Nat) (c5 : Ob) (V : List Int) (Y : Option Addr) (Z : Nat) (c6 : Ob) (G : List zj) (W : Option Addr) (X : Nat) (c7 : Ob) (D : List UInt8) (u0 : Bool) (τ' : Hp), agr [(0, zrh d8), (3, zrh b3), (4, zrh b4), (6, zrn Y G Z), (7, zrn W D X), (12, .int .u8 o), (13, .int .u8 1), (14, .int .u8 1), (40, .int .u8 o), (44, .bool u0)] e' ∧ Obs τ' σ' [zn d8 (zrn d9 q f0) (zrn f1 z f2) (zrn b2 I b5) b0 (zrn b7 S b8) b1 (zrn c0 U c1) (zrn c3 V c4), b6, b9, c2, c5, zeL b3 (p1.Kind.toNat : Int) p1.Num p1.Name p1.Field p1.Op (zrn i6 p1.Kids i7), zdJ b4 0 0 0 0 (.slice none 0 0), c6, c7] ∧ Hp.le τ τ' ∧ RdT zx τ' (zrn d9 q f0) q ∧ RdT zr τ' (zrn f1 z f2) z ∧ za zp 59 τ' (zrn b2 I b5) I b6 ∧ za zo 87 τ' (zrn b7 S b8) S b9 ∧ za zq 82 τ' (zrn c0 U c1) U c2 ∧ za (Ty.int .i64) 3 τ' (zrn c3 V c4) V c5 ∧ za zR 140 τ' (zrn Y G Z) G c6 ∧ za Ty.u8 5 τ' (zrn W D X) D c7 ∧ zeA p1 q z b0 b1 o I S U V G D u0 = some rr) ?_ ?_
  ·refine zbC (zy hF rfl (fun hF => ?_) fun hF => ?_)
   ·refine zF (zg (zk ?_))
    exact ⟨k8, k9, l0, h8, l1, l2, l3, h9, l4, l5, l6, i0, l7, l8, l9, i1, m0, m1, m2, i2, m3, m4, m5, i3, (o == 6), _, zrf zq8, hO, hL, t2, t3, t4, t5, t6, t7, t8, t9, hF⟩
   refine ze hO [] [(44, .bool (o == 7))] [0, 3, 4, 6, 7, 12, 13, 14, 40] zq9 fun j => ?_
   refine zg (zk ?_)
   exact ⟨k8, k9, l0, h8, l1, l2, l3, h9, l4, l5, l6, i0, l7, l8, l9, i1, m0, m1, m2, i2, m3, m4, m5, i3, (o == 7), _, zrf zq8, hO, hL, t2, t3, t4, t5, t6, t7, t8, t9, hF⟩
  rintro e σ ⟨b2, b5, b6, I, b7, b8, b9, S, c0, c1, c2, U, c3, c4, c5, V, Y, Z, c6, G, W, X, c7, D, u0, _, hA, hO, hL, g0, g1, g2, g3, g4, g5, g6, f5, hF⟩
  rw [← zV _ _ hA]
  unfold zeA at hF
  refine zy hF rfl (fun hF => ?_) fun hF => ?_
  ·refine zl (ze hO [] [(14, .int .u8 2)] [0, 3, 4, 6, 7, 12, 13] zq7 fun j => ?_)
   refine zl (zd hO 4 [] [(50, .bool (decide ((D.length : Int) > 0)))] [0, 3, 4, 6, 7, 12, 13, 14] zq8 fun j => ?_)
   obtain ⟨D8, D9, hF⟩ := zrm hF
   refine zdF 2 [(55, .bool D8), (0, zrh d8), (3, zrh b3), (4, zrh b4), (6, zrn Y G Z), (7, zrn W D X), (12, .int .u8 o), (13, .int .u8 1), (14, .int .u8 2)] (fun Q hQ => ?_) fun j => ?_
   ·have hF := D9
    rcases zbL hF with ⟨j1, hF⟩ | ⟨j1, hF⟩
    ·refine zbn (zrk j1) ?_
     refine zd hO 1 [] [(51, zrn W D X)] [0, 3, 4, 6, 7, 12, 13, 14, 50] zq9 fun j => ?_
     obtain ⟨y1, E0, hF⟩ := zrm hF
     refine zd3 (T := Ty.u8) hO f5 (i := 8) rfl rfl rfl E0 (by decide) fun a977 _ E1 E2 J1 => ?_
     have E3 := E1
     obtain rfl : _ = ([.int .u8 y1.toNat] : List Value) := E3
     refine zE rfl E2.fst ?_
     refine zd hO 1 [] [(54, .bool ((y1.toNat : Int) == 2))] [0, 3, 4, 6, 7, 12, 13, 14, 50] zq9 fun j => ?_
     refine zW (zri j1) ?_
     refine zf ?_
     cases hF
     refine zg ?_
     exact hQ _ zq8
    refine zbz (zrk j1) ?_
    refine zW (zri j1) ?_
    refine zf ?_
    cases hF
    refine zg ?_
    exact hQ _ zq8
   refine zf (zy hF rfl (fun hF => ?_) fun hF => ?_)
   ·refine ze hO [] [(13, .int .u8 2)] [0, 3, 4, 6, 7, 12, 14] zq7 fun j => ?_
    refine zg (z3 (zk ?_))
    exact ⟨b2, b5, b6, I, b7, b8, b9, S, c0, c1, c2, U, c3, c4, c5, V, Y, Z, c6, G, W, X, c7, D, 2, 2, _, zrf zq6, hO, hL, g0, g1, g2, g3, g4, g5, g6, f5, hF⟩
   refine zF (zg (z3 (zk ?_)))
   exact ⟨b2, b5, b6, I, b7, b8, b9, S, c0, c1, c2, U, c3, c4, c5, V, Y, Z, c6, G, W, X, c7, D, 1, 2, _, zrf zq6, hO, hL, g0, g1, g2, g3, g4, g5, g6, f5, hF⟩
  refine zl (zl (ze hO [] [(56, .bool (o == 8))] [0, 3, 4, 6, 7, 12, 13, 14, 40] zq9 fun j => ?_))
  refine zy hF rfl (fun hF => ?_) fun hF => ?_
  ·refine zF (zy hF rfl (fun hF => ?_) fun hF => ?_)
   ·refine ze hO [] [(14, .int .u8 2)] [0, 3, 4, 6, 7, 12, 13] zq7 fun j => ?_
    refine zg (z3 (zk ?_))
    exact ⟨b2, b5, b6, I, b7, b8, b9, S, c0, c1, c2, U, c3, c4, c5, V, Y, Z, c6, G, W, X, c7, D, 1, 2, _, zrf zq6, hO, hL, g0, g1, g2, g3, g4, g5, g6, f5, hF⟩
   refine zF (zg (z3 (zk ?_)))
   exact ⟨b2, b5, b6, I, b7, b8, b9, S, c0, c1, c2, U, c3, c4, c5, V, Y, Z, c6, G, W, X, c7, D, 1, 1, _, zrf zq6, hO, hL, g0, g1, g2, g3, g4, g5, g6, f5, hF⟩
  refine zl (ze hO [] [(56, .bool (o == 9))] [0, 3, 4, 6, 7, 12, 13, 14, 40] zq9 fun j => ?_)
  refine zy hF rfl (fun hF => ?_) fun hF => ?_
  ·refine zF (zy hF rfl (fun hF => ?_) fun hF => ?_)
   ·refine ze hO [] [(14, .int .u8 2)] [0, 3, 4, 6, 7, 12, 13] zq7 fun j => ?_
    refine zg (z3 (zk ?_))
    exact ⟨b2, b5, b6, I, b7, b8, b9, S, c0, c1, c2, U, c3, c4, c5, V, Y, Z, c6, G, W, X, c7, D, 1, 2, _, zrf zq6, hO, hL, g0, g1, g2, g3, g4, g5, g6, f5, hF⟩
   refine zF (zg (z3 (zk ?_)))
   exact ⟨b2, b5, b6, I, b7, b8, b9, S, c0, c1, c2, U, c3, c4, c5, V, Y, Z, c6, G, W, X, c7, D, 1, 1, _, zrf zq6, hO, hL, g0, g1, g2, g3, g4, g5, g6, f5, hF⟩
  refine zl (ze hO [] [(56, .bool (o == 10))] [0, 3, 4, 6, 7, 12, 13, 14, 40] zq9 fun j => ?_)
  refine zy hF rfl (fun hF => ?_) fun hF => ?_
  ·refine zF (zy hF rfl (fun hF => ?_) fun hF => ?_)
   ·refine ze hO [] [(14, .int .u8 2)] [0, 3, 4, 6, 7, 12, 13] zq7 fun j => ?_
    refine zg (z3 (zk ?_))
    exact ⟨b2, b5, b6, I, b7, b8, b9, S, c0, c1, c2, U, c3, c4, c5, V, Y, Z, c6, G, W, X, c7, D, 1, 2, _, zrf zq6, hO, hL, g0, g1, g2, g3, g4, g5, g6, f5, hF⟩
   refine zF (zg (z3 (zk ?_)))
   exact ⟨b2, b5, b6, I, b7, b8, b9, S, c0, c1, c2, U, c3, c4, c5, V, Y, Z, c6, G, W, X, c7, D, 1, 1, _, zrf zq6, hO, hL, g0, g1, g2, g3, g4, g5, g6, f5, hF⟩
  refine ze hO [] [(56, .bool (o == 11))] [0, 3, 4, 6, 7, 12, 13, 14] zq8 fun j => ?_
  refine zy hF rfl (fun hF => ?_) fun hF => ?_
  ·refine ze hO [] [(14, .int .u8 2)] [0, 3, 4, 6, 7, 12, 13] zq7 fun j => ?_
   refine zg (z3 (zk ?_))
   exact ⟨b2, b5, b6, I, b7, b8, b9, S, c0, c1, c2, U, c3, c4, c5, V, Y, Z, c6, G, W, X, c7, D, 1, 2, _, zrf zq6, hO, hL, g0, g1, g2, g3, g4, g5, g6, f5, hF⟩
  refine zF (zg (z3 (zk ?_)))
  exact ⟨b2, b5, b6, I, b7, b8, b9, S, c0, c1, c2, U, c3, c4, c5, V, Y, Z, c6, G, W, X, c7, D, 1, 1, _, zrf zq6, hO, hL, g0, g1, g2, g3, g4, g5, g6, f5, hF⟩
 rintro e σ ⟨p4, p5, p6, h4, p7, p8, p9, h5, q2, q3, q4, h6, q5, q6, q7, h7, k4, k5, q8, h2, r7, r8, r9, k6, h3, k7, _, hA, hO, hL, c8, c9, d0, d5, d6, d7, g7, u1, hF⟩
 rw [← zV _ _ hA]
 unfold zcB at hF
 refine zd hO 7 [5] [(68, .bool (((p1.Kind.toNat : Int) == 7) && (o != 0)))] [0, 4, 6, 7, 12, 13, 14] (And.intro (And.intro rfl rfl) (And.intro (And.intro rfl rfl) (fun _ => zrf zq6))) fun j => ?_
 have hO := hO.sel [0, 1, 2, 3, 4, 6, 7, 8]
 have hO := zrl8 hO
 obtain ⟨E4, E5, hF⟩ := zrm hF
 refine zcA 2 (fun e' σ' => ∃ (τ' : Hp), agr [(74, .bool E4), (0, zrh d8), (4, zrh b4), (6, zrn k4 h2 k5), (12, .int .u8 o), (14, .int .u8 k7)] e' ∧ Obs τ' σ' [zn d8 (zrn d9 q f0) (zrn f1 z f2) (zrn p4 h4 p5) b0 (zrn p7 h5 p8) b1 (zrn q2 h6 q3) (zrn q5 h7 q6), p6, p9, q4, q7, zdJ b4 0 0 0 0 (.slice none 0 0), q8, r9] ∧ Hp.le τ τ' ∧ za zR 140 τ' (zrn k4 h2 k5) h2 q8 ∧ RdT zx τ' (zrn d9 q f0) q ∧ RdT zr τ' (zrn f1 z f2) z ∧ za zp 59 τ' (zrn p4 h4 p5) h4 p6 ∧ za zo 87 τ' (zrn p7 h5 p8) h5 p9 ∧ za zq 82 τ' (zrn q2 h6 q3) h6 q4 ∧ za (Ty.int .i64) 3 τ' (zrn q5 h7 q6) h7 q7) ?_ ?_
 ·have hF := E5
  rcases zbL hF with ⟨j2, hF⟩ | ⟨j2, hF⟩
  ·refine zbn (zrk j2) ?_
   refine zd hO 3 [] [(69, zrn r7 k6 r8), (70, .int .u8 h3), (71, .int .u8 h3)] [0, 4, 6, 12, 14, 68] zq8 fun j => ?_
   obtain ⟨z881, A7, hF⟩ := zrm hF
   obtain ⟨z882, A8, hF⟩ := zrm hF
   refine zbG (T := Ty.u8) (l := ([z881, z882] : List UInt8)) (cs := [.int .u8 h3, .int .u8 h3]) hO rfl ⟨[.int .u8 h3], _, rfl, (u8R A7), ⟨[.int .u8 h3], _, rfl, (u8R A8), rfl⟩⟩ rfl (by decide) fun _ σ J2 t0 hO => ?_
   obtain ⟨J3, J4, rfl, -⟩ := t0.form
   have hO := zrl9 hO
   obtain ⟨J5, E6, hF⟩ := zrm hF
   refine zce (hs := [_, _, _, _, _, _, _]) hO (Ctr.lendG u1 (znY (fun _ _ _ _ h => h)) fun _ F3 F4 => Ctr.lendG (t0.le F3) (fun _ _ _ _ h => h) fun _ F5 F6 => zlT (F4.le F5) F6 E6) rfl fun _ σ _ _ hO g8 E7 => ?_
   have hL := hL.trans g8
   have g7 := g7.le g8
   have u1 := u1.le g8
   have t0 := t0.le g8
   have c8 := c8.le g8
   have c9 := c9.le g8
   have d0 := d0.le g8
   have d5 := d5.le g8
   have d6 := d6.le g8
   have d7 := d7.le g8
   obtain ⟨_, rfl, _, rfl, rfl, rfl⟩ := E7
   have hO := zrl9 hO
   refine zW (zri j2) ?_
   refine zf ?_
   cases hF
   refine zg ?_
   have hO := hO.sel [0, 1, 2, 3, 4, 5, 6, 7]
   exact ⟨rfl, _, zrf zq4, hO, hL, g7, c8, c9, d0, d5, d6, d7⟩
  refine zbz (zrk j2) ?_
  refine zW (zri j2) ?_
  refine zf ?_
  cases hF
  refine zg ?_
  exact ⟨rfl, _, zrf zq4, hO, hL, g7, c8, c9, d0, d5, d6, d7⟩
 rintro e σ ⟨_, hA, hO, hL, g7, c8, c9, d0, d5, d6, d7⟩
 rw [← zV _ _ hA]
 rcases z9 hF with ⟨J6, E8, hF⟩ | ⟨J7, E9, hF⟩
 ·refine zbV hO (zbk E8) zqY rfl fun _ σ _ _ hO i4 F0 => ?_
  have hL := hL.trans i4
  have g7 := g7.le i4
  have c8 := c8.le i4
  have c9 := c9.le i4
  have d0 := d0.le i4
  have d5 := d5.le i4
  have d6 := d6.le i4
  have d7 := d7.le i4
  obtain ⟨rfl, rfl⟩ := F0
  have hO := zrl8 hO
  cases hF
  have hO := hO.sel [0, 1, 2, 3, 4]
  exact hP _ _ _ _ hO hL ⟨_, _, _, _, _, _, _, _, _, _, rfl, rfl, c8, c9, d0, d5, d6, d7⟩
 refine zb0 hO (zbk E9) zqY rfl fun _ σ _ _ hO i5 F1 => ?_
 have hL := hL.trans i5
 have g7 := g7.le i5
 have c8 := c8.le i5
 have c9 := c9.le i5
 have d0 := d0.le i5
 have d5 := d5.le i5
 have d6 := d6.le i5
 have d7 := d7.le i5
 obtain ⟨rfl, rfl⟩ := F1
 have hO := zrl8 hO
 refine zf (zd hO 4 [] [(78, .agg #[(.int .u8 6), (.int .u8 o), (.int .i64 0), (.int .i64 0), (zrn k4 h2 k5)]), (79, .int .u8 k7)] [0, 4] zq3 fun j => ?_)
 refine zC hO (i := 5) rfl (off := 0) rfl rfl rfl rfl (Nat.le_of_ble_eq_true rfl) rfl fun σ hO => ?_
 have hO := zrl8 hO
 refine ze hO [] [(5, .int .u8 k7)] [0, 4] zq2 fun j => ?_
 refine zba ?_
 obtain ⟨_, j0, F2, hO⟩ := g7.share hO (i := 6) rfl
 have hL := hL.trans j0
 have c8 := c8.le j0
 have c9 := c9.le j0
 have d0 := d0.le j0
 have d5 := d5.le j0
 have d6 := d6.le j0
 have d7 := d7.le j0
 have hO := zrl8 hO
 obtain ⟨z901, m6, hF⟩ := zrm hF
 cases hF
 have F7 := hO.val (i := 5) rfl (off := 0) (agg := true) (n := 5) rfl
 have hO := hO.sel [0, 1, 2, 3, 4]
 refine (hQ _ _ _ _ _ (zb8 rfl (F7) (zcv rfl)) hO hL ?_).1
 exact ⟨_, _, _, _, _, _, _, _, _, _, _, (by first | rfl | (simp only [zdH m6]; done) | (simp only [← zdH m6]; try rfl)), (by first | rfl | (simp only [zdH m6]; done) | (simp only [← zdH m6]; try rfl)), F2, c8, c9, d0, d5, d6, d7⟩
theorem zpg (n : Nat) : zfl n ∧ zfz n ∧ zeT n ∧ ze3 n ∧ zeO n := by
 induction n with
 | zero =>
  refine ⟨?_, ?_, ?_, ?_, ?_⟩
  ·intro τ q0 b1 z D G I S U V W X Y v1 p1 v2 p2 g h j o q v r1 r2 rr hF; exact nomatch (show none = some rr from hF)
  ·intro τ q0 b1 z D G I S U V W X Y p1 b0 g h j o q v Z rr hF; exact nomatch (show none = some rr from hF)
  ·intro τ q0 b1 z D G I S U V W X Y p1 b0 g h j o q v Z rr hF; exact nomatch (show none = some rr from hF)
  ·intro τ q0 b1 z D G I S U V W X Y p1 b0 g h j o q v Z rr hF; exact nomatch (show none = some rr from hF)
  ·intro τ q0 b1 z D G I S U V W X Y p1 b0 g h j o q v Z rr hF; exact nomatch (show none = some rr from hF)
 | succ n ih =>
  obtain ⟨i0, i1, i2, i3, i4⟩ := ih
  refine ⟨?_, ?_, ?_, ?_, ?_⟩
  ·intro τ q0 b1 z D G I S U V W X Y v1 p1 v2 p2 g h j o q v r1 r2 rr hF; exact zn1 i0 i1 i2 i3 i4 g h j o q v r1 r2 hF
  ·intro τ q0 b1 z D G I S U V W X Y p1 b0 g h j o q v Z rr hF; exact znE i0 i1 i2 i3 i4 g h j o q v Z hF
  ·intro τ q0 b1 z D G I S U V W X Y p1 b0 g h j o q v Z rr hF; exact znX i0 i1 i2 i3 i4 g h j o q v Z hF
  ·intro τ q0 b1 z D G I S U V W X Y p1 b0 g h j o q v Z rr hF; exact zoC i0 i1 i2 i3 i4 g h j o q v Z hF
  ·intro τ q0 b1 z D G I S U V W X Y p1 b0 g h j o q v Z rr hF; exact zqx i0 i1 i2 i3 i4 g h j o q v Z hF
theorem zbS : ∀ {τ : Hp} {q0 : zb} {U : Nat} {V W X : Value} {Y : Ob} {Z : Value} {b0 : Ob} {b1 : Value} {b2 : Ob} {b3 : Value} {b4 : Ob} {v1 : Value} {p1 : (List zc)} {v2 : Value} {p2 : (List UInt8)} (c0 : RdT zx τ V q0.prog.Structs) (c1 : RdT zr τ W q0.prog.Funcs) (c2 : za zp 59 τ X q0.tree.Bodies Y) (c3 : za zo 87 τ Z q0.tree.Points b0) (c4 : za zq 82 τ b1 q0.vars b2) (c5 : za (Ty.int .i64) 3 τ b3 q0.scope b4) (r1 : RdT z5 τ v1 p1) (r2 : RdT Ty.u8 τ v2 p2) {rr : Except (Value × zb) ((List zj) × zb)} (hF : zcu q0 p1 p2 = some rr), zbu Try.prog 90 #[.pointer (some ⟨U, 0, none⟩), v1, v2] τ [zn U V W X q0.tree.Main Z q0.fn b1 b3, Y, b0, b2, b4] (fun v τ' vs' => match (generalizing := false) rr with | .ok rr => ∃ (v0 : Value) (o0 : Ob) (g h j : Value) (o : Ob) (q : Value) (z : Ob) (D : Value) (G : Ob) (I : Value) (S : Ob), v = v0 ∧ vs' = [o0, zn U g h j rr.2.tree.Main q rr.2.fn D I, o, z, G, S] ∧ za zR 140 τ' v0 rr.1 o0 ∧ RdT zx τ' g rr.2.prog.Structs ∧ RdT zr τ' h rr.2.prog.Funcs ∧ za zp 59 τ' j rr.2.tree.Bodies o ∧ za zo 87 τ' q rr.2.tree.Points z ∧ za zq 82 τ' D rr.2.vars G ∧ za (Ty.int .i64) 3 τ' I rr.2.scope S | .error _ => False) (fun ch τ' vs' => match (generalizing := false) rr with | .ok _ => False | .error ee => ∃ (g h j : Value) (o : Ob) (q : Value) (z : Ob) (D : Value) (G : Ob) (I : Value) (S : Ob), ch = [{ v := ee.1, recovered := false }] ∧ vs' = [zn U g h j ee.2.tree.Main q ee.2.fn D I, o, z, G, S] ∧ RdT zx τ' g ee.2.prog.Structs ∧ RdT zr τ' h ee.2.prog.Funcs ∧ za zp 59 τ' j ee.2.tree.Bodies o ∧ za zo 87 τ' q ee.2.tree.Points z ∧ za zq 82 τ' D ee.2.vars G ∧ za (Ty.int .i64) 3 τ' I ee.2.scope S) := (zpg big).1
theorem zqb {τ : Hp} {h : Value} {p0 : (List ByteArray)} (q : RdT Ty.str τ h p0) {rr : (List ByteArray)} (hF : zg9 p0 = some rr) :
  Ctr Try.prog 94 #[h] τ [] (fun v τ' vs' => ∃ (h : Value) (z : Ob), v = h ∧ vs' = [z] ∧ za Ty.str 9 τ' h rr z) := by
 obtain ⟨g, o, rfl, -⟩ := q.form
 refine zbi (args := [.slice g p0.length o]) hm Try.func94 s94 rfl fun w0 σ hO Q hQ => ?_
 unfold zg9 at hF
 obtain ⟨_, hr, hF⟩ := zrm hF
 injection hF with hF
 subst hF
 have hL := Hp.le.refl τ
 show wpn _ _ a94.body _ _ _
 unfold a94
 dsimp only
 refine zA hO [] [(0, zrn g p0 o)] zq0 fun j => ?_
 refine zl (zA hO [] [(0, zrn g p0 o), (4, .bool g.isNone)] zq1 fun j => ?_)
 rcases (Bool.eq_false_or_eq_true g.isNone).symm with hA | hA
 ·refine zgn (zri hA) ?_
  refine zF (zbG (T := Ty.str) (l := []) (cs := []) hO rfl rfl rfl (by decide) fun _ σ S w1 hO => ?_)
  obtain ⟨D, G, rfl, -⟩ := w1.form
  refine zK hO 1 [] [(5, .slice D 0 G), (6, zrn g p0 o)] zq1 fun j => ?_
  refine ze2 (T := Ty.str) hO w1 (i := 0) rfl rfl rfl q (by simpa using hr) (by decide) fun _ σ U I hO => ?_
  refine zA hO [] [(2, _)] zq0 fun j => ?_
  refine zba ?_
  exact hQ _ _ _ _ _ rfl hO hL ⟨_, _, rfl, rfl, I⟩
 refine zgZ (zri hA) ?_
 have := q.empty (by decide) hA
 subst this
 refine zl (zA hO [] [(2, .slice none 0 0)] zq0 fun j => ?_)
 refine zbt ?_
 have hO := hO.no
 exact hQ _ _ _ _ _ rfl hO hL ⟨_, _, rfl, rfl, za.nil _ _ _⟩
theorem zkb {τ : Hp} {q0 : zb} {h : Nat} {k7 k8 k9 : Value} {g8 : Ob} {l0 : Value} {g9 : Ob} {l1 : Value} {h0 : Ob} {l2 : Value} {h1 : Ob} {q1 : zh} {V : Nat} {l3 l4 l5 : Value} {g : zi} {m3 m4 l6 : Value} (o : RdT zx τ k7 q0.prog.Structs) (q : RdT zr τ k8 q0.prog.Funcs) (z : za zp 59 τ k9 q0.tree.Bodies g8) (D : za zo 87 τ l0 q0.tree.Points g9) (G : za zq 82 τ l1 q0.vars h0) (I : za (Ty.int .i64) 3 τ l2 q0.scope h1) (U : RdT zR τ l3 q1.Kids) (W : RdT zN τ l4 q1.Body) (X : RdT zN τ l5 q1.Else) (b5 : RdT z5 τ m3 g.Kids) (u0 : RdT zX τ m4 g.Body) (r5 : RdT zX τ l6 g.Else) {rr : Except (Value × zb × zh) (zb × zh)} (hF : zfF q0 q1 g = some rr) :
  zbu Try.prog 87 #[.pointer (some ⟨h, 0, none⟩), .pointer (some ⟨V, 0, none⟩), .agg #[.int .u8 g.Kind.toNat, .int .i64 g.Line, .string g.Name, .string g.Field, .string g.Call, .int .u8 g.Type_.Kind.toNat, .int .i64 g.Type_.N, .string g.Type_.Name, m3, m4, l6]] τ [zn h k7 k8 k9 q0.tree.Main l0 q0.fn l1 l2, g8, g9, h0, h1, zbP V q1.Kind.toNat q1.Point q1.Var q1.Field q1.Call l3 l4 l5] (fun v τ' vs' => match (generalizing := false) rr with | .ok rr => ∃ (c3 c4 c6 : Value) (c7 : Ob) (c8 : Value) (d0 : Ob) (d5 : Value) (d6 : Ob) (d7 : Value) (d8 : Ob) (d9 f0 f1 : Value), v = .tuple #[] ∧ vs' = [zn h c3 c4 c6 rr.1.tree.Main c8 rr.1.fn d5 d7, c7, d0, d6, d8, zbP V rr.2.Kind.toNat rr.2.Point rr.2.Var rr.2.Field rr.2.Call d9 f0 f1] ∧ RdT zx τ' c3 rr.1.prog.Structs ∧ RdT zr τ' c4 rr.1.prog.Funcs ∧ za zp 59 τ' c6 rr.1.tree.Bodies c7 ∧ za zo 87 τ' c8 rr.1.tree.Points d0 ∧ za zq 82 τ' d5 rr.1.vars d6 ∧ za (Ty.int .i64) 3 τ' d7 rr.1.scope d8 ∧ RdT zR τ' d9 rr.2.Kids ∧ RdT zN τ' f0 rr.2.Body ∧ RdT zN τ' f1 rr.2.Else | .error _ => False) (fun ch τ' vs' => match (generalizing := false) rr with | .ok _ => False | .error ee => ∃ (c3 c4 c6 : Value) (c7 : Ob) (c8 : Value) (d0 : Ob) (d5 : Value) (d6 : Ob) (d7 : Value) (d8 : Ob) (d9 f0 f1 : Value), ch = [{ v := ee.1, recovered := false }] ∧ vs' = [zn h c3 c4 c6 ee.2.1.tree.Main c8 ee.2.1.fn d5 d7, c7, d0, d6, d8, zbP V ee.2.2.Kind.toNat ee.2.2.Point ee.2.2.Var ee.2.2.Field ee.2.2.Call d9 f0 f1] ∧ RdT zx τ' c3 ee.2.1.prog.Structs ∧ RdT zr τ' c4 ee.2.1.prog.Funcs ∧ za zp 59 τ' c6 ee.2.1.tree.Bodies c7 ∧ za zo 87 τ' c8 ee.2.1.tree.Points d0 ∧ za zq 82 τ' d5 ee.2.1.vars d6 ∧ za (Ty.int .i64) 3 τ' d7 ee.2.1.scope d8 ∧ RdT zR τ' d9 ee.2.2.Kids ∧ RdT zN τ' f0 ee.2.2.Body ∧ RdT zN τ' f1 ee.2.2.Else) := by
 obtain ⟨r6, r7, rfl, -⟩ := o.form
 obtain ⟨r8, r9, rfl, -⟩ := q.form
 obtain ⟨t0, t1, rfl, -⟩ := z.form
 obtain ⟨t2, t3, rfl, -⟩ := D.form
 obtain ⟨t4, t5, rfl, -⟩ := G.form
 obtain ⟨t6, t7, rfl, -⟩ := I.form
 obtain ⟨h2, h3, rfl, -⟩ := U.form
 obtain ⟨l7, l8, rfl, -⟩ := W.form
 obtain ⟨l9, m0, rfl, -⟩ := X.form
 obtain ⟨f2, f3, rfl, -⟩ := b5.form
 obtain ⟨m5, m6, rfl, -⟩ := u0.form
 obtain ⟨m1, m2, rfl, -⟩ := r5.form
 refine zcH (args := [.pointer (some ⟨h, 0, none⟩), .pointer (some ⟨V, 0, none⟩), .agg #[.int .u8 g.Kind.toNat, .int .i64 g.Line, .string g.Name, .string g.Field, .string g.Call, .int .u8 g.Type_.Kind.toNat, .int .i64 g.Type_.N, .string g.Type_.Name, (.slice f2 g.Kids.length f3), (.slice m5 g.Body.length m6), (.slice m1 g.Else.length m2)]]) hm Try.func87 s87 rfl fun w0 σ hP hO Q hQ => ?_
 unfold zfF at hF
 have hL := Hp.le.refl τ
 show wpn _ _ a87.body _ _ _
 unfold a87
 dsimp only
 refine zbQ (n := 11) hO rfl rfl fun b4 σ hO => ?_
 have hO := zrl7 hO
 refine zf (zd hO 3 [6] [(9, zrh h), (11, .string g.Name)] [0, 1, 5] (And.intro (And.intro rfl rfl) zq4) fun j => ?_)
 obtain ⟨c5, h6, hF⟩ := zrm hF
 have hO := hO.sel [5, 6, 0, 1, 2, 3, 4]
 refine zce (hs := [_, _]) hO (zld (o.le hL) (q.le hL) (z.le hL) (D.le hL) (G.le hL) (I.le hL) h6) rfl fun _ σ _ _ hO h7 h8 => ?_
 have hL := hL.trans h7
 obtain ⟨rfl, rfl⟩ := h8
 have hO := zrl7 hO
 have hO := hO.sel [2, 3, 4, 5, 6, 0, 1]
 have hO := zrl7 hO
 refine zd hO 2 [] [(14, .bool (decide (c5 < 0)))] [0, 1, 5] zq3 fun j => ?_
 obtain ⟨c9, E0, hF⟩ := zrm hF
 refine zcA 2 (fun e' σ' => ∃ (τ' : Hp), agr [(19, .bool c9), (0, zrh h), (1, zrh V), (5, zrh b4)] e' ∧ Obs τ' σ' [zn h (zrn r6 q0.prog.Structs r7) (zrn r8 q0.prog.Funcs r9) (zrn t0 q0.tree.Bodies t1) q0.tree.Main (zrn t2 q0.tree.Points t3) q0.fn (zrn t4 q0.vars t5) (zrn t6 q0.scope t7), g8, g9, h0, h1, zbP V (q1.Kind.toNat : Int) q1.Point q1.Var q1.Field q1.Call (zrn h2 q1.Kids h3) (zrn l7 q1.Body l8) (zrn l9 q1.Else m0), zeH b4 (g.Kind.toNat : Int) g.Line g.Name g.Field g.Call (g.Type_.Kind.toNat : Int) g.Type_.N g.Type_.Name (zrn f2 g.Kids f3) (zrn m5 g.Body m6) (zrn m1 g.Else m2)] ∧ Hp.le τ τ') ?_ ?_
 ·have hF := E0
  rcases zbL hF with ⟨f4, hF⟩ | ⟨f4, hF⟩
  ·refine zbn (zrk f4) ?_
   refine zd hO 3 [6] [(15, zrh h), (17, .agg #[(.int .u8 (g.Type_.Kind.toNat : Int)), (.int .i64 g.Type_.N), (.string g.Type_.Name)])] [0, 1, 5, 14] (And.intro (And.intro rfl rfl) zq5) fun j => ?_
   obtain ⟨R6, E1, hF⟩ := zrm hF
   have hO := hO.sel [5, 6, 0, 1, 2, 3, 4]
   refine zce (hs := [_, _]) hO (ziW (o.le hL) (q.le hL) (z.le hL) (D.le hL) (G.le hL) (I.le hL) E1) rfl fun _ σ _ _ hO E2 E3 => ?_
   have hL := hL.trans E2
   obtain ⟨rfl, rfl⟩ := E3
   have hO := zrl7 hO
   have hO := hO.sel [2, 3, 4, 5, 6, 0, 1]
   have hO := zrl7 hO
   refine zW (zri f4) ?_
   refine zf ?_
   cases hF
   refine zg ?_
   exact ⟨rfl, _, zrf zq2, hO, hL⟩
  refine zbz (zrk f4) ?_
  refine zW (zri f4) ?_
  refine zf ?_
  cases hF
  refine zg ?_
  exact ⟨rfl, _, zrf zq2, hO, hL⟩
 rintro e σ ⟨_, hA, hO, hL⟩
 rw [← zV _ _ hA]
 rcases z9 hF with ⟨R7, E4, hF⟩ | ⟨R8, E5, hF⟩
 ·refine zbV hO (zbk E4) zqY rfl fun _ σ _ _ hO E6 E7 => ?_
  have hL := hL.trans E6
  obtain ⟨rfl, rfl⟩ := E7
  have hO := zrl7 hO
  cases hF
  have hO := hO.sel [0, 1, 2, 3, 4, 5]
  exact hP _ _ _ _ hO hL ⟨_, _, _, _, _, _, _, _, _, _, _, _, _, rfl, rfl, (o.le hL), (q.le hL), (z.le hL), (D.le hL), (G.le hL), (I.le hL), (U.le hL), (W.le hL), (X.le hL)⟩
 refine zb0 hO (zbk E5) zqY rfl fun _ σ _ _ hO E8 E9 => ?_
 have hL := hL.trans E8
 obtain ⟨rfl, rfl⟩ := E9
 have hO := zrl7 hO
 refine zf (zd hO 5 [6, 6] [(25, .agg #[(.string g.Name), (.int .u8 (g.Type_.Kind.toNat : Int)), (.int .i64 g.Type_.N), (.string g.Type_.Name), (.int .i64 1), (.slice none 0 0)])] [0, 1, 5] (And.intro (And.intro rfl rfl) (And.intro (And.intro rfl rfl) zq3)) fun j => ?_)
 refine zbl hO fun g7 σ hO => ?_
 have hO := zrl8 hO
 refine zC hO (i := 7) rfl (off := 0) rfl rfl rfl rfl (Nat.le_of_ble_eq_true rfl) rfl fun σ hO => ?_
 have hO := zrl8 hO
 refine zf (zl (ze hO [6] [(28, .int .u8 (g.Type_.Kind.toNat : Int))] [0, 1, 5, 6] (And.intro (And.intro rfl rfl) zq4) fun j => ?_))
 refine zgS (fun e' σ' => ∃ (i9 : Option Addr) (j0 : Nat) (f5 : List zbh) (j1 : Option Addr) (j2 : Nat) (f6 : List zG) (j3 : Option Addr) (j4 : Nat) (j5 : Ob) (f7 : List zM) (j6 : Int) (j7 : Option Addr) (j8 : Nat) (j9 : Ob) (f8 : List zH) (k0 : Int) (h4 : Option Addr) (h5 : Nat) (k1 : Ob) (S : List zI) (h9 : Option Addr) (i0 : Nat) (k2 : Ob) (b8 : List Int) (k3 : Option Addr) (k4 : Nat) (f9 : List zj) (b6 : Int) (b9 : Option Addr) (c0 : Nat) (k5 : Ob) (Y : List ByteArray) (τ' : Hp), agr [(0, zrh h), (1, zrh V), (6, zrh g7)] e' ∧ Obs τ' σ' [zn h (zrn i9 f5 j0) (zrn j1 f6 j2) (zrn j3 f7 j4) j6 (zrn j7 f8 j8) k0 (zrn h4 S h5) (zrn h9 b8 i0), j5, j9, k1, k2, zbP V (q1.Kind.toNat : Int) q1.Point q1.Var q1.Field q1.Call (zrn k3 f9 k4) (zrn l7 q1.Body l8) (zrn l9 q1.Else m0), zn8 g7 g.Name (g.Type_.Kind.toNat : Int) g.Type_.N g.Type_.Name b6 (zrn b9 Y c0), k5] ∧ Hp.le τ τ' ∧ RdT zx τ' (zrn i9 f5 j0) f5 ∧ RdT zr τ' (zrn j1 f6 j2) f6 ∧ za zp 59 τ' (zrn j3 f7 j4) f7 j5 ∧ za zo 87 τ' (zrn j7 f8 j8) f8 j9 ∧ za zq 82 τ' (zrn h4 S h5) S k1 ∧ za (Ty.int .i64) 3 τ' (zrn h9 b8 i0) b8 k2 ∧ RdT zR τ' (zrn k3 f9 k4) f9 ∧ za Ty.str 9 τ' (zrn b9 Y c0) Y k5 ∧ zef q1 g f5 f6 f7 j6 f8 k0 S b8 f9 b6 Y = some rr) ?_ ?_
 ·refine ze hO [] [(40, .bool ((g.Type_.Kind.toNat : Int) == 3))] [0, 1, 5, 6, 28] zq5 fun j => ?_
  refine zbC (zy hF rfl (fun hF => ?_) fun hF => ?_)
  ·refine zl (zd hO 7 [6, 6] [(51, .bool ((decide (g.Type_.N ≥ 1)) && (decide (g.Type_.N ≤ 16))))] [0, 1, 5, 6] (And.intro (And.intro rfl rfl) (And.intro (And.intro rfl rfl) (And.intro (And.intro rfl rfl) (fun _ => zrf zq3)))) fun j => ?_)
   rcases z9 hF with ⟨F5, u2, hF⟩ | ⟨F6, u3, hF⟩
   ·refine zbV hO (zbk u2) zqY rfl fun _ σ _ _ hO u4 u5 => ?_
    have hL := hL.trans u4
    obtain ⟨rfl, rfl⟩ := u5
    have hO := zrl8 hO
    cases hF
    have hO := hO.sel [0, 1, 2, 3, 4, 5]
    exact hP _ _ _ _ hO hL ⟨_, _, _, _, _, _, _, _, _, _, _, _, _, rfl, rfl, (o.le hL), (q.le hL), (z.le hL), (D.le hL), (G.le hL), (I.le hL), (U.le hL), (W.le hL), (X.le hL)⟩
   refine zb0 hO (zbk u3) zqY rfl fun _ σ _ _ hO u6 u7 => ?_
   have hL := hL.trans u6
   obtain ⟨rfl, rfl⟩ := u7
   have hO := zrl8 hO
   refine zf (zl (zd hO 4 [6] [(55, zrg g.Type_.N), (56, .pointer (some ⟨g7, 4, none⟩))] [0, 1, 5, 6] (And.intro (And.intro rfl rfl) zq5) fun j => ?_))
   refine zC hO (i := 7) rfl (off := 4) rfl rfl rfl rfl (Nat.le_of_ble_eq_true rfl) rfl fun σ hO => ?_
   have hO := zrl8 hO
   refine zf (zd hO 3 [6] [(57, zrh h), (59, zrn f2 g.Kids f3)] [0, 1, 6] (And.intro (And.intro rfl rfl) zq4) fun j => ?_)
   have hO := hO.sel [5, 6, 7, 0, 1, 2, 3, 4]
   rcases z9 hF with ⟨F7, u9, hF⟩ | ⟨b1, v0, hF⟩
   ·refine zbs (hs := [_, _, _]) hO (zbS (o.le hL) (q.le hL) (z.le hL) (D.le hL) (G.le hL) (I.le hL) (b5.le hL) (RdT.nil Ty.u8 _) u9) zqY rfl fun _ σ _ _ hO v1 v2 => ?_
    have hL := hL.trans v1
    obtain ⟨F8, F9, G0, G1, G2, G3, G4, G5, G6, G7, rfl, rfl, m7, m8, m9, n0, n1, n2⟩ := v2
    obtain ⟨G8, G9, rfl, -⟩ := m7.form
    obtain ⟨H0, H1, rfl, -⟩ := m8.form
    obtain ⟨H2, H3, rfl, -⟩ := m9.form
    obtain ⟨H4, H5, rfl, -⟩ := n0.form
    obtain ⟨H6, H7, rfl, -⟩ := n1.form
    obtain ⟨H8, H9, rfl, -⟩ := n2.form
    have hO := zrl8 hO
    cases hF
    have hO := hO.sel [3, 4, 5, 6, 7, 0]
    exact hP _ _ _ _ hO hL ⟨_, _, _, _, _, _, _, _, _, _, _, _, _, rfl, rfl, m7, m8, m9, n0, n1, n2, (U.le hL), (W.le hL), (X.le hL)⟩
   refine zbq (hs := [_, _, _]) hO (zbS (o.le hL) (q.le hL) (z.le hL) (D.le hL) (G.le hL) (I.le hL) (b5.le hL) (RdT.nil Ty.u8 _) v0) zqY rfl fun _ σ _ _ hO v3 v4 => ?_
   have hL := hL.trans v3
   obtain ⟨I0, I1, I2, I3, I4, v5, I5, v6, I6, v7, I7, v8, rfl, rfl, v9, n3, n4, n5, n6, n7, n8⟩ := v4
   obtain ⟨I8, I9, rfl, -⟩ := v9.form
   obtain ⟨w2, w3, rfl, -⟩ := n3.form
   obtain ⟨w4, w5, rfl, -⟩ := n4.form
   obtain ⟨w6, w7, rfl, -⟩ := n5.form
   obtain ⟨w8, w9, rfl, -⟩ := n6.form
   obtain ⟨x0, x1, rfl, -⟩ := n7.form
   obtain ⟨x2, x3, rfl, -⟩ := n8.form
   have hO := zrl9 hO
   refine zf (zg (z3 (zk ?_)))
   have hO := hO.no
   have hO := zrl10 hO
   have hO := hO.sel [4, 5, 6, 7, 8, 0, 2, 9]
   exact ⟨w2, w3, b1.2.prog.Structs, w4, w5, b1.2.prog.Funcs, w6, w7, v5, b1.2.tree.Bodies, b1.2.tree.Main, w8, w9, v6, b1.2.tree.Points, b1.2.fn, x0, x1, v7, b1.2.vars, x2, x3, v8, b1.2.scope, h2, h3, q1.Kids, g.Type_.N, none, 0, none, [], _, zrf zq1, hO, hL, n3, n4, n5, n6, n7, n8, (U.le hL), za.nil _ _ _, hF⟩
  refine zl (ze hO [] [(61, .bool ((g.Type_.Kind.toNat : Int) == 4))] [0, 1, 5, 6] zq4 fun j => ?_)
  refine zy hF rfl (fun hF => ?_) fun hF => ?_
  ·refine zl (zd hO 4 [6] [(64, zrh h), (67, .string g.Type_.Name)] [0, 1, 5, 6] (And.intro (And.intro rfl rfl) zq5) fun j => ?_)
   obtain ⟨i1, x4, hF⟩ := zrm hF
   have hO := hO.sel [5, 6, 7, 0, 1, 2, 3, 4]
   refine zce (hs := [_, _, _]) hO (zlg (o.le hL) (q.le hL) (z.le hL) (D.le hL) (G.le hL) (I.le hL) x4) rfl fun _ σ _ _ hO x5 x6 => ?_
   have hL := hL.trans x5
   obtain ⟨J0, rfl, rfl, i2⟩ := x6
   obtain ⟨n9, o0, rfl, -⟩ := i2.form
   have hO := zrl8 hO
   have hO := hO.sel [3, 4, 5, 6, 7, 0, 1, 2]
   have hO := zrl8 hO
   refine ze hO [] [(7, zrn n9 i1.1 o0)] [0, 1, 5, 6] zq4 fun j => ?_
   refine zl (zK hO 3 [] [(0, zrh h), (1, zrh V), (5, zrh b4), (6, zrh g7), (72, zrg (i1.1.length : Int)), (73, zrn n9 i1.1 o0)] zq5 fun j => ?_)
   obtain ⟨x7, x8, hF⟩ := zrm hF
   refine zL hO (zqb i2 x8) rfl fun _ σ _ _ hO o1 x9 => ?_
   have hL := hL.trans o1
   have i2 := i2.le o1
   obtain ⟨J1, y0, rfl, rfl, c1⟩ := x9
   obtain ⟨y1, y2, rfl, -⟩ := c1.form
   have hO := zrl9 hO
   refine zd hO 1 [] [(75, .pointer (some ⟨g7, 4, none⟩))] [0, 1, 5, 6, 72, 74] zq6 fun j => ?_
   refine zC hO (i := 7) rfl (off := 4) rfl rfl rfl rfl (Nat.le_of_ble_eq_true rfl) rfl fun σ hO => ?_
   have hO := zrl9 hO
   refine zd hO 1 [] [(76, .pointer (some ⟨g7, 5, none⟩))] [0, 1, 5, 6, 74] zq5 fun j => ?_
   refine zC hO (i := 7) rfl (off := 5) rfl rfl rfl rfl (Nat.le_of_ble_eq_true rfl) rfl fun σ hO => ?_
   have hO := zrl9 hO
   refine zf (zd hO 3 [6] [(77, zrh h), (79, zrn f2 g.Kids f3)] [0, 1, 6] (And.intro (And.intro rfl rfl) zq4) fun j => ?_)
   have hO := hO.sel [5, 6, 7, 8, 0, 1, 2, 3, 4]
   rcases z9 hF with ⟨J2, y3, hF⟩ | ⟨b2, y4, hF⟩
   ·refine zbs (hs := [_, _, _, _]) hO (zbS (o.le hL) (q.le hL) (z.le hL) (D.le hL) (G.le hL) (I.le hL) (b5.le hL) (RdT.nil Ty.u8 _) y3) zqY rfl fun _ σ _ _ hO o2 y5 => ?_
    have hL := hL.trans o2
    have c1 := c1.le o2
    obtain ⟨J3, J4, J5, J6, J7, J8, J9, K0, K1, K2, rfl, rfl, o3, o4, o5, o6, o7, o8⟩ := y5
    obtain ⟨K3, K4, rfl, -⟩ := o3.form
    obtain ⟨K5, K6, rfl, -⟩ := o4.form
    obtain ⟨K7, K8, rfl, -⟩ := o5.form
    obtain ⟨K9, L0, rfl, -⟩ := o6.form
    obtain ⟨L1, L2, rfl, -⟩ := o7.form
    obtain ⟨L3, L4, rfl, -⟩ := o8.form
    have hO := zrl9 hO
    cases hF
    have hO := hO.sel [4, 5, 6, 7, 8, 0]
    exact hP _ _ _ _ hO hL ⟨_, _, _, _, _, _, _, _, _, _, _, _, _, rfl, rfl, o3, o4, o5, o6, o7, o8, (U.le hL), (W.le hL), (X.le hL)⟩
   refine zbq (hs := [_, _, _, _]) hO (zbS (o.le hL) (q.le hL) (z.le hL) (D.le hL) (G.le hL) (I.le hL) (b5.le hL) (RdT.nil Ty.u8 _) y4) zqY rfl fun _ σ _ _ hO o9 y6 => ?_
   have hL := hL.trans o9
   have c1 := c1.le o9
   obtain ⟨L5, L6, L7, L8, L9, y7, M0, y8, M1, y9, M2, A0, rfl, rfl, A1, p3, p4, p5, p6, p7, p8⟩ := y6
   obtain ⟨M3, M4, rfl, -⟩ := A1.form
   obtain ⟨A2, A3, rfl, -⟩ := p3.form
   obtain ⟨A4, A5, rfl, -⟩ := p4.form
   obtain ⟨A6, A7, rfl, -⟩ := p5.form
   obtain ⟨A8, A9, rfl, -⟩ := p6.form
   obtain ⟨B0, B1, rfl, -⟩ := p7.form
   obtain ⟨B2, B3, rfl, -⟩ := p8.form
   have hO := zrl10 hO
   refine zf (zg (z3 (zk ?_)))
   have hO := hO.sel [5, 6, 7, 8, 9, 0, 2, 3]
   exact ⟨A2, A3, b2.2.prog.Structs, A4, A5, b2.2.prog.Funcs, A6, A7, y7, b2.2.tree.Bodies, b2.2.tree.Main, A8, A9, y8, b2.2.tree.Points, b2.2.fn, B0, B1, y9, b2.2.vars, B2, B3, A0, b2.2.scope, h2, h3, q1.Kids, (i1.1.length : Int), y1, y2, y0, x7, _, zrf zq1, hO, hL, p3, p4, p5, p6, p7, p8, (U.le hL), c1, hF⟩
  refine zd hO 7 [6, 6] [(29, zrh V), (30, zrh h), (32, zrn f2 g.Kids f3), (35, .int .u8 (g.Type_.Kind.toNat : Int))] [0, 1, 6] (And.intro (And.intro rfl rfl) (And.intro (And.intro rfl rfl) zq6)) fun j => ?_
  refine zbG (T := Ty.u8) (l := ([g.Type_.Kind] : List UInt8)) (cs := [.int .u8 (g.Type_.Kind.toNat : Int)]) hO rfl ⟨[.int .u8 (g.Type_.Kind.toNat : Int)], _, rfl, rfl, rfl⟩ rfl (by decide) fun _ σ M5 p9 hO => ?_
  obtain ⟨M6, M7, rfl, -⟩ := p9.form
  have hO := zrl9 hO
  obtain ⟨_, B4, c2, hO⟩ := p9.share hO (i := 8) rfl
  have hL := hL.trans B4
  have hO := zrl9 hO
  have hO := hO.sel [5, 6, 7, 8, 0, 1, 2, 3, 4]
  rcases z9 hF with ⟨M8, B5, hF⟩ | ⟨Z, B6, hF⟩
  ·refine zbs (hs := [_, _, _, _]) hO (zbS (o.le hL) (q.le hL) (z.le hL) (D.le hL) (G.le hL) (I.le hL) (b5.le hL) c2 B5) zqY rfl fun _ σ _ _ hO q2 B7 => ?_
   have hL := hL.trans q2
   have c2 := c2.le q2
   obtain ⟨M9, N0, N1, N2, N3, N4, N5, N6, N7, N8, rfl, rfl, q3, q4, q5, q6, q7, q8⟩ := B7
   obtain ⟨N9, O0, rfl, -⟩ := q3.form
   obtain ⟨O1, O2, rfl, -⟩ := q4.form
   obtain ⟨O3, O4, rfl, -⟩ := q5.form
   obtain ⟨O5, O6, rfl, -⟩ := q6.form
   obtain ⟨O7, O8, rfl, -⟩ := q7.form
   obtain ⟨O9, P0, rfl, -⟩ := q8.form
   have hO := zrl9 hO
   cases hF
   have hO := hO.sel [4, 5, 6, 7, 8, 0]
   exact hP _ _ _ _ hO hL ⟨_, _, _, _, _, _, _, _, _, _, _, _, _, rfl, rfl, q3, q4, q5, q6, q7, q8, (U.le hL), (W.le hL), (X.le hL)⟩
  refine zbq (hs := [_, _, _, _]) hO (zbS (o.le hL) (q.le hL) (z.le hL) (D.le hL) (G.le hL) (I.le hL) (b5.le hL) c2 B6) zqY rfl fun _ σ _ _ hO q9 B8 => ?_
  have hL := hL.trans q9
  have c2 := c2.le q9
  obtain ⟨P1, P2, P3, P4, P5, B9, P6, C0, P7, C1, P8, C2, rfl, rfl, r0, i3, i4, i5, i6, i7, i8⟩ := B8
  obtain ⟨C3, C4, rfl, -⟩ := r0.form
  obtain ⟨C5, C6, rfl, -⟩ := i3.form
  obtain ⟨C7, C8, rfl, -⟩ := i4.form
  obtain ⟨C9, D0, rfl, -⟩ := i5.form
  obtain ⟨D1, D2, rfl, -⟩ := i6.form
  obtain ⟨D3, D4, rfl, -⟩ := i7.form
  obtain ⟨D5, D6, rfl, -⟩ := i8.form
  have hO := zrl10 hO
  refine zd hO 2 [] [(39, .pointer (some ⟨V, 5, none⟩))] [0, 1, 6, 37] zq4 fun j => ?_
  refine zC hO (i := 0) rfl (off := 5) rfl rfl rfl rfl (Nat.le_of_ble_eq_true rfl) rfl fun σ hO => ?_
  have hO := zrl10 hO
  refine zf (zg (z3 (zk ?_)))
  obtain ⟨_, b7, D7, hO⟩ := r0.share hO (i := 4) rfl
  have hL := hL.trans b7
  have i3 := i3.le b7
  have i4 := i4.le b7
  have i5 := i5.le b7
  have i6 := i6.le b7
  have i7 := i7.le b7
  have i8 := i8.le b7
  have hO := zrl10 hO
  have hO := hO.no
  have hO := zrl11 hO
  have hO := hO.sel [5, 6, 7, 8, 9, 0, 2, 10]
  exact ⟨C5, C6, Z.2.prog.Structs, C7, C8, Z.2.prog.Funcs, C9, D0, B9, Z.2.tree.Bodies, Z.2.tree.Main, D1, D2, C0, Z.2.tree.Points, Z.2.fn, D3, D4, C1, Z.2.vars, D5, D6, C2, Z.2.scope, C3, C4, Z.1, 1, none, 0, none, [], _, zrf zq1, hO, hL, i3, i4, i5, i6, i7, i8, D7, za.nil _ _ _, hF⟩
 rintro e σ ⟨i9, j0, f5, j1, j2, f6, j3, j4, j5, f7, j6, j7, j8, j9, f8, k0, h4, h5, k1, S, h9, i0, k2, b8, k3, k4, f9, b6, b9, c0, k5, Y, _, hA, hO, hL, g0, g1, g2, g3, g4, g5, g6, D8, hF⟩
 rw [← zV _ _ hA]
 unfold zef at hF
 refine zd hO 8 [0] [(86, zrg (S.length : Int)), (88, .pointer (some ⟨V, 2, none⟩))] [0, 1, 6] (And.intro (And.intro rfl rfl) zq4) fun j => ?_
 refine zC hO (i := 5) rfl (off := 2) rfl rfl rfl rfl (Nat.le_of_ble_eq_true rfl) rfl fun σ hO => ?_
 have hO := zrl8 hO
 refine zf (zcw (zd hO 6 [0, 6] [(89, zrh h), (92, .pointer (some ⟨h, 6, none⟩)), (93, zrn h4 S h5), (94, .agg #[(.string g.Name), (.int .u8 (g.Type_.Kind.toNat : Int)), (.int .i64 g.Type_.N), (.string g.Type_.Name), (.int .i64 b6), (zrn b9 Y c0)])] [0, 1] (And.intro (And.intro rfl rfl) (And.intro (And.intro rfl rfl) zq5)) fun j => ?_))
 refine zcp ?_
 obtain ⟨_, b3, k6, hO⟩ := D8.share hO (i := 7) rfl
 have hL := hL.trans b3
 have g4 := g4.le b3
 have g0 := g0.le b3
 have g1 := g1.le b3
 have g2 := g2.le b3
 have g3 := g3.le b3
 have g5 := g5.le b3
 have g6 := g6.le b3
 have hO := zrl8 hO
 refine zbG (T := zq) (l := ([(⟨g.Name, (⟨g.Type_.Kind, g.Type_.N, g.Type_.Name⟩ : zz), b6, Y⟩ : zI)] : List zI)) (cs := [.string g.Name, .int .u8 (g.Type_.Kind.toNat : Int), .int .i64 g.Type_.N, .string g.Type_.Name, .int .i64 b6, zrn b9 Y c0]) hO rfl ⟨[.string g.Name, .int .u8 (g.Type_.Kind.toNat : Int), .int .i64 g.Type_.N, .string g.Type_.Name, .int .i64 b6, zrn b9 Y c0], _, rfl, ⟨_, rfl, k6⟩, rfl⟩ rfl (by decide) fun _ σ P9 r1 hO => ?_
 obtain ⟨Q0, Q1, rfl, -⟩ := r1.form
 have hO := zrl9 hO
 refine zf (zcj ⟨(zbp rfl (hO.val (i := 0) (off := 6) (agg := false) (n := 1) rfl rfl) rfl), trivial⟩ ?_)
 obtain ⟨_, b0, D9, hO⟩ := r1.share hO (i := 8) rfl
 have hL := hL.trans b0
 have g4 := g4.le b0
 have k6 := k6.le b0
 have g0 := g0.le b0
 have g1 := g1.le b0
 have g2 := g2.le b0
 have g3 := g3.le b0
 have g5 := g5.le b0
 have g6 := g6.le b0
 have hO := zrl9 hO
 obtain ⟨_, t8, hF⟩ := zrm hF
 refine ze2 (T := zq) hO g4 (i := 3) rfl rfl rfl D9 t8 (by decide) fun _ σ Q2 r2 hO => ?_
 obtain ⟨Q3, Q4, rfl, -⟩ := r2.form
 have hO := zrl9 hO
 refine zd hO 2 [] [(98, .pointer (some ⟨h, 6, none⟩))] [0, 1, 96] zq3 fun j => ?_
 refine zC hO (i := 0) rfl (off := 6) rfl rfl rfl rfl (Nat.le_of_ble_eq_true rfl) rfl fun σ hO => ?_
 have hO := zrl9 hO
 refine zf (zeo (zd hO 9 [0, 5] [(99, zrh h), (102, .pointer (some ⟨h, 7, none⟩)), (103, zrn h9 b8 i0), (107, zrg (S.length : Int))] [0, 1] (And.intro (And.intro rfl rfl) (And.intro (And.intro rfl rfl) zq5)) fun j => ?_))
 refine zcp (zbG (T := (Ty.int .i64)) (l := ([(S.length : Int)] : List Int)) (cs := [.int .i64 (S.length : Int)]) hO rfl ⟨[.int .i64 (S.length : Int)], _, rfl, rfl, rfl⟩ rfl (by decide) fun _ σ Q5 r3 hO => ?_)
 obtain ⟨Q6, Q7, rfl, -⟩ := r3.form
 have hO := zrl10 hO
 refine zf (zcj ⟨(zbp rfl (hO.val (i := 0) (off := 7) (agg := false) (n := 1) rfl rfl) rfl), trivial⟩ ?_)
 obtain ⟨_, t9, hF⟩ := zrm hF
 refine zkn (T := (Ty.int .i64)) (Ty.sc_flat _ _) hO g5 (i := 4) rfl rfl rfl (r3.rd hO (i := 9) rfl) t9 (by decide) fun _ σ Q8 r4 hO => ?_
 obtain ⟨Q9, R0, rfl, -⟩ := r4.form
 have hO := zrl10 hO
 refine zd hO 2 [] [(111, .pointer (some ⟨h, 7, none⟩))] [0, 1, 109] zq3 fun j => ?_
 refine zC hO (i := 0) rfl (off := 7) rfl rfl rfl rfl (Nat.le_of_ble_eq_true rfl) rfl fun σ hO => ?_
 have hO := zrl10 hO
 refine zf (zg ?_)
 cases hF
 have hO := hO.sel [0, 1, 2, 3, 4, 5]
 refine (hQ _ _ _ _ _ rfl hO hL ?_).2
 exact ⟨_, _, _, _, _, _, _, _, _, _, _, _, _, rfl, rfl, g0, g1, g2, g3, r2, r4, g6, (W.le hL), (X.le hL)⟩
theorem zlo {τ : Hp} {q0 : zb} {W : Nat} {l1 l2 l3 : Value} {f8 : Ob} {l4 : Value} {f9 : Ob} {l5 : Value} {g0 : Ob} {l6 : Value} {g1 : Ob} {q1 : zh} {G : Nat} {l7 l8 l9 : Value} {I : zi} {m3 m4 m0 : Value} (h : RdT zx τ l1 q0.prog.Structs) (o : RdT zr τ l2 q0.prog.Funcs) (q : za zp 59 τ l3 q0.tree.Bodies f8) (z : za zo 87 τ l4 q0.tree.Points f9) (g : za zq 82 τ l5 q0.vars g0) (D : za (Ty.int .i64) 3 τ l6 q0.scope g1) (S : RdT zR τ l7 q1.Kids) (U : RdT zN τ l8 q1.Body) (V : RdT zN τ l9 q1.Else) (b0 : RdT z5 τ m3 I.Kids) (u2 : RdT zX τ m4 I.Body) (r2 : RdT zX τ m0 I.Else) {rr : Except (Value × zb × zh) (zb × zh)} (hF : zfM q0 q1 I = some rr) :
  zbu Try.prog 88 #[.pointer (some ⟨W, 0, none⟩), .pointer (some ⟨G, 0, none⟩), .agg #[.int .u8 I.Kind.toNat, .int .i64 I.Line, .string I.Name, .string I.Field, .string I.Call, .int .u8 I.Type_.Kind.toNat, .int .i64 I.Type_.N, .string I.Type_.Name, m3, m4, m0]] τ [zn W l1 l2 l3 q0.tree.Main l4 q0.fn l5 l6, f8, f9, g0, g1, zbP G q1.Kind.toNat q1.Point q1.Var q1.Field q1.Call l7 l8 l9] (fun v τ' vs' => match (generalizing := false) rr with | .ok rr => ∃ (c1 c2 c3 : Value) (c4 : Ob) (c6 : Value) (c7 : Ob) (c8 : Value) (c9 : Ob) (d0 : Value) (d5 : Ob) (d6 d7 d8 : Value), v = .tuple #[] ∧ vs' = [zn W c1 c2 c3 rr.1.tree.Main c6 rr.1.fn c8 d0, c4, c7, c9, d5, zbP G rr.2.Kind.toNat rr.2.Point rr.2.Var rr.2.Field rr.2.Call d6 d7 d8] ∧ RdT zx τ' c1 rr.1.prog.Structs ∧ RdT zr τ' c2 rr.1.prog.Funcs ∧ za zp 59 τ' c3 rr.1.tree.Bodies c4 ∧ za zo 87 τ' c6 rr.1.tree.Points c7 ∧ za zq 82 τ' c8 rr.1.vars c9 ∧ za (Ty.int .i64) 3 τ' d0 rr.1.scope d5 ∧ RdT zR τ' d6 rr.2.Kids ∧ RdT zN τ' d7 rr.2.Body ∧ RdT zN τ' d8 rr.2.Else | .error _ => False) (fun ch τ' vs' => match (generalizing := false) rr with | .ok _ => False | .error ee => ∃ (c1 c2 c3 : Value) (c4 : Ob) (c6 : Value) (c7 : Ob) (c8 : Value) (c9 : Ob) (d0 : Value) (d5 : Ob) (d6 d7 d8 : Value), ch = [{ v := ee.1, recovered := false }] ∧ vs' = [zn W c1 c2 c3 ee.2.1.tree.Main c6 ee.2.1.fn c8 d0, c4, c7, c9, d5, zbP G ee.2.2.Kind.toNat ee.2.2.Point ee.2.2.Var ee.2.2.Field ee.2.2.Call d6 d7 d8] ∧ RdT zx τ' c1 ee.2.1.prog.Structs ∧ RdT zr τ' c2 ee.2.1.prog.Funcs ∧ za zp 59 τ' c3 ee.2.1.tree.Bodies c4 ∧ za zo 87 τ' c6 ee.2.1.tree.Points c7 ∧ za zq 82 τ' c8 ee.2.1.vars c9 ∧ za (Ty.int .i64) 3 τ' d0 ee.2.1.scope d5 ∧ RdT zR τ' d6 ee.2.2.Kids ∧ RdT zN τ' d7 ee.2.2.Body ∧ RdT zN τ' d8 ee.2.2.Else) := by
 obtain ⟨r3, r4, rfl, -⟩ := h.form
 obtain ⟨r5, r6, rfl, -⟩ := o.form
 obtain ⟨r7, r8, rfl, -⟩ := q.form
 obtain ⟨r9, t0, rfl, -⟩ := z.form
 obtain ⟨m1, m2, rfl, -⟩ := g.form
 obtain ⟨t1, t2, rfl, -⟩ := D.form
 obtain ⟨t3, t4, rfl, -⟩ := S.form
 obtain ⟨t5, t6, rfl, -⟩ := U.form
 obtain ⟨t7, t8, rfl, -⟩ := V.form
 obtain ⟨d9, f0, rfl, -⟩ := b0.form
 obtain ⟨u3, u4, rfl, -⟩ := u2.form
 obtain ⟨t9, u0, rfl, -⟩ := r2.form
 refine zcH (args := [.pointer (some ⟨W, 0, none⟩), .pointer (some ⟨G, 0, none⟩), .agg #[.int .u8 I.Kind.toNat, .int .i64 I.Line, .string I.Name, .string I.Field, .string I.Call, .int .u8 I.Type_.Kind.toNat, .int .i64 I.Type_.N, .string I.Type_.Name, (.slice d9 I.Kids.length f0), (.slice u3 I.Body.length u4), (.slice t9 I.Else.length u0)]]) hm Try.func88 s88 rfl fun w0 σ hP hO Q hQ => ?_
 unfold zfM at hF
 have hL := Hp.le.refl τ
 show wpn _ _ a88.body _ _ _
 unfold a88
 dsimp only
 refine zbQ (n := 11) hO rfl rfl fun b4 σ hO => ?_
 have hO := zrl7 hO
 refine zf (zd hO 4 [6] [(7, zrh G), (8, zrh W), (10, .string I.Name)] [0, 1, 5] (And.intro (And.intro rfl rfl) zq5) fun j => ?_)
 have hO := hO.sel [5, 6, 0, 1, 2, 3, 4]
 rcases z9 hF with ⟨x9, J8, hF⟩ | ⟨c5, h6, hF⟩
 ·refine zbs (hs := [_, _]) hO (zfo (h.le hL) (o.le hL) (q.le hL) (z.le hL) (g.le hL) (D.le hL) J8) zqY rfl fun _ σ _ _ hO J9 K0 => ?_
  have hL := hL.trans J9
  obtain ⟨rfl, rfl⟩ := K0
  have hO := zrl7 hO
  cases hF
  have hO := hO.sel [2, 3, 4, 5, 6, 0]
  exact hP _ _ _ _ hO hL ⟨_, _, _, _, _, _, _, _, _, _, _, _, _, rfl, rfl, (h.le hL), (o.le hL), (q.le hL), (z.le hL), (g.le hL), (D.le hL), (S.le hL), (U.le hL), (V.le hL)⟩
 refine zbq (hs := [_, _]) hO (zfo (h.le hL) (o.le hL) (q.le hL) (z.le hL) (g.le hL) (D.le hL) h6) zqY rfl fun _ σ _ _ hO h7 h8 => ?_
 have hL := hL.trans h7
 obtain ⟨rfl, rfl⟩ := h8
 have hO := zrl7 hO
 have hO := hO.sel [2, 3, 4, 5, 6, 0, 1]
 have hO := zrl7 hO
 refine zd hO 2 [] [(13, .pointer (some ⟨G, 2, none⟩))] [0, 1, 5, 11] zq4 fun j => ?_
 refine zC hO (i := 5) rfl (off := 2) rfl rfl rfl rfl (Nat.le_of_ble_eq_true rfl) rfl fun σ hO => ?_
 have hO := zrl7 hO
 refine zf (ze hO [6] [(15, .int .u8 (I.Kind.toNat : Int))] [0, 1, 5] (And.intro (And.intro rfl rfl) zq3) fun j => ?_)
 refine zlh (zgS (fun e' σ' => ∃ (j0 : Option Addr) (j1 : Nat) (f1 : List zbh) (j2 : Option Addr) (j3 : Nat) (f2 : List zG) (j4 : Option Addr) (j5 : Nat) (j6 : Ob) (f3 : List zM) (j7 : Int) (j8 : Option Addr) (j9 : Nat) (k0 : Ob) (f4 : List zH) (k1 : Int) (k2 : Option Addr) (k3 : Nat) (k4 : Ob) (f5 : List zI) (k5 : Option Addr) (k6 : Nat) (k7 : Ob) (f6 : List Int) (k8 : Int) (k9 : Option Addr) (l0 : Nat) (f7 : List zj) (τ' : Hp), agr [(0, zrh W), (1, zrh G)] e' ∧ Obs τ' σ' [zn W (zrn j0 f1 j1) (zrn j2 f2 j3) (zrn j4 f3 j5) j7 (zrn j8 f4 j9) k1 (zrn k2 f5 k3) (zrn k5 f6 k6), j6, k0, k4, k7, zbP G (q1.Kind.toNat : Int) q1.Point c5 k8 q1.Call (zrn k9 f7 l0) (zrn t5 q1.Body t6) (zrn t7 q1.Else t8)] ∧ Hp.le τ τ' ∧ RdT zx τ' (zrn j0 f1 j1) f1 ∧ RdT zr τ' (zrn j2 f2 j3) f2 ∧ za zp 59 τ' (zrn j4 f3 j5) f3 j6 ∧ za zo 87 τ' (zrn j8 f4 j9) f4 k0 ∧ za zq 82 τ' (zrn k2 f5 k3) f5 k4 ∧ za (Ty.int .i64) 3 τ' (zrn k5 f6 k6) f6 k7 ∧ RdT zR τ' (zrn k9 f7 l0) f7 ∧ zez q1 c5 f1 f2 f3 j7 f4 k1 f5 f6 k8 f7 = some rr) ?_ ?_)
 ·refine ze hO [] [(16, .bool ((I.Kind.toNat : Int) == 2))] [0, 1, 5, 15] zq4 fun j => ?_
  refine zbC (zy hF rfl (fun hF => ?_) fun hF => ?_)
  ·refine zl (zcw (zd hO 8 [0, 5] [(20, .pointer (some ⟨W, 6, none⟩)), (21, zrn m1 q0.vars m2), (24, .pointer (some ⟨G, 2, none⟩)), (25, zrg c5)] [0, 1, 5] (And.intro (And.intro rfl rfl) (And.intro (And.intro rfl rfl) zq6)) fun j => ?_))
   obtain ⟨X, u5, hF⟩ := zrm hF
   refine zd3 (T := zq) hO (g.le hL) (i := 3) rfl rfl rfl u5 (by decide) fun a445 _ u6 m5 u7 => ?_
   have u9 := u6
   obtain ⟨K5, rfl, v0⟩ := u9
   obtain ⟨K6, K7, rfl, -⟩ := v0.form
   have u1 := m5.rowIs hO (i := 3) rfl u7
   refine zd hO 1 [] [(27, .pointer (some (a445.add 1)))] [0, 1, 5, 20, 21, 24, 25] zq7 fun j => ?_
   refine zE rfl (m5.part (off := 1) (ds := [.int .u8 (X.Type_.Kind.toNat : Int), .int .i64 X.Type_.N, .string X.Type_.Name]) rfl rfl) ?_
   refine zcp (zbl hO fun K8 σ hO => ?_)
   have hO := zrl8 hO
   refine zf (zcj ⟨(zbp rfl ((u1.at hO (i := 3) rfl).part (off := 1) (ds := [.int .u8 (X.Type_.Kind.toNat : Int), .int .i64 X.Type_.N, .string X.Type_.Name]) rfl rfl) rfl), (zbp rfl (hO.val (i := 5) (off := 2) (agg := false) (n := 1) rfl rfl) rfl), (zbp rfl (hO.val (i := 0) (off := 6) (agg := false) (n := 1) rfl rfl) rfl), trivial⟩ ?_)
   refine zC hO (i := 7) rfl (off := 0) rfl rfl rfl rfl (Nat.le_of_ble_eq_true rfl) rfl fun σ hO => ?_
   have hO := zrl8 hO
   refine zf (zl (zd hO 1 [7] [(29, .agg #[(.int .u8 (X.Type_.Kind.toNat : Int)), (.int .i64 X.Type_.N), (.string X.Type_.Name)])] [0, 1, 5, 6] (And.intro (And.intro rfl rfl) zq4) fun j => ?_))
   obtain ⟨K9, v1, hF⟩ := zrm hF
   refine zL hO (zgx v1) rfl fun _ σ _ _ hO v2 v3 => ?_
   have hL := hL.trans v2
   obtain ⟨rfl, rfl⟩ := v3
   have hO := zrl8 hO
   rcases z9 hF with ⟨L0, v4, hF⟩ | ⟨L1, v5, hF⟩
   ·refine zbV hO (zbk v4) zqY rfl fun _ σ _ _ hO v6 v7 => ?_
    have hL := hL.trans v6
    obtain ⟨rfl, rfl⟩ := v7
    have hO := zrl8 hO
    cases hF
    have hO := hO.sel [0, 1, 2, 3, 4, 5]
    exact hP _ _ _ _ hO hL ⟨_, _, _, _, _, _, _, _, _, _, _, _, _, rfl, rfl, (h.le hL), (o.le hL), (q.le hL), (z.le hL), (g.le hL), (D.le hL), (S.le hL), (U.le hL), (V.le hL)⟩
   refine zb0 hO (zbk v5) zqY rfl fun _ σ _ _ hO v8 v9 => ?_
   have hL := hL.trans v8
   obtain ⟨rfl, rfl⟩ := v9
   have hO := zrl8 hO
   refine zf (zd hO 6 [6, 7] [(32, zrh G), (33, zrh W), (35, zrn d9 I.Kids f0), (37, .int .u8 (X.Type_.Kind.toNat : Int))] [0, 1] (And.intro (And.intro rfl rfl) (And.intro (And.intro rfl rfl) zq5)) fun j => ?_)
   refine zbG (T := Ty.u8) (l := ([X.Type_.Kind] : List UInt8)) (cs := [.int .u8 (X.Type_.Kind.toNat : Int)]) hO rfl ⟨[.int .u8 (X.Type_.Kind.toNat : Int)], _, rfl, rfl, rfl⟩ rfl (by decide) fun _ σ L2 m6 hO => ?_
   obtain ⟨L3, L4, rfl, -⟩ := m6.form
   have hO := zrl9 hO
   obtain ⟨_, w2, b8, hO⟩ := m6.share hO (i := 8) rfl
   have hL := hL.trans w2
   have hO := zrl9 hO
   have hO := hO.sel [5, 6, 7, 8, 0, 1, 2, 3, 4]
   rcases z9 hF with ⟨L5, w3, hF⟩ | ⟨Y, w4, hF⟩
   ·refine zbs (hs := [_, _, _, _]) hO (zbS (h.le hL) (o.le hL) (q.le hL) (z.le hL) (g.le hL) (D.le hL) (b0.le hL) b8 w3) zqY rfl fun _ σ _ _ hO m7 w5 => ?_
    have hL := hL.trans m7
    have b8 := b8.le m7
    obtain ⟨L6, L7, L8, L9, M0, M1, M2, M3, M4, M5, rfl, rfl, m8, m9, n0, n1, n2, n3⟩ := w5
    obtain ⟨M6, M7, rfl, -⟩ := m8.form
    obtain ⟨M8, M9, rfl, -⟩ := m9.form
    obtain ⟨N0, N1, rfl, -⟩ := n0.form
    obtain ⟨N2, N3, rfl, -⟩ := n1.form
    obtain ⟨N4, N5, rfl, -⟩ := n2.form
    obtain ⟨N6, N7, rfl, -⟩ := n3.form
    have hO := zrl9 hO
    cases hF
    have hO := hO.sel [4, 5, 6, 7, 8, 0]
    exact hP _ _ _ _ hO hL ⟨_, _, _, _, _, _, _, _, _, _, _, _, _, rfl, rfl, m8, m9, n0, n1, n2, n3, (S.le hL), (U.le hL), (V.le hL)⟩
   refine zbq (hs := [_, _, _, _]) hO (zbS (h.le hL) (o.le hL) (q.le hL) (z.le hL) (g.le hL) (D.le hL) (b0.le hL) b8 w4) zqY rfl fun _ σ _ _ hO n4 w6 => ?_
   have hL := hL.trans n4
   have b8 := b8.le n4
   obtain ⟨N8, N9, O0, O1, O2, w7, O3, w8, O4, w9, O5, x0, rfl, rfl, n5, g2, g3, g4, g5, g6, g7⟩ := w6
   obtain ⟨n6, n7, rfl, -⟩ := n5.form
   obtain ⟨x1, x2, rfl, -⟩ := g2.form
   obtain ⟨x3, x4, rfl, -⟩ := g3.form
   obtain ⟨x5, x6, rfl, -⟩ := g4.form
   obtain ⟨x7, x8, rfl, -⟩ := g5.form
   obtain ⟨y0, y1, rfl, -⟩ := g6.form
   obtain ⟨y2, y3, rfl, -⟩ := g7.form
   have hO := zrl10 hO
   refine zK hO 2 [] [(0, zrh W), (1, zrh G), (39, zrn n6 Y.1 n7), (41, .pointer (some ⟨G, 5, none⟩))] zq3 fun j => ?_
   refine zC hO (i := 0) rfl (off := 5) rfl rfl rfl rfl (Nat.le_of_ble_eq_true rfl) rfl fun σ hO => ?_
   have hO := zrl10 hO
   refine zf (zg (z3 (zk ?_)))
   obtain ⟨_, b3, y4, hO⟩ := n5.share hO (i := 4) rfl
   have hL := hL.trans b3
   have g2 := g2.le b3
   have g3 := g3.le b3
   have g4 := g4.le b3
   have g5 := g5.le b3
   have g6 := g6.le b3
   have g7 := g7.le b3
   have hO := zrl10 hO
   have hO := hO.sel [5, 6, 7, 8, 9, 0]
   exact ⟨x1, x2, Y.2.prog.Structs, x3, x4, Y.2.prog.Funcs, x5, x6, w7, Y.2.tree.Bodies, Y.2.tree.Main, x7, x8, w8, Y.2.tree.Points, Y.2.fn, y0, y1, w9, Y.2.vars, y2, y3, x0, Y.2.scope, q1.Field, n6, n7, Y.1, _, zrf zq0, hO, hL, g2, g3, g4, g5, g6, g7, y4, hF⟩
  refine zl (ze hO [] [(42, .bool ((I.Kind.toNat : Int) == 9))] [0, 1, 5, 15] zq4 fun j => ?_)
  refine zy hF rfl (fun hF => ?_) fun hF => ?_
  ·refine zl (zd hO 5 [5] [(44, zrh W), (48, zrg c5)] [0, 1, 5] (And.intro (And.intro rfl rfl) zq4) fun j => ?_)
   have hO := hO.sel [5, 6, 0, 1, 2, 3, 4]
   rcases z9 hF with ⟨O6, y5, hF⟩ | ⟨O7, y6, hF⟩
   ·refine zbs (hs := [_, _]) hO (zdt (h.le hL) (o.le hL) (q.le hL) (z.le hL) (g.le hL) (D.le hL) y5) zqY rfl fun _ σ _ _ hO y7 y8 => ?_
    have hL := hL.trans y7
    obtain ⟨rfl, rfl⟩ := y8
    have hO := zrl7 hO
    cases hF
    have hO := hO.sel [2, 3, 4, 5, 6, 0]
    exact hP _ _ _ _ hO hL ⟨_, _, _, _, _, _, _, _, _, _, _, _, _, rfl, rfl, (h.le hL), (o.le hL), (q.le hL), (z.le hL), (g.le hL), (D.le hL), (S.le hL), (U.le hL), (V.le hL)⟩
   refine zbq (hs := [_, _]) hO (zdt (h.le hL) (o.le hL) (q.le hL) (z.le hL) (g.le hL) (D.le hL) y6) zqY rfl fun _ σ _ _ hO y9 A0 => ?_
   have hL := hL.trans y9
   obtain ⟨rfl, rfl⟩ := A0
   have hO := zrl7 hO
   have hO := hO.sel [2, 3, 4, 5, 6, 0, 1]
   have hO := zrl7 hO
   refine zf (zd hO 4 [6] [(50, zrh G), (51, zrh W), (53, zrn d9 I.Kids f0)] [0, 1] (And.intro (And.intro rfl rfl) zq4) fun j => ?_)
   have hO := hO.sel [5, 6, 0, 1, 2, 3, 4]
   rcases z9 hF with ⟨O8, A1, hF⟩ | ⟨b1, A2, hF⟩
   ·refine zbs (hs := [_, _]) hO (zbS (h.le hL) (o.le hL) (q.le hL) (z.le hL) (g.le hL) (D.le hL) (b0.le hL) (RdT.nil Ty.u8 _) A1) zqY rfl fun _ σ _ _ hO A3 A4 => ?_
    have hL := hL.trans A3
    obtain ⟨O9, P0, P1, P2, P3, P4, P5, P6, P7, P8, rfl, rfl, n8, n9, o0, o1, o2, o3⟩ := A4
    obtain ⟨P9, Q0, rfl, -⟩ := n8.form
    obtain ⟨Q1, Q2, rfl, -⟩ := n9.form
    obtain ⟨Q3, Q4, rfl, -⟩ := o0.form
    obtain ⟨Q5, Q6, rfl, -⟩ := o1.form
    obtain ⟨Q7, Q8, rfl, -⟩ := o2.form
    obtain ⟨Q9, R0, rfl, -⟩ := o3.form
    have hO := zrl7 hO
    cases hF
    have hO := hO.sel [2, 3, 4, 5, 6, 0]
    exact hP _ _ _ _ hO hL ⟨_, _, _, _, _, _, _, _, _, _, _, _, _, rfl, rfl, n8, n9, o0, o1, o2, o3, (S.le hL), (U.le hL), (V.le hL)⟩
   refine zbq (hs := [_, _]) hO (zbS (h.le hL) (o.le hL) (q.le hL) (z.le hL) (g.le hL) (D.le hL) (b0.le hL) (RdT.nil Ty.u8 _) A2) zqY rfl fun _ σ _ _ hO A5 A6 => ?_
   have hL := hL.trans A5
   obtain ⟨R6, R7, R8, R9, S0, A7, S1, A8, S2, A9, S3, B0, rfl, rfl, o4, g8, g9, h0, h1, h2, h3⟩ := A6
   obtain ⟨B1, B2, rfl, -⟩ := o4.form
   obtain ⟨B3, B4, rfl, -⟩ := g8.form
   obtain ⟨B5, B6, rfl, -⟩ := g9.form
   obtain ⟨B7, B8, rfl, -⟩ := h0.form
   obtain ⟨B9, C0, rfl, -⟩ := h1.form
   obtain ⟨C1, C2, rfl, -⟩ := h2.form
   obtain ⟨C3, C4, rfl, -⟩ := h3.form
   have hO := zrl8 hO
   refine zd hO 2 [] [(56, .pointer (some ⟨G, 5, none⟩))] [0, 1, 54] zq3 fun j => ?_
   refine zC hO (i := 0) rfl (off := 5) rfl rfl rfl rfl (Nat.le_of_ble_eq_true rfl) rfl fun σ hO => ?_
   have hO := zrl8 hO
   refine zf (zg (z3 (zk ?_)))
   obtain ⟨_, b5, C5, hO⟩ := o4.share hO (i := 2) rfl
   have hL := hL.trans b5
   have g8 := g8.le b5
   have g9 := g9.le b5
   have h0 := h0.le b5
   have h1 := h1.le b5
   have h2 := h2.le b5
   have h3 := h3.le b5
   have hO := zrl8 hO
   have hO := hO.sel [3, 4, 5, 6, 7, 0]
   exact ⟨B3, B4, b1.2.prog.Structs, B5, B6, b1.2.prog.Funcs, B7, B8, A7, b1.2.tree.Bodies, b1.2.tree.Main, B9, C0, A8, b1.2.tree.Points, b1.2.fn, C1, C2, A9, b1.2.vars, C3, C4, B0, b1.2.scope, q1.Field, B1, B2, b1.1, _, zrf zq0, hO, hL, g8, g9, h0, h1, h2, h3, C5, hF⟩
  refine zl (ze hO [] [(57, .bool ((I.Kind.toNat : Int) == 3))] [0, 1, 5, 15] zq4 fun j => ?_)
  refine zy hF rfl (fun hF => ?_) fun hF => ?_
  ·refine zl (zd hO 5 [5] [(59, zrh W), (63, zrg c5)] [0, 1, 5] (And.intro (And.intro rfl rfl) zq4) fun j => ?_)
   have hO := hO.sel [5, 6, 0, 1, 2, 3, 4]
   rcases z9 hF with ⟨S4, C6, hF⟩ | ⟨S5, C7, hF⟩
   ·refine zbs (hs := [_, _]) hO (zdt (h.le hL) (o.le hL) (q.le hL) (z.le hL) (g.le hL) (D.le hL) C6) zqY rfl fun _ σ _ _ hO C8 C9 => ?_
    have hL := hL.trans C8
    obtain ⟨rfl, rfl⟩ := C9
    have hO := zrl7 hO
    cases hF
    have hO := hO.sel [2, 3, 4, 5, 6, 0]
    exact hP _ _ _ _ hO hL ⟨_, _, _, _, _, _, _, _, _, _, _, _, _, rfl, rfl, (h.le hL), (o.le hL), (q.le hL), (z.le hL), (g.le hL), (D.le hL), (S.le hL), (U.le hL), (V.le hL)⟩
   refine zbq (hs := [_, _]) hO (zdt (h.le hL) (o.le hL) (q.le hL) (z.le hL) (g.le hL) (D.le hL) C7) zqY rfl fun _ σ _ _ hO D0 D1 => ?_
   have hL := hL.trans D0
   obtain ⟨rfl, rfl⟩ := D1
   have hO := zrl7 hO
   have hO := hO.sel [2, 3, 4, 5, 6, 0, 1]
   have hO := zrl7 hO
   refine zf (zd hO 4 [6] [(65, zrh G), (66, zrh W), (68, zrn d9 I.Kids f0)] [0, 1] (And.intro (And.intro rfl rfl) zq4) fun j => ?_)
   refine zbG (T := Ty.u8) (l := ([(1 : UInt8), (1 : UInt8)] : List UInt8)) (cs := [.int .u8 1, .int .u8 1]) hO rfl ⟨[.int .u8 1], _, rfl, rfl, ⟨[.int .u8 1], _, rfl, rfl, rfl⟩⟩ rfl (by decide) fun _ σ S6 o5 hO => ?_
   obtain ⟨S7, S8, rfl, -⟩ := o5.form
   have hO := zrl8 hO
   obtain ⟨_, D2, b9, hO⟩ := o5.share hO (i := 7) rfl
   have hL := hL.trans D2
   have hO := zrl8 hO
   have hO := hO.sel [5, 6, 7, 0, 1, 2, 3, 4]
   rcases z9 hF with ⟨S9, D3, hF⟩ | ⟨Z, D4, hF⟩
   ·refine zbs (hs := [_, _, _]) hO (zbS (h.le hL) (o.le hL) (q.le hL) (z.le hL) (g.le hL) (D.le hL) (b0.le hL) b9 D3) zqY rfl fun _ σ _ _ hO o6 D5 => ?_
    have hL := hL.trans o6
    have b9 := b9.le o6
    obtain ⟨T0, T1, T2, T3, T4, T5, T6, T7, T8, T9, rfl, rfl, o7, o8, o9, p3, p4, p5⟩ := D5
    obtain ⟨U0, U1, rfl, -⟩ := o7.form
    obtain ⟨U2, U3, rfl, -⟩ := o8.form
    obtain ⟨U4, U5, rfl, -⟩ := o9.form
    obtain ⟨U6, U7, rfl, -⟩ := p3.form
    obtain ⟨U8, U9, rfl, -⟩ := p4.form
    obtain ⟨V0, V1, rfl, -⟩ := p5.form
    have hO := zrl8 hO
    cases hF
    have hO := hO.sel [3, 4, 5, 6, 7, 0]
    exact hP _ _ _ _ hO hL ⟨_, _, _, _, _, _, _, _, _, _, _, _, _, rfl, rfl, o7, o8, o9, p3, p4, p5, (S.le hL), (U.le hL), (V.le hL)⟩
   refine zbq (hs := [_, _, _]) hO (zbS (h.le hL) (o.le hL) (q.le hL) (z.le hL) (g.le hL) (D.le hL) (b0.le hL) b9 D4) zqY rfl fun _ σ _ _ hO p6 D6 => ?_
   have hL := hL.trans p6
   have b9 := b9.le p6
   obtain ⟨V2, V3, V4, V5, V6, D7, V7, D8, V8, D9, V9, E0, rfl, rfl, p7, h4, h5, h9, i0, i1, i2⟩ := D6
   obtain ⟨p8, p9, rfl, -⟩ := p7.form
   obtain ⟨E1, E2, rfl, -⟩ := h4.form
   obtain ⟨E3, E4, rfl, -⟩ := h5.form
   obtain ⟨E5, E6, rfl, -⟩ := h9.form
   obtain ⟨E7, E8, rfl, -⟩ := i0.form
   obtain ⟨E9, F0, rfl, -⟩ := i1.form
   obtain ⟨F1, F2, rfl, -⟩ := i2.form
   have hO := zrl9 hO
   refine zK hO 2 [] [(0, zrh W), (1, zrh G), (70, zrn p8 Z.1 p9), (72, .pointer (some ⟨G, 5, none⟩))] zq3 fun j => ?_
   refine zC hO (i := 0) rfl (off := 5) rfl rfl rfl rfl (Nat.le_of_ble_eq_true rfl) rfl fun σ hO => ?_
   have hO := zrl9 hO
   refine zf (zg (z3 (zk ?_)))
   obtain ⟨_, b6, F3, hO⟩ := p7.share hO (i := 3) rfl
   have hL := hL.trans b6
   have h4 := h4.le b6
   have h5 := h5.le b6
   have h9 := h9.le b6
   have i0 := i0.le b6
   have i1 := i1.le b6
   have i2 := i2.le b6
   have hO := zrl9 hO
   have hO := hO.sel [4, 5, 6, 7, 8, 0]
   exact ⟨E1, E2, Z.2.prog.Structs, E3, E4, Z.2.prog.Funcs, E5, E6, D7, Z.2.tree.Bodies, Z.2.tree.Main, E7, E8, D8, Z.2.tree.Points, Z.2.fn, E9, F0, D9, Z.2.vars, F1, F2, E0, Z.2.scope, q1.Field, p8, p9, Z.1, _, zrf zq0, hO, hL, h4, h5, h9, i0, i1, i2, F3, hF⟩
  refine zl (ze hO [] [(73, .bool ((I.Kind.toNat : Int) == 4))] [0, 1, 5] zq3 fun j => ?_)
  refine zy hF rfl (fun hF => ?_) fun hF => ?_
  ·refine zl (zd hO 5 [5] [(75, zrh W), (79, zrg c5)] [0, 1, 5] (And.intro (And.intro rfl rfl) zq4) fun j => ?_)
   have hO := hO.sel [5, 6, 0, 1, 2, 3, 4]
   rcases z9 hF with ⟨W0, F4, hF⟩ | ⟨W1, F5, hF⟩
   ·refine zbs (hs := [_, _]) hO (zdt (h.le hL) (o.le hL) (q.le hL) (z.le hL) (g.le hL) (D.le hL) F4) zqY rfl fun _ σ _ _ hO F6 F7 => ?_
    have hL := hL.trans F6
    obtain ⟨rfl, rfl⟩ := F7
    have hO := zrl7 hO
    cases hF
    have hO := hO.sel [2, 3, 4, 5, 6, 0]
    exact hP _ _ _ _ hO hL ⟨_, _, _, _, _, _, _, _, _, _, _, _, _, rfl, rfl, (h.le hL), (o.le hL), (q.le hL), (z.le hL), (g.le hL), (D.le hL), (S.le hL), (U.le hL), (V.le hL)⟩
   refine zbq (hs := [_, _]) hO (zdt (h.le hL) (o.le hL) (q.le hL) (z.le hL) (g.le hL) (D.le hL) F5) zqY rfl fun _ σ _ _ hO F8 F9 => ?_
   have hL := hL.trans F8
   obtain ⟨rfl, rfl⟩ := F9
   have hO := zrl7 hO
   have hO := hO.sel [2, 3, 4, 5, 6, 0, 1]
   have hO := zrl7 hO
   refine zf (zl (zcw (zK hO 8 [5, 6] [(0, zrh W), (1, zrh G), (5, zrh b4), (81, zrh G), (82, zrh W), (86, zrg c5), (88, .string I.Field)] (And.intro (And.intro rfl rfl) (And.intro (And.intro rfl rfl) zq6)) fun j => ?_)))
   have hO := hO.sel [5, 6, 0, 1, 2, 3, 4]
   rcases z9 hF with ⟨W2, G0, hF⟩ | ⟨G1, G2, hF⟩
   ·refine zbs (hs := [_, _]) hO (zhM (h.le hL) (o.le hL) (q.le hL) (z.le hL) (g.le hL) (D.le hL) G0) zqY rfl fun _ σ _ _ hO G3 G4 => ?_
    have hL := hL.trans G3
    obtain ⟨rfl, rfl⟩ := G4
    have hO := zrl7 hO
    cases hF
    have hO := hO.sel [2, 3, 4, 5, 6, 0]
    exact hP _ _ _ _ hO hL ⟨_, _, _, _, _, _, _, _, _, _, _, _, _, rfl, rfl, (h.le hL), (o.le hL), (q.le hL), (z.le hL), (g.le hL), (D.le hL), (S.le hL), (U.le hL), (V.le hL)⟩
   refine zbq (hs := [_, _]) hO (zhM (h.le hL) (o.le hL) (q.le hL) (z.le hL) (g.le hL) (D.le hL) G2) zqY rfl fun _ σ _ _ hO G5 G6 => ?_
   have hL := hL.trans G5
   obtain ⟨rfl, rfl⟩ := G6
   have hO := zrl7 hO
   have hO := hO.sel [2, 3, 4, 5, 6, 0, 1]
   have hO := zrl7 hO
   refine zd hO 2 [] [(91, .pointer (some ⟨G, 3, none⟩))] [0, 1, 5, 89] zq4 fun j => ?_
   refine zC hO (i := 5) rfl (off := 3) rfl rfl rfl rfl (Nat.le_of_ble_eq_true rfl) rfl fun σ hO => ?_
   have hO := zrl7 hO
   refine zf (zd hO 4 [6] [(92, zrh G), (93, zrh W), (95, zrn d9 I.Kids f0)] [0, 1] (And.intro (And.intro rfl rfl) zq4) fun j => ?_)
   refine zbG (T := Ty.u8) (l := ([(1 : UInt8)] : List UInt8)) (cs := [.int .u8 1]) hO rfl ⟨[.int .u8 1], _, rfl, rfl, rfl⟩ rfl (by decide) fun _ σ W3 q2 hO => ?_
   obtain ⟨W4, W5, rfl, -⟩ := q2.form
   have hO := zrl8 hO
   obtain ⟨_, G7, c0, hO⟩ := q2.share hO (i := 7) rfl
   have hL := hL.trans G7
   have hO := zrl8 hO
   have hO := hO.sel [5, 6, 7, 0, 1, 2, 3, 4]
   rcases z9 hF with ⟨W6, G8, hF⟩ | ⟨b2, G9, hF⟩
   ·refine zbs (hs := [_, _, _]) hO (zbS (h.le hL) (o.le hL) (q.le hL) (z.le hL) (g.le hL) (D.le hL) (b0.le hL) c0 G8) zqY rfl fun _ σ _ _ hO q3 H0 => ?_
    have hL := hL.trans q3
    have c0 := c0.le q3
    obtain ⟨W7, W8, W9, X0, X1, X2, X3, X4, X5, X6, rfl, rfl, q4, q5, q6, q7, q8, q9⟩ := H0
    obtain ⟨X7, X8, rfl, -⟩ := q4.form
    obtain ⟨X9, Y0, rfl, -⟩ := q5.form
    obtain ⟨Y1, Y2, rfl, -⟩ := q6.form
    obtain ⟨Y3, Y4, rfl, -⟩ := q7.form
    obtain ⟨Y5, Y6, rfl, -⟩ := q8.form
    obtain ⟨Y7, Y8, rfl, -⟩ := q9.form
    have hO := zrl8 hO
    cases hF
    have hO := hO.sel [3, 4, 5, 6, 7, 0]
    exact hP _ _ _ _ hO hL ⟨_, _, _, _, _, _, _, _, _, _, _, _, _, rfl, rfl, q4, q5, q6, q7, q8, q9, (S.le hL), (U.le hL), (V.le hL)⟩
   refine zbq (hs := [_, _, _]) hO (zbS (h.le hL) (o.le hL) (q.le hL) (z.le hL) (g.le hL) (D.le hL) (b0.le hL) c0 G9) zqY rfl fun _ σ _ _ hO r0 H1 => ?_
   have hL := hL.trans r0
   have c0 := c0.le r0
   obtain ⟨Y9, Z0, Z1, Z2, Z3, H2, Z4, H3, Z5, H4, Z6, H5, rfl, rfl, r1, i3, i4, i5, i6, i7, i8⟩ := H1
   obtain ⟨H6, H7, rfl, -⟩ := r1.form
   obtain ⟨H8, H9, rfl, -⟩ := i3.form
   obtain ⟨I0, I1, rfl, -⟩ := i4.form
   obtain ⟨I2, I3, rfl, -⟩ := i5.form
   obtain ⟨I4, I5, rfl, -⟩ := i6.form
   obtain ⟨I6, I7, rfl, -⟩ := i7.form
   obtain ⟨I8, I9, rfl, -⟩ := i8.form
   have hO := zrl9 hO
   refine zd hO 2 [] [(99, .pointer (some ⟨G, 5, none⟩))] [0, 1, 97] zq3 fun j => ?_
   refine zC hO (i := 0) rfl (off := 5) rfl rfl rfl rfl (Nat.le_of_ble_eq_true rfl) rfl fun σ hO => ?_
   have hO := zrl9 hO
   refine zf (zg (z3 (zk ?_)))
   obtain ⟨_, b7, J0, hO⟩ := r1.share hO (i := 3) rfl
   have hL := hL.trans b7
   have i3 := i3.le b7
   have i4 := i4.le b7
   have i5 := i5.le b7
   have i6 := i6.le b7
   have i7 := i7.le b7
   have i8 := i8.le b7
   have hO := zrl9 hO
   have hO := hO.sel [4, 5, 6, 7, 8, 0]
   exact ⟨H8, H9, b2.2.prog.Structs, I0, I1, b2.2.prog.Funcs, I2, I3, H2, b2.2.tree.Bodies, b2.2.tree.Main, I4, I5, H3, b2.2.tree.Points, b2.2.fn, I6, I7, H4, b2.2.vars, I8, I9, H5, b2.2.scope, G1, H6, H7, b2.1, _, zrf zq0, hO, hL, i3, i4, i5, i6, i7, i8, J0, hF⟩
  refine zF (zg (z3 (zk ?_)))
  have hO := hO.sel [0, 1, 2, 3, 4, 5]
  exact ⟨r3, r4, q0.prog.Structs, r5, r6, q0.prog.Funcs, r7, r8, f8, q0.tree.Bodies, q0.tree.Main, r9, t0, f9, q0.tree.Points, q0.fn, m1, m2, g0, q0.vars, t1, t2, g1, q0.scope, q1.Field, t3, t4, q1.Kids, _, zrf zq0, hO, hL, (h.le hL), (o.le hL), (q.le hL), (z.le hL), (g.le hL), (D.le hL), (S.le hL), hF⟩
 rintro e σ ⟨j0, j1, f1, j2, j3, f2, j4, j5, j6, f3, j7, j8, j9, k0, f4, k1, k2, k3, k4, f5, k5, k6, k7, f6, k8, k9, l0, f7, _, hA, hO, hL, J1, J2, J3, J4, J5, J6, J7, hF⟩
 rw [← zV _ _ hA]
 unfold zez at hF
 refine zg ?_
 cases hF
 refine (hQ _ _ _ _ _ rfl hO hL ?_).2
 exact ⟨_, _, _, _, _, _, _, _, _, _, _, _, _, rfl, rfl, J1, J2, J3, J4, J5, J6, J7, (U.le hL), (V.le hL)⟩
theorem zj3 {τ : Hp} {q0 : zb} {h : Nat} {c8 c9 d0 : Value} {b2 : Ob} {d5 : Value} {b3 : Ob} {d6 : Value} {b5 : Ob} {d7 : Value} {b6 : Ob} {q1 : zh} {b8 : Nat} {l9 m0 m1 : Value} {g : zi} {p4 p5 m2 : Value} (b1 : RdT zx τ c8 q0.prog.Structs) (Y : RdT zr τ c9 q0.prog.Funcs) (c0 : za zp 59 τ d0 q0.tree.Bodies b2) (c1 : za zo 87 τ d5 q0.tree.Points b3) (b7 : za zq 82 τ d6 q0.vars b5) (c2 : za (Ty.int .i64) 3 τ d7 q0.scope b6) (g4 : RdT zR τ l9 q1.Kids) (f1 : RdT zN τ m0 q1.Body) (f2 : RdT zN τ m1 q1.Else) (l4 : RdT z5 τ p4 g.Kids) (t8 : RdT zX τ p5 g.Body) (t0 : RdT zX τ m2 g.Else) {rr : Except (Value × zb × zh) (zb × zh)} (hF : zgD q0 q1 g = some rr) :
  zbu Try.prog 89 #[.pointer (some ⟨h, 0, none⟩), .pointer (some ⟨b8, 0, none⟩), .agg #[.int .u8 g.Kind.toNat, .int .i64 g.Line, .string g.Name, .string g.Field, .string g.Call, .int .u8 g.Type_.Kind.toNat, .int .i64 g.Type_.N, .string g.Type_.Name, p4, p5, m2]] τ [zn h c8 c9 d0 q0.tree.Main d5 q0.fn d6 d7, b2, b3, b5, b6, zbP b8 q1.Kind.toNat q1.Point q1.Var q1.Field q1.Call l9 m0 m1] (fun v τ' vs' => match (generalizing := false) rr with | .ok rr => ∃ (o q z : Value) (D : Ob) (G : Value) (I : Ob) (S : Value) (U : Ob) (V : Value) (W : Ob) (h2 h3 h4 : Value), v = .tuple #[] ∧ vs' = [zn h o q z rr.1.tree.Main G rr.1.fn S V, D, I, U, W, zbP b8 rr.2.Kind.toNat rr.2.Point rr.2.Var rr.2.Field rr.2.Call h2 h3 h4] ∧ RdT zx τ' o rr.1.prog.Structs ∧ RdT zr τ' q rr.1.prog.Funcs ∧ za zp 59 τ' z rr.1.tree.Bodies D ∧ za zo 87 τ' G rr.1.tree.Points I ∧ za zq 82 τ' S rr.1.vars U ∧ za (Ty.int .i64) 3 τ' V rr.1.scope W ∧ RdT zR τ' h2 rr.2.Kids ∧ RdT zN τ' h3 rr.2.Body ∧ RdT zN τ' h4 rr.2.Else | .error _ => False) (fun ch τ' vs' => match (generalizing := false) rr with | .ok _ => False | .error ee => ∃ (o q z : Value) (D : Ob) (G : Value) (I : Ob) (S : Value) (U : Ob) (V : Value) (W : Ob) (h2 h3 h4 : Value), ch = [{ v := ee.1, recovered := false }] ∧ vs' = [zn h o q z ee.2.1.tree.Main G ee.2.1.fn S V, D, I, U, W, zbP b8 ee.2.2.Kind.toNat ee.2.2.Point ee.2.2.Var ee.2.2.Field ee.2.2.Call h2 h3 h4] ∧ RdT zx τ' o ee.2.1.prog.Structs ∧ RdT zr τ' q ee.2.1.prog.Funcs ∧ za zp 59 τ' z ee.2.1.tree.Bodies D ∧ za zo 87 τ' G ee.2.1.tree.Points I ∧ za zq 82 τ' S ee.2.1.vars U ∧ za (Ty.int .i64) 3 τ' V ee.2.1.scope W ∧ RdT zR τ' h2 ee.2.2.Kids ∧ RdT zN τ' h3 ee.2.2.Body ∧ RdT zN τ' h4 ee.2.2.Else) := by
 obtain ⟨m3, m4, rfl, -⟩ := b1.form
 obtain ⟨i6, i7, rfl, -⟩ := Y.form
 obtain ⟨m5, m6, rfl, -⟩ := c0.form
 obtain ⟨m7, m8, rfl, -⟩ := c1.form
 obtain ⟨i8, i9, rfl, -⟩ := b7.form
 obtain ⟨m9, n0, rfl, -⟩ := c2.form
 obtain ⟨n1, n2, rfl, -⟩ := g4.form
 obtain ⟨n3, n4, rfl, -⟩ := f1.form
 obtain ⟨n5, n6, rfl, -⟩ := f2.form
 obtain ⟨j0, j1, rfl, -⟩ := l4.form
 obtain ⟨l5, l6, rfl, -⟩ := t8.form
 obtain ⟨j2, j3, rfl, -⟩ := t0.form
 refine zcH (args := [.pointer (some ⟨h, 0, none⟩), .pointer (some ⟨b8, 0, none⟩), .agg #[.int .u8 g.Kind.toNat, .int .i64 g.Line, .string g.Name, .string g.Field, .string g.Call, .int .u8 g.Type_.Kind.toNat, .int .i64 g.Type_.N, .string g.Type_.Name, (.slice j0 g.Kids.length j1), (.slice l5 g.Body.length l6), (.slice j2 g.Else.length j3)]]) hm Try.func89 s89 rfl fun w0 σ hP hO Q hQ => ?_
 unfold zgD at hF
 have hL := Hp.le.refl τ
 show wpn _ _ a89.body _ _ _
 unfold a89
 dsimp only
 refine zbQ (n := 11) hO rfl rfl fun b4 σ hO => ?_
 have hO := zrl7 hO
 refine zf (zl (ze hO [6] [(12, .bool (!(zP g.Name zqP)))] [0, 1, 5] (And.intro (And.intro rfl rfl) zq3) fun j => ?_))
 refine zdD (fun e' σ' => ∃ (n7 : Option Addr) (n8 : Nat) (n9 : Ob) (h5 : List zM) (o1 : Option Addr) (o2 : Nat) (o3 : Ob) (h6 : List zH) (o4 : Option Addr) (o5 : Nat) (o6 : Ob) (h7 : List zI) (o7 : Option Addr) (o8 : Nat) (o9 : Ob) (h8 : List Int) (g5 : Int) (τ' : Hp), agr [(0, zrh h), (1, zrh b8), (5, zrh b4)] e' ∧ Obs τ' σ' [zn h (zrn m3 q0.prog.Structs m4) (zrn i6 q0.prog.Funcs i7) (zrn n7 h5 n8) q0.tree.Main (zrn o1 h6 o2) q0.fn (zrn o4 h7 o5) (zrn o7 h8 o8), n9, o3, o6, o9, zbP b8 (q1.Kind.toNat : Int) q1.Point g5 q1.Field q1.Call (zrn n1 q1.Kids n2) (zrn n3 q1.Body n4) (zrn n5 q1.Else n6), zeH b4 (g.Kind.toNat : Int) g.Line g.Name g.Field g.Call (g.Type_.Kind.toNat : Int) g.Type_.N g.Type_.Name (zrn j0 g.Kids j1) (zrn l5 g.Body l6) (zrn j2 g.Else j3)] ∧ Hp.le τ τ' ∧ za zp 59 τ' (zrn n7 h5 n8) h5 n9 ∧ za zo 87 τ' (zrn o1 h6 o2) h6 o3 ∧ za zq 82 τ' (zrn o4 h7 o5) h7 o6 ∧ za (Ty.int .i64) 3 τ' (zrn o7 h8 o8) h8 o9 ∧ zfr q0 q1 g h5 h6 h7 h8 g5 = some rr) ?_ ?_
 ·refine zbC (zy hF rfl (fun hF => ?_) fun hF => ?_)
  ·refine zl (zd hO 4 [6] [(13, zrh b8), (14, zrh h), (16, .string g.Name)] [0, 1, 5] (And.intro (And.intro rfl rfl) zq5) fun j => ?_)
   have hO := hO.sel [5, 6, 0, 1, 2, 3, 4]
   rcases z9 hF with ⟨A7, t9, hF⟩ | ⟨p6, u0, hF⟩
   ·refine zbs (hs := [_, _]) hO (zfo (b1.le hL) (Y.le hL) (c0.le hL) (c1.le hL) (b7.le hL) (c2.le hL) t9) zqY rfl fun _ σ _ _ hO u1 u2 => ?_
    have hL := hL.trans u1
    obtain ⟨rfl, rfl⟩ := u2
    have hO := zrl7 hO
    cases hF
    have hO := hO.sel [2, 3, 4, 5, 6, 0]
    exact hP _ _ _ _ hO hL ⟨_, _, _, _, _, _, _, _, _, _, _, _, _, rfl, rfl, (b1.le hL), (Y.le hL), (c0.le hL), (c1.le hL), (b7.le hL), (c2.le hL), (g4.le hL), (f1.le hL), (f2.le hL)⟩
   refine zbq (hs := [_, _]) hO (zfo (b1.le hL) (Y.le hL) (c0.le hL) (c1.le hL) (b7.le hL) (c2.le hL) u0) zqY rfl fun _ σ _ _ hO u3 u4 => ?_
   have hL := hL.trans u3
   obtain ⟨rfl, rfl⟩ := u4
   have hO := zrl7 hO
   have hO := hO.sel [2, 3, 4, 5, 6, 0, 1]
   have hO := zrl7 hO
   refine zd hO 2 [] [(19, .pointer (some ⟨b8, 2, none⟩))] [0, 1, 5, 17] zq4 fun j => ?_
   refine zC hO (i := 5) rfl (off := 2) rfl rfl rfl rfl (Nat.le_of_ble_eq_true rfl) rfl fun σ hO => ?_
   have hO := zrl7 hO
   refine zf (zcw (zd hO 8 [0, 5] [(23, zrn i8 q0.vars i9), (27, zrg p6)] [0, 1, 5] (And.intro (And.intro rfl rfl) (And.intro (And.intro rfl rfl) zq4)) fun j => ?_))
   obtain ⟨l7, u5, hF⟩ := zrm hF
   refine zd3 (T := zq) hO (b7.le hL) (i := 3) rfl rfl rfl u5 (by decide) fun a474 _ u6 u7 A8 => ?_
   have u9 := u6
   obtain ⟨A9, rfl, g0⟩ := u9
   obtain ⟨B0, B1, rfl, -⟩ := g0.form
   refine zd hO 1 [] [(29, .pointer (some (a474.add 1)))] [0, 1, 5] zq3 fun j => ?_
   refine zE rfl (u7.part (off := 1) (ds := [.int .u8 (l7.Type_.Kind.toNat : Int), .int .i64 l7.Type_.N, .string l7.Type_.Name]) rfl rfl) ?_
   obtain ⟨B2, v2, hF⟩ := zrm hF
   refine zL hO (zgx v2) rfl fun _ σ _ _ hO p7 v3 => ?_
   have hL := hL.trans p7
   have g0 := g0.le p7
   obtain ⟨rfl, rfl⟩ := v3
   have hO := zrl7 hO
   rcases z9 hF with ⟨B3, v4, hF⟩ | ⟨B4, v5, hF⟩
   ·refine zbV hO (zbk v4) zqY rfl fun _ σ _ _ hO p8 v6 => ?_
    have hL := hL.trans p8
    have g0 := g0.le p8
    obtain ⟨rfl, rfl⟩ := v6
    have hO := zrl7 hO
    cases hF
    have hO := hO.sel [0, 1, 2, 3, 4, 5]
    exact hP _ _ _ _ hO hL ⟨_, _, _, _, _, _, _, _, _, _, _, _, _, rfl, rfl, (b1.le hL), (Y.le hL), (c0.le hL), (c1.le hL), (b7.le hL), (c2.le hL), (g4.le hL), (f1.le hL), (f2.le hL)⟩
   refine zb0 hO (zbk v5) zqY rfl fun _ σ _ _ hO p9 v7 => ?_
   have hL := hL.trans p9
   have g0 := g0.le p9
   obtain ⟨rfl, rfl⟩ := v7
   have hO := zrl7 hO
   refine zf (zg (zk ?_))
   exact ⟨m5, m6, b2, q0.tree.Bodies, m7, m8, b3, q0.tree.Points, i8, i9, b5, q0.vars, m9, n0, b6, q0.scope, p6, _, zrf zq1, hO, hL, (c0.le hL), (c1.le hL), (b7.le hL), (c2.le hL), hF⟩
  refine zF (zg (zk ?_))
  exact ⟨m5, m6, b2, q0.tree.Bodies, m7, m8, b3, q0.tree.Points, i8, i9, b5, q0.vars, m9, n0, b6, q0.scope, q1.Var, _, zrf zq1, hO, hL, (c0.le hL), (c1.le hL), (b7.le hL), (c2.le hL), hF⟩
 rintro e σ ⟨n7, n8, n9, h5, o1, o2, o3, h6, o4, o5, o6, h7, o7, o8, o9, h8, g5, _, hA, hO, hL, g6, g7, g8, g9, hF⟩
 rw [← zV _ _ hA]
 unfold zfr at hF
 refine zd hO 4 [6] [(33, zrh b8), (34, zrh h), (36, .string g.Call)] [0, 1, 5] (And.intro (And.intro rfl rfl) zq5) fun j => ?_
 obtain ⟨i5, y5, hF⟩ := zrm hF
 have hO := hO.sel [5, 6, 0, 1, 2, 3, 4]
 refine zce (hs := [_, _]) hO (zn6 (q0 := (⟨(⟨q0.prog.Structs, q0.prog.Funcs⟩ : zm), (⟨h5, q0.tree.Main, h6⟩ : zw), q0.fn, h7, h8⟩ : zb)) (b1.le hL) (Y.le hL) g6 g7 g8 g9 y5) rfl fun _ σ _ _ hO k9 y6 => ?_
 have hL := hL.trans k9
 have g6 := g6.le k9
 have g7 := g7.le k9
 have g8 := g8.le k9
 have g9 := g9.le k9
 obtain ⟨rfl, rfl⟩ := y6
 have hO := zrl7 hO
 have hO := hO.sel [2, 3, 4, 5, 6, 0, 1]
 have hO := zrl7 hO
 refine zd hO 2 [] [(39, .pointer (some ⟨b8, 4, none⟩))] [0, 1, 5, 37] zq4 fun j => ?_
 refine zC hO (i := 5) rfl (off := 4) rfl rfl rfl rfl (Nat.le_of_ble_eq_true rfl) rfl fun σ hO => ?_
 have hO := zrl7 hO
 refine zf (zd hO 5 [5] [(44, .bool (decide (i5 ≥ 0)))] [0, 1, 5] (And.intro (And.intro rfl rfl) zq3) fun j => ?_)
 rcases z9 hF with ⟨H1, y7, hF⟩ | ⟨H2, y8, hF⟩
 ·refine zbV hO (zbk y7) zqY rfl fun _ σ _ _ hO l0 y9 => ?_
  have hL := hL.trans l0
  have g6 := g6.le l0
  have g7 := g7.le l0
  have g8 := g8.le l0
  have g9 := g9.le l0
  obtain ⟨rfl, rfl⟩ := y9
  have hO := zrl7 hO
  cases hF
  have hO := hO.sel [0, 1, 2, 3, 4, 5]
  exact hP _ _ _ _ hO hL ⟨_, _, _, _, _, _, _, _, _, _, _, _, _, rfl, rfl, (b1.le hL), (Y.le hL), g6, g7, g8, g9, (g4.le hL), (f1.le hL), (f2.le hL)⟩
 refine zb0 hO (zbk y8) zqY rfl fun _ σ _ _ hO l1 A0 => ?_
 have hL := hL.trans l1
 have g6 := g6.le l1
 have g7 := g7.le l1
 have g8 := g8.le l1
 have g9 := g9.le l1
 obtain ⟨rfl, rfl⟩ := A0
 have hO := zrl7 hO
 refine zf (zcw (zd hO 9 [0, 5] [(49, .pointer (some ⟨h, 1, none⟩)), (50, zrn i6 q0.prog.Funcs i7), (53, .pointer (some ⟨b8, 4, none⟩)), (54, zrg i5)] [0, 1, 5] (And.intro (And.intro rfl rfl) (And.intro (And.intro rfl rfl) zq6)) fun j => ?_))
 obtain ⟨X, A1, hF⟩ := zrm hF
 refine zO (T := zr) (Y.le hL) hO.base rfl rfl A1 (by decide) fun a72 _ A2 t3 => ?_
 obtain ⟨H3, H4, rfl, q2, t4⟩ := A2
 obtain ⟨l2, l3, rfl, -⟩ := q2.form
 obtain ⟨t5, t6, rfl, -⟩ := t4.form
 refine zE rfl ((t3.le hO.base).all rfl) ?_
 refine zcp (zbl hO fun t7 σ hO => ?_)
 have hO := zrl8 hO
 refine zf (zcj ⟨(zbp rfl ((t3.le hO.base).all rfl) rfl), (zbp rfl (hO.val (i := 5) (off := 4) (agg := false) (n := 1) rfl rfl) rfl), (zbp rfl (hO.val (i := 0) (off := 1) (agg := false) (n := 1) rfl rfl) rfl), trivial⟩ ?_)
 refine zC hO (i := 7) rfl (off := 0) rfl rfl rfl rfl (Nat.le_of_ble_eq_true rfl) rfl fun σ hO => ?_
 have hO := zrl8 hO
 refine zf (ze hO [] [(7, .slice none 0 0)] [0, 1, 5, 6] zq4 fun j => ?_)
 refine zl (ze hO [7] [(58, zrn l2 X.Params l3), (59, zrg (X.Params.length : Int)), (60, zrg 0)] [0, 1, 5, 6, 7] (And.intro (And.intro rfl rfl) zq7) fun j => ?_)
 refine zY ?_
 have hO := hO.no
 have hO := zrl9 hO
 refine zbH (fun (n : Nat) e' σ' => ∃ (j4 : Option Addr) (j5 : Nat) (j6 : Ob) (f3 : List zM) (j7 : Option Addr) (j8 : Nat) (j9 : Ob) (f4 : List zH) (k0 : Option Addr) (k1 : Nat) (k2 : Ob) (f5 : List zI) (k3 : Option Addr) (k4 : Nat) (k5 : Ob) (f6 : List Int) (h9 : Option Addr) (i0 : Nat) (l8 : Ob) (d8 : List UInt8) (g1 : Int) (τ' : Hp), agr [(0, zrh h), (1, zrh b8), (5, zrh b4), (6, zrh t7), (7, zrn h9 d8 i0), (58, zrn l2 X.Params l3), (59, zrg (X.Params.length : Int)), (60, zrg g1)] e' ∧ Obs τ' σ' [zn h (zrn m3 q0.prog.Structs m4) (zrn i6 q0.prog.Funcs i7) (zrn j4 f3 j5) q0.tree.Main (zrn j7 f4 j8) q0.fn (zrn k0 f5 k1) (zrn k3 f6 k4), j6, j9, k2, k5, zbP b8 (q1.Kind.toNat : Int) q1.Point g5 q1.Field i5 (zrn n1 q1.Kids n2) (zrn n3 q1.Body n4) (zrn n5 q1.Else n6), zeH b4 (g.Kind.toNat : Int) g.Line g.Name g.Field g.Call (g.Type_.Kind.toNat : Int) g.Type_.N g.Type_.Name (zrn j0 g.Kids j1) (zrn l5 g.Body l6) (zrn j2 g.Else j3), zec t7 X.Name X.Line (zrn l2 X.Params l3) (X.Result.Kind.toNat : Int) X.Result.N X.Result.Name (zrn t5 X.Body t6), l8] ∧ Hp.le τ τ' ∧ za zp 59 τ' (zrn j4 f3 j5) f3 j6 ∧ za zo 87 τ' (zrn j7 f4 j8) f4 j9 ∧ za zq 82 τ' (zrn k0 f5 k1) f5 k2 ∧ za (Ty.int .i64) 3 τ' (zrn k3 f6 k4) f6 k5 ∧ RdT zb2 τ' (zrn l2 X.Params l3) X.Params ∧ RdT zX τ' (zrn t5 X.Body t6) X.Body ∧ za Ty.u8 5 τ' (zrn h9 d8 i0) d8 l8 ∧ RdT zb2 τ' (zrn l2 X.Params l3) X.Params ∧ zfe q0 q1 g g5 i5 X n f3 f4 f5 f6 d8 g1 = some rr) big ⟨n7, n8, n9, h5, o1, o2, o3, h6, o4, o5, o6, h7, o7, o8, o9, h8, none, 0, none, [], 0, _, zrf zq6, hO, hL, g6, g7, g8, g9, q2, t4, za.nil _ _ _, q2, hF⟩ ?_
 clear hF hO hL
 rintro k6 e σ ⟨j4, j5, j6, f3, j7, j8, j9, f4, k0, k1, k2, f5, k3, k4, k5, f6, h9, i0, l8, d8, g1, _, hA, hO, hL, i1, i2, i3, i4, Z, b0, q3, q4, hF⟩
 rw [← zV _ _ hA]
 cases k6 with
 | zero => exact nomatch (show none = some rr from hF)
 | succ k6 =>
 replace hF : zfE (zfe q0 q1 g g5 i5 X k6) q0 q1 g g5 i5 X f3 f4 f5 f6 d8 g1 = some rr := hF
 unfold zfE at hF
 refine ze hO [] [(61, .bool (decide (g1 < (X.Params.length : Int))))] [0, 1, 5, 6, 7, 58, 59, 60] zq8 fun j => ?_
 refine zy hF rfl (fun hF => ?_) fun hF => ?_
 ·refine zF (zY ?_)
  obtain ⟨f9, v8, hF⟩ := zrm hF
  refine zO (T := zb2) q4 hO.base rfl rfl v8 (by decide) fun a357 _ v9 w2 => ?_
  obtain rfl : _ = ([.string f9.Name, .int .u8 f9.Type_.Kind.toNat, .int .i64 f9.Type_.N, .string f9.Type_.Name] : List Value) := v9
  refine zE rfl ((w2.le hO.base).all rfl) ?_
  refine zbl hO fun B5 σ hO => ?_
  have hO := zrl10 hO
  refine zC hO (i := 9) rfl (off := 0) rfl rfl rfl rfl (Nat.le_of_ble_eq_true rfl) rfl fun σ hO => ?_
  have hO := zrl10 hO
  refine zf (zbd (zd hO 4 [9] [(64, zrn h9 d8 i0), (67, .int .u8 (f9.Type_.Kind.toNat : Int))] [0, 1, 5, 6, 58, 59, 60] (And.intro (And.intro rfl rfl) zq8) fun j => ?_))
  obtain ⟨_, t2, hF⟩ := zrm hF
  refine zdk (T := Ty.u8) (y := f9.Type_.Kind) hO q3 (i := 8) rfl rfl (fun _ => rfl) rfl rfl rfl t2 (by decide) fun u _ σ w3 q5 hO => ?_
  obtain ⟨q6, q7, rfl, -⟩ := q5.form
  have hO := zrl10 hO
  refine ze hO [] [(7, zrn q6 (d8 ++ [f9.Type_.Kind]) q7)] [0, 1, 5, 6, 58, 59, 60] zq7 fun j => ?_
  refine zg (z3 (zk (zbd (ze hO [] [(60, zrg (IntKind.i64.wrap (g1 + 1)))] [0, 1, 5, 6, 7, 58, 59] zq7 fun j => ?_))))
  refine zg (zk ?_)
  have hO := hO.sel [0, 1, 2, 3, 4, 5, 6, 7, 8]
  exact ⟨k6, Nat.lt_succ_self _, j4, j5, j6, f3, j7, j8, j9, f4, k0, k1, k2, f5, k3, k4, k5, f6, q6, q7, w3, (d8 ++ [f9.Type_.Kind]), (IntKind.i64.wrap (g1 + 1)), _, zrf zq6, hO, hL, i1, i2, i3, i4, Z, b0, q5, q4, hF⟩
 refine zbF (zbB (zbD (zk (zd hO 5 [6] [(71, zrh b8), (72, zrh h), (74, zrn j0 g.Kids j1), (75, zrn h9 d8 i0)] [0, 1, 6] (And.intro (And.intro rfl rfl) zq6) fun j => ?_))))
 obtain ⟨_, g2, h1, hO⟩ := q3.share hO (i := 8) rfl
 have hL := hL.trans g2
 have i1 := i1.le g2
 have i2 := i2.le g2
 have i3 := i3.le g2
 have i4 := i4.le g2
 have Z := Z.le g2
 have b0 := b0.le g2
 have hO := zrl9 hO
 have hO := hO.sel [5, 6, 7, 8, 0, 1, 2, 3, 4]
 rcases z9 hF with ⟨B6, w4, hF⟩ | ⟨w5, w6, hF⟩
 ·refine zbs (hs := [_, _, _, _]) hO (zbS (q0 := (⟨(⟨q0.prog.Structs, q0.prog.Funcs⟩ : zm), (⟨f3, q0.tree.Main, f4⟩ : zw), q0.fn, f5, f6⟩ : zb)) (b1.le hL) (Y.le hL) i1 i2 i3 i4 (l4.le hL) h1 w4) zqY rfl fun _ σ _ _ hO k7 w7 => ?_
  have hL := hL.trans k7
  have h1 := h1.le k7
  have Z := Z.le k7
  have b0 := b0.le k7
  obtain ⟨B7, B8, B9, C0, C1, C2, C3, C4, C5, C6, rfl, rfl, q8, q9, r0, r2, r3, r4⟩ := w7
  obtain ⟨C7, C8, rfl, -⟩ := q8.form
  obtain ⟨C9, D0, rfl, -⟩ := q9.form
  obtain ⟨D1, D2, rfl, -⟩ := r0.form
  obtain ⟨D3, D4, rfl, -⟩ := r2.form
  obtain ⟨D5, D6, rfl, -⟩ := r3.form
  obtain ⟨D7, D8, rfl, -⟩ := r4.form
  have hO := zrl9 hO
  cases hF
  have hO := hO.sel [4, 5, 6, 7, 8, 0]
  exact hP _ _ _ _ hO hL ⟨_, _, _, _, _, _, _, _, _, _, _, _, _, rfl, rfl, q8, q9, r0, r2, r3, r4, (g4.le hL), (f1.le hL), (f2.le hL)⟩
 refine zbq (hs := [_, _, _, _]) hO (zbS (q0 := (⟨(⟨q0.prog.Structs, q0.prog.Funcs⟩ : zm), (⟨f3, q0.tree.Main, f4⟩ : zw), q0.fn, f5, f6⟩ : zb)) (b1.le hL) (Y.le hL) i1 i2 i3 i4 (l4.le hL) h1 w6) zqY rfl fun _ σ _ _ hO k8 w8 => ?_
 have hL := hL.trans k8
 have h1 := h1.le k8
 have Z := Z.le k8
 have b0 := b0.le k8
 obtain ⟨D9, E0, E1, E2, E3, E4, E5, E6, E7, E8, E9, F0, rfl, rfl, g3, c3, c4, c5, c6, b9, c7⟩ := w8
 obtain ⟨F1, F2, rfl, -⟩ := g3.form
 obtain ⟨F3, F4, rfl, -⟩ := c3.form
 obtain ⟨F5, F6, rfl, -⟩ := c4.form
 obtain ⟨F7, F8, rfl, -⟩ := c5.form
 obtain ⟨F9, G0, rfl, -⟩ := c6.form
 obtain ⟨w9, x0, rfl, -⟩ := b9.form
 obtain ⟨G1, G2, rfl, -⟩ := c7.form
 have hO := zrl10 hO
 refine zd hO 2 [] [(78, .pointer (some ⟨b8, 5, none⟩))] [0, 1, 6, 76] zq4 fun j => ?_
 refine zC hO (i := 0) rfl (off := 5) rfl rfl rfl rfl (Nat.le_of_ble_eq_true rfl) rfl fun σ hO => ?_
 have hO := zrl10 hO
 refine zf (zeo (zd hO 6 [0] [(84, .bool (decide (g5 < 0)))] [0, 1, 6] (And.intro (And.intro rfl rfl) zq3) fun j => ?_))
 obtain ⟨x1, x2, hF⟩ := zrm hF
 refine zdF 2 [(101, .bool x1), (0, zrh h), (1, zrh b8)] (fun Q hQ => ?_) fun j => ?_
 ·have hF := x2
  rcases zbL hF with ⟨h0, hF⟩ | ⟨h0, hF⟩
  ·refine zbz (zrj h0) ?_
   refine zW (zri h0) ?_
   refine zf ?_
   cases hF
   refine zg ?_
   exact hQ _ zq2
  refine zbn (zrj h0) ?_
  refine zd hO 8 [5, 0] [(88, zrn w9 w5.2.vars x0), (92, zrg g5)] [0, 1, 6, 84] (And.intro (And.intro rfl rfl) (And.intro (And.intro rfl rfl) zq5)) fun j => ?_
  obtain ⟨x3, x4, hF⟩ := zrm hF
  refine zd3 (T := zq) hO b9 (i := 8) rfl rfl rfl x4 (by decide) fun a442 _ x5 x6 G3 => ?_
  have x7 := x5
  obtain ⟨G4, rfl, x8⟩ := x7
  obtain ⟨G5, G6, rfl, -⟩ := x8.form
  refine zd hO 2 [] [(95, .pointer (some (a442.add 1)))] [0, 1, 6, 84] zq4 fun j => ?_
  refine zE rfl (x6.one 1 rfl) ?_
  refine zd hO 4 [2] [(100, .bool ((x3.Type_.Kind.toNat : Int) == (X.Result.Kind.toNat : Int)))] [0, 1, 84] (And.intro (And.intro rfl rfl) zq3) fun j => ?_
  refine zW (zri h0) ?_
  refine zf ?_
  cases hF
  refine zg ?_
  exact hQ _ zq2
 rcases z9 hF with ⟨G7, x9, hF⟩ | ⟨G8, y0, hF⟩
 ·refine zbV hO (zbk x9) zqY rfl fun _ σ _ _ hO d9 y1 => ?_
  have hL := hL.trans d9
  have g3 := g3.le d9
  have Z := Z.le d9
  have b0 := b0.le d9
  have c3 := c3.le d9
  have c4 := c4.le d9
  have c5 := c5.le d9
  have c6 := c6.le d9
  have b9 := b9.le d9
  have c7 := c7.le d9
  obtain ⟨rfl, rfl⟩ := y1
  have hO := zrl10 hO
  obtain ⟨_, f7, y2, hO⟩ := g3.share hO (i := 4) rfl
  have hL := hL.trans f7
  have Z := Z.le f7
  have b0 := b0.le f7
  have c3 := c3.le f7
  have c4 := c4.le f7
  have c5 := c5.le f7
  have c6 := c6.le f7
  have b9 := b9.le f7
  have c7 := c7.le f7
  have hO := zrl10 hO
  cases hF
  have hO := hO.sel [5, 6, 7, 8, 9, 0]
  exact hP _ _ _ _ hO hL ⟨_, _, _, _, _, _, _, _, _, _, _, _, _, rfl, rfl, c3, c4, c5, c6, b9, c7, y2, (f1.le hL), (f2.le hL)⟩
 refine zb0 hO (zbk y0) zqY rfl fun _ σ _ _ hO f0 y3 => ?_
 have hL := hL.trans f0
 have g3 := g3.le f0
 have Z := Z.le f0
 have b0 := b0.le f0
 have c3 := c3.le f0
 have c4 := c4.le f0
 have c5 := c5.le f0
 have c6 := c6.le f0
 have b9 := b9.le f0
 have c7 := c7.le f0
 obtain ⟨rfl, rfl⟩ := y3
 have hO := zrl10 hO
 refine zf (zg ?_)
 obtain ⟨_, f8, y4, hO⟩ := g3.share hO (i := 4) rfl
 have hL := hL.trans f8
 have Z := Z.le f8
 have b0 := b0.le f8
 have c3 := c3.le f8
 have c4 := c4.le f8
 have c5 := c5.le f8
 have c6 := c6.le f8
 have b9 := b9.le f8
 have c7 := c7.le f8
 have hO := zrl10 hO
 cases hF
 have hO := hO.sel [5, 6, 7, 8, 9, 0]
 refine (hQ _ _ _ _ _ rfl hO hL ?_).2
 exact ⟨_, _, _, _, _, _, _, _, _, _, _, _, _, rfl, rfl, c3, c4, c5, c6, b9, c7, y4, (f1.le hL), (f2.le hL)⟩
def zgO (gn : Nat) : Prop := ∀ {τ : Hp} {q0 : zb} {h : Nat} {c8 c9 d0 : Value} {b2 : Ob} {d5 : Value} {b3 : Ob} {d6 : Value} {b5 : Ob} {d7 : Value} {b6 : Ob} {v1 : Value} {p1 : (List zi)} (b1 : RdT zx τ c8 q0.prog.Structs) (Y : RdT zr τ c9 q0.prog.Funcs) (c0 : za zp 59 τ d0 q0.tree.Bodies b2) (c1 : za zo 87 τ d5 q0.tree.Points b3) (b7 : za zq 82 τ d6 q0.vars b5) (c2 : za (Ty.int .i64) 3 τ d7 q0.scope b6) (r1 : RdT zX τ v1 p1) {rr : Except (Value × zb) ((List zh) × zb)} (hF : ((zb1 gn).1) q0 p1 = some rr), zbu Try.prog 64 #[.pointer (some ⟨h, 0, none⟩), v1] τ [zn h c8 c9 d0 q0.tree.Main d5 q0.fn d6 d7, b2, b3, b5, b6] (fun v τ' vs' => match (generalizing := false) rr with | .ok rr => ∃ (v0 : Value) (o0 : Ob) (o q z : Value) (D : Ob) (G : Value) (I : Ob) (S : Value) (U : Ob) (V : Value) (W : Ob), v = v0 ∧ vs' = [o0, zn h o q z rr.2.tree.Main G rr.2.fn S V, D, I, U, W] ∧ za zN 115 τ' v0 rr.1 o0 ∧ RdT zx τ' o rr.2.prog.Structs ∧ RdT zr τ' q rr.2.prog.Funcs ∧ za zp 59 τ' z rr.2.tree.Bodies D ∧ za zo 87 τ' G rr.2.tree.Points I ∧ za zq 82 τ' S rr.2.vars U ∧ za (Ty.int .i64) 3 τ' V rr.2.scope W | .error _ => False) (fun ch τ' vs' => match (generalizing := false) rr with | .ok _ => False | .error ee => ∃ (o q z : Value) (D : Ob) (G : Value) (I : Ob) (S : Value) (U : Ob) (V : Value) (W : Ob), ch = [{ v := ee.1, recovered := false }] ∧ vs' = [zn h o q z ee.2.tree.Main G ee.2.fn S V, D, I, U, W] ∧ RdT zx τ' o ee.2.prog.Structs ∧ RdT zr τ' q ee.2.prog.Funcs ∧ za zp 59 τ' z ee.2.tree.Bodies D ∧ za zo 87 τ' G ee.2.tree.Points I ∧ za zq 82 τ' S ee.2.vars U ∧ za (Ty.int .i64) 3 τ' V ee.2.scope W)
def zgW (gn : Nat) : Prop := ∀ {τ : Hp} {q0 : zb} {h : Nat} {c8 c9 d0 : Value} {b2 : Ob} {d5 : Value} {b3 : Ob} {d6 : Value} {b5 : Ob} {d7 : Value} {b6 : Ob} {p1 : zi} {r5 r6 p3 : Value} (b1 : RdT zx τ c8 q0.prog.Structs) (Y : RdT zr τ c9 q0.prog.Funcs) (c0 : za zp 59 τ d0 q0.tree.Bodies b2) (c1 : za zo 87 τ d5 q0.tree.Points b3) (b7 : za zq 82 τ d6 q0.vars b5) (c2 : za (Ty.int .i64) 3 τ d7 q0.scope b6) (G9 : RdT z5 τ r5 p1.Kids) (H0 : RdT zX τ r6 p1.Body) (A6 : RdT zX τ p3 p1.Else) {rr : Except (Value × zb) (zh × zb)} (hF : ((zb1 gn).2) q0 p1 = some rr), zbu Try.prog 80 #[.pointer (some ⟨h, 0, none⟩), .agg #[.int .u8 p1.Kind.toNat, .int .i64 p1.Line, .string p1.Name, .string p1.Field, .string p1.Call, .int .u8 p1.Type_.Kind.toNat, .int .i64 p1.Type_.N, .string p1.Type_.Name, r5, r6, p3]] τ [zn h c8 c9 d0 q0.tree.Main d5 q0.fn d6 d7, b2, b3, b5, b6] (fun v τ' vs' => match (generalizing := false) rr with | .ok rr => ∃ (r7 r8 r9 o q z : Value) (D : Ob) (G : Value) (I : Ob) (S : Value) (U : Ob) (V : Value) (W : Ob), v = .agg #[.int .u8 rr.1.Kind.toNat, .int .i64 rr.1.Point, .int .i64 rr.1.Var, .int .i64 rr.1.Field, .int .i64 rr.1.Call, r7, r8, r9] ∧ vs' = [zn h o q z rr.2.tree.Main G rr.2.fn S V, D, I, U, W] ∧ RdT zR τ' r7 rr.1.Kids ∧ RdT zN τ' r8 rr.1.Body ∧ RdT zN τ' r9 rr.1.Else ∧ RdT zx τ' o rr.2.prog.Structs ∧ RdT zr τ' q rr.2.prog.Funcs ∧ za zp 59 τ' z rr.2.tree.Bodies D ∧ za zo 87 τ' G rr.2.tree.Points I ∧ za zq 82 τ' S rr.2.vars U ∧ za (Ty.int .i64) 3 τ' V rr.2.scope W | .error _ => False) (fun ch τ' vs' => match (generalizing := false) rr with | .ok _ => False | .error ee => ∃ (o q z : Value) (D : Ob) (G : Value) (I : Ob) (S : Value) (U : Ob) (V : Value) (W : Ob), ch = [{ v := ee.1, recovered := false }] ∧ vs' = [zn h o q z ee.2.tree.Main G ee.2.fn S V, D, I, U, W] ∧ RdT zx τ' o ee.2.prog.Structs ∧ RdT zr τ' q ee.2.prog.Funcs ∧ za zp 59 τ' z ee.2.tree.Bodies D ∧ za zo 87 τ' G ee.2.tree.Points I ∧ za zq 82 τ' S ee.2.vars U ∧ za (Ty.int .i64) 3 τ' V ee.2.scope W)
end Go.Proofs.Ytakcaekikfcbpaa
