import Derived.Test.YtakcaekikfcbpaaG0
namespace Go.Proofs.Ytakcaekikfcbpaa
open Go.Ab Go.RowKit
set_option linter.unusedVariables false
set_option linter.unusedSimpArgs false
set_option maxRecDepth 10000
set_option maxHeartbeats 1000000
theorem zmJ {gn : Nat} (ih_check_checker_vals : zeZ gn) (ih_check_checker_exp : zew gn) (ih_check_checker_place : zeQ gn) (ih_check_checker_unary : zeN gn) (ih_check_checker_binary : zeJ gn) {τ : Hp} {q0 : zb} {B : Nat} {c6 c7 c8 : Value} {c9 : Ob} {d0 : Value} {d5 : Ob} {d6 : Value} {d7 : Ob} {d8 : Value} {d9 : Ob} {p1 : zc} {f0 : Value} (h : RdT zw τ c6 q0.prog.Structs) (k : RdT zt τ c7 q0.prog.Funcs) (o : za zq 59 τ c8 q0.tree.Bodies c9) (q : za zr 87 τ d0 q0.tree.Points d5) (g : za zo 82 τ d6 q0.vars d7) (z : za (Ty.int .i64) 3 τ d8 q0.scope d9) (c4 : RdT zZ τ f0 p1.Kids) {rr : Except (Value × zb) (zl × Int × zb)} (hF : zfm ((zy gn).1) ((zy gn).2.1) ((zy gn).2.2.1) ((zy gn).2.2.2.1) ((zy gn).2.2.2.2) q0 p1 = some rr) :
  zbu Try.prog 103 #[.pointer (some ⟨B, 0, none⟩), .agg #[.int .u8 p1.Kind.toNat, .int .i64 p1.Num, .string p1.Name, .string p1.Field, .string p1.Op, f0]] τ [zm B c6 c7 c8 q0.tree.Main d0 q0.fn d6 d8, c9, d5, d7, d9] (fun v τ' vs' => match (generalizing := false) rr with | .ok rr => ∃ (f1 G I S : Value) (U : Ob) (V : Value) (W : Ob) (X : Value) (Y : Ob) (Z : Value) (b0 : Ob), v = .tuple #[.agg #[.int .u8 rr.1.Kind.toNat, .int .u8 rr.1.Op.toNat, .int .i64 rr.1.Var, .int .i64 rr.1.Num, f1], .int .u8 rr.2.1] ∧ vs' = [zm B G I S rr.2.2.tree.Main V rr.2.2.fn X Z, U, W, Y, b0] ∧ RdT zbk τ' f1 rr.1.Kids ∧ RdT zw τ' G rr.2.2.prog.Structs ∧ RdT zt τ' I rr.2.2.prog.Funcs ∧ za zq 59 τ' S rr.2.2.tree.Bodies U ∧ za zr 87 τ' V rr.2.2.tree.Points W ∧ za zo 82 τ' X rr.2.2.vars Y ∧ za (Ty.int .i64) 3 τ' Z rr.2.2.scope b0 | .error _ => False) (fun ch τ' vs' => match (generalizing := false) rr with | .ok _ => False | .error ee => ∃ (G I S : Value) (U : Ob) (V : Value) (W : Ob) (X : Value) (Y : Ob) (Z : Value) (b0 : Ob), ch = [{ v := ee.1, recovered := false }] ∧ vs' = [zm B G I S ee.2.tree.Main V ee.2.fn X Z, U, W, Y, b0] ∧ RdT zw τ' G ee.2.prog.Structs ∧ RdT zt τ' I ee.2.prog.Funcs ∧ za zq 59 τ' S ee.2.tree.Bodies U ∧ za zr 87 τ' V ee.2.tree.Points W ∧ za zo 82 τ' X ee.2.vars Y ∧ za (Ty.int .i64) 3 τ' Z ee.2.scope b0) := by
 obtain ⟨m1, m2, rfl, -⟩ := h.form
 obtain ⟨m3, m4, rfl, -⟩ := k.form
 obtain ⟨m5, m6, rfl, -⟩ := o.form
 obtain ⟨m7, m8, rfl, -⟩ := q.form
 obtain ⟨b5, b6, rfl, -⟩ := g.form
 obtain ⟨m9, n0, rfl, -⟩ := z.form
 obtain ⟨f2, f3, rfl, -⟩ := c4.form
 refine zcz (args := [.pointer (some ⟨B, 0, none⟩), .agg #[.int .u8 p1.Kind.toNat, .int .i64 p1.Num, .string p1.Name, .string p1.Field, .string p1.Op, (.slice f2 p1.Kids.length f3)]]) hm Try.func103 zmr rfl fun w0 σ hP hO Q hQ => ?_
 unfold zfm at hF
 have hL := Hp.le.refl τ
 show wpn _ _ zik.body _ _ _
 unfold zik
 dsimp only
 refine zbJ (n := 6) hO rfl rfl fun b3 σ hO => ?_
 have hO := zop6 hO
 refine zbm hO fun b4 σ hO => ?_
 have hO := zop7 hO
 refine zd hO [] [] [0, 3, 4] zn6 fun j => ?_
 refine zg hO 3 [5] [(7, zol B), (9, .string p1.Name)] [0, 3, 4] (And.intro (And.intro rfl rfl) zn8) fun j => ?_
 have hO := hO.sel [5, 6, 0, 1, 2, 3, 4]
 rcases zP hF with ⟨x9, h4, hF⟩ | ⟨E, h6, hF⟩
 ·refine zbo (hs := [_, _]) hO (zeu (h.le hL) (k.le hL) (o.le hL) (q.le hL) (g.le hL) (z.le hL) h4) zn2 rfl fun _ σ _ _ hO h5 h9 => ?_
  have hL := hL.trans h5
  obtain ⟨rfl, rfl⟩ := h9
  have hO := zop7 hO
  cases hF
  have hO := hO.sel [2, 3, 4, 5, 6]
  exact hP _ _ _ _ hO hL ⟨_, _, _, _, _, _, _, _, _, _, rfl, rfl, (h.le hL), (k.le hL), (o.le hL), (q.le hL), (g.le hL), (z.le hL)⟩
 refine zbn (hs := [_, _]) hO (zeu (h.le hL) (k.le hL) (o.le hL) (q.le hL) (g.le hL) (z.le hL) h6) zn2 rfl fun _ σ _ _ hO h7 h8 => ?_
 have hL := hL.trans h7
 obtain ⟨rfl, rfl⟩ := h8
 have hO := zop7 hO
 have hO := hO.sel [2, 3, 4, 5, 6, 0, 1]
 have hO := zop7 hO
 refine zd hO [] [(6, zok E)] [0, 3, 4] zn7 fun j => ?_
 refine zn (zd hO [5] [(12, .int .u8 (p1.Kind.toNat : Int))] [0, 3, 4, 6] (And.intro (And.intro rfl rfl) zn8) fun j => ?_)
 refine zbr (zd hO [] [(13, .bool ((p1.Kind.toNat : Int) == 3))] [0, 3, 4, 6, 12] zn9 fun j => ?_)
 refine zbz (zz hF rfl (fun hF => ?_) fun hF => ?_)
 ·refine zn (zg hO 5 [0] [(18, zor b5 q0.vars b6), (19, zok E)] [0, 4, 6] (And.intro (And.intro rfl rfl) zn8) fun j => ?_)
  obtain ⟨f4, i0, hF⟩ := zoq hF
  refine zdg (T := zo) hO (g.le hL) (i := 3) rfl rfl rfl i0 (by decide) fun a16 _ i1 i2 r4 => ?_
  have i3 := i1
  obtain ⟨r5, rfl, b1⟩ := i3
  obtain ⟨r6, r7, rfl, -⟩ := b1.form
  refine zg hO 1 [] [(21, .pointer (some (a16.add 1)))] [0, 4, 6] zn7 fun j => ?_
  refine zbh rfl (i2.part (off := 1) (ds := [.int .u8 (f4.Type_.Kind.toNat : Int), .int .i64 f4.Type_.N, .string f4.Type_.Name]) rfl rfl) ?_
  obtain ⟨r8, i4, hF⟩ := zoq hF
  refine z3 hO (zfs i4) rfl fun _ σ _ _ hO g0 i5 => ?_
  have hL := hL.trans g0
  have b1 := b1.le g0
  obtain ⟨rfl, rfl⟩ := i5
  have hO := zop7 hO
  rcases zP hF with ⟨r9, i6, hF⟩ | ⟨t0, i7, hF⟩
  ·refine zbM hO (zbg i6) zn2 rfl fun _ σ _ _ hO g1 i8 => ?_
   have hL := hL.trans g1
   have b1 := b1.le g1
   obtain ⟨rfl, rfl⟩ := i8
   have hO := zop7 hO
   cases hF
   have hO := hO.sel [0, 1, 2, 3, 4]
   exact hP _ _ _ _ hO hL ⟨_, _, _, _, _, _, _, _, _, _, rfl, rfl, (h.le hL), (k.le hL), (o.le hL), (q.le hL), (g.le hL), (z.le hL)⟩
  refine zbO hO (zbg i7) zn2 rfl fun _ σ _ _ hO g2 i9 => ?_
  have hL := hL.trans g2
  have b1 := b1.le g2
  obtain ⟨rfl, rfl⟩ := i9
  have hO := zop7 hO
  refine ze (zn (zcQ (zg hO 7 [0] [(26, .agg #[(.int .u8 2), (.int .u8 0), (.int .i64 E), (.int .i64 0), (.slice none 0 0)]), (29, .pointer (some ⟨B, 6, none⟩)), (30, zor b5 q0.vars b6), (31, zok E)] [0, 4] (And.intro (And.intro rfl rfl) zn9) fun j => ?_)))
  obtain ⟨j0, j1, hF⟩ := zoq hF
  refine zdg (T := zo) hO (g.le hL) (i := 3) rfl rfl rfl j1 (by decide) fun a39 _ j2 g3 j3 => ?_
  have j4 := j2
  obtain ⟨t1, rfl, j5⟩ := j4
  obtain ⟨t2, t3, rfl, -⟩ := j5.form
  have h0 := g3.rowIs hO (i := 3) rfl j3
  refine zM hO 2 [] [(0, zol B), (4, zol b4), (26, .agg #[(.int .u8 2), (.int .u8 0), (.int .i64 E), (.int .i64 0), (.slice none 0 0)]), (29, .pointer (some ⟨B, 6, none⟩)), (30, zor b5 q0.vars b6), (34, .pointer (some (a39.add 1)))] zn9 fun j => ?_
  refine zbh rfl (g3.one 1 rfl) ?_
  refine zbt (zu hO (i := 6) rfl (off := 0) rfl rfl rfl rfl (Nat.le_of_ble_eq_true rfl) rfl fun σ hO => ?_)
  have hO := zop7 hO
  refine ze (zbs ⟨(zA rfl ((h0.at hO (i := 3) rfl).one 1 rfl) rfl), (zA rfl (hO.val (i := 0) (off := 6) (agg := false) (n := 1) rfl rfl) rfl), trivial⟩ ?_)
  refine zd hO [] [(5, .int .u8 (j0.Type_.Kind.toNat : Int))] [0, 4] zn6 fun j => ?_
  refine zbH (zbE (zbw ?_))
  cases hF
  have c3 := hO.val (i := 6) rfl (off := 0) (agg := true) (n := 5) rfl
  have hO := hO.sel [0, 1, 2, 3, 4]
  refine (hQ _ _ _ _ _ (zbY rfl (c3) (zco rfl)) hO hL ?_).1
  exact ⟨_, _, _, _, _, _, _, _, _, _, _, rfl, rfl, (RdT.nil _ _), (h.le hL), (k.le hL), (o.le hL), (q.le hL), (g.le hL), (z.le hL)⟩
 refine zn (zd hO [] [(36, .bool ((p1.Kind.toNat : Int) == 5))] [0, 3, 4, 6] zn8 fun j => ?_)
 refine zz hF rfl (fun hF => ?_) fun hF => ?_
 ·refine zn (zg hO 2 [] [(38, zol B), (39, zok E)] [0, 3, 4, 6] zn9 fun j => ?_)
  have hO := hO.sel [5, 6, 0, 1, 2, 3, 4]
  rcases zP hF with ⟨t4, j6, hF⟩ | ⟨t5, j7, hF⟩
  ·refine zbo (hs := [_, _]) hO (zc9 (h.le hL) (k.le hL) (o.le hL) (q.le hL) (g.le hL) (z.le hL) j6) zn2 rfl fun _ σ _ _ hO j8 j9 => ?_
   have hL := hL.trans j8
   obtain ⟨rfl, rfl⟩ := j9
   have hO := zop7 hO
   cases hF
   have hO := hO.sel [2, 3, 4, 5, 6]
   exact hP _ _ _ _ hO hL ⟨_, _, _, _, _, _, _, _, _, _, rfl, rfl, (h.le hL), (k.le hL), (o.le hL), (q.le hL), (g.le hL), (z.le hL)⟩
  refine zbn (hs := [_, _]) hO (zc9 (h.le hL) (k.le hL) (o.le hL) (q.le hL) (g.le hL) (z.le hL) j7) zn2 rfl fun _ σ _ _ hO k0 k1 => ?_
  have hL := hL.trans k0
  obtain ⟨rfl, rfl⟩ := k1
  have hO := zop7 hO
  have hO := hO.sel [2, 3, 4, 5, 6, 0, 1]
  have hO := zop7 hO
  refine ze (zn (zg hO 5 [5] [(41, zok E), (42, zol B), (43, zok E), (45, .string p1.Field)] [0, 4] (And.intro (And.intro rfl rfl) zn9) fun j => ?_))
  have hO := hO.sel [5, 6, 0, 1, 2, 3, 4]
  rcases zP hF with ⟨t6, k2, hF⟩ | ⟨k3, k4, hF⟩
  ·refine zbo (hs := [_, _]) hO (zgx (h.le hL) (k.le hL) (o.le hL) (q.le hL) (g.le hL) (z.le hL) k2) zn2 rfl fun _ σ _ _ hO k5 k6 => ?_
   have hL := hL.trans k5
   obtain ⟨rfl, rfl⟩ := k6
   have hO := zop7 hO
   cases hF
   have hO := hO.sel [2, 3, 4, 5, 6]
   exact hP _ _ _ _ hO hL ⟨_, _, _, _, _, _, _, _, _, _, rfl, rfl, (h.le hL), (k.le hL), (o.le hL), (q.le hL), (g.le hL), (z.le hL)⟩
  refine zbn (hs := [_, _]) hO (zgx (h.le hL) (k.le hL) (o.le hL) (q.le hL) (g.le hL) (z.le hL) k4) zn2 rfl fun _ σ _ _ hO k7 k8 => ?_
  have hL := hL.trans k7
  obtain ⟨rfl, rfl⟩ := k8
  have hO := zop7 hO
  have hO := hO.sel [2, 3, 4, 5, 6, 0, 1]
  have hO := zop7 hO
  refine zM hO 1 [] [(0, zol B), (4, zol b4), (47, .agg #[(.int .u8 4), (.int .u8 0), (.int .i64 E), (.int .i64 k3), (.slice none 0 0)])] zn6 fun j => ?_
  refine zu hO (i := 6) rfl (off := 0) rfl rfl rfl rfl (Nat.le_of_ble_eq_true rfl) rfl fun σ hO => ?_
  have hO := zop7 hO
  refine zd hO [] [(5, .int .u8 1)] [0, 4] zn6 fun j => ?_
  refine zbH (zbE (zbw ?_))
  cases hF
  have c3 := hO.val (i := 6) rfl (off := 0) (agg := true) (n := 5) rfl
  have hO := hO.sel [0, 1, 2, 3, 4]
  refine (hQ _ _ _ _ _ (zbY rfl (c3) (zco rfl)) hO hL ?_).1
  exact ⟨_, _, _, _, _, _, _, _, _, _, _, rfl, rfl, (RdT.nil _ _), (h.le hL), (k.le hL), (o.le hL), (q.le hL), (g.le hL), (z.le hL)⟩
 refine zN (zh (zX (zi (zg hO 2 [] [(48, zol B), (49, zok E)] [0, 3, 4, 6] zn9 fun j => ?_))))
 have hO := hO.sel [5, 6, 0, 1, 2, 3, 4]
 rcases zP hF with ⟨t7, k9, hF⟩ | ⟨t8, l0, hF⟩
 ·refine zbo (hs := [_, _]) hO (zc9 (h.le hL) (k.le hL) (o.le hL) (q.le hL) (g.le hL) (z.le hL) k9) zn2 rfl fun _ σ _ _ hO l1 l2 => ?_
  have hL := hL.trans l1
  obtain ⟨rfl, rfl⟩ := l2
  have hO := zop7 hO
  cases hF
  have hO := hO.sel [2, 3, 4, 5, 6]
  exact hP _ _ _ _ hO hL ⟨_, _, _, _, _, _, _, _, _, _, rfl, rfl, (h.le hL), (k.le hL), (o.le hL), (q.le hL), (g.le hL), (z.le hL)⟩
 refine zbn (hs := [_, _]) hO (zc9 (h.le hL) (k.le hL) (o.le hL) (q.le hL) (g.le hL) (z.le hL) l0) zn2 rfl fun _ σ _ _ hO l3 l4 => ?_
 have hL := hL.trans l3
 obtain ⟨rfl, rfl⟩ := l4
 have hO := zop7 hO
 have hO := hO.sel [2, 3, 4, 5, 6, 0, 1]
 have hO := zop7 hO
 refine ze (zg hO 4 [5] [(51, zok E), (52, zol B), (54, zor f2 p1.Kids f3)] [0, 4] (And.intro (And.intro rfl rfl) zn8) fun j => ?_)
 refine z5 (T := Ty.u8) (l := ([(1 : UInt8)] : List UInt8)) (cs := [.int .u8 1]) hO rfl ⟨[.int .u8 1], _, rfl, rfl, rfl⟩ rfl (by decide) fun _ σ t9 g4 hO => ?_
 obtain ⟨u0, u1, rfl, -⟩ := g4.form
 have hO := zop8 hO
 obtain ⟨_, l5, b2, hO⟩ := g4.share hO (i := 7) rfl
 have hL := hL.trans l5
 have hO := zop8 hO
 have hO := hO.sel [5, 6, 7, 0, 1, 2, 3, 4]
 rcases zP hF with ⟨u2, l6, hF⟩ | ⟨l7, l8, hF⟩
 ·refine zbo (hs := [_, _, _]) hO (ih_check_checker_vals (h.le hL) (k.le hL) (o.le hL) (q.le hL) (g.le hL) (z.le hL) (c4.le hL) b2 l6) zn2 rfl fun _ σ _ _ hO g5 l9 => ?_
  have hL := hL.trans g5
  have b2 := b2.le g5
  obtain ⟨u3, u4, u5, u6, n4, n5, n6, n7, n8, n9, rfl, rfl, g6, g7, f5, f6, f7, f8⟩ := l9
  obtain ⟨u7, u9, rfl, -⟩ := g6.form
  obtain ⟨v0, v1, rfl, -⟩ := g7.form
  obtain ⟨v2, v3, rfl, -⟩ := f5.form
  obtain ⟨o0, o1, rfl, -⟩ := f6.form
  obtain ⟨o2, o3, rfl, -⟩ := f7.form
  obtain ⟨o4, o5, rfl, -⟩ := f8.form
  have hO := zop8 hO
  cases hF
  have hO := hO.sel [3, 4, 5, 6, 7]
  exact hP _ _ _ _ hO hL ⟨_, _, _, _, _, _, _, _, _, _, rfl, rfl, g6, g7, f5, f6, f7, f8⟩
 refine zbn (hs := [_, _, _]) hO (ih_check_checker_vals (h.le hL) (k.le hL) (o.le hL) (q.le hL) (g.le hL) (z.le hL) (c4.le hL) b2 l8) zn2 rfl fun _ σ _ _ hO g8 m0 => ?_
 have hL := hL.trans g8
 have b2 := b2.le g8
 obtain ⟨o6, o7, o8, o9, p2, p3, p4, p5, p6, p7, p8, p9, rfl, rfl, f9, b7, b8, b9, c0, c1, c2⟩ := m0
 obtain ⟨h1, h2, rfl, -⟩ := f9.form
 obtain ⟨q2, q3, rfl, -⟩ := b7.form
 obtain ⟨q4, q5, rfl, -⟩ := b8.form
 obtain ⟨q6, q7, rfl, -⟩ := b9.form
 obtain ⟨q8, q9, rfl, -⟩ := c0.form
 obtain ⟨r0, r1, rfl, -⟩ := c1.form
 obtain ⟨r2, r3, rfl, -⟩ := c2.form
 have hO := zop9 hO
 refine zM hO 1 [] [(0, zol B), (4, zol b4), (57, .agg #[(.int .u8 3), (.int .u8 0), (.int .i64 E), (.int .i64 0), (zor h1 l7.1 h2)])] zn6 fun j => ?_
 refine zu hO (i := 1) rfl (off := 0) rfl rfl rfl rfl (Nat.le_of_ble_eq_true rfl) rfl fun σ hO => ?_
 have hO := zop9 hO
 refine zd hO [] [(5, .int .u8 1)] [0, 4] zn6 fun j => ?_
 refine zbb ?_
 obtain ⟨_, D, h3, hO⟩ := f9.share hO (i := 3) rfl
 have hL := hL.trans D
 have b7 := b7.le D
 have b8 := b8.le D
 have b9 := b9.le D
 have c0 := c0.le D
 have c1 := c1.le D
 have c2 := c2.le D
 have hO := zop9 hO
 cases hF
 have c3 := hO.val (i := 1) rfl (off := 0) (agg := true) (n := 5) rfl
 have hO := hO.sel [4, 5, 6, 7, 8]
 refine (hQ _ _ _ _ _ (zbY rfl (c3) (zco rfl)) hO hL ?_).1
 exact ⟨_, _, _, _, _, _, _, _, _, _, _, rfl, rfl, h3, b7, b8, b9, c0, c1, c2⟩
theorem zma {gn : Nat} (ih_check_checker_vals : zeZ gn) (ih_check_checker_exp : zew gn) (ih_check_checker_place : zeQ gn) (ih_check_checker_unary : zeN gn) (ih_check_checker_binary : zeJ gn) {τ : Hp} {q0 : zb} {G : Nat} {f2 f3 f4 : Value} {S : Ob} {f5 : Value} {U : Ob} {f6 : Value} {V : Ob} {f7 : Value} {W : Ob} {p1 : zc} {h0 : Value} (c6 : RdT zw τ f2 q0.prog.Structs) (c8 : RdT zt τ f3 q0.prog.Funcs) (c9 : za zq 59 τ f4 q0.tree.Bodies S) (d0 : za zr 87 τ f5 q0.tree.Points U) (d5 : za zo 82 τ f6 q0.vars V) (d6 : za (Ty.int .i64) 3 τ f7 q0.scope W) (d8 : RdT zZ τ h0 p1.Kids) {rr : Except (Value × zb) (zl × Int × zb)} (hF : zft ((zy gn).1) ((zy gn).2.1) ((zy gn).2.2.1) ((zy gn).2.2.2.1) ((zy gn).2.2.2.2) q0 p1 = some rr) :
  zbu Try.prog 104 #[.pointer (some ⟨G, 0, none⟩), .agg #[.int .u8 p1.Kind.toNat, .int .i64 p1.Num, .string p1.Name, .string p1.Field, .string p1.Op, h0]] τ [zm G f2 f3 f4 q0.tree.Main f5 q0.fn f6 f7, S, U, V, W] (fun v τ' vs' => match (generalizing := false) rr with | .ok rr => ∃ (h1 Y Z b0 : Value) (b1 : Ob) (b2 : Value) (b5 : Ob) (b6 : Value) (b7 : Ob) (b8 : Value) (b9 : Ob), v = .tuple #[.agg #[.int .u8 rr.1.Kind.toNat, .int .u8 rr.1.Op.toNat, .int .i64 rr.1.Var, .int .i64 rr.1.Num, h1], .int .u8 rr.2.1] ∧ vs' = [zm G Y Z b0 rr.2.2.tree.Main b2 rr.2.2.fn b6 b8, b1, b5, b7, b9] ∧ RdT zbk τ' h1 rr.1.Kids ∧ RdT zw τ' Y rr.2.2.prog.Structs ∧ RdT zt τ' Z rr.2.2.prog.Funcs ∧ za zq 59 τ' b0 rr.2.2.tree.Bodies b1 ∧ za zr 87 τ' b2 rr.2.2.tree.Points b5 ∧ za zo 82 τ' b6 rr.2.2.vars b7 ∧ za (Ty.int .i64) 3 τ' b8 rr.2.2.scope b9 | .error _ => False) (fun ch τ' vs' => match (generalizing := false) rr with | .ok _ => False | .error ee => ∃ (Y Z b0 : Value) (b1 : Ob) (b2 : Value) (b5 : Ob) (b6 : Value) (b7 : Ob) (b8 : Value) (b9 : Ob), ch = [{ v := ee.1, recovered := false }] ∧ vs' = [zm G Y Z b0 ee.2.tree.Main b2 ee.2.fn b6 b8, b1, b5, b7, b9] ∧ RdT zw τ' Y ee.2.prog.Structs ∧ RdT zt τ' Z ee.2.prog.Funcs ∧ za zq 59 τ' b0 ee.2.tree.Bodies b1 ∧ za zr 87 τ' b2 ee.2.tree.Points b5 ∧ za zo 82 τ' b6 ee.2.vars b7 ∧ za (Ty.int .i64) 3 τ' b8 ee.2.scope b9) := by
 obtain ⟨i1, i2, rfl, -⟩ := c6.form
 obtain ⟨i3, i4, rfl, -⟩ := c8.form
 obtain ⟨f8, f9, rfl, -⟩ := c9.form
 obtain ⟨g0, g1, rfl, -⟩ := d0.form
 obtain ⟨g2, g3, rfl, -⟩ := d5.form
 obtain ⟨g4, g5, rfl, -⟩ := d6.form
 obtain ⟨d9, f0, rfl, -⟩ := d8.form
 refine zcz (args := [.pointer (some ⟨G, 0, none⟩), .agg #[.int .u8 p1.Kind.toNat, .int .i64 p1.Num, .string p1.Name, .string p1.Field, .string p1.Op, (.slice d9 p1.Kids.length f0)]]) hm Try.func104 znr rfl fun w0 σ hP hO Q hQ => ?_
 unfold zft at hF
 have hL := Hp.le.refl τ
 show wpn _ _ zhX.body _ _ _
 unfold zhX
 dsimp only
 refine zbJ (n := 6) hO rfl rfl fun b3 σ hO => ?_
 have hO := zop6 hO
 refine zbm hO fun b4 σ hO => ?_
 have hO := zop7 hO
 refine zd hO [] [] [0, 3, 4] zn6 fun j => ?_
 refine zd hO [] [(6, .int .u8 15), (7, .int .u8 1)] [0, 3, 4] zn8 fun j => ?_
 refine zn (zd hO [5] [(11, .bool (z9 p1.Op znX))] [0, 3, 4, 6, 7] (And.intro (And.intro rfl rfl) zn9) fun j => ?_)
 refine zcL (fun e' σ' => ∃ (A6 : Option Addr) (c7 : Nat) (o8 : Ob) (x9 : List zI) (h2 : Option Addr) (h3 : Nat) (h4 : Ob) (c0 : List zE) (h5 : Option Addr) (h6 : Nat) (h7 : Ob) (c1 : List zG) (h8 : Option Addr) (h9 : Nat) (i0 : Ob) (c2 : List Int) (c3 I : Int) (τ' : Hp), agr [(0, zol G), (3, zol b3), (4, zol b4), (6, .int .u8 c3), (7, .int .u8 I)] e' ∧ Obs τ' σ' [zm G (zor i1 q0.prog.Structs i2) (zor i3 q0.prog.Funcs i4) (zor A6 x9 c7) q0.tree.Main (zor h2 c0 h3) q0.fn (zor h5 c1 h6) (zor h8 c2 h9), o8, h4, h7, i0, zeE b3 (p1.Kind.toNat : Int) p1.Num p1.Name p1.Field p1.Op (zor d9 p1.Kids f0), zdx b4 0 0 0 0 (.slice none 0 0)] ∧ Hp.le τ τ' ∧ za zq 59 τ' (zor A6 x9 c7) x9 o8 ∧ za zr 87 τ' (zor h2 c0 h3) c0 h4 ∧ za zo 82 τ' (zor h5 c1 h6) c1 h7 ∧ za (Ty.int .i64) 3 τ' (zor h8 c2 h9) c2 i0 ∧ zf0 (zy gn).1 q0 p1 x9 c0 c1 c2 c3 I = some rr) ?_ ?_
 ·refine zbz (zz hF rfl (fun hF => ?_) fun hF => ?_)
  ·refine zd hO [] [(6, .int .u8 14), (7, .int .u8 2)] [0, 3, 4] zn8 fun j => ?_
   refine zh (zi ?_)
   exact ⟨f8, f9, S, q0.tree.Bodies, g0, g1, U, q0.tree.Points, g2, g3, V, q0.vars, g4, g5, W, q0.scope, 14, 2, _, zoj zn7, hO, hL, (c9.le hL), (d0.le hL), (d5.le hL), (d6.le hL), hF⟩
  refine zN (zh (zi ?_))
  exact ⟨f8, f9, S, q0.tree.Bodies, g0, g1, U, q0.tree.Points, g2, g3, V, q0.vars, g4, g5, W, q0.scope, 15, 1, _, zoj zn7, hO, hL, (c9.le hL), (d0.le hL), (d5.le hL), (d6.le hL), hF⟩
 rintro e σ ⟨A6, c7, o8, x9, h2, h3, h4, c0, h5, h6, h7, c1, h8, h9, i0, c2, c3, I, _, hA, hO, hL, g6, g7, g8, g9, hF⟩
 rw [← zW _ _ hA]
 unfold zf0 at hF
 refine zg hO 5 [5] [(12, .int .u8 c3), (13, zol G), (15, zor d9 p1.Kids f0), (16, .int .u8 I)] [0, 3, 4, 7] (And.intro (And.intro rfl rfl) zob) fun j => ?_
 obtain ⟨z28, k0, hF⟩ := zoq hF
 refine z5 (T := Ty.u8) (l := ([z28] : List UInt8)) (cs := [.int .u8 I]) hO rfl ⟨[.int .u8 I], _, rfl, (u8R k0), rfl⟩ rfl (by decide) fun _ σ l9 i5 hO => ?_
 obtain ⟨m0, m1, rfl, -⟩ := i5.form
 have hO := zop8 hO
 obtain ⟨_, d7, c4, hO⟩ := i5.share hO (i := 7) rfl
 have hL := hL.trans d7
 have g6 := g6.le d7
 have g7 := g7.le d7
 have g8 := g8.le d7
 have g9 := g9.le d7
 have hO := zop8 hO
 have hO := hO.sel [5, 6, 7, 0, 1, 2, 3, 4]
 rcases zP hF with ⟨m2, k8, hF⟩ | ⟨i6, k9, hF⟩
 ·refine zbo (hs := [_, _, _]) hO (ih_check_checker_vals (q0 := (⟨(⟨q0.prog.Structs, q0.prog.Funcs⟩ : zs), (⟨x9, q0.tree.Main, c0⟩ : zx), q0.fn, c1, c2⟩ : zb)) (c6.le hL) (c8.le hL) g6 g7 g8 g9 (d8.le hL) c4 k8) zn2 rfl fun _ σ _ _ hO i7 l0 => ?_
  have hL := hL.trans i7
  have c4 := c4.le i7
  obtain ⟨m3, m4, m5, m6, m7, m8, m9, n0, n1, n2, rfl, rfl, i8, i9, j0, j1, j2, j3⟩ := l0
  obtain ⟨n3, n4, rfl, -⟩ := i8.form
  obtain ⟨n5, n6, rfl, -⟩ := i9.form
  obtain ⟨n7, n8, rfl, -⟩ := j0.form
  obtain ⟨n9, o0, rfl, -⟩ := j1.form
  obtain ⟨o1, o2, rfl, -⟩ := j2.form
  obtain ⟨o3, o4, rfl, -⟩ := j3.form
  have hO := zop8 hO
  cases hF
  have hO := hO.sel [3, 4, 5, 6, 7]
  exact hP _ _ _ _ hO hL ⟨_, _, _, _, _, _, _, _, _, _, rfl, rfl, i8, i9, j0, j1, j2, j3⟩
 refine zbn (hs := [_, _, _]) hO (ih_check_checker_vals (q0 := (⟨(⟨q0.prog.Structs, q0.prog.Funcs⟩ : zs), (⟨x9, q0.tree.Main, c0⟩ : zx), q0.fn, c1, c2⟩ : zb)) (c6.le hL) (c8.le hL) g6 g7 g8 g9 (d8.le hL) c4 k9) zn2 rfl fun _ σ _ _ hO j4 l1 => ?_
 have hL := hL.trans j4
 have c4 := c4.le j4
 obtain ⟨o5, o6, o7, o9, p2, p3, p4, p5, p6, p7, p8, l3, rfl, rfl, c5, q, z, B, D, E, g⟩ := l1
 obtain ⟨j5, j6, rfl, -⟩ := c5.form
 obtain ⟨p9, q2, rfl, -⟩ := q.form
 obtain ⟨q3, q4, rfl, -⟩ := z.form
 obtain ⟨q5, q6, rfl, -⟩ := B.form
 obtain ⟨q7, q8, rfl, -⟩ := D.form
 obtain ⟨q9, r0, rfl, -⟩ := E.form
 obtain ⟨l4, l5, rfl, -⟩ := g.form
 have hO := zop9 hO
 refine zg hO 1 [] [(19, .agg #[(.int .u8 5), (.int .u8 c3), (.int .i64 0), (.int .i64 0), (zor j5 i6.1 j6)])] [0, 3, 4, 7] zn8 fun j => ?_
 refine zbm hO fun l6 σ hO => ?_
 have hO := zop10 hO
 refine zu hO (i := 9) rfl (off := 0) rfl rfl rfl rfl (Nat.le_of_ble_eq_true rfl) rfl fun σ hO => ?_
 have hO := zop10 hO
 refine ze (zg hO 6 [0, 0] [(27, .bool ((z9 p1.Op znX) || (z9 p1.Op znY)))] [0, 4, 7, 8] (And.intro (And.intro rfl rfl) (And.intro (And.intro rfl rfl) (And.intro (And.intro rfl rfl) (fun _ => zoj zn7)))) fun j => ?_)
 rcases zP hF with ⟨l7, k1, hF⟩ | ⟨l8, k2, hF⟩
 ·refine zbM hO (zbg k1) zn2 rfl fun _ σ _ _ hO h k3 => ?_
  have hL := hL.trans h
  have q := q.le h
  have z := z.le h
  have B := B.le h
  have D := D.le h
  have E := E.le h
  have g := g.le h
  have c5 := c5.le h
  obtain ⟨rfl, rfl⟩ := k3
  have hO := zop10 hO
  cases hF
  have hO := hO.sel [4, 5, 6, 7, 8]
  exact hP _ _ _ _ hO hL ⟨_, _, _, _, _, _, _, _, _, _, rfl, rfl, q, z, B, D, E, g⟩
 refine zbO hO (zbg k2) zn2 rfl fun _ σ _ _ hO k k4 => ?_
 have hL := hL.trans k
 have q := q.le k
 have z := z.le k
 have B := B.le k
 have D := D.le k
 have E := E.le k
 have g := g.le k
 have c5 := c5.le k
 obtain ⟨rfl, rfl⟩ := k4
 have hO := zop10 hO
 refine ze (zg hO 2 [9] [(29, .agg #[(.int .u8 5), (.int .u8 c3), (.int .i64 0), (.int .i64 0), (zor j5 i6.1 j6)]), (30, .int .u8 I)] [0, 4] (And.intro (And.intro rfl rfl) zn7) fun j => ?_)
 refine zu hO (i := 1) rfl (off := 0) rfl rfl rfl rfl (Nat.le_of_ble_eq_true rfl) rfl fun σ hO => ?_
 have hO := zop10 hO
 refine zd hO [] [(5, .int .u8 I)] [0, 4] zn6 fun j => ?_
 refine zbb ?_
 obtain ⟨_, o, k5, hO⟩ := c5.share hO (i := 3) rfl
 have hL := hL.trans o
 have q := q.le o
 have z := z.le o
 have B := B.le o
 have D := D.le o
 have E := E.le o
 have g := g.le o
 have hO := zop10 hO
 obtain ⟨z115, X, hF⟩ := zoq hF
 cases hF
 have l2 := hO.val (i := 1) rfl (off := 0) (agg := true) (n := 5) rfl
 have hO := hO.sel [4, 5, 6, 7, 8]
 refine (hQ _ _ _ _ _ (zbY rfl (l2) (zco rfl)) hO hL ?_).1
 exact ⟨_, _, _, _, _, _, _, _, _, _, _, (by first | rfl | (simp only [zdn X]; done) | (simp only [← zdn X]; try rfl)), (by first | rfl | (simp only [zdn X]; done) | (simp only [← zdn X]; try rfl)), k5, q, z, B, D, E, g⟩
theorem zme {gn : Nat} (ih_check_checker_vals : zeZ gn) (ih_check_checker_exp : zew gn) (ih_check_checker_place : zeQ gn) (ih_check_checker_unary : zeN gn) (ih_check_checker_binary : zeJ gn) {τ : Hp} {q0 : zb} {d5 : Nat} {t9 u0 u1 : Value} {q6 : Ob} {u2 : Value} {q7 : Ob} {u3 : Value} {q8 : Ob} {u4 : Value} {q9 : Ob} {p1 : zc} {v2 : Value} (u5 : RdT zw τ t9 q0.prog.Structs) (u6 : RdT zt τ u0 q0.prog.Funcs) (u7 : za zq 59 τ u1 q0.tree.Bodies q6) (u9 : za zr 87 τ u2 q0.tree.Points q7) (v0 : za zo 82 τ u3 q0.vars q8) (v1 : za (Ty.int .i64) 3 τ u4 q0.scope q9) (v3 : RdT zZ τ v2 p1.Kids) {rr : Except (Value × zb) (zl × Int × zb)} (hF : zhm ((zy gn).1) ((zy gn).2.1) ((zy gn).2.2.1) ((zy gn).2.2.2.1) ((zy gn).2.2.2.2) q0 p1 = some rr) :
  zbu Try.prog 105 #[.pointer (some ⟨d5, 0, none⟩), .agg #[.int .u8 p1.Kind.toNat, .int .i64 p1.Num, .string p1.Name, .string p1.Field, .string p1.Op, v2]] τ [zm d5 t9 u0 u1 q0.tree.Main u2 q0.fn u3 u4, q6, q7, q8, q9] (fun v τ' vs' => match (generalizing := false) rr with | .ok rr => ∃ (v4 m4 m5 m6 : Value) (m7 : Ob) (m8 : Value) (m9 : Ob) (n0 : Value) (n1 : Ob) (n2 : Value) (n3 : Ob), v = .tuple #[.agg #[.int .u8 rr.1.Kind.toNat, .int .u8 rr.1.Op.toNat, .int .i64 rr.1.Var, .int .i64 rr.1.Num, v4], .int .u8 rr.2.1] ∧ vs' = [zm d5 m4 m5 m6 rr.2.2.tree.Main m8 rr.2.2.fn n0 n2, m7, m9, n1, n3] ∧ RdT zbk τ' v4 rr.1.Kids ∧ RdT zw τ' m4 rr.2.2.prog.Structs ∧ RdT zt τ' m5 rr.2.2.prog.Funcs ∧ za zq 59 τ' m6 rr.2.2.tree.Bodies m7 ∧ za zr 87 τ' m8 rr.2.2.tree.Points m9 ∧ za zo 82 τ' n0 rr.2.2.vars n1 ∧ za (Ty.int .i64) 3 τ' n2 rr.2.2.scope n3 | .error _ => False) (fun ch τ' vs' => match (generalizing := false) rr with | .ok _ => False | .error ee => ∃ (m4 m5 m6 : Value) (m7 : Ob) (m8 : Value) (m9 : Ob) (n0 : Value) (n1 : Ob) (n2 : Value) (n3 : Ob), ch = [{ v := ee.1, recovered := false }] ∧ vs' = [zm d5 m4 m5 m6 ee.2.tree.Main m8 ee.2.fn n0 n2, m7, m9, n1, n3] ∧ RdT zw τ' m4 ee.2.prog.Structs ∧ RdT zt τ' m5 ee.2.prog.Funcs ∧ za zq 59 τ' m6 ee.2.tree.Bodies m7 ∧ za zr 87 τ' m8 ee.2.tree.Points m9 ∧ za zo 82 τ' n0 ee.2.vars n1 ∧ za (Ty.int .i64) 3 τ' n2 ee.2.scope n3) := by
 obtain ⟨x9, y0, rfl, -⟩ := u5.form
 obtain ⟨y1, y2, rfl, -⟩ := u6.form
 obtain ⟨y3, y4, rfl, -⟩ := u7.form
 obtain ⟨y5, y6, rfl, -⟩ := u9.form
 obtain ⟨y7, y8, rfl, -⟩ := v0.form
 obtain ⟨y9, A0, rfl, -⟩ := v1.form
 obtain ⟨i3, i4, rfl, -⟩ := v3.form
 refine zcz (args := [.pointer (some ⟨d5, 0, none⟩), .agg #[.int .u8 p1.Kind.toNat, .int .i64 p1.Num, .string p1.Name, .string p1.Field, .string p1.Op, (.slice i3 p1.Kids.length i4)]]) hm Try.func105 znb rfl fun w0 σ hP hO Q hQ => ?_
 unfold zhm at hF
 have hL := Hp.le.refl τ
 show wpn _ _ zh0.body _ _ _
 unfold zh0
 dsimp only
 refine zbJ (n := 6) hO rfl rfl fun b3 σ hO => ?_
 have hO := zop6 hO
 refine zbm hO fun b4 σ hO => ?_
 have hO := zop7 hO
 refine zd hO [] [] [0, 3, 4] zn6 fun j => ?_
 refine zd hO [] [(6, .slice none 0 0)] [0, 3, 4] zn7 fun j => ?_
 refine zd hO [] [(7, .slice none 0 0)] [0, 3, 4, 6] zn8 fun j => ?_
 refine zn (zd hO [5] [(16, zor i3 p1.Kids i4), (17, zok (p1.Kids.length : Int)), (18, zok 0)] [0, 3, 4, 6, 7] (And.intro (And.intro rfl rfl) zob) fun j => ?_)
 refine zbr ?_
 have hO := hO.no
 have hO := zop8 hO
 have hO := hO.no
 have hO := zop9 hO
 refine zcg (fun (n : Nat) e' σ' => ∃ (d6 : Option Addr) (d7 : Nat) (o : List zbj) (d8 : Option Addr) (d9 : Nat) (q : List zB) (n5 : Option Addr) (n6 : Nat) (n7 : Ob) (f3 : List zI) (X : Int) (n8 : Option Addr) (n9 : Nat) (o0 : Ob) (f4 : List zE) (Y : Int) (o1 : Option Addr) (o2 : Nat) (o3 : Ob) (f5 : List zG) (o4 : Option Addr) (o5 : Nat) (o6 : Ob) (f6 : List Int) (j0 : Option Addr) (j1 : Nat) (o7 : Ob) (f0 : List zl) (j2 : Option Addr) (j3 : Nat) (o8 : Ob) (f1 : List UInt8) (i5 : Int) (τ' : Hp), agr [(0, zol d5), (3, zol b3), (4, zol b4), (6, zor j0 f0 j1), (7, zor j2 f1 j3), (16, zor i3 p1.Kids i4), (17, zok (p1.Kids.length : Int)), (18, zok i5)] e' ∧ Obs τ' σ' [zm d5 (zor d6 o d7) (zor d8 q d9) (zor n5 f3 n6) X (zor n8 f4 n9) Y (zor o1 f5 o2) (zor o4 f6 o5), n7, o0, o3, o6, zeE b3 (p1.Kind.toNat : Int) p1.Num p1.Name p1.Field p1.Op (zor i3 p1.Kids i4), zdx b4 0 0 0 0 (.slice none 0 0), o7, o8] ∧ Hp.le τ τ' ∧ RdT zw τ' (zor d6 o d7) o ∧ RdT zt τ' (zor d8 q d9) q ∧ za zq 59 τ' (zor n5 f3 n6) f3 n7 ∧ za zr 87 τ' (zor n8 f4 n9) f4 o0 ∧ za zo 82 τ' (zor o1 f5 o2) f5 o3 ∧ za (Ty.int .i64) 3 τ' (zor o4 f6 o5) f6 o6 ∧ za zbk 140 τ' (zor j0 f0 j1) f0 o7 ∧ za Ty.u8 5 τ' (zor j2 f1 j3) f1 o8 ∧ zd2 (zy gn).2.1 p1 n o q f3 X f4 Y f5 f6 f0 f1 i5 = some rr) big ⟨x9, y0, q0.prog.Structs, y1, y2, q0.prog.Funcs, y3, y4, q6, q0.tree.Bodies, q0.tree.Main, y5, y6, q7, q0.tree.Points, q0.fn, y7, y8, q8, q0.vars, y9, A0, q9, q0.scope, none, 0, none, [], none, 0, none, [], 0, _, zoj zoa, hO, hL, (u5.le hL), (u6.le hL), (u7.le hL), (u9.le hL), (v0.le hL), (v1.le hL), za.nil _ _ _, za.nil _ _ _, hF⟩ ?_
 clear hF hO hL
 rintro r1 e σ ⟨d6, d7, o, d8, d9, q, n5, n6, n7, f3, X, n8, n9, o0, f4, Y, o1, o2, o3, f5, o4, o5, o6, f6, j0, j1, o7, f0, j2, j3, o8, f1, i5, _, hA, hO, hL, j4, j5, j6, j7, j8, j9, g6, g7, hF⟩
 rw [← zW _ _ hA]
 cases r1 with
 | zero => exact nomatch (show none = some rr from hF)
 | succ r1 =>
 replace hF : zfC (zd2 (zy gn).2.1 p1 r1) (zy gn).2.1 p1 o q f3 X f4 Y f5 f6 f0 f1 i5 = some rr := hF
 unfold zfC at hF
 refine zd hO [] [(19, .bool (decide (i5 < (p1.Kids.length : Int))))] [0, 3, 4, 6, 7, 16, 17, 18] zoc fun j => ?_
 refine zz hF rfl (fun hF => ?_) fun hF => ?_
 ·refine zN (zbr ?_)
  obtain ⟨k0, A6, hF⟩ := zoq hF
  refine zbG (T := zZ) (v3.le hL) hO.base rfl rfl A6 (by decide) fun a662 _ A7 A8 => ?_
  obtain ⟨F5, rfl, i6⟩ := zjF A7
  obtain ⟨A9, B0, rfl, -⟩ := i6.form
  refine zbh rfl ((A8.le hO.base).all rfl) ?_
  refine zbm hO fun F6 σ hO => ?_
  have hO := zop10 hO
  refine zu hO (i := 9) rfl (off := 0) rfl rfl rfl rfl (Nat.le_of_ble_eq_true rfl) rfl fun σ hO => ?_
  have hO := zop10 hO
  refine ze (zg hO 2 [9] [(23, zol d5), (24, .agg #[(.int .u8 (k0.Kind.toNat : Int)), (.int .i64 k0.Num), (.string k0.Name), (.string k0.Field), (.string k0.Op), (zor A9 k0.Kids B0)])] [0, 3, 4, 6, 7, 16, 17, 18] (And.intro (And.intro rfl rfl) zod) fun j => ?_)
  have hO := hO.sel [5, 6, 7, 8, 9, 0, 1, 2, 3, 4]
  rcases zP hF with ⟨F7, B1, hF⟩ | ⟨g, B2, hF⟩
  ·refine zbo (hs := [_, _, _, _, _]) hO (ih_check_checker_exp (q0 := (⟨(⟨o, q⟩ : zs), (⟨f3, X, f4⟩ : zx), Y, f5, f6⟩ : zb)) j4 j5 j6 j7 j8 j9 i6 B1) zn2 rfl fun _ σ _ _ hO r2 B3 => ?_
   have hL := hL.trans r2
   have g6 := g6.le r2
   have g7 := g7.le r2
   have i6 := i6.le r2
   obtain ⟨F8, F9, G0, G1, G2, G3, G4, G5, G6, G7, rfl, rfl, v5, v6, v7, v8, v9, w2⟩ := B3
   obtain ⟨G8, G9, rfl, -⟩ := v5.form
   obtain ⟨H0, H1, rfl, -⟩ := v6.form
   obtain ⟨H2, H3, rfl, -⟩ := v7.form
   obtain ⟨H4, H5, rfl, -⟩ := v8.form
   obtain ⟨H6, H7, rfl, -⟩ := v9.form
   obtain ⟨H8, H9, rfl, -⟩ := w2.form
   have hO := zop10 hO
   cases hF
   have hO := hO.sel [5, 6, 7, 8, 9]
   exact hP _ _ _ _ hO hL ⟨_, _, _, _, _, _, _, _, _, _, rfl, rfl, v5, v6, v7, v8, v9, w2⟩
  refine zbn (hs := [_, _, _, _, _]) hO (ih_check_checker_exp (q0 := (⟨(⟨o, q⟩ : zs), (⟨f3, X, f4⟩ : zx), Y, f5, f6⟩ : zb)) j4 j5 j6 j7 j8 j9 i6 B2) zn2 rfl fun _ σ _ _ hO r3 B4 => ?_
  have hL := hL.trans r3
  have g6 := g6.le r3
  have g7 := g7.le r3
  have i6 := i6.le r3
  obtain ⟨I0, I1, I2, I3, B5, I4, B6, I5, B7, I6, B8, rfl, rfl, w3, w4, w5, w6, w7, w8, w9⟩ := B4
  obtain ⟨x0, x1, rfl, -⟩ := w3.form
  obtain ⟨B9, C0, rfl, -⟩ := w4.form
  obtain ⟨C1, C2, rfl, -⟩ := w5.form
  obtain ⟨C3, C4, rfl, -⟩ := w6.form
  obtain ⟨C5, C6, rfl, -⟩ := w7.form
  obtain ⟨C7, C8, rfl, -⟩ := w8.form
  obtain ⟨C9, D0, rfl, -⟩ := w9.form
  have hO := zop10 hO
  refine zg hO 3 [] [(26, .agg #[(.int .u8 (g.1.Kind.toNat : Int)), (.int .u8 (g.1.Op.toNat : Int)), (.int .i64 g.1.Var), (.int .i64 g.1.Num), (zor x0 g.1.Kids x1)]), (27, .int .u8 g.2.1)] [0, 3, 4, 6, 7, 16, 17, 18] zod fun j => ?_
  refine zbm hO fun I7 σ hO => ?_
  have hO := zop11 hO
  refine zu hO (i := 10) rfl (off := 0) rfl rfl rfl rfl (Nat.le_of_ble_eq_true rfl) rfl fun σ hO => ?_
  have hO := zop11 hO
  refine zd hO [] [(11, .int .u8 g.2.1)] [0, 3, 4, 6, 7, 10, 16, 17, 18] zod fun j => ?_
  refine zbi (zg hO 2 [10] [(28, zor j0 f0 j1), (29, .agg #[(.int .u8 (g.1.Kind.toNat : Int)), (.int .u8 (g.1.Op.toNat : Int)), (.int .i64 g.1.Var), (.int .i64 g.1.Num), (zor x0 g.1.Kids x1)])] [0, 3, 4, 7, 11, 16, 17, 18] (And.intro (And.intro rfl rfl) zod) fun j => ?_)
  obtain ⟨_, A1, hF⟩ := zoq hF
  refine zdt (T := zbk) (y := (⟨g.1.Kind, g.1.Op, g.1.Var, g.1.Num, g.1.Kids⟩ : zl)) hO g6 (i := 2) rfl rfl (fun _ => rfl) rfl (zj7 ⟨_, rfl, w3⟩) rfl A1 (by decide) fun u _ σ D1 x2 hO => ?_
  obtain ⟨x3, x4, rfl, -⟩ := x2.form
  have hO := zop11 hO
  refine zg hO 2 [] [(32, zor j2 f1 j3), (33, .int .u8 g.2.1)] [0, 3, 4, 16, 17, 18, 31] zoc fun j => ?_
  obtain ⟨z744, A2, hF⟩ := zoq hF
  obtain ⟨_, A3, hF⟩ := zoq hF
  refine zdt (T := Ty.u8) (y := z744) hO g7 (i := 3) rfl rfl (fun _ => rfl) rfl (u8R A2) rfl A3 (by decide) fun u _ σ D2 x5 hO => ?_
  obtain ⟨x6, x7, rfl, -⟩ := x5.form
  have hO := zop11 hO
  refine zd hO [] [(6, zor x3 (f0 ++ [(⟨g.1.Kind, g.1.Op, g.1.Var, g.1.Num, g.1.Kids⟩ : zl)]) x4), (7, zor x6 (f1 ++ [z744]) x7)] [0, 3, 4, 16, 17, 18] zob fun j => ?_
  refine zh (zX (zi (zbi (zd hO [] [(18, zok (IntKind.i64.wrap (i5 + 1)))] [0, 3, 4, 6, 7, 16, 17] zob fun j => ?_))))
  refine zh (zi ?_)
  have hO := hO.sel [5, 6, 7, 8, 9, 0, 1, 2, 3]
  exact ⟨r1, Nat.lt_succ_self _, B9, C0, g.2.2.prog.Structs, C1, C2, g.2.2.prog.Funcs, C3, C4, B5, g.2.2.tree.Bodies, g.2.2.tree.Main, C5, C6, B6, g.2.2.tree.Points, g.2.2.fn, C7, C8, B7, g.2.2.vars, C9, D0, B8, g.2.2.scope, x3, x4, D1, (f0 ++ [(⟨g.1.Kind, g.1.Op, g.1.Var, g.1.Num, g.1.Kids⟩ : zl)]), x6, x7, D2, (f1 ++ [z744]), (IntKind.i64.wrap (i5 + 1)), _, zoj zoa, hO, hL, w4, w5, w6, w7, w8, w9, x2, x5, hF⟩
 refine zb9 (zbR (zbX (zi (zg hO 2 [5] [(38, .string p1.Op)] [0, 3, 4, 6, 7] (And.intro (And.intro rfl rfl) zn9) fun j => ?_))))
 obtain ⟨k, D3, hF⟩ := zoq hF
 refine z3 hO (zmf D3) rfl fun _ σ _ _ hO g8 D4 => ?_
 have hL := hL.trans g8
 have g6 := g6.le g8
 have g7 := g7.le g8
 have j4 := j4.le g8
 have j5 := j5.le g8
 have j6 := j6.le g8
 have j7 := j7.le g8
 have j8 := j8.le g8
 have j9 := j9.le g8
 obtain ⟨rfl, rfl⟩ := D4
 have hO := zop9 hO
 refine zd hO [] [(12, .int .u8 k)] [0, 3, 4, 6, 7] zn9 fun j => ?_
 refine zd hO [] [(13, .int .u8 1), (14, .int .u8 1)] [0, 3, 4, 6, 7, 12] zob fun j => ?_
 refine zn (zd hO [] [(40, .int .u8 k)] [0, 3, 4, 6, 7, 12, 13, 14] zoc fun j => ?_)
 refine zfQ (fun e' σ' => ∃ (o9 : Option Addr) (p2 : Nat) (p3 : Ob) (h1 : List zI) (p4 : Option Addr) (p5 : Nat) (p6 : Ob) (h2 : List zE) (p7 : Option Addr) (p8 : Nat) (p9 : Ob) (h3 : List zG) (q2 : Option Addr) (q3 : Nat) (q4 : Ob) (h4 : List Int) (k1 : Option Addr) (k2 : Nat) (q5 : Ob) (g9 : List zl) (r4 : Option Addr) (r5 : Nat) (r6 : Ob) (k3 : List UInt8) (h0 k4 : Int) (τ' : Hp), agr [(0, zol d5), (3, zol b3), (4, zol b4), (6, zor k1 g9 k2), (7, zor r4 k3 r5), (12, .int .u8 k), (13, .int .u8 h0), (14, .int .u8 k4)] e' ∧ Obs τ' σ' [zm d5 (zor d6 o d7) (zor d8 q d9) (zor o9 h1 p2) X (zor p4 h2 p5) Y (zor p7 h3 p8) (zor q2 h4 q3), p3, p6, p9, q4, zeE b3 (p1.Kind.toNat : Int) p1.Num p1.Name p1.Field p1.Op (zor i3 p1.Kids i4), zdx b4 0 0 0 0 (.slice none 0 0), q5, r6] ∧ Hp.le τ τ' ∧ RdT zw τ' (zor d6 o d7) o ∧ RdT zt τ' (zor d8 q d9) q ∧ za zq 59 τ' (zor o9 h1 p2) h1 p3 ∧ za zr 87 τ' (zor p4 h2 p5) h2 p6 ∧ za zo 82 τ' (zor p7 h3 p8) h3 p9 ∧ za (Ty.int .i64) 3 τ' (zor q2 h4 q3) h4 q4 ∧ za zbk 140 τ' (zor k1 g9 k2) g9 q5 ∧ za Ty.u8 5 τ' (zor r4 k3 r5) k3 r6 ∧ zcu p1 o q X Y k h1 h2 h3 h4 g9 k3 h0 k4 = some rr) ?_ ?_
 ·refine zn (zd hO [] [(41, .bool (k == 12))] [0, 3, 4, 6, 7, 12, 13, 14, 40] zod fun j => ?_)
  refine zcL (fun e' σ' => ∃ (k5 : Option Addr) (k6 : Nat) (k7 : Ob) (h5 : List zI) (k8 : Option Addr) (k9 : Nat) (l0 : Ob) (h6 : List zE) (l1 : Option Addr) (l2 : Nat) (l3 : Ob) (h7 : List zG) (l4 : Option Addr) (l5 : Nat) (l6 : Ob) (h8 : List Int) (l7 : Option Addr) (l8 : Nat) (l9 : Ob) (h9 : List zl) (m0 : Option Addr) (m1 : Nat) (m2 : Ob) (i0 : List UInt8) (r8 : Bool) (τ' : Hp), agr [(0, zol d5), (3, zol b3), (4, zol b4), (6, zor l7 h9 l8), (7, zor m0 i0 m1), (12, .int .u8 k), (13, .int .u8 1), (14, .int .u8 1), (40, .int .u8 k), (41, .bool r8)] e' ∧ Obs τ' σ' [zm d5 (zor d6 o d7) (zor d8 q d9) (zor k5 h5 k6) X (zor k8 h6 k9) Y (zor l1 h7 l2) (zor l4 h8 l5), k7, l0, l3, l6, zeE b3 (p1.Kind.toNat : Int) p1.Num p1.Name p1.Field p1.Op (zor i3 p1.Kids i4), zdx b4 0 0 0 0 (.slice none 0 0), l9, m2] ∧ Hp.le τ τ' ∧ RdT zw τ' (zor d6 o d7) o ∧ RdT zt τ' (zor d8 q d9) q ∧ za zq 59 τ' (zor k5 h5 k6) h5 k7 ∧ za zr 87 τ' (zor k8 h6 k9) h6 l0 ∧ za zo 82 τ' (zor l1 h7 l2) h7 l3 ∧ za (Ty.int .i64) 3 τ' (zor l4 h8 l5) h8 l6 ∧ za zbk 140 τ' (zor l7 h9 l8) h9 l9 ∧ za Ty.u8 5 τ' (zor m0 i0 m1) i0 m2 ∧ zdy p1 o q X Y k h5 h6 h7 h8 h9 i0 r8 = some rr) ?_ ?_
  ·refine zbz (zz hF rfl (fun hF => ?_) fun hF => ?_)
   ·refine zN (zh (zi ?_))
    exact ⟨n5, n6, n7, f3, n8, n9, o0, f4, o1, o2, o3, f5, o4, o5, o6, f6, j0, j1, o7, f0, j2, j3, o8, f1, (k == 12), _, zoj zoc, hO, hL, j4, j5, j6, j7, j8, j9, g6, g7, hF⟩
   refine zd hO [] [(41, .bool (k == 13))] [0, 3, 4, 6, 7, 12, 13, 14, 40] zod fun j => ?_
   refine zh (zi ?_)
   exact ⟨n5, n6, n7, f3, n8, n9, o0, f4, o1, o2, o3, f5, o4, o5, o6, f6, j0, j1, o7, f0, j2, j3, o8, f1, (k == 13), _, zoj zoc, hO, hL, j4, j5, j6, j7, j8, j9, g6, g7, hF⟩
  rintro e σ ⟨k5, k6, k7, h5, k8, k9, l0, h6, l1, l2, l3, h7, l4, l5, l6, h8, l7, l8, l9, h9, m0, m1, m2, i0, r8, _, hA, hO, hL, r9, t0, t1, t2, t3, t4, t5, t6, hF⟩
  rw [← zW _ _ hA]
  unfold zdy at hF
  refine zbz (zz hF rfl (fun hF => ?_) fun hF => ?_)
  ·refine zd hO [] [(13, .int .u8 2), (14, .int .u8 2)] [0, 3, 4, 6, 7, 12] zob fun j => ?_
   refine zh (zX (zi ?_))
   exact ⟨k5, k6, k7, h5, k8, k9, l0, h6, l1, l2, l3, h7, l4, l5, l6, h8, l7, l8, l9, h9, m0, m1, m2, i0, 2, 2, _, zoj zoa, hO, hL, r9, t0, t1, t2, t3, t4, t5, t6, hF⟩
  refine zn (zn (zd hO [] [(44, .bool (k == 6))] [0, 3, 4, 6, 7, 12, 13, 14, 40] zod fun j => ?_))
  refine zcL (fun e' σ' => ∃ (Z : Option Addr) (b0 : Nat) (b1 : Ob) (D : List zI) (b2 : Option Addr) (b5 : Nat) (b6 : Ob) (E : List zE) (b7 : Option Addr) (b8 : Nat) (b9 : Ob) (G : List zG) (c0 : Option Addr) (c1 : Nat) (c2 : Ob) (I : List Int) (V : Option Addr) (W : Nat) (c3 : Ob) (B : List zl) (S : Option Addr) (U : Nat) (c4 : Ob) (z : List UInt8) (t7 : Bool) (τ' : Hp), agr [(0, zol d5), (3, zol b3), (4, zol b4), (6, zor V B W), (7, zor S z U), (12, .int .u8 k), (13, .int .u8 1), (14, .int .u8 1), (40, .int .u8 k), (44, .bool t7)] e' ∧ Obs τ' σ' [zm d5 (zor d6 o d7) (zor d8 q d9) (zor Z D b0) X (zor b2 E b5) Y (zor b7 G b8) (zor c0 I c1), b1, b6, b9, c2, zeE b3 (p1.Kind.toNat : Int) p1.Num p1.Name p1.Field p1.Op (zor i3 p1.Kids i4), zdx b4 0 0 0 0 (.slice none 0 0), c3, c4] ∧ Hp.le τ τ' ∧ RdT zw τ' (zor d6 o d7) o ∧ RdT zt τ' (zor d8 q d9) q ∧ za zq 59 τ' (zor Z D b0) D b1 ∧ za zr 87 τ' (zor b2 E b5) E b6 ∧ za zo 82 τ' (zor b7 G b8) G b9 ∧ za (Ty.int .i64) 3 τ' (zor c0 I c1) I c2 ∧ za zbk 140 τ' (zor V B W) B c3 ∧ za Ty.u8 5 τ' (zor S z U) z c4 ∧ zef p1 o q X Y k D E G I B z t7 = some rr) ?_ ?_
  ·refine zbz (zz hF rfl (fun hF => ?_) fun hF => ?_)
   ·refine zN (zh (zi ?_))
    exact ⟨k5, k6, k7, h5, k8, k9, l0, h6, l1, l2, l3, h7, l4, l5, l6, h8, l7, l8, l9, h9, m0, m1, m2, i0, (k == 6), _, zoj zoc, hO, hL, r9, t0, t1, t2, t3, t4, t5, t6, hF⟩
   refine zd hO [] [(44, .bool (k == 7))] [0, 3, 4, 6, 7, 12, 13, 14, 40] zod fun j => ?_
   refine zh (zi ?_)
   exact ⟨k5, k6, k7, h5, k8, k9, l0, h6, l1, l2, l3, h7, l4, l5, l6, h8, l7, l8, l9, h9, m0, m1, m2, i0, (k == 7), _, zoj zoc, hO, hL, r9, t0, t1, t2, t3, t4, t5, t6, hF⟩
  rintro e σ ⟨Z, b0, b1, D, b2, b5, b6, E, b7, b8, b9, G, c0, c1, c2, I, V, W, c3, B, S, U, c4, z, t7, _, hA, hO, hL, f7, f8, f9, g0, g1, g2, g3, f2, hF⟩
  rw [← zW _ _ hA]
  unfold zef at hF
  refine zz hF rfl (fun hF => ?_) fun hF => ?_
  ·refine zn (zd hO [] [(14, .int .u8 2)] [0, 3, 4, 6, 7, 12, 13] zob fun j => ?_)
   refine zn (zg hO 4 [] [(50, .bool (decide ((z.length : Int) > 0)))] [0, 3, 4, 6, 7, 12, 13, 14] zoc fun j => ?_)
   obtain ⟨D5, D6, hF⟩ := zoq hF
   refine zgy 2 [(55, .bool D5), (0, zol d5), (3, zol b3), (4, zol b4), (6, zor V B W), (7, zor S z U), (12, .int .u8 k), (13, .int .u8 1), (14, .int .u8 2)] (fun Q hQ => ?_) fun j => ?_
   ·have hF := D6
    rcases zb8 hF with ⟨i8, hF⟩ | ⟨i8, hF⟩
    ·refine zbA (zoo i8) ?_
     refine zg hO 1 [] [(51, zor S z U)] [0, 3, 4, 6, 7, 12, 13, 14, 50] zod fun j => ?_
     obtain ⟨x8, D7, hF⟩ := zoq hF
     refine zdg (T := Ty.u8) hO f2 (i := 8) rfl rfl rfl D7 (by decide) fun a977 _ D8 D9 I8 => ?_
     have E0 := D8
     obtain rfl : _ = ([.int .u8 x8.toNat] : List Value) := E0
     refine zbh rfl D9.fst ?_
     refine zg hO 1 [] [(54, .bool ((x8.toNat : Int) == 2))] [0, 3, 4, 6, 7, 12, 13, 14, 50] zod fun j => ?_
     refine zbf (zom i8) ?_
     refine ze ?_
     cases hF
     refine zh ?_
     exact hQ _ zoc
    refine zbI (zoo i8) ?_
    refine zbf (zom i8) ?_
    refine ze ?_
    cases hF
    refine zh ?_
    exact hQ _ zoc
   refine ze (zz hF rfl (fun hF => ?_) fun hF => ?_)
   ·refine zd hO [] [(13, .int .u8 2)] [0, 3, 4, 6, 7, 12, 14] zob fun j => ?_
    refine zh (zX (zi ?_))
    exact ⟨Z, b0, b1, D, b2, b5, b6, E, b7, b8, b9, G, c0, c1, c2, I, V, W, c3, B, S, U, c4, z, 2, 2, _, zoj zoa, hO, hL, f7, f8, f9, g0, g1, g2, g3, f2, hF⟩
   refine zN (zh (zX (zi ?_)))
   exact ⟨Z, b0, b1, D, b2, b5, b6, E, b7, b8, b9, G, c0, c1, c2, I, V, W, c3, B, S, U, c4, z, 1, 2, _, zoj zoa, hO, hL, f7, f8, f9, g0, g1, g2, g3, f2, hF⟩
  refine zn (zn (zd hO [] [(56, .bool (k == 8))] [0, 3, 4, 6, 7, 12, 13, 14, 40] zod fun j => ?_))
  refine zz hF rfl (fun hF => ?_) fun hF => ?_
  ·refine zN (zz hF rfl (fun hF => ?_) fun hF => ?_)
   ·refine zd hO [] [(14, .int .u8 2)] [0, 3, 4, 6, 7, 12, 13] zob fun j => ?_
    refine zh (zX (zi ?_))
    exact ⟨Z, b0, b1, D, b2, b5, b6, E, b7, b8, b9, G, c0, c1, c2, I, V, W, c3, B, S, U, c4, z, 1, 2, _, zoj zoa, hO, hL, f7, f8, f9, g0, g1, g2, g3, f2, hF⟩
   refine zN (zh (zX (zi ?_)))
   exact ⟨Z, b0, b1, D, b2, b5, b6, E, b7, b8, b9, G, c0, c1, c2, I, V, W, c3, B, S, U, c4, z, 1, 1, _, zoj zoa, hO, hL, f7, f8, f9, g0, g1, g2, g3, f2, hF⟩
  refine zn (zd hO [] [(56, .bool (k == 9))] [0, 3, 4, 6, 7, 12, 13, 14, 40] zod fun j => ?_)
  refine zz hF rfl (fun hF => ?_) fun hF => ?_
  ·refine zN (zz hF rfl (fun hF => ?_) fun hF => ?_)
   ·refine zd hO [] [(14, .int .u8 2)] [0, 3, 4, 6, 7, 12, 13] zob fun j => ?_
    refine zh (zX (zi ?_))
    exact ⟨Z, b0, b1, D, b2, b5, b6, E, b7, b8, b9, G, c0, c1, c2, I, V, W, c3, B, S, U, c4, z, 1, 2, _, zoj zoa, hO, hL, f7, f8, f9, g0, g1, g2, g3, f2, hF⟩
   refine zN (zh (zX (zi ?_)))
   exact ⟨Z, b0, b1, D, b2, b5, b6, E, b7, b8, b9, G, c0, c1, c2, I, V, W, c3, B, S, U, c4, z, 1, 1, _, zoj zoa, hO, hL, f7, f8, f9, g0, g1, g2, g3, f2, hF⟩
  refine zn (zd hO [] [(56, .bool (k == 10))] [0, 3, 4, 6, 7, 12, 13, 14, 40] zod fun j => ?_)
  refine zz hF rfl (fun hF => ?_) fun hF => ?_
  ·refine zN (zz hF rfl (fun hF => ?_) fun hF => ?_)
   ·refine zd hO [] [(14, .int .u8 2)] [0, 3, 4, 6, 7, 12, 13] zob fun j => ?_
    refine zh (zX (zi ?_))
    exact ⟨Z, b0, b1, D, b2, b5, b6, E, b7, b8, b9, G, c0, c1, c2, I, V, W, c3, B, S, U, c4, z, 1, 2, _, zoj zoa, hO, hL, f7, f8, f9, g0, g1, g2, g3, f2, hF⟩
   refine zN (zh (zX (zi ?_)))
   exact ⟨Z, b0, b1, D, b2, b5, b6, E, b7, b8, b9, G, c0, c1, c2, I, V, W, c3, B, S, U, c4, z, 1, 1, _, zoj zoa, hO, hL, f7, f8, f9, g0, g1, g2, g3, f2, hF⟩
  refine zd hO [] [(56, .bool (k == 11))] [0, 3, 4, 6, 7, 12, 13, 14] zoc fun j => ?_
  refine zz hF rfl (fun hF => ?_) fun hF => ?_
  ·refine zd hO [] [(14, .int .u8 2)] [0, 3, 4, 6, 7, 12, 13] zob fun j => ?_
   refine zh (zX (zi ?_))
   exact ⟨Z, b0, b1, D, b2, b5, b6, E, b7, b8, b9, G, c0, c1, c2, I, V, W, c3, B, S, U, c4, z, 1, 2, _, zoj zoa, hO, hL, f7, f8, f9, g0, g1, g2, g3, f2, hF⟩
  refine zN (zh (zX (zi ?_)))
  exact ⟨Z, b0, b1, D, b2, b5, b6, E, b7, b8, b9, G, c0, c1, c2, I, V, W, c3, B, S, U, c4, z, 1, 1, _, zoj zoa, hO, hL, f7, f8, f9, g0, g1, g2, g3, f2, hF⟩
 rintro e σ ⟨o9, p2, p3, h1, p4, p5, p6, h2, p7, p8, p9, h3, q2, q3, q4, h4, k1, k2, q5, g9, r4, r5, r6, k3, h0, k4, _, hA, hO, hL, c5, c6, c7, c8, c9, d0, g4, t8, hF⟩
 rw [← zW _ _ hA]
 unfold zcu at hF
 refine zg hO 7 [5] [(68, .bool (((p1.Kind.toNat : Int) == 7) && (k != 0)))] [0, 4, 6, 7, 12, 13, 14] (And.intro (And.intro rfl rfl) (And.intro (And.intro rfl rfl) (fun _ => zoj zoa))) fun j => ?_
 have hO := hO.sel [0, 1, 2, 3, 4, 6, 7, 8]
 have hO := zop8 hO
 obtain ⟨E1, E2, hF⟩ := zoq hF
 refine zcW 2 (fun e' σ' => ∃ (τ' : Hp), agr [(74, .bool E1), (0, zol d5), (4, zol b4), (6, zor k1 g9 k2), (12, .int .u8 k), (14, .int .u8 k4)] e' ∧ Obs τ' σ' [zm d5 (zor d6 o d7) (zor d8 q d9) (zor o9 h1 p2) X (zor p4 h2 p5) Y (zor p7 h3 p8) (zor q2 h4 q3), p3, p6, p9, q4, zdx b4 0 0 0 0 (.slice none 0 0), q5, r6] ∧ Hp.le τ τ' ∧ za zbk 140 τ' (zor k1 g9 k2) g9 q5 ∧ RdT zw τ' (zor d6 o d7) o ∧ RdT zt τ' (zor d8 q d9) q ∧ za zq 59 τ' (zor o9 h1 p2) h1 p3 ∧ za zr 87 τ' (zor p4 h2 p5) h2 p6 ∧ za zo 82 τ' (zor p7 h3 p8) h3 p9 ∧ za (Ty.int .i64) 3 τ' (zor q2 h4 q3) h4 q4) ?_ ?_
 ·have hF := E2
  rcases zb8 hF with ⟨i9, hF⟩ | ⟨i9, hF⟩
  ·refine zbA (zoo i9) ?_
   refine zg hO 3 [] [(69, zor r4 k3 r5), (70, .int .u8 h0), (71, .int .u8 h0)] [0, 4, 6, 12, 14, 68] zoc fun j => ?_
   obtain ⟨z881, A4, hF⟩ := zoq hF
   obtain ⟨z882, A5, hF⟩ := zoq hF
   refine z5 (T := Ty.u8) (l := ([z881, z882] : List UInt8)) (cs := [.int .u8 h0, .int .u8 h0]) hO rfl ⟨[.int .u8 h0], _, rfl, (u8R A4), ⟨[.int .u8 h0], _, rfl, (u8R A5), rfl⟩⟩ rfl (by decide) fun _ σ I9 r7 hO => ?_
   obtain ⟨J0, J1, rfl, -⟩ := r7.form
   have hO := zop9 hO
   obtain ⟨J2, E3, hF⟩ := zoq hF
   refine zb1 (hs := [_, _, _, _, _, _, _]) hO (Ctr.lendG t8 (zkH (fun _ _ _ _ h => h)) fun _ F0 F1 => Ctr.lendG (r7.le F0) (fun _ _ _ _ h => h) fun _ F2 F3 => ziY (F1.le F2) F3 E3) rfl fun _ σ _ _ hO g5 E4 => ?_
   have hL := hL.trans g5
   have g4 := g4.le g5
   have t8 := t8.le g5
   have r7 := r7.le g5
   have c5 := c5.le g5
   have c6 := c6.le g5
   have c7 := c7.le g5
   have c8 := c8.le g5
   have c9 := c9.le g5
   have d0 := d0.le g5
   obtain ⟨_, rfl, _, rfl, rfl, rfl⟩ := E4
   have hO := zop9 hO
   refine zbf (zom i9) ?_
   refine ze ?_
   cases hF
   refine zh ?_
   have hO := hO.sel [0, 1, 2, 3, 4, 5, 6, 7]
   exact ⟨rfl, _, zoj zn8, hO, hL, g4, c5, c6, c7, c8, c9, d0⟩
  refine zbI (zoo i9) ?_
  refine zbf (zom i9) ?_
  refine ze ?_
  cases hF
  refine zh ?_
  exact ⟨rfl, _, zoj zn8, hO, hL, g4, c5, c6, c7, c8, c9, d0⟩
 rintro e σ ⟨_, hA, hO, hL, g4, c5, c6, c7, c8, c9, d0⟩
 rw [← zW _ _ hA]
 rcases zP hF with ⟨J3, E5, hF⟩ | ⟨J4, E6, hF⟩
 ·refine zbM hO (zbg E5) zn2 rfl fun _ σ _ _ hO i1 E7 => ?_
  have hL := hL.trans i1
  have g4 := g4.le i1
  have c5 := c5.le i1
  have c6 := c6.le i1
  have c7 := c7.le i1
  have c8 := c8.le i1
  have c9 := c9.le i1
  have d0 := d0.le i1
  obtain ⟨rfl, rfl⟩ := E7
  have hO := zop8 hO
  cases hF
  have hO := hO.sel [0, 1, 2, 3, 4]
  exact hP _ _ _ _ hO hL ⟨_, _, _, _, _, _, _, _, _, _, rfl, rfl, c5, c6, c7, c8, c9, d0⟩
 refine zbO hO (zbg E6) zn2 rfl fun _ σ _ _ hO i2 E8 => ?_
 have hL := hL.trans i2
 have g4 := g4.le i2
 have c5 := c5.le i2
 have c6 := c6.le i2
 have c7 := c7.le i2
 have c8 := c8.le i2
 have c9 := c9.le i2
 have d0 := d0.le i2
 obtain ⟨rfl, rfl⟩ := E8
 have hO := zop8 hO
 refine ze (zg hO 4 [] [(78, .agg #[(.int .u8 6), (.int .u8 k), (.int .i64 0), (.int .i64 0), (zor k1 g9 k2)]), (79, .int .u8 k4)] [0, 4] zn7 fun j => ?_)
 refine zu hO (i := 5) rfl (off := 0) rfl rfl rfl rfl (Nat.le_of_ble_eq_true rfl) rfl fun σ hO => ?_
 have hO := zop8 hO
 refine zd hO [] [(5, .int .u8 k4)] [0, 4] zn6 fun j => ?_
 refine zbb ?_
 obtain ⟨_, i7, E9, hO⟩ := g4.share hO (i := 6) rfl
 have hL := hL.trans i7
 have c5 := c5.le i7
 have c6 := c6.le i7
 have c7 := c7.le i7
 have c8 := c8.le i7
 have c9 := c9.le i7
 have d0 := d0.le i7
 have hO := zop8 hO
 obtain ⟨z901, m3, hF⟩ := zoq hF
 cases hF
 have F4 := hO.val (i := 5) rfl (off := 0) (agg := true) (n := 5) rfl
 have hO := hO.sel [0, 1, 2, 3, 4]
 refine (hQ _ _ _ _ _ (zbY rfl (F4) (zco rfl)) hO hL ?_).1
 exact ⟨_, _, _, _, _, _, _, _, _, _, _, (by first | rfl | (simp only [zdn m3]; done) | (simp only [← zdn m3]; try rfl)), (by first | rfl | (simp only [zdn m3]; done) | (simp only [← zdn m3]; try rfl)), E9, c5, c6, c7, c8, c9, d0⟩
theorem zmR (n : Nat) : zeZ n ∧ zew n ∧ zeQ n ∧ zeN n ∧ zeJ n := by
 induction n with
 | zero =>
  refine ⟨?_, ?_, ?_, ?_, ?_⟩
  ·intro τ q0 Y v z B D E G I S U V v1 p1 v2 p2 g h j k o q r1 r2 rr hF; exact nomatch (show none = some rr from hF)
  ·intro τ q0 Y v z B D E G I S U V p1 X g h j k o q W rr hF; exact nomatch (show none = some rr from hF)
  ·intro τ q0 Y v z B D E G I S U V p1 X g h j k o q W rr hF; exact nomatch (show none = some rr from hF)
  ·intro τ q0 Y v z B D E G I S U V p1 X g h j k o q W rr hF; exact nomatch (show none = some rr from hF)
  ·intro τ q0 Y v z B D E G I S U V p1 X g h j k o q W rr hF; exact nomatch (show none = some rr from hF)
 | succ n ih =>
  obtain ⟨Z, i1, i2, i3, i4⟩ := ih
  refine ⟨?_, ?_, ?_, ?_, ?_⟩
  ·intro τ q0 Y v z B D E G I S U V v1 p1 v2 p2 g h j k o q r1 r2 rr hF; exact zl7 Z i1 i2 i3 i4 g h j k o q r1 r2 hF
  ·intro τ q0 Y v z B D E G I S U V p1 X g h j k o q W rr hF; exact zkR Z i1 i2 i3 i4 g h j k o q W hF
  ·intro τ q0 Y v z B D E G I S U V p1 X g h j k o q W rr hF; exact zmJ Z i1 i2 i3 i4 g h j k o q W hF
  ·intro τ q0 Y v z B D E G I S U V p1 X g h j k o q W rr hF; exact zma Z i1 i2 i3 i4 g h j k o q W hF
  ·intro τ q0 Y v z B D E G I S U V p1 X g h j k o q W rr hF; exact zme Z i1 i2 i3 i4 g h j k o q W hF
theorem zbC : ∀ {τ : Hp} {q0 : zb} {G : Nat} {I S U : Value} {V : Ob} {W : Value} {X : Ob} {Y : Value} {Z : Ob} {b0 : Value} {b1 : Ob} {v1 : Value} {p1 : (List zc)} {v2 : Value} {p2 : (List UInt8)} (b7 : RdT zw τ I q0.prog.Structs) (b8 : RdT zt τ S q0.prog.Funcs) (b9 : za zq 59 τ U q0.tree.Bodies V) (c0 : za zr 87 τ W q0.tree.Points X) (c1 : za zo 82 τ Y q0.vars Z) (c2 : za (Ty.int .i64) 3 τ b0 q0.scope b1) (r1 : RdT zZ τ v1 p1) (r2 : RdT Ty.u8 τ v2 p2) {rr : Except (Value × zb) ((List zl) × zb)} (hF : zcp q0 p1 p2 = some rr), zbu Try.prog 90 #[.pointer (some ⟨G, 0, none⟩), v1, v2] τ [zm G I S U q0.tree.Main W q0.fn Y b0, V, X, Z, b1] (fun v τ' vs' => match (generalizing := false) rr with | .ok rr => ∃ (v0 : Value) (o0 : Ob) (g h j : Value) (k : Ob) (o : Value) (q : Ob) (z : Value) (B : Ob) (D : Value) (E : Ob), v = v0 ∧ vs' = [o0, zm G g h j rr.2.tree.Main o rr.2.fn z D, k, q, B, E] ∧ za zbk 140 τ' v0 rr.1 o0 ∧ RdT zw τ' g rr.2.prog.Structs ∧ RdT zt τ' h rr.2.prog.Funcs ∧ za zq 59 τ' j rr.2.tree.Bodies k ∧ za zr 87 τ' o rr.2.tree.Points q ∧ za zo 82 τ' z rr.2.vars B ∧ za (Ty.int .i64) 3 τ' D rr.2.scope E | .error _ => False) (fun ch τ' vs' => match (generalizing := false) rr with | .ok _ => False | .error ee => ∃ (g h j : Value) (k : Ob) (o : Value) (q : Ob) (z : Value) (B : Ob) (D : Value) (E : Ob), ch = [{ v := ee.1, recovered := false }] ∧ vs' = [zm G g h j ee.2.tree.Main o ee.2.fn z D, k, q, B, E] ∧ RdT zw τ' g ee.2.prog.Structs ∧ RdT zt τ' h ee.2.prog.Funcs ∧ za zq 59 τ' j ee.2.tree.Bodies k ∧ za zr 87 τ' o ee.2.tree.Points q ∧ za zo 82 τ' z ee.2.vars B ∧ za (Ty.int .i64) 3 τ' D ee.2.scope E) := (zmR big).1
theorem zkT {τ : Hp} {h : Value} {p0 : (List ByteArray)} (o : RdT Ty.str τ h p0) {rr : (List ByteArray)} (hF : zfZ p0 = some rr) :
  Ctr Try.prog 94 #[h] τ [] (fun v τ' vs' => ∃ (h : Value) (q : Ob), v = h ∧ vs' = [q] ∧ za Ty.str 9 τ' h rr q) := by
 obtain ⟨g, k, rfl, -⟩ := o.form
 refine zbp (args := [.slice g p0.length k]) hm Try.func94 s94 rfl fun w0 σ hO Q hQ => ?_
 unfold zfZ at hF
 obtain ⟨_, hr, hF⟩ := zoq hF
 injection hF with hF
 subst hF
 have hL := Hp.le.refl τ
 show wpn _ _ a94.body _ _ _
 unfold a94
 dsimp only
 refine zD hO [] [(0, zor g p0 k)] zn4 fun j => ?_
 refine zn (zD hO [] [(0, zor g p0 k), (4, .bool g.isNone)] zn5 fun j => ?_)
 rcases (Bool.eq_false_or_eq_true g.isNone).symm with hA | hA
 ·refine zfl (zom hA) ?_
  refine zN (z5 (T := Ty.str) (l := []) (cs := []) hO rfl rfl rfl (by decide) fun _ σ E w1 hO => ?_)
  obtain ⟨z, B, rfl, -⟩ := w1.form
  refine zM hO 1 [] [(5, .slice z 0 B), (6, zor g p0 k)] zn5 fun j => ?_
  refine zeY (T := Ty.str) hO w1 (i := 0) rfl rfl rfl o (by simpa using hr) (by decide) fun _ σ G D hO => ?_
  refine zD hO [] [(2, _)] zn4 fun j => ?_
  refine zbb ?_
  exact hQ _ _ _ _ _ rfl hO hL ⟨_, _, rfl, rfl, D⟩
 refine zf6 (zom hA) ?_
 have := o.empty (by decide) hA
 subst this
 refine zn (zD hO [] [(2, .slice none 0 0)] zn4 fun j => ?_)
 refine zbH ?_
 have hO := hO.no
 exact hQ _ _ _ _ _ rfl hO hL ⟨_, _, rfl, rfl, za.nil _ _ _⟩
theorem zjt {τ : Hp} {q0 : zb} {h : Nat} {k4 k5 k6 : Value} {g5 : Ob} {k7 : Value} {g6 : Ob} {k8 : Value} {g7 : Ob} {k9 : Value} {g8 : Ob} {q1 : zj} {I : Nat} {l0 l1 l2 : Value} {g : zf} {m0 m1 l3 : Value} (k : RdT zw τ k4 q0.prog.Structs) (o : RdT zt τ k5 q0.prog.Funcs) (q : za zq 59 τ k6 q0.tree.Bodies g5) (z : za zr 87 τ k7 q0.tree.Points g6) (B : za zo 82 τ k8 q0.vars g7) (D : za (Ty.int .i64) 3 τ k9 q0.scope g8) (G : RdT zbk τ l0 q1.Kids) (S : RdT zba τ l1 q1.Body) (U : RdT zba τ l2 q1.Else) (b1 : RdT zZ τ m0 g.Kids) (t7 : RdT zH τ m1 g.Body) (r2 : RdT zH τ l3 g.Else) {rr : Except (Value × zb × zj) (zb × zj)} (hF : zfD q0 q1 g = some rr) :
  zbu Try.prog 87 #[.pointer (some ⟨h, 0, none⟩), .pointer (some ⟨I, 0, none⟩), .agg #[.int .u8 g.Kind.toNat, .int .i64 g.Line, .string g.Name, .string g.Field, .string g.Call, .int .u8 g.Type_.Kind.toNat, .int .i64 g.Type_.N, .string g.Type_.Name, m0, m1, l3]] τ [zm h k4 k5 k6 q0.tree.Main k7 q0.fn k8 k9, g5, g6, g7, g8, zb0 I q1.Kind.toNat q1.Point q1.Var q1.Field q1.Call l0 l1 l2] (fun v τ' vs' => match (generalizing := false) rr with | .ok rr => ∃ (c0 c1 c2 : Value) (c3 : Ob) (c4 : Value) (c6 : Ob) (c7 : Value) (c8 : Ob) (d0 : Value) (d5 : Ob) (d6 d7 d8 : Value), v = .tuple #[] ∧ vs' = [zm h c0 c1 c2 rr.1.tree.Main c4 rr.1.fn c7 d0, c3, c6, c8, d5, zb0 I rr.2.Kind.toNat rr.2.Point rr.2.Var rr.2.Field rr.2.Call d6 d7 d8] ∧ RdT zw τ' c0 rr.1.prog.Structs ∧ RdT zt τ' c1 rr.1.prog.Funcs ∧ za zq 59 τ' c2 rr.1.tree.Bodies c3 ∧ za zr 87 τ' c4 rr.1.tree.Points c6 ∧ za zo 82 τ' c7 rr.1.vars c8 ∧ za (Ty.int .i64) 3 τ' d0 rr.1.scope d5 ∧ RdT zbk τ' d6 rr.2.Kids ∧ RdT zba τ' d7 rr.2.Body ∧ RdT zba τ' d8 rr.2.Else | .error _ => False) (fun ch τ' vs' => match (generalizing := false) rr with | .ok _ => False | .error ee => ∃ (c0 c1 c2 : Value) (c3 : Ob) (c4 : Value) (c6 : Ob) (c7 : Value) (c8 : Ob) (d0 : Value) (d5 : Ob) (d6 d7 d8 : Value), ch = [{ v := ee.1, recovered := false }] ∧ vs' = [zm h c0 c1 c2 ee.2.1.tree.Main c4 ee.2.1.fn c7 d0, c3, c6, c8, d5, zb0 I ee.2.2.Kind.toNat ee.2.2.Point ee.2.2.Var ee.2.2.Field ee.2.2.Call d6 d7 d8] ∧ RdT zw τ' c0 ee.2.1.prog.Structs ∧ RdT zt τ' c1 ee.2.1.prog.Funcs ∧ za zq 59 τ' c2 ee.2.1.tree.Bodies c3 ∧ za zr 87 τ' c4 ee.2.1.tree.Points c6 ∧ za zo 82 τ' c7 ee.2.1.vars c8 ∧ za (Ty.int .i64) 3 τ' d0 ee.2.1.scope d5 ∧ RdT zbk τ' d6 ee.2.2.Kids ∧ RdT zba τ' d7 ee.2.2.Body ∧ RdT zba τ' d8 ee.2.2.Else) := by
 obtain ⟨r3, r4, rfl, -⟩ := k.form
 obtain ⟨r5, r6, rfl, -⟩ := o.form
 obtain ⟨r7, r8, rfl, -⟩ := q.form
 obtain ⟨r9, t0, rfl, -⟩ := z.form
 obtain ⟨t1, t2, rfl, -⟩ := B.form
 obtain ⟨t3, t4, rfl, -⟩ := D.form
 obtain ⟨g9, h0, rfl, -⟩ := G.form
 obtain ⟨l4, l5, rfl, -⟩ := S.form
 obtain ⟨l6, l7, rfl, -⟩ := U.form
 obtain ⟨d9, f0, rfl, -⟩ := b1.form
 obtain ⟨m2, m3, rfl, -⟩ := t7.form
 obtain ⟨l8, l9, rfl, -⟩ := r2.form
 refine zcz (args := [.pointer (some ⟨h, 0, none⟩), .pointer (some ⟨I, 0, none⟩), .agg #[.int .u8 g.Kind.toNat, .int .i64 g.Line, .string g.Name, .string g.Field, .string g.Call, .int .u8 g.Type_.Kind.toNat, .int .i64 g.Type_.N, .string g.Type_.Name, (.slice d9 g.Kids.length f0), (.slice m2 g.Body.length m3), (.slice l8 g.Else.length l9)]]) hm Try.func87 s87 rfl fun w0 σ hP hO Q hQ => ?_
 unfold zfD at hF
 have hL := Hp.le.refl τ
 show wpn _ _ a87.body _ _ _
 unfold a87
 dsimp only
 refine zbJ (n := 11) hO rfl rfl fun b4 σ hO => ?_
 have hO := zop7 hO
 refine ze (zg hO 3 [6] [(9, zol h), (11, .string g.Name)] [0, 1, 5] (And.intro (And.intro rfl rfl) zn8) fun j => ?_)
 obtain ⟨c5, h6, hF⟩ := zoq hF
 have hO := hO.sel [5, 6, 0, 1, 2, 3, 4]
 refine zb1 (hs := [_, _]) hO (zkg (k.le hL) (o.le hL) (q.le hL) (z.le hL) (B.le hL) (D.le hL) h6) rfl fun _ σ _ _ hO h7 h8 => ?_
 have hL := hL.trans h7
 obtain ⟨rfl, rfl⟩ := h8
 have hO := zop7 hO
 have hO := hO.sel [2, 3, 4, 5, 6, 0, 1]
 have hO := zop7 hO
 refine zg hO 2 [] [(14, .bool (decide (c5 < 0)))] [0, 1, 5] zn7 fun j => ?_
 obtain ⟨c9, D7, hF⟩ := zoq hF
 refine zcW 2 (fun e' σ' => ∃ (τ' : Hp), agr [(19, .bool c9), (0, zol h), (1, zol I), (5, zol b4)] e' ∧ Obs τ' σ' [zm h (zor r3 q0.prog.Structs r4) (zor r5 q0.prog.Funcs r6) (zor r7 q0.tree.Bodies r8) q0.tree.Main (zor r9 q0.tree.Points t0) q0.fn (zor t1 q0.vars t2) (zor t3 q0.scope t4), g5, g6, g7, g8, zb0 I (q1.Kind.toNat : Int) q1.Point q1.Var q1.Field q1.Call (zor g9 q1.Kids h0) (zor l4 q1.Body l5) (zor l6 q1.Else l7), zek b4 (g.Kind.toNat : Int) g.Line g.Name g.Field g.Call (g.Type_.Kind.toNat : Int) g.Type_.N g.Type_.Name (zor d9 g.Kids f0) (zor m2 g.Body m3) (zor l8 g.Else l9)] ∧ Hp.le τ τ') ?_ ?_
 ·have hF := D7
  rcases zb8 hF with ⟨f1, hF⟩ | ⟨f1, hF⟩
  ·refine zbA (zoo f1) ?_
   refine zg hO 3 [6] [(15, zol h), (17, .agg #[(.int .u8 (g.Type_.Kind.toNat : Int)), (.int .i64 g.Type_.N), (.string g.Type_.Name)])] [0, 1, 5, 14] (And.intro (And.intro rfl rfl) zn9) fun j => ?_
   obtain ⟨Q8, D8, hF⟩ := zoq hF
   have hO := hO.sel [5, 6, 0, 1, 2, 3, 4]
   refine zb1 (hs := [_, _]) hO (zgZ (k.le hL) (o.le hL) (q.le hL) (z.le hL) (B.le hL) (D.le hL) D8) rfl fun _ σ _ _ hO D9 E0 => ?_
   have hL := hL.trans D9
   obtain ⟨rfl, rfl⟩ := E0
   have hO := zop7 hO
   have hO := hO.sel [2, 3, 4, 5, 6, 0, 1]
   have hO := zop7 hO
   refine zbf (zom f1) ?_
   refine ze ?_
   cases hF
   refine zh ?_
   exact ⟨rfl, _, zoj zn6, hO, hL⟩
  refine zbI (zoo f1) ?_
  refine zbf (zom f1) ?_
  refine ze ?_
  cases hF
  refine zh ?_
  exact ⟨rfl, _, zoj zn6, hO, hL⟩
 rintro e σ ⟨_, hA, hO, hL⟩
 rw [← zW _ _ hA]
 rcases zP hF with ⟨x20, E1, hF⟩ | ⟨Q9, E2, hF⟩
 ·refine zbM hO (zbg E1) zn2 rfl fun _ σ _ _ hO E3 E4 => ?_
  have hL := hL.trans E3
  obtain ⟨rfl, rfl⟩ := E4
  have hO := zop7 hO
  cases hF
  have hO := hO.sel [0, 1, 2, 3, 4, 5]
  exact hP _ _ _ _ hO hL ⟨_, _, _, _, _, _, _, _, _, _, _, _, _, rfl, rfl, (k.le hL), (o.le hL), (q.le hL), (z.le hL), (B.le hL), (D.le hL), (G.le hL), (S.le hL), (U.le hL)⟩
 refine zbO hO (zbg E2) zn2 rfl fun _ σ _ _ hO E5 E6 => ?_
 have hL := hL.trans E5
 obtain ⟨rfl, rfl⟩ := E6
 have hO := zop7 hO
 refine ze (zg hO 5 [6, 6] [(25, .agg #[(.string g.Name), (.int .u8 (g.Type_.Kind.toNat : Int)), (.int .i64 g.Type_.N), (.string g.Type_.Name), (.int .i64 1), (.slice none 0 0)])] [0, 1, 5] (And.intro (And.intro rfl rfl) (And.intro (And.intro rfl rfl) zn7)) fun j => ?_)
 refine zbm hO fun g4 σ hO => ?_
 have hO := zop8 hO
 refine zu hO (i := 7) rfl (off := 0) rfl rfl rfl rfl (Nat.le_of_ble_eq_true rfl) rfl fun σ hO => ?_
 have hO := zop8 hO
 refine ze (zn (zd hO [6] [(28, .int .u8 (g.Type_.Kind.toNat : Int))] [0, 1, 5, 6] (And.intro (And.intro rfl rfl) zn8) fun j => ?_))
 refine zfQ (fun e' σ' => ∃ (i6 : Option Addr) (i7 : Nat) (f2 : List zbj) (i8 : Option Addr) (i9 : Nat) (f3 : List zB) (j0 : Option Addr) (j1 : Nat) (j2 : Ob) (f4 : List zI) (j3 : Int) (j4 : Option Addr) (j5 : Nat) (j6 : Ob) (f5 : List zE) (j7 : Int) (h1 : Option Addr) (h2 : Nat) (j8 : Ob) (E : List zG) (h3 : Option Addr) (h4 : Nat) (j9 : Ob) (b5 : List Int) (k0 : Option Addr) (k1 : Nat) (f6 : List zl) (b2 : Int) (b6 : Option Addr) (b7 : Nat) (k2 : Ob) (V : List ByteArray) (τ' : Hp), agr [(0, zol h), (1, zol I), (6, zol g4)] e' ∧ Obs τ' σ' [zm h (zor i6 f2 i7) (zor i8 f3 i9) (zor j0 f4 j1) j3 (zor j4 f5 j5) j7 (zor h1 E h2) (zor h3 b5 h4), j2, j6, j8, j9, zb0 I (q1.Kind.toNat : Int) q1.Point q1.Var q1.Field q1.Call (zor k0 f6 k1) (zor l4 q1.Body l5) (zor l6 q1.Else l7), zmG g4 g.Name (g.Type_.Kind.toNat : Int) g.Type_.N g.Type_.Name b2 (zor b6 V b7), k2] ∧ Hp.le τ τ' ∧ RdT zw τ' (zor i6 f2 i7) f2 ∧ RdT zt τ' (zor i8 f3 i9) f3 ∧ za zq 59 τ' (zor j0 f4 j1) f4 j2 ∧ za zr 87 τ' (zor j4 f5 j5) f5 j6 ∧ za zo 82 τ' (zor h1 E h2) E j8 ∧ za (Ty.int .i64) 3 τ' (zor h3 b5 h4) b5 j9 ∧ RdT zbk τ' (zor k0 f6 k1) f6 ∧ za Ty.str 9 τ' (zor b6 V b7) V k2 ∧ zd4 q1 g f2 f3 f4 j3 f5 j7 E b5 f6 b2 V = some rr) ?_ ?_
 ·refine zd hO [] [(40, .bool ((g.Type_.Kind.toNat : Int) == 3))] [0, 1, 5, 6, 28] zn9 fun j => ?_
  refine zbz (zz hF rfl (fun hF => ?_) fun hF => ?_)
  ·refine zn (zg hO 7 [6, 6] [(51, .bool ((decide (g.Type_.N ≥ 1)) && (decide (g.Type_.N ≤ 16))))] [0, 1, 5, 6] (And.intro (And.intro rfl rfl) (And.intro (And.intro rfl rfl) (And.intro (And.intro rfl rfl) (fun _ => zoj zn7)))) fun j => ?_)
   rcases zP hF with ⟨F2, t9, hF⟩ | ⟨F3, u0, hF⟩
   ·refine zbM hO (zbg t9) zn2 rfl fun _ σ _ _ hO u1 u2 => ?_
    have hL := hL.trans u1
    obtain ⟨rfl, rfl⟩ := u2
    have hO := zop8 hO
    cases hF
    have hO := hO.sel [0, 1, 2, 3, 4, 5]
    exact hP _ _ _ _ hO hL ⟨_, _, _, _, _, _, _, _, _, _, _, _, _, rfl, rfl, (k.le hL), (o.le hL), (q.le hL), (z.le hL), (B.le hL), (D.le hL), (G.le hL), (S.le hL), (U.le hL)⟩
   refine zbO hO (zbg u0) zn2 rfl fun _ σ _ _ hO u3 u4 => ?_
   have hL := hL.trans u3
   obtain ⟨rfl, rfl⟩ := u4
   have hO := zop8 hO
   refine ze (zn (zg hO 4 [6] [(55, zok g.Type_.N), (56, .pointer (some ⟨g4, 4, none⟩))] [0, 1, 5, 6] (And.intro (And.intro rfl rfl) zn9) fun j => ?_))
   refine zu hO (i := 7) rfl (off := 4) rfl rfl rfl rfl (Nat.le_of_ble_eq_true rfl) rfl fun σ hO => ?_
   have hO := zop8 hO
   refine ze (zg hO 3 [6] [(57, zol h), (59, zor d9 g.Kids f0)] [0, 1, 6] (And.intro (And.intro rfl rfl) zn8) fun j => ?_)
   have hO := hO.sel [5, 6, 7, 0, 1, 2, 3, 4]
   rcases zP hF with ⟨F4, u5, hF⟩ | ⟨Y, u6, hF⟩
   ·refine zbo (hs := [_, _, _]) hO (zbC (k.le hL) (o.le hL) (q.le hL) (z.le hL) (B.le hL) (D.le hL) (b1.le hL) (RdT.nil Ty.u8 _) u5) zn2 rfl fun _ σ _ _ hO u7 u9 => ?_
    have hL := hL.trans u7
    obtain ⟨F5, F6, F7, F8, F9, G0, G1, G2, G3, G4, rfl, rfl, m4, m5, m6, m7, m8, m9⟩ := u9
    obtain ⟨G5, G6, rfl, -⟩ := m4.form
    obtain ⟨G7, G8, rfl, -⟩ := m5.form
    obtain ⟨G9, H0, rfl, -⟩ := m6.form
    obtain ⟨H1, H2, rfl, -⟩ := m7.form
    obtain ⟨H3, H4, rfl, -⟩ := m8.form
    obtain ⟨H5, H6, rfl, -⟩ := m9.form
    have hO := zop8 hO
    cases hF
    have hO := hO.sel [3, 4, 5, 6, 7, 0]
    exact hP _ _ _ _ hO hL ⟨_, _, _, _, _, _, _, _, _, _, _, _, _, rfl, rfl, m4, m5, m6, m7, m8, m9, (G.le hL), (S.le hL), (U.le hL)⟩
   refine zbn (hs := [_, _, _]) hO (zbC (k.le hL) (o.le hL) (q.le hL) (z.le hL) (B.le hL) (D.le hL) (b1.le hL) (RdT.nil Ty.u8 _) u6) zn2 rfl fun _ σ _ _ hO v0 v1 => ?_
   have hL := hL.trans v0
   obtain ⟨H7, H8, H9, I0, I1, v2, I2, v3, I3, v4, I4, v5, rfl, rfl, v6, n0, n1, n2, n3, n4, n5⟩ := v1
   obtain ⟨I5, I6, rfl, -⟩ := v6.form
   obtain ⟨v7, v8, rfl, -⟩ := n0.form
   obtain ⟨v9, w2, rfl, -⟩ := n1.form
   obtain ⟨w3, w4, rfl, -⟩ := n2.form
   obtain ⟨w5, w6, rfl, -⟩ := n3.form
   obtain ⟨w7, w8, rfl, -⟩ := n4.form
   obtain ⟨w9, x0, rfl, -⟩ := n5.form
   have hO := zop9 hO
   refine ze (zh (zX (zi ?_)))
   have hO := hO.no
   have hO := zop10 hO
   have hO := hO.sel [4, 5, 6, 7, 8, 0, 2, 9]
   exact ⟨v7, v8, Y.2.prog.Structs, v9, w2, Y.2.prog.Funcs, w3, w4, v2, Y.2.tree.Bodies, Y.2.tree.Main, w5, w6, v3, Y.2.tree.Points, Y.2.fn, w7, w8, v4, Y.2.vars, w9, x0, v5, Y.2.scope, g9, h0, q1.Kids, g.Type_.N, none, 0, none, [], _, zoj zn5, hO, hL, n0, n1, n2, n3, n4, n5, (G.le hL), za.nil _ _ _, hF⟩
  refine zn (zd hO [] [(61, .bool ((g.Type_.Kind.toNat : Int) == 4))] [0, 1, 5, 6] zn8 fun j => ?_)
  refine zz hF rfl (fun hF => ?_) fun hF => ?_
  ·refine zn (zg hO 4 [6] [(64, zol h), (67, .string g.Type_.Name)] [0, 1, 5, 6] (And.intro (And.intro rfl rfl) zn9) fun j => ?_)
   obtain ⟨h5, x1, hF⟩ := zoq hF
   have hO := hO.sel [5, 6, 7, 0, 1, 2, 3, 4]
   refine zb1 (hs := [_, _, _]) hO (zkp (k.le hL) (o.le hL) (q.le hL) (z.le hL) (B.le hL) (D.le hL) x1) rfl fun _ σ _ _ hO x2 x3 => ?_
   have hL := hL.trans x2
   obtain ⟨I7, rfl, rfl, h9⟩ := x3
   obtain ⟨n6, n7, rfl, -⟩ := h9.form
   have hO := zop8 hO
   have hO := hO.sel [3, 4, 5, 6, 7, 0, 1, 2]
   have hO := zop8 hO
   refine zd hO [] [(7, zor n6 h5.1 n7)] [0, 1, 5, 6] zn8 fun j => ?_
   refine zn (zM hO 3 [] [(0, zol h), (1, zol I), (5, zol b4), (6, zol g4), (72, zok (h5.1.length : Int)), (73, zor n6 h5.1 n7)] zn9 fun j => ?_)
   obtain ⟨x4, x5, hF⟩ := zoq hF
   refine z3 hO (zkT h9 x5) rfl fun _ σ _ _ hO n8 x6 => ?_
   have hL := hL.trans n8
   have h9 := h9.le n8
   obtain ⟨I8, x7, rfl, rfl, b8⟩ := x6
   obtain ⟨x8, x9, rfl, -⟩ := b8.form
   have hO := zop9 hO
   refine zg hO 1 [] [(75, .pointer (some ⟨g4, 4, none⟩))] [0, 1, 5, 6, 72, 74] zoa fun j => ?_
   refine zu hO (i := 7) rfl (off := 4) rfl rfl rfl rfl (Nat.le_of_ble_eq_true rfl) rfl fun σ hO => ?_
   have hO := zop9 hO
   refine zg hO 1 [] [(76, .pointer (some ⟨g4, 5, none⟩))] [0, 1, 5, 6, 74] zn9 fun j => ?_
   refine zu hO (i := 7) rfl (off := 5) rfl rfl rfl rfl (Nat.le_of_ble_eq_true rfl) rfl fun σ hO => ?_
   have hO := zop9 hO
   refine ze (zg hO 3 [6] [(77, zol h), (79, zor d9 g.Kids f0)] [0, 1, 6] (And.intro (And.intro rfl rfl) zn8) fun j => ?_)
   have hO := hO.sel [5, 6, 7, 8, 0, 1, 2, 3, 4]
   rcases zP hF with ⟨I9, y0, hF⟩ | ⟨Z, y1, hF⟩
   ·refine zbo (hs := [_, _, _, _]) hO (zbC (k.le hL) (o.le hL) (q.le hL) (z.le hL) (B.le hL) (D.le hL) (b1.le hL) (RdT.nil Ty.u8 _) y0) zn2 rfl fun _ σ _ _ hO n9 y2 => ?_
    have hL := hL.trans n9
    have b8 := b8.le n9
    obtain ⟨J0, J1, J2, J3, J4, J5, J6, J7, J8, J9, rfl, rfl, o0, o1, o2, o3, o4, o5⟩ := y2
    obtain ⟨K0, K1, rfl, -⟩ := o0.form
    obtain ⟨K2, K3, rfl, -⟩ := o1.form
    obtain ⟨K4, K5, rfl, -⟩ := o2.form
    obtain ⟨K6, K7, rfl, -⟩ := o3.form
    obtain ⟨K8, K9, rfl, -⟩ := o4.form
    obtain ⟨L0, L1, rfl, -⟩ := o5.form
    have hO := zop9 hO
    cases hF
    have hO := hO.sel [4, 5, 6, 7, 8, 0]
    exact hP _ _ _ _ hO hL ⟨_, _, _, _, _, _, _, _, _, _, _, _, _, rfl, rfl, o0, o1, o2, o3, o4, o5, (G.le hL), (S.le hL), (U.le hL)⟩
   refine zbn (hs := [_, _, _, _]) hO (zbC (k.le hL) (o.le hL) (q.le hL) (z.le hL) (B.le hL) (D.le hL) (b1.le hL) (RdT.nil Ty.u8 _) y1) zn2 rfl fun _ σ _ _ hO o6 y3 => ?_
   have hL := hL.trans o6
   have b8 := b8.le o6
   obtain ⟨L2, L3, L4, L5, L6, y4, L7, y5, L8, y6, L9, y7, rfl, rfl, y8, o7, o8, o9, p3, p4, p5⟩ := y3
   obtain ⟨M0, M1, rfl, -⟩ := y8.form
   obtain ⟨y9, A0, rfl, -⟩ := o7.form
   obtain ⟨A1, A2, rfl, -⟩ := o8.form
   obtain ⟨A3, A4, rfl, -⟩ := o9.form
   obtain ⟨A5, A6, rfl, -⟩ := p3.form
   obtain ⟨A7, A8, rfl, -⟩ := p4.form
   obtain ⟨A9, B0, rfl, -⟩ := p5.form
   have hO := zop10 hO
   refine ze (zh (zX (zi ?_)))
   have hO := hO.sel [5, 6, 7, 8, 9, 0, 2, 3]
   exact ⟨y9, A0, Z.2.prog.Structs, A1, A2, Z.2.prog.Funcs, A3, A4, y4, Z.2.tree.Bodies, Z.2.tree.Main, A5, A6, y5, Z.2.tree.Points, Z.2.fn, A7, A8, y6, Z.2.vars, A9, B0, y7, Z.2.scope, g9, h0, q1.Kids, (h5.1.length : Int), x8, x9, x7, x4, _, zoj zn5, hO, hL, o7, o8, o9, p3, p4, p5, (G.le hL), b8, hF⟩
  refine zg hO 7 [6, 6] [(29, zol I), (30, zol h), (32, zor d9 g.Kids f0), (35, .int .u8 (g.Type_.Kind.toNat : Int))] [0, 1, 6] (And.intro (And.intro rfl rfl) (And.intro (And.intro rfl rfl) zoa)) fun j => ?_
  refine z5 (T := Ty.u8) (l := ([g.Type_.Kind] : List UInt8)) (cs := [.int .u8 (g.Type_.Kind.toNat : Int)]) hO rfl ⟨[.int .u8 (g.Type_.Kind.toNat : Int)], _, rfl, rfl, rfl⟩ rfl (by decide) fun _ σ M2 p6 hO => ?_
  obtain ⟨M3, M4, rfl, -⟩ := p6.form
  have hO := zop9 hO
  obtain ⟨_, B1, b9, hO⟩ := p6.share hO (i := 8) rfl
  have hL := hL.trans B1
  have hO := zop9 hO
  have hO := hO.sel [5, 6, 7, 8, 0, 1, 2, 3, 4]
  rcases zP hF with ⟨M5, B2, hF⟩ | ⟨W, B3, hF⟩
  ·refine zbo (hs := [_, _, _, _]) hO (zbC (k.le hL) (o.le hL) (q.le hL) (z.le hL) (B.le hL) (D.le hL) (b1.le hL) b9 B2) zn2 rfl fun _ σ _ _ hO p7 B4 => ?_
   have hL := hL.trans p7
   have b9 := b9.le p7
   obtain ⟨M6, M7, M8, M9, N0, N1, N2, N3, N4, N5, rfl, rfl, p8, p9, q2, q3, q4, q5⟩ := B4
   obtain ⟨N6, N7, rfl, -⟩ := p8.form
   obtain ⟨N8, N9, rfl, -⟩ := p9.form
   obtain ⟨O0, O1, rfl, -⟩ := q2.form
   obtain ⟨O2, O3, rfl, -⟩ := q3.form
   obtain ⟨O4, O5, rfl, -⟩ := q4.form
   obtain ⟨O6, O7, rfl, -⟩ := q5.form
   have hO := zop9 hO
   cases hF
   have hO := hO.sel [4, 5, 6, 7, 8, 0]
   exact hP _ _ _ _ hO hL ⟨_, _, _, _, _, _, _, _, _, _, _, _, _, rfl, rfl, p8, p9, q2, q3, q4, q5, (G.le hL), (S.le hL), (U.le hL)⟩
  refine zbn (hs := [_, _, _, _]) hO (zbC (k.le hL) (o.le hL) (q.le hL) (z.le hL) (B.le hL) (D.le hL) (b1.le hL) b9 B3) zn2 rfl fun _ σ _ _ hO q6 B5 => ?_
  have hL := hL.trans q6
  have b9 := b9.le q6
  obtain ⟨O8, O9, P0, P1, P2, B6, P3, B7, P4, B8, P5, B9, rfl, rfl, q7, i0, i1, i2, i3, i4, i5⟩ := B5
  obtain ⟨C0, C1, rfl, -⟩ := q7.form
  obtain ⟨C2, C3, rfl, -⟩ := i0.form
  obtain ⟨C4, C5, rfl, -⟩ := i1.form
  obtain ⟨C6, C7, rfl, -⟩ := i2.form
  obtain ⟨C8, C9, rfl, -⟩ := i3.form
  obtain ⟨D0, D1, rfl, -⟩ := i4.form
  obtain ⟨D2, D3, rfl, -⟩ := i5.form
  have hO := zop10 hO
  refine zg hO 2 [] [(39, .pointer (some ⟨I, 5, none⟩))] [0, 1, 6, 37] zn8 fun j => ?_
  refine zu hO (i := 0) rfl (off := 5) rfl rfl rfl rfl (Nat.le_of_ble_eq_true rfl) rfl fun σ hO => ?_
  have hO := zop10 hO
  refine ze (zh (zX (zi ?_)))
  obtain ⟨_, b3, D4, hO⟩ := q7.share hO (i := 4) rfl
  have hL := hL.trans b3
  have i0 := i0.le b3
  have i1 := i1.le b3
  have i2 := i2.le b3
  have i3 := i3.le b3
  have i4 := i4.le b3
  have i5 := i5.le b3
  have hO := zop10 hO
  have hO := hO.no
  have hO := zop11 hO
  have hO := hO.sel [5, 6, 7, 8, 9, 0, 2, 10]
  exact ⟨C2, C3, W.2.prog.Structs, C4, C5, W.2.prog.Funcs, C6, C7, B6, W.2.tree.Bodies, W.2.tree.Main, C8, C9, B7, W.2.tree.Points, W.2.fn, D0, D1, B8, W.2.vars, D2, D3, B9, W.2.scope, C0, C1, W.1, 1, none, 0, none, [], _, zoj zn5, hO, hL, i0, i1, i2, i3, i4, i5, D4, za.nil _ _ _, hF⟩
 rintro e σ ⟨i6, i7, f2, i8, i9, f3, j0, j1, j2, f4, j3, j4, j5, j6, f5, j7, h1, h2, j8, E, h3, h4, j9, b5, k0, k1, f6, b2, b6, b7, k2, V, _, hA, hO, hL, f7, f8, f9, g0, g1, g2, g3, D5, hF⟩
 rw [← zW _ _ hA]
 unfold zd4 at hF
 refine zg hO 8 [0] [(86, zok (E.length : Int)), (88, .pointer (some ⟨I, 2, none⟩))] [0, 1, 6] (And.intro (And.intro rfl rfl) zn8) fun j => ?_
 refine zu hO (i := 5) rfl (off := 2) rfl rfl rfl rfl (Nat.le_of_ble_eq_true rfl) rfl fun σ hO => ?_
 have hO := zop8 hO
 refine ze (zcQ (zg hO 6 [0, 6] [(89, zol h), (92, .pointer (some ⟨h, 6, none⟩)), (93, zor h1 E h2), (94, .agg #[(.string g.Name), (.int .u8 (g.Type_.Kind.toNat : Int)), (.int .i64 g.Type_.N), (.string g.Type_.Name), (.int .i64 b2), (zor b6 V b7)])] [0, 1] (And.intro (And.intro rfl rfl) (And.intro (And.intro rfl rfl) zn9)) fun j => ?_))
 refine zbt ?_
 obtain ⟨_, b0, k3, hO⟩ := D5.share hO (i := 7) rfl
 have hL := hL.trans b0
 have g1 := g1.le b0
 have f7 := f7.le b0
 have f8 := f8.le b0
 have f9 := f9.le b0
 have g0 := g0.le b0
 have g2 := g2.le b0
 have g3 := g3.le b0
 have hO := zop8 hO
 refine z5 (T := zo) (l := ([(⟨g.Name, (⟨g.Type_.Kind, g.Type_.N, g.Type_.Name⟩ : zk), b2, V⟩ : zG)] : List zG)) (cs := [.string g.Name, .int .u8 (g.Type_.Kind.toNat : Int), .int .i64 g.Type_.N, .string g.Type_.Name, .int .i64 b2, zor b6 V b7]) hO rfl ⟨[.string g.Name, .int .u8 (g.Type_.Kind.toNat : Int), .int .i64 g.Type_.N, .string g.Type_.Name, .int .i64 b2, zor b6 V b7], _, rfl, ⟨_, rfl, k3⟩, rfl⟩ rfl (by decide) fun _ σ P6 q8 hO => ?_
 obtain ⟨P7, P8, rfl, -⟩ := q8.form
 have hO := zop9 hO
 refine ze (zbs ⟨(zA rfl (hO.val (i := 0) (off := 6) (agg := false) (n := 1) rfl rfl) rfl), trivial⟩ ?_)
 obtain ⟨_, X, D6, hO⟩ := q8.share hO (i := 8) rfl
 have hL := hL.trans X
 have g1 := g1.le X
 have k3 := k3.le X
 have f7 := f7.le X
 have f8 := f8.le X
 have f9 := f9.le X
 have g0 := g0.le X
 have g2 := g2.le X
 have g3 := g3.le X
 have hO := zop9 hO
 obtain ⟨_, t5, hF⟩ := zoq hF
 refine zeY (T := zo) hO g1 (i := 3) rfl rfl rfl D6 t5 (by decide) fun _ σ P9 q9 hO => ?_
 obtain ⟨Q0, Q1, rfl, -⟩ := q9.form
 have hO := zop9 hO
 refine zg hO 2 [] [(98, .pointer (some ⟨h, 6, none⟩))] [0, 1, 96] zn7 fun j => ?_
 refine zu hO (i := 0) rfl (off := 6) rfl rfl rfl rfl (Nat.le_of_ble_eq_true rfl) rfl fun σ hO => ?_
 have hO := zop9 hO
 refine ze (zgE (zg hO 9 [0, 5] [(99, zol h), (102, .pointer (some ⟨h, 7, none⟩)), (103, zor h3 b5 h4), (107, zok (E.length : Int))] [0, 1] (And.intro (And.intro rfl rfl) (And.intro (And.intro rfl rfl) zn9)) fun j => ?_))
 refine zbt (z5 (T := (Ty.int .i64)) (l := ([(E.length : Int)] : List Int)) (cs := [.int .i64 (E.length : Int)]) hO rfl ⟨[.int .i64 (E.length : Int)], _, rfl, rfl, rfl⟩ rfl (by decide) fun _ σ Q2 r0 hO => ?_)
 obtain ⟨Q3, Q4, rfl, -⟩ := r0.form
 have hO := zop10 hO
 refine ze (zbs ⟨(zA rfl (hO.val (i := 0) (off := 7) (agg := false) (n := 1) rfl rfl) rfl), trivial⟩ ?_)
 obtain ⟨_, t6, hF⟩ := zoq hF
 refine zly (T := (Ty.int .i64)) (Ty.sc_flat _ _) hO g2 (i := 4) rfl rfl rfl (r0.rd hO (i := 9) rfl) t6 (by decide) fun _ σ Q5 r1 hO => ?_
 obtain ⟨Q6, Q7, rfl, -⟩ := r1.form
 have hO := zop10 hO
 refine zg hO 2 [] [(111, .pointer (some ⟨h, 7, none⟩))] [0, 1, 109] zn7 fun j => ?_
 refine zu hO (i := 0) rfl (off := 7) rfl rfl rfl rfl (Nat.le_of_ble_eq_true rfl) rfl fun σ hO => ?_
 have hO := zop10 hO
 refine ze (zh ?_)
 cases hF
 have hO := hO.sel [0, 1, 2, 3, 4, 5]
 refine (hQ _ _ _ _ _ rfl hO hL ?_).2
 exact ⟨_, _, _, _, _, _, _, _, _, _, _, _, _, rfl, rfl, f7, f8, f9, g0, q9, r1, g3, (S.le hL), (U.le hL)⟩
theorem zjz {τ : Hp} {q0 : zb} {S : Nat} {k8 k9 l0 : Value} {f5 : Ob} {l1 : Value} {f6 : Ob} {l2 : Value} {f7 : Ob} {l3 : Value} {f8 : Ob} {q1 : zj} {B : Nat} {l4 l5 l6 : Value} {D : zf} {m0 m1 l7 : Value} (h : RdT zw τ k8 q0.prog.Structs) (k : RdT zt τ k9 q0.prog.Funcs) (o : za zq 59 τ l0 q0.tree.Bodies f5) (q : za zr 87 τ l1 q0.tree.Points f6) (g : za zo 82 τ l2 q0.vars f7) (z : za (Ty.int .i64) 3 τ l3 q0.scope f8) (E : RdT zbk τ l4 q1.Kids) (G : RdT zba τ l5 q1.Body) (I : RdT zba τ l6 q1.Else) (X : RdT zZ τ m0 D.Kids) (t9 : RdT zH τ m1 D.Body) (q9 : RdT zH τ l7 D.Else) {rr : Except (Value × zb × zj) (zb × zj)} (hF : zfP q0 q1 D = some rr) :
  zbu Try.prog 88 #[.pointer (some ⟨S, 0, none⟩), .pointer (some ⟨B, 0, none⟩), .agg #[.int .u8 D.Kind.toNat, .int .i64 D.Line, .string D.Name, .string D.Field, .string D.Call, .int .u8 D.Type_.Kind.toNat, .int .i64 D.Type_.N, .string D.Type_.Name, m0, m1, l7]] τ [zm S k8 k9 l0 q0.tree.Main l1 q0.fn l2 l3, f5, f6, f7, f8, zb0 B q1.Kind.toNat q1.Point q1.Var q1.Field q1.Call l4 l5 l6] (fun v τ' vs' => match (generalizing := false) rr with | .ok rr => ∃ (b8 b9 c0 : Value) (c1 : Ob) (c2 : Value) (c3 : Ob) (c4 : Value) (c6 : Ob) (c7 : Value) (c8 : Ob) (c9 d0 d5 : Value), v = .tuple #[] ∧ vs' = [zm S b8 b9 c0 rr.1.tree.Main c2 rr.1.fn c4 c7, c1, c3, c6, c8, zb0 B rr.2.Kind.toNat rr.2.Point rr.2.Var rr.2.Field rr.2.Call c9 d0 d5] ∧ RdT zw τ' b8 rr.1.prog.Structs ∧ RdT zt τ' b9 rr.1.prog.Funcs ∧ za zq 59 τ' c0 rr.1.tree.Bodies c1 ∧ za zr 87 τ' c2 rr.1.tree.Points c3 ∧ za zo 82 τ' c4 rr.1.vars c6 ∧ za (Ty.int .i64) 3 τ' c7 rr.1.scope c8 ∧ RdT zbk τ' c9 rr.2.Kids ∧ RdT zba τ' d0 rr.2.Body ∧ RdT zba τ' d5 rr.2.Else | .error _ => False) (fun ch τ' vs' => match (generalizing := false) rr with | .ok _ => False | .error ee => ∃ (b8 b9 c0 : Value) (c1 : Ob) (c2 : Value) (c3 : Ob) (c4 : Value) (c6 : Ob) (c7 : Value) (c8 : Ob) (c9 d0 d5 : Value), ch = [{ v := ee.1, recovered := false }] ∧ vs' = [zm S b8 b9 c0 ee.2.1.tree.Main c2 ee.2.1.fn c4 c7, c1, c3, c6, c8, zb0 B ee.2.2.Kind.toNat ee.2.2.Point ee.2.2.Var ee.2.2.Field ee.2.2.Call c9 d0 d5] ∧ RdT zw τ' b8 ee.2.1.prog.Structs ∧ RdT zt τ' b9 ee.2.1.prog.Funcs ∧ za zq 59 τ' c0 ee.2.1.tree.Bodies c1 ∧ za zr 87 τ' c2 ee.2.1.tree.Points c3 ∧ za zo 82 τ' c4 ee.2.1.vars c6 ∧ za (Ty.int .i64) 3 τ' c7 ee.2.1.scope c8 ∧ RdT zbk τ' c9 ee.2.2.Kids ∧ RdT zba τ' d0 ee.2.2.Body ∧ RdT zba τ' d5 ee.2.2.Else) := by
 obtain ⟨r0, r1, rfl, -⟩ := h.form
 obtain ⟨r2, r3, rfl, -⟩ := k.form
 obtain ⟨r4, r5, rfl, -⟩ := o.form
 obtain ⟨r6, r7, rfl, -⟩ := q.form
 obtain ⟨l8, l9, rfl, -⟩ := g.form
 obtain ⟨r8, r9, rfl, -⟩ := z.form
 obtain ⟨t0, t1, rfl, -⟩ := E.form
 obtain ⟨t2, t3, rfl, -⟩ := G.form
 obtain ⟨t4, t5, rfl, -⟩ := I.form
 obtain ⟨d6, d7, rfl, -⟩ := X.form
 obtain ⟨u0, u1, rfl, -⟩ := t9.form
 obtain ⟨t6, t7, rfl, -⟩ := q9.form
 refine zcz (args := [.pointer (some ⟨S, 0, none⟩), .pointer (some ⟨B, 0, none⟩), .agg #[.int .u8 D.Kind.toNat, .int .i64 D.Line, .string D.Name, .string D.Field, .string D.Call, .int .u8 D.Type_.Kind.toNat, .int .i64 D.Type_.N, .string D.Type_.Name, (.slice d6 D.Kids.length d7), (.slice u0 D.Body.length u1), (.slice t6 D.Else.length t7)]]) hm Try.func88 s88 rfl fun w0 σ hP hO Q hQ => ?_
 unfold zfP at hF
 have hL := Hp.le.refl τ
 show wpn _ _ a88.body _ _ _
 unfold a88
 dsimp only
 refine zbJ (n := 11) hO rfl rfl fun b4 σ hO => ?_
 have hO := zop7 hO
 refine ze (zg hO 4 [6] [(7, zol B), (8, zol S), (10, .string D.Name)] [0, 1, 5] (And.intro (And.intro rfl rfl) zn9) fun j => ?_)
 have hO := hO.sel [5, 6, 0, 1, 2, 3, 4]
 rcases zP hF with ⟨x9, J5, hF⟩ | ⟨c5, h6, hF⟩
 ·refine zbo (hs := [_, _]) hO (zeu (h.le hL) (k.le hL) (o.le hL) (q.le hL) (g.le hL) (z.le hL) J5) zn2 rfl fun _ σ _ _ hO J6 J7 => ?_
  have hL := hL.trans J6
  obtain ⟨rfl, rfl⟩ := J7
  have hO := zop7 hO
  cases hF
  have hO := hO.sel [2, 3, 4, 5, 6, 0]
  exact hP _ _ _ _ hO hL ⟨_, _, _, _, _, _, _, _, _, _, _, _, _, rfl, rfl, (h.le hL), (k.le hL), (o.le hL), (q.le hL), (g.le hL), (z.le hL), (E.le hL), (G.le hL), (I.le hL)⟩
 refine zbn (hs := [_, _]) hO (zeu (h.le hL) (k.le hL) (o.le hL) (q.le hL) (g.le hL) (z.le hL) h6) zn2 rfl fun _ σ _ _ hO h7 h8 => ?_
 have hL := hL.trans h7
 obtain ⟨rfl, rfl⟩ := h8
 have hO := zop7 hO
 have hO := hO.sel [2, 3, 4, 5, 6, 0, 1]
 have hO := zop7 hO
 refine zg hO 2 [] [(13, .pointer (some ⟨B, 2, none⟩))] [0, 1, 5, 11] zn8 fun j => ?_
 refine zu hO (i := 5) rfl (off := 2) rfl rfl rfl rfl (Nat.le_of_ble_eq_true rfl) rfl fun σ hO => ?_
 have hO := zop7 hO
 refine ze (zd hO [6] [(15, .int .u8 (D.Kind.toNat : Int))] [0, 1, 5] (And.intro (And.intro rfl rfl) zn7) fun j => ?_)
 refine zmc (zfQ (fun e' σ' => ∃ (i7 : Option Addr) (i8 : Nat) (d8 : List zbj) (i9 : Option Addr) (j0 : Nat) (d9 : List zB) (j1 : Option Addr) (j2 : Nat) (j3 : Ob) (f0 : List zI) (j4 : Int) (j5 : Option Addr) (j6 : Nat) (j7 : Ob) (f1 : List zE) (j8 : Int) (j9 : Option Addr) (k0 : Nat) (k1 : Ob) (f2 : List zG) (k2 : Option Addr) (k3 : Nat) (k4 : Ob) (f3 : List Int) (k5 : Int) (k6 : Option Addr) (k7 : Nat) (f4 : List zl) (τ' : Hp), agr [(0, zol S), (1, zol B)] e' ∧ Obs τ' σ' [zm S (zor i7 d8 i8) (zor i9 d9 j0) (zor j1 f0 j2) j4 (zor j5 f1 j6) j8 (zor j9 f2 k0) (zor k2 f3 k3), j3, j7, k1, k4, zb0 B (q1.Kind.toNat : Int) q1.Point c5 k5 q1.Call (zor k6 f4 k7) (zor t2 q1.Body t3) (zor t4 q1.Else t5)] ∧ Hp.le τ τ' ∧ RdT zw τ' (zor i7 d8 i8) d8 ∧ RdT zt τ' (zor i9 d9 j0) d9 ∧ za zq 59 τ' (zor j1 f0 j2) f0 j3 ∧ za zr 87 τ' (zor j5 f1 j6) f1 j7 ∧ za zo 82 τ' (zor j9 f2 k0) f2 k1 ∧ za (Ty.int .i64) 3 τ' (zor k2 f3 k3) f3 k4 ∧ RdT zbk τ' (zor k6 f4 k7) f4 ∧ zd0 q1 c5 d8 d9 f0 j4 f1 j8 f2 f3 k5 f4 = some rr) ?_ ?_)
 ·refine zd hO [] [(16, .bool ((D.Kind.toNat : Int) == 2))] [0, 1, 5, 15] zn8 fun j => ?_
  refine zbz (zz hF rfl (fun hF => ?_) fun hF => ?_)
  ·refine zn (zcQ (zg hO 8 [0, 5] [(20, .pointer (some ⟨S, 6, none⟩)), (21, zor l8 q0.vars l9), (24, .pointer (some ⟨B, 2, none⟩)), (25, zok c5)] [0, 1, 5] (And.intro (And.intro rfl rfl) (And.intro (And.intro rfl rfl) zoa)) fun j => ?_))
   obtain ⟨U, u2, hF⟩ := zoq hF
   refine zdg (T := zo) hO (g.le hL) (i := 3) rfl rfl rfl u2 (by decide) fun a445 _ u3 m2 u4 => ?_
   have u5 := u3
   obtain ⟨K2, rfl, u6⟩ := u5
   obtain ⟨K3, K4, rfl, -⟩ := u6.form
   have t8 := m2.rowIs hO (i := 3) rfl u4
   refine zg hO 1 [] [(27, .pointer (some (a445.add 1)))] [0, 1, 5, 20, 21, 24, 25] zob fun j => ?_
   refine zbh rfl (m2.part (off := 1) (ds := [.int .u8 (U.Type_.Kind.toNat : Int), .int .i64 U.Type_.N, .string U.Type_.Name]) rfl rfl) ?_
   refine zbt (zbm hO fun K5 σ hO => ?_)
   have hO := zop8 hO
   refine ze (zbs ⟨(zA rfl ((t8.at hO (i := 3) rfl).part (off := 1) (ds := [.int .u8 (U.Type_.Kind.toNat : Int), .int .i64 U.Type_.N, .string U.Type_.Name]) rfl rfl) rfl), (zA rfl (hO.val (i := 5) (off := 2) (agg := false) (n := 1) rfl rfl) rfl), (zA rfl (hO.val (i := 0) (off := 6) (agg := false) (n := 1) rfl rfl) rfl), trivial⟩ ?_)
   refine zu hO (i := 7) rfl (off := 0) rfl rfl rfl rfl (Nat.le_of_ble_eq_true rfl) rfl fun σ hO => ?_
   have hO := zop8 hO
   refine ze (zn (zg hO 1 [7] [(29, .agg #[(.int .u8 (U.Type_.Kind.toNat : Int)), (.int .i64 U.Type_.N), (.string U.Type_.Name)])] [0, 1, 5, 6] (And.intro (And.intro rfl rfl) zn8) fun j => ?_))
   obtain ⟨K6, u7, hF⟩ := zoq hF
   refine z3 hO (zfs u7) rfl fun _ σ _ _ hO u9 v0 => ?_
   have hL := hL.trans u9
   obtain ⟨rfl, rfl⟩ := v0
   have hO := zop8 hO
   rcases zP hF with ⟨K7, v1, hF⟩ | ⟨K8, v2, hF⟩
   ·refine zbM hO (zbg v1) zn2 rfl fun _ σ _ _ hO v3 v4 => ?_
    have hL := hL.trans v3
    obtain ⟨rfl, rfl⟩ := v4
    have hO := zop8 hO
    cases hF
    have hO := hO.sel [0, 1, 2, 3, 4, 5]
    exact hP _ _ _ _ hO hL ⟨_, _, _, _, _, _, _, _, _, _, _, _, _, rfl, rfl, (h.le hL), (k.le hL), (o.le hL), (q.le hL), (g.le hL), (z.le hL), (E.le hL), (G.le hL), (I.le hL)⟩
   refine zbO hO (zbg v2) zn2 rfl fun _ σ _ _ hO v5 v6 => ?_
   have hL := hL.trans v5
   obtain ⟨rfl, rfl⟩ := v6
   have hO := zop8 hO
   refine ze (zg hO 6 [6, 7] [(32, zol B), (33, zol S), (35, zor d6 D.Kids d7), (37, .int .u8 (U.Type_.Kind.toNat : Int))] [0, 1] (And.intro (And.intro rfl rfl) (And.intro (And.intro rfl rfl) zn9)) fun j => ?_)
   refine z5 (T := Ty.u8) (l := ([U.Type_.Kind] : List UInt8)) (cs := [.int .u8 (U.Type_.Kind.toNat : Int)]) hO rfl ⟨[.int .u8 (U.Type_.Kind.toNat : Int)], _, rfl, rfl, rfl⟩ rfl (by decide) fun _ σ K9 m3 hO => ?_
   obtain ⟨L0, L1, rfl, -⟩ := m3.form
   have hO := zop9 hO
   obtain ⟨_, v7, b5, hO⟩ := m3.share hO (i := 8) rfl
   have hL := hL.trans v7
   have hO := zop9 hO
   have hO := hO.sel [5, 6, 7, 8, 0, 1, 2, 3, 4]
   rcases zP hF with ⟨L2, v8, hF⟩ | ⟨V, v9, hF⟩
   ·refine zbo (hs := [_, _, _, _]) hO (zbC (h.le hL) (k.le hL) (o.le hL) (q.le hL) (g.le hL) (z.le hL) (X.le hL) b5 v8) zn2 rfl fun _ σ _ _ hO m4 w2 => ?_
    have hL := hL.trans m4
    have b5 := b5.le m4
    obtain ⟨L3, L4, L5, L6, L7, L8, L9, M0, M1, M2, rfl, rfl, m5, m6, m7, m8, m9, n0⟩ := w2
    obtain ⟨M3, M4, rfl, -⟩ := m5.form
    obtain ⟨M5, M6, rfl, -⟩ := m6.form
    obtain ⟨M7, M8, rfl, -⟩ := m7.form
    obtain ⟨M9, N0, rfl, -⟩ := m8.form
    obtain ⟨N1, N2, rfl, -⟩ := m9.form
    obtain ⟨N3, N4, rfl, -⟩ := n0.form
    have hO := zop9 hO
    cases hF
    have hO := hO.sel [4, 5, 6, 7, 8, 0]
    exact hP _ _ _ _ hO hL ⟨_, _, _, _, _, _, _, _, _, _, _, _, _, rfl, rfl, m5, m6, m7, m8, m9, n0, (E.le hL), (G.le hL), (I.le hL)⟩
   refine zbn (hs := [_, _, _, _]) hO (zbC (h.le hL) (k.le hL) (o.le hL) (q.le hL) (g.le hL) (z.le hL) (X.le hL) b5 v9) zn2 rfl fun _ σ _ _ hO n1 w3 => ?_
   have hL := hL.trans n1
   have b5 := b5.le n1
   obtain ⟨N5, N6, N7, N8, N9, w4, O0, w5, O1, w6, O2, w7, rfl, rfl, n2, f9, g0, g1, g2, g3, g4⟩ := w3
   obtain ⟨n3, n4, rfl, -⟩ := n2.form
   obtain ⟨w8, w9, rfl, -⟩ := f9.form
   obtain ⟨x0, x1, rfl, -⟩ := g0.form
   obtain ⟨x2, x3, rfl, -⟩ := g1.form
   obtain ⟨x4, x5, rfl, -⟩ := g2.form
   obtain ⟨x6, x7, rfl, -⟩ := g3.form
   obtain ⟨x8, y0, rfl, -⟩ := g4.form
   have hO := zop10 hO
   refine zM hO 2 [] [(0, zol S), (1, zol B), (39, zor n3 V.1 n4), (41, .pointer (some ⟨B, 5, none⟩))] zn7 fun j => ?_
   refine zu hO (i := 0) rfl (off := 5) rfl rfl rfl rfl (Nat.le_of_ble_eq_true rfl) rfl fun σ hO => ?_
   have hO := zop10 hO
   refine ze (zh (zX (zi ?_)))
   obtain ⟨_, b0, y1, hO⟩ := n2.share hO (i := 4) rfl
   have hL := hL.trans b0
   have f9 := f9.le b0
   have g0 := g0.le b0
   have g1 := g1.le b0
   have g2 := g2.le b0
   have g3 := g3.le b0
   have g4 := g4.le b0
   have hO := zop10 hO
   have hO := hO.sel [5, 6, 7, 8, 9, 0]
   exact ⟨w8, w9, V.2.prog.Structs, x0, x1, V.2.prog.Funcs, x2, x3, w4, V.2.tree.Bodies, V.2.tree.Main, x4, x5, w5, V.2.tree.Points, V.2.fn, x6, x7, w6, V.2.vars, x8, y0, w7, V.2.scope, q1.Field, n3, n4, V.1, _, zoj zn4, hO, hL, f9, g0, g1, g2, g3, g4, y1, hF⟩
  refine zn (zd hO [] [(42, .bool ((D.Kind.toNat : Int) == 9))] [0, 1, 5, 15] zn8 fun j => ?_)
  refine zz hF rfl (fun hF => ?_) fun hF => ?_
  ·refine zn (zg hO 5 [5] [(44, zol S), (48, zok c5)] [0, 1, 5] (And.intro (And.intro rfl rfl) zn8) fun j => ?_)
   have hO := hO.sel [5, 6, 0, 1, 2, 3, 4]
   rcases zP hF with ⟨O3, y2, hF⟩ | ⟨O4, y3, hF⟩
   ·refine zbo (hs := [_, _]) hO (zc9 (h.le hL) (k.le hL) (o.le hL) (q.le hL) (g.le hL) (z.le hL) y2) zn2 rfl fun _ σ _ _ hO y4 y5 => ?_
    have hL := hL.trans y4
    obtain ⟨rfl, rfl⟩ := y5
    have hO := zop7 hO
    cases hF
    have hO := hO.sel [2, 3, 4, 5, 6, 0]
    exact hP _ _ _ _ hO hL ⟨_, _, _, _, _, _, _, _, _, _, _, _, _, rfl, rfl, (h.le hL), (k.le hL), (o.le hL), (q.le hL), (g.le hL), (z.le hL), (E.le hL), (G.le hL), (I.le hL)⟩
   refine zbn (hs := [_, _]) hO (zc9 (h.le hL) (k.le hL) (o.le hL) (q.le hL) (g.le hL) (z.le hL) y3) zn2 rfl fun _ σ _ _ hO y6 y7 => ?_
   have hL := hL.trans y6
   obtain ⟨rfl, rfl⟩ := y7
   have hO := zop7 hO
   have hO := hO.sel [2, 3, 4, 5, 6, 0, 1]
   have hO := zop7 hO
   refine ze (zg hO 4 [6] [(50, zol B), (51, zol S), (53, zor d6 D.Kids d7)] [0, 1] (And.intro (And.intro rfl rfl) zn8) fun j => ?_)
   have hO := hO.sel [5, 6, 0, 1, 2, 3, 4]
   rcases zP hF with ⟨O5, y8, hF⟩ | ⟨Y, y9, hF⟩
   ·refine zbo (hs := [_, _]) hO (zbC (h.le hL) (k.le hL) (o.le hL) (q.le hL) (g.le hL) (z.le hL) (X.le hL) (RdT.nil Ty.u8 _) y8) zn2 rfl fun _ σ _ _ hO A0 A1 => ?_
    have hL := hL.trans A0
    obtain ⟨O6, O7, O8, O9, P0, P1, P2, P3, P4, P5, rfl, rfl, n5, n6, n7, n8, n9, o0⟩ := A1
    obtain ⟨P6, P7, rfl, -⟩ := n5.form
    obtain ⟨P8, P9, rfl, -⟩ := n6.form
    obtain ⟨Q0, Q1, rfl, -⟩ := n7.form
    obtain ⟨Q2, Q3, rfl, -⟩ := n8.form
    obtain ⟨Q4, Q5, rfl, -⟩ := n9.form
    obtain ⟨Q6, Q7, rfl, -⟩ := o0.form
    have hO := zop7 hO
    cases hF
    have hO := hO.sel [2, 3, 4, 5, 6, 0]
    exact hP _ _ _ _ hO hL ⟨_, _, _, _, _, _, _, _, _, _, _, _, _, rfl, rfl, n5, n6, n7, n8, n9, o0, (E.le hL), (G.le hL), (I.le hL)⟩
   refine zbn (hs := [_, _]) hO (zbC (h.le hL) (k.le hL) (o.le hL) (q.le hL) (g.le hL) (z.le hL) (X.le hL) (RdT.nil Ty.u8 _) y9) zn2 rfl fun _ σ _ _ hO A2 A3 => ?_
   have hL := hL.trans A2
   obtain ⟨Q8, Q9, R0, R6, R7, A4, R8, A5, R9, A6, S0, A7, rfl, rfl, o1, g5, g6, g7, g8, g9, h0⟩ := A3
   obtain ⟨A8, A9, rfl, -⟩ := o1.form
   obtain ⟨B0, B1, rfl, -⟩ := g5.form
   obtain ⟨B2, B3, rfl, -⟩ := g6.form
   obtain ⟨B4, B5, rfl, -⟩ := g7.form
   obtain ⟨B6, B7, rfl, -⟩ := g8.form
   obtain ⟨B8, B9, rfl, -⟩ := g9.form
   obtain ⟨C0, C1, rfl, -⟩ := h0.form
   have hO := zop8 hO
   refine zg hO 2 [] [(56, .pointer (some ⟨B, 5, none⟩))] [0, 1, 54] zn7 fun j => ?_
   refine zu hO (i := 0) rfl (off := 5) rfl rfl rfl rfl (Nat.le_of_ble_eq_true rfl) rfl fun σ hO => ?_
   have hO := zop8 hO
   refine ze (zh (zX (zi ?_)))
   obtain ⟨_, b1, C2, hO⟩ := o1.share hO (i := 2) rfl
   have hL := hL.trans b1
   have g5 := g5.le b1
   have g6 := g6.le b1
   have g7 := g7.le b1
   have g8 := g8.le b1
   have g9 := g9.le b1
   have h0 := h0.le b1
   have hO := zop8 hO
   have hO := hO.sel [3, 4, 5, 6, 7, 0]
   exact ⟨B0, B1, Y.2.prog.Structs, B2, B3, Y.2.prog.Funcs, B4, B5, A4, Y.2.tree.Bodies, Y.2.tree.Main, B6, B7, A5, Y.2.tree.Points, Y.2.fn, B8, B9, A6, Y.2.vars, C0, C1, A7, Y.2.scope, q1.Field, A8, A9, Y.1, _, zoj zn4, hO, hL, g5, g6, g7, g8, g9, h0, C2, hF⟩
  refine zn (zd hO [] [(57, .bool ((D.Kind.toNat : Int) == 3))] [0, 1, 5, 15] zn8 fun j => ?_)
  refine zz hF rfl (fun hF => ?_) fun hF => ?_
  ·refine zn (zg hO 5 [5] [(59, zol S), (63, zok c5)] [0, 1, 5] (And.intro (And.intro rfl rfl) zn8) fun j => ?_)
   have hO := hO.sel [5, 6, 0, 1, 2, 3, 4]
   rcases zP hF with ⟨S1, C3, hF⟩ | ⟨S2, C4, hF⟩
   ·refine zbo (hs := [_, _]) hO (zc9 (h.le hL) (k.le hL) (o.le hL) (q.le hL) (g.le hL) (z.le hL) C3) zn2 rfl fun _ σ _ _ hO C5 C6 => ?_
    have hL := hL.trans C5
    obtain ⟨rfl, rfl⟩ := C6
    have hO := zop7 hO
    cases hF
    have hO := hO.sel [2, 3, 4, 5, 6, 0]
    exact hP _ _ _ _ hO hL ⟨_, _, _, _, _, _, _, _, _, _, _, _, _, rfl, rfl, (h.le hL), (k.le hL), (o.le hL), (q.le hL), (g.le hL), (z.le hL), (E.le hL), (G.le hL), (I.le hL)⟩
   refine zbn (hs := [_, _]) hO (zc9 (h.le hL) (k.le hL) (o.le hL) (q.le hL) (g.le hL) (z.le hL) C4) zn2 rfl fun _ σ _ _ hO C7 C8 => ?_
   have hL := hL.trans C7
   obtain ⟨rfl, rfl⟩ := C8
   have hO := zop7 hO
   have hO := hO.sel [2, 3, 4, 5, 6, 0, 1]
   have hO := zop7 hO
   refine ze (zg hO 4 [6] [(65, zol B), (66, zol S), (68, zor d6 D.Kids d7)] [0, 1] (And.intro (And.intro rfl rfl) zn8) fun j => ?_)
   refine z5 (T := Ty.u8) (l := ([(1 : UInt8), (1 : UInt8)] : List UInt8)) (cs := [.int .u8 1, .int .u8 1]) hO rfl ⟨[.int .u8 1], _, rfl, rfl, ⟨[.int .u8 1], _, rfl, rfl, rfl⟩⟩ rfl (by decide) fun _ σ S3 o2 hO => ?_
   obtain ⟨S4, S5, rfl, -⟩ := o2.form
   have hO := zop8 hO
   obtain ⟨_, C9, b6, hO⟩ := o2.share hO (i := 7) rfl
   have hL := hL.trans C9
   have hO := zop8 hO
   have hO := hO.sel [5, 6, 7, 0, 1, 2, 3, 4]
   rcases zP hF with ⟨S6, D0, hF⟩ | ⟨W, D1, hF⟩
   ·refine zbo (hs := [_, _, _]) hO (zbC (h.le hL) (k.le hL) (o.le hL) (q.le hL) (g.le hL) (z.le hL) (X.le hL) b6 D0) zn2 rfl fun _ σ _ _ hO o3 D2 => ?_
    have hL := hL.trans o3
    have b6 := b6.le o3
    obtain ⟨S7, S8, S9, T0, T1, T2, T3, T4, T5, T6, rfl, rfl, o4, o5, o6, o7, o8, o9⟩ := D2
    obtain ⟨T7, T8, rfl, -⟩ := o4.form
    obtain ⟨T9, U0, rfl, -⟩ := o5.form
    obtain ⟨U1, U2, rfl, -⟩ := o6.form
    obtain ⟨U3, U4, rfl, -⟩ := o7.form
    obtain ⟨U5, U6, rfl, -⟩ := o8.form
    obtain ⟨U7, U8, rfl, -⟩ := o9.form
    have hO := zop8 hO
    cases hF
    have hO := hO.sel [3, 4, 5, 6, 7, 0]
    exact hP _ _ _ _ hO hL ⟨_, _, _, _, _, _, _, _, _, _, _, _, _, rfl, rfl, o4, o5, o6, o7, o8, o9, (E.le hL), (G.le hL), (I.le hL)⟩
   refine zbn (hs := [_, _, _]) hO (zbC (h.le hL) (k.le hL) (o.le hL) (q.le hL) (g.le hL) (z.le hL) (X.le hL) b6 D1) zn2 rfl fun _ σ _ _ hO p3 D3 => ?_
   have hL := hL.trans p3
   have b6 := b6.le p3
   obtain ⟨U9, V0, V1, V2, V3, D4, V4, D5, V5, D6, V6, D7, rfl, rfl, p4, h1, h2, h3, h4, h5, h9⟩ := D3
   obtain ⟨p5, p6, rfl, -⟩ := p4.form
   obtain ⟨D8, D9, rfl, -⟩ := h1.form
   obtain ⟨E0, E1, rfl, -⟩ := h2.form
   obtain ⟨E2, E3, rfl, -⟩ := h3.form
   obtain ⟨E4, E5, rfl, -⟩ := h4.form
   obtain ⟨E6, E7, rfl, -⟩ := h5.form
   obtain ⟨E8, E9, rfl, -⟩ := h9.form
   have hO := zop9 hO
   refine zM hO 2 [] [(0, zol S), (1, zol B), (70, zor p5 W.1 p6), (72, .pointer (some ⟨B, 5, none⟩))] zn7 fun j => ?_
   refine zu hO (i := 0) rfl (off := 5) rfl rfl rfl rfl (Nat.le_of_ble_eq_true rfl) rfl fun σ hO => ?_
   have hO := zop9 hO
   refine ze (zh (zX (zi ?_)))
   obtain ⟨_, b2, F0, hO⟩ := p4.share hO (i := 3) rfl
   have hL := hL.trans b2
   have h1 := h1.le b2
   have h2 := h2.le b2
   have h3 := h3.le b2
   have h4 := h4.le b2
   have h5 := h5.le b2
   have h9 := h9.le b2
   have hO := zop9 hO
   have hO := hO.sel [4, 5, 6, 7, 8, 0]
   exact ⟨D8, D9, W.2.prog.Structs, E0, E1, W.2.prog.Funcs, E2, E3, D4, W.2.tree.Bodies, W.2.tree.Main, E4, E5, D5, W.2.tree.Points, W.2.fn, E6, E7, D6, W.2.vars, E8, E9, D7, W.2.scope, q1.Field, p5, p6, W.1, _, zoj zn4, hO, hL, h1, h2, h3, h4, h5, h9, F0, hF⟩
  refine zn (zd hO [] [(73, .bool ((D.Kind.toNat : Int) == 4))] [0, 1, 5] zn7 fun j => ?_)
  refine zz hF rfl (fun hF => ?_) fun hF => ?_
  ·refine zn (zg hO 5 [5] [(75, zol S), (79, zok c5)] [0, 1, 5] (And.intro (And.intro rfl rfl) zn8) fun j => ?_)
   have hO := hO.sel [5, 6, 0, 1, 2, 3, 4]
   rcases zP hF with ⟨V7, F1, hF⟩ | ⟨V8, F2, hF⟩
   ·refine zbo (hs := [_, _]) hO (zc9 (h.le hL) (k.le hL) (o.le hL) (q.le hL) (g.le hL) (z.le hL) F1) zn2 rfl fun _ σ _ _ hO F3 F4 => ?_
    have hL := hL.trans F3
    obtain ⟨rfl, rfl⟩ := F4
    have hO := zop7 hO
    cases hF
    have hO := hO.sel [2, 3, 4, 5, 6, 0]
    exact hP _ _ _ _ hO hL ⟨_, _, _, _, _, _, _, _, _, _, _, _, _, rfl, rfl, (h.le hL), (k.le hL), (o.le hL), (q.le hL), (g.le hL), (z.le hL), (E.le hL), (G.le hL), (I.le hL)⟩
   refine zbn (hs := [_, _]) hO (zc9 (h.le hL) (k.le hL) (o.le hL) (q.le hL) (g.le hL) (z.le hL) F2) zn2 rfl fun _ σ _ _ hO F5 F6 => ?_
   have hL := hL.trans F5
   obtain ⟨rfl, rfl⟩ := F6
   have hO := zop7 hO
   have hO := hO.sel [2, 3, 4, 5, 6, 0, 1]
   have hO := zop7 hO
   refine ze (zn (zcQ (zM hO 8 [5, 6] [(0, zol S), (1, zol B), (5, zol b4), (81, zol B), (82, zol S), (86, zok c5), (88, .string D.Field)] (And.intro (And.intro rfl rfl) (And.intro (And.intro rfl rfl) zoa)) fun j => ?_)))
   have hO := hO.sel [5, 6, 0, 1, 2, 3, 4]
   rcases zP hF with ⟨V9, F7, hF⟩ | ⟨F8, F9, hF⟩
   ·refine zbo (hs := [_, _]) hO (zgx (h.le hL) (k.le hL) (o.le hL) (q.le hL) (g.le hL) (z.le hL) F7) zn2 rfl fun _ σ _ _ hO G0 G1 => ?_
    have hL := hL.trans G0
    obtain ⟨rfl, rfl⟩ := G1
    have hO := zop7 hO
    cases hF
    have hO := hO.sel [2, 3, 4, 5, 6, 0]
    exact hP _ _ _ _ hO hL ⟨_, _, _, _, _, _, _, _, _, _, _, _, _, rfl, rfl, (h.le hL), (k.le hL), (o.le hL), (q.le hL), (g.le hL), (z.le hL), (E.le hL), (G.le hL), (I.le hL)⟩
   refine zbn (hs := [_, _]) hO (zgx (h.le hL) (k.le hL) (o.le hL) (q.le hL) (g.le hL) (z.le hL) F9) zn2 rfl fun _ σ _ _ hO G2 G3 => ?_
   have hL := hL.trans G2
   obtain ⟨rfl, rfl⟩ := G3
   have hO := zop7 hO
   have hO := hO.sel [2, 3, 4, 5, 6, 0, 1]
   have hO := zop7 hO
   refine zg hO 2 [] [(91, .pointer (some ⟨B, 3, none⟩))] [0, 1, 5, 89] zn8 fun j => ?_
   refine zu hO (i := 5) rfl (off := 3) rfl rfl rfl rfl (Nat.le_of_ble_eq_true rfl) rfl fun σ hO => ?_
   have hO := zop7 hO
   refine ze (zg hO 4 [6] [(92, zol B), (93, zol S), (95, zor d6 D.Kids d7)] [0, 1] (And.intro (And.intro rfl rfl) zn8) fun j => ?_)
   refine z5 (T := Ty.u8) (l := ([(1 : UInt8)] : List UInt8)) (cs := [.int .u8 1]) hO rfl ⟨[.int .u8 1], _, rfl, rfl, rfl⟩ rfl (by decide) fun _ σ W0 p7 hO => ?_
   obtain ⟨W1, W2, rfl, -⟩ := p7.form
   have hO := zop8 hO
   obtain ⟨_, G4, b7, hO⟩ := p7.share hO (i := 7) rfl
   have hL := hL.trans G4
   have hO := zop8 hO
   have hO := hO.sel [5, 6, 7, 0, 1, 2, 3, 4]
   rcases zP hF with ⟨W3, G5, hF⟩ | ⟨Z, G6, hF⟩
   ·refine zbo (hs := [_, _, _]) hO (zbC (h.le hL) (k.le hL) (o.le hL) (q.le hL) (g.le hL) (z.le hL) (X.le hL) b7 G5) zn2 rfl fun _ σ _ _ hO p8 G7 => ?_
    have hL := hL.trans p8
    have b7 := b7.le p8
    obtain ⟨W4, W5, W6, W7, W8, W9, X0, X1, X2, X3, rfl, rfl, p9, q2, q3, q4, q5, q6⟩ := G7
    obtain ⟨X4, X5, rfl, -⟩ := p9.form
    obtain ⟨X6, X7, rfl, -⟩ := q2.form
    obtain ⟨X8, X9, rfl, -⟩ := q3.form
    obtain ⟨Y0, Y1, rfl, -⟩ := q4.form
    obtain ⟨Y2, Y3, rfl, -⟩ := q5.form
    obtain ⟨Y4, Y5, rfl, -⟩ := q6.form
    have hO := zop8 hO
    cases hF
    have hO := hO.sel [3, 4, 5, 6, 7, 0]
    exact hP _ _ _ _ hO hL ⟨_, _, _, _, _, _, _, _, _, _, _, _, _, rfl, rfl, p9, q2, q3, q4, q5, q6, (E.le hL), (G.le hL), (I.le hL)⟩
   refine zbn (hs := [_, _, _]) hO (zbC (h.le hL) (k.le hL) (o.le hL) (q.le hL) (g.le hL) (z.le hL) (X.le hL) b7 G6) zn2 rfl fun _ σ _ _ hO q7 G8 => ?_
   have hL := hL.trans q7
   have b7 := b7.le q7
   obtain ⟨Y6, Y7, Y8, Y9, Z0, G9, Z1, H0, Z2, H1, Z3, H2, rfl, rfl, q8, i0, i1, i2, i3, i4, i5⟩ := G8
   obtain ⟨H3, H4, rfl, -⟩ := q8.form
   obtain ⟨H5, H6, rfl, -⟩ := i0.form
   obtain ⟨H7, H8, rfl, -⟩ := i1.form
   obtain ⟨H9, I0, rfl, -⟩ := i2.form
   obtain ⟨I1, I2, rfl, -⟩ := i3.form
   obtain ⟨I3, I4, rfl, -⟩ := i4.form
   obtain ⟨I5, I6, rfl, -⟩ := i5.form
   have hO := zop9 hO
   refine zg hO 2 [] [(99, .pointer (some ⟨B, 5, none⟩))] [0, 1, 97] zn7 fun j => ?_
   refine zu hO (i := 0) rfl (off := 5) rfl rfl rfl rfl (Nat.le_of_ble_eq_true rfl) rfl fun σ hO => ?_
   have hO := zop9 hO
   refine ze (zh (zX (zi ?_)))
   obtain ⟨_, b3, I7, hO⟩ := q8.share hO (i := 3) rfl
   have hL := hL.trans b3
   have i0 := i0.le b3
   have i1 := i1.le b3
   have i2 := i2.le b3
   have i3 := i3.le b3
   have i4 := i4.le b3
   have i5 := i5.le b3
   have hO := zop9 hO
   have hO := hO.sel [4, 5, 6, 7, 8, 0]
   exact ⟨H5, H6, Z.2.prog.Structs, H7, H8, Z.2.prog.Funcs, H9, I0, G9, Z.2.tree.Bodies, Z.2.tree.Main, I1, I2, H0, Z.2.tree.Points, Z.2.fn, I3, I4, H1, Z.2.vars, I5, I6, H2, Z.2.scope, F8, H3, H4, Z.1, _, zoj zn4, hO, hL, i0, i1, i2, i3, i4, i5, I7, hF⟩
  refine zN (zh (zX (zi ?_)))
  have hO := hO.sel [0, 1, 2, 3, 4, 5]
  exact ⟨r0, r1, q0.prog.Structs, r2, r3, q0.prog.Funcs, r4, r5, f5, q0.tree.Bodies, q0.tree.Main, r6, r7, f6, q0.tree.Points, q0.fn, l8, l9, f7, q0.vars, r8, r9, f8, q0.scope, q1.Field, t0, t1, q1.Kids, _, zoj zn4, hO, hL, (h.le hL), (k.le hL), (o.le hL), (q.le hL), (g.le hL), (z.le hL), (E.le hL), hF⟩
 rintro e σ ⟨i7, i8, d8, i9, j0, d9, j1, j2, j3, f0, j4, j5, j6, j7, f1, j8, j9, k0, k1, f2, k2, k3, k4, f3, k5, k6, k7, f4, _, hA, hO, hL, I8, I9, J0, J1, J2, J3, J4, hF⟩
 rw [← zW _ _ hA]
 unfold zd0 at hF
 refine zh ?_
 cases hF
 refine (hQ _ _ _ _ _ rfl hO hL ?_).2
 exact ⟨_, _, _, _, _, _, _, _, _, _, _, _, _, rfl, rfl, I8, I9, J0, J1, J2, J3, J4, (G.le hL), (I.le hL)⟩
theorem zji {τ : Hp} {q0 : zb} {h : Nat} {c5 c6 c7 : Value} {Z : Ob} {c8 : Value} {b0 : Ob} {c9 : Value} {b1 : Ob} {d0 : Value} {b2 : Ob} {q1 : zj} {b5 : Nat} {l6 l7 l8 : Value} {g : zf} {o8 o9 l9 : Value} (Y : RdT zw τ c5 q0.prog.Structs) (V : RdT zt τ c6 q0.prog.Funcs) (b7 : za zq 59 τ c7 q0.tree.Bodies Z) (b8 : za zr 87 τ c8 q0.tree.Points b0) (b3 : za zo 82 τ c9 q0.vars b1) (b9 : za (Ty.int .i64) 3 τ d0 q0.scope b2) (g1 : RdT zbk τ l6 q1.Kids) (d8 : RdT zba τ l7 q1.Body) (d9 : RdT zba τ l8 q1.Else) (l1 : RdT zZ τ o8 g.Kids) (t5 : RdT zH τ o9 g.Body) (r7 : RdT zH τ l9 g.Else) {rr : Except (Value × zb × zj) (zb × zj)} (hF : zfw q0 q1 g = some rr) :
  zbu Try.prog 89 #[.pointer (some ⟨h, 0, none⟩), .pointer (some ⟨b5, 0, none⟩), .agg #[.int .u8 g.Kind.toNat, .int .i64 g.Line, .string g.Name, .string g.Field, .string g.Call, .int .u8 g.Type_.Kind.toNat, .int .i64 g.Type_.N, .string g.Type_.Name, o8, o9, l9]] τ [zm h c5 c6 c7 q0.tree.Main c8 q0.fn c9 d0, Z, b0, b1, b2, zb0 b5 q1.Kind.toNat q1.Point q1.Var q1.Field q1.Call l6 l7 l8] (fun v τ' vs' => match (generalizing := false) rr with | .ok rr => ∃ (k o q : Value) (z : Ob) (B : Value) (D : Ob) (E : Value) (G : Ob) (I : Value) (S : Ob) (g9 h0 h1 : Value), v = .tuple #[] ∧ vs' = [zm h k o q rr.1.tree.Main B rr.1.fn E I, z, D, G, S, zb0 b5 rr.2.Kind.toNat rr.2.Point rr.2.Var rr.2.Field rr.2.Call g9 h0 h1] ∧ RdT zw τ' k rr.1.prog.Structs ∧ RdT zt τ' o rr.1.prog.Funcs ∧ za zq 59 τ' q rr.1.tree.Bodies z ∧ za zr 87 τ' B rr.1.tree.Points D ∧ za zo 82 τ' E rr.1.vars G ∧ za (Ty.int .i64) 3 τ' I rr.1.scope S ∧ RdT zbk τ' g9 rr.2.Kids ∧ RdT zba τ' h0 rr.2.Body ∧ RdT zba τ' h1 rr.2.Else | .error _ => False) (fun ch τ' vs' => match (generalizing := false) rr with | .ok _ => False | .error ee => ∃ (k o q : Value) (z : Ob) (B : Value) (D : Ob) (E : Value) (G : Ob) (I : Value) (S : Ob) (g9 h0 h1 : Value), ch = [{ v := ee.1, recovered := false }] ∧ vs' = [zm h k o q ee.2.1.tree.Main B ee.2.1.fn E I, z, D, G, S, zb0 b5 ee.2.2.Kind.toNat ee.2.2.Point ee.2.2.Var ee.2.2.Field ee.2.2.Call g9 h0 h1] ∧ RdT zw τ' k ee.2.1.prog.Structs ∧ RdT zt τ' o ee.2.1.prog.Funcs ∧ za zq 59 τ' q ee.2.1.tree.Bodies z ∧ za zr 87 τ' B ee.2.1.tree.Points D ∧ za zo 82 τ' E ee.2.1.vars G ∧ za (Ty.int .i64) 3 τ' I ee.2.1.scope S ∧ RdT zbk τ' g9 ee.2.2.Kids ∧ RdT zba τ' h0 ee.2.2.Body ∧ RdT zba τ' h1 ee.2.2.Else) := by
 obtain ⟨m0, m1, rfl, -⟩ := Y.form
 obtain ⟨i3, i4, rfl, -⟩ := V.form
 obtain ⟨m2, m3, rfl, -⟩ := b7.form
 obtain ⟨m4, m5, rfl, -⟩ := b8.form
 obtain ⟨i5, i6, rfl, -⟩ := b3.form
 obtain ⟨m6, m7, rfl, -⟩ := b9.form
 obtain ⟨m8, m9, rfl, -⟩ := g1.form
 obtain ⟨n0, n1, rfl, -⟩ := d8.form
 obtain ⟨n2, n3, rfl, -⟩ := d9.form
 obtain ⟨i7, i8, rfl, -⟩ := l1.form
 obtain ⟨l2, l3, rfl, -⟩ := t5.form
 obtain ⟨i9, j0, rfl, -⟩ := r7.form
 refine zcz (args := [.pointer (some ⟨h, 0, none⟩), .pointer (some ⟨b5, 0, none⟩), .agg #[.int .u8 g.Kind.toNat, .int .i64 g.Line, .string g.Name, .string g.Field, .string g.Call, .int .u8 g.Type_.Kind.toNat, .int .i64 g.Type_.N, .string g.Type_.Name, (.slice i7 g.Kids.length i8), (.slice l2 g.Body.length l3), (.slice i9 g.Else.length j0)]]) hm Try.func89 s89 rfl fun w0 σ hP hO Q hQ => ?_
 unfold zfw at hF
 have hL := Hp.le.refl τ
 show wpn _ _ a89.body _ _ _
 unfold a89
 dsimp only
 refine zbJ (n := 11) hO rfl rfl fun b4 σ hO => ?_
 have hO := zop7 hO
 refine ze (zn (zd hO [6] [(12, .bool (!(z9 g.Name znS)))] [0, 1, 5] (And.intro (And.intro rfl rfl) zn7) fun j => ?_))
 refine zcL (fun e' σ' => ∃ (n4 : Option Addr) (n5 : Nat) (n6 : Ob) (h2 : List zI) (n7 : Option Addr) (n8 : Nat) (n9 : Ob) (h3 : List zE) (o1 : Option Addr) (o2 : Nat) (o3 : Ob) (h4 : List zG) (o4 : Option Addr) (o5 : Nat) (o6 : Ob) (h5 : List Int) (g2 : Int) (τ' : Hp), agr [(0, zol h), (1, zol b5), (5, zol b4)] e' ∧ Obs τ' σ' [zm h (zor m0 q0.prog.Structs m1) (zor i3 q0.prog.Funcs i4) (zor n4 h2 n5) q0.tree.Main (zor n7 h3 n8) q0.fn (zor o1 h4 o2) (zor o4 h5 o5), n6, n9, o3, o6, zb0 b5 (q1.Kind.toNat : Int) q1.Point g2 q1.Field q1.Call (zor m8 q1.Kids m9) (zor n0 q1.Body n1) (zor n2 q1.Else n3), zek b4 (g.Kind.toNat : Int) g.Line g.Name g.Field g.Call (g.Type_.Kind.toNat : Int) g.Type_.N g.Type_.Name (zor i7 g.Kids i8) (zor l2 g.Body l3) (zor i9 g.Else j0)] ∧ Hp.le τ τ' ∧ za zq 59 τ' (zor n4 h2 n5) h2 n6 ∧ za zr 87 τ' (zor n7 h3 n8) h3 n9 ∧ za zo 82 τ' (zor o1 h4 o2) h4 o3 ∧ za (Ty.int .i64) 3 τ' (zor o4 h5 o5) h5 o6 ∧ zeD q0 q1 g h2 h3 h4 h5 g2 = some rr) ?_ ?_
 ·refine zbz (zz hF rfl (fun hF => ?_) fun hF => ?_)
  ·refine zn (zg hO 4 [6] [(13, zol b5), (14, zol h), (16, .string g.Name)] [0, 1, 5] (And.intro (And.intro rfl rfl) zn9) fun j => ?_)
   have hO := hO.sel [5, 6, 0, 1, 2, 3, 4]
   rcases zP hF with ⟨A4, t6, hF⟩ | ⟨p3, t7, hF⟩
   ·refine zbo (hs := [_, _]) hO (zeu (Y.le hL) (V.le hL) (b7.le hL) (b8.le hL) (b3.le hL) (b9.le hL) t6) zn2 rfl fun _ σ _ _ hO t8 t9 => ?_
    have hL := hL.trans t8
    obtain ⟨rfl, rfl⟩ := t9
    have hO := zop7 hO
    cases hF
    have hO := hO.sel [2, 3, 4, 5, 6, 0]
    exact hP _ _ _ _ hO hL ⟨_, _, _, _, _, _, _, _, _, _, _, _, _, rfl, rfl, (Y.le hL), (V.le hL), (b7.le hL), (b8.le hL), (b3.le hL), (b9.le hL), (g1.le hL), (d8.le hL), (d9.le hL)⟩
   refine zbn (hs := [_, _]) hO (zeu (Y.le hL) (V.le hL) (b7.le hL) (b8.le hL) (b3.le hL) (b9.le hL) t7) zn2 rfl fun _ σ _ _ hO u0 u1 => ?_
   have hL := hL.trans u0
   obtain ⟨rfl, rfl⟩ := u1
   have hO := zop7 hO
   have hO := hO.sel [2, 3, 4, 5, 6, 0, 1]
   have hO := zop7 hO
   refine zg hO 2 [] [(19, .pointer (some ⟨b5, 2, none⟩))] [0, 1, 5, 17] zn8 fun j => ?_
   refine zu hO (i := 5) rfl (off := 2) rfl rfl rfl rfl (Nat.le_of_ble_eq_true rfl) rfl fun σ hO => ?_
   have hO := zop7 hO
   refine ze (zcQ (zg hO 8 [0, 5] [(23, zor i5 q0.vars i6), (27, zok p3)] [0, 1, 5] (And.intro (And.intro rfl rfl) (And.intro (And.intro rfl rfl) zn8)) fun j => ?_))
   obtain ⟨l4, u2, hF⟩ := zoq hF
   refine zdg (T := zo) hO (b3.le hL) (i := 3) rfl rfl rfl u2 (by decide) fun a474 _ u3 u4 A5 => ?_
   have u5 := u3
   obtain ⟨A6, rfl, f7⟩ := u5
   obtain ⟨A7, A8, rfl, -⟩ := f7.form
   refine zg hO 1 [] [(29, .pointer (some (a474.add 1)))] [0, 1, 5] zn7 fun j => ?_
   refine zbh rfl (u4.part (off := 1) (ds := [.int .u8 (l4.Type_.Kind.toNat : Int), .int .i64 l4.Type_.N, .string l4.Type_.Name]) rfl rfl) ?_
   obtain ⟨A9, u6, hF⟩ := zoq hF
   refine z3 hO (zfs u6) rfl fun _ σ _ _ hO p4 u7 => ?_
   have hL := hL.trans p4
   have f7 := f7.le p4
   obtain ⟨rfl, rfl⟩ := u7
   have hO := zop7 hO
   rcases zP hF with ⟨B0, u9, hF⟩ | ⟨B1, v2, hF⟩
   ·refine zbM hO (zbg u9) zn2 rfl fun _ σ _ _ hO p5 v3 => ?_
    have hL := hL.trans p5
    have f7 := f7.le p5
    obtain ⟨rfl, rfl⟩ := v3
    have hO := zop7 hO
    cases hF
    have hO := hO.sel [0, 1, 2, 3, 4, 5]
    exact hP _ _ _ _ hO hL ⟨_, _, _, _, _, _, _, _, _, _, _, _, _, rfl, rfl, (Y.le hL), (V.le hL), (b7.le hL), (b8.le hL), (b3.le hL), (b9.le hL), (g1.le hL), (d8.le hL), (d9.le hL)⟩
   refine zbO hO (zbg v2) zn2 rfl fun _ σ _ _ hO p6 v4 => ?_
   have hL := hL.trans p6
   have f7 := f7.le p6
   obtain ⟨rfl, rfl⟩ := v4
   have hO := zop7 hO
   refine ze (zh (zi ?_))
   exact ⟨m2, m3, Z, q0.tree.Bodies, m4, m5, b0, q0.tree.Points, i5, i6, b1, q0.vars, m6, m7, b2, q0.scope, p3, _, zoj zn5, hO, hL, (b7.le hL), (b8.le hL), (b3.le hL), (b9.le hL), hF⟩
  refine zN (zh (zi ?_))
  exact ⟨m2, m3, Z, q0.tree.Bodies, m4, m5, b0, q0.tree.Points, i5, i6, b1, q0.vars, m6, m7, b2, q0.scope, q1.Var, _, zoj zn5, hO, hL, (b7.le hL), (b8.le hL), (b3.le hL), (b9.le hL), hF⟩
 rintro e σ ⟨n4, n5, n6, h2, n7, n8, n9, h3, o1, o2, o3, h4, o4, o5, o6, h5, g2, _, hA, hO, hL, g3, g4, g5, g6, hF⟩
 rw [← zW _ _ hA]
 unfold zeD at hF
 refine zg hO 4 [6] [(33, zol b5), (34, zol h), (36, .string g.Call)] [0, 1, 5] (And.intro (And.intro rfl rfl) zn9) fun j => ?_
 obtain ⟨i2, y2, hF⟩ := zoq hF
 have hO := hO.sel [5, 6, 0, 1, 2, 3, 4]
 refine zb1 (hs := [_, _]) hO (zmT (q0 := (⟨(⟨q0.prog.Structs, q0.prog.Funcs⟩ : zs), (⟨h2, q0.tree.Main, h3⟩ : zx), q0.fn, h4, h5⟩ : zb)) (Y.le hL) (V.le hL) g3 g4 g5 g6 y2) rfl fun _ σ _ _ hO k6 y3 => ?_
 have hL := hL.trans k6
 have g3 := g3.le k6
 have g4 := g4.le k6
 have g5 := g5.le k6
 have g6 := g6.le k6
 obtain ⟨rfl, rfl⟩ := y3
 have hO := zop7 hO
 have hO := hO.sel [2, 3, 4, 5, 6, 0, 1]
 have hO := zop7 hO
 refine zg hO 2 [] [(39, .pointer (some ⟨b5, 4, none⟩))] [0, 1, 5, 37] zn8 fun j => ?_
 refine zu hO (i := 5) rfl (off := 4) rfl rfl rfl rfl (Nat.le_of_ble_eq_true rfl) rfl fun σ hO => ?_
 have hO := zop7 hO
 refine ze (zg hO 5 [5] [(44, .bool (decide (i2 ≥ 0)))] [0, 1, 5] (And.intro (And.intro rfl rfl) zn7) fun j => ?_)
 rcases zP hF with ⟨G8, y4, hF⟩ | ⟨G9, y5, hF⟩
 ·refine zbM hO (zbg y4) zn2 rfl fun _ σ _ _ hO k7 y6 => ?_
  have hL := hL.trans k7
  have g3 := g3.le k7
  have g4 := g4.le k7
  have g5 := g5.le k7
  have g6 := g6.le k7
  obtain ⟨rfl, rfl⟩ := y6
  have hO := zop7 hO
  cases hF
  have hO := hO.sel [0, 1, 2, 3, 4, 5]
  exact hP _ _ _ _ hO hL ⟨_, _, _, _, _, _, _, _, _, _, _, _, _, rfl, rfl, (Y.le hL), (V.le hL), g3, g4, g5, g6, (g1.le hL), (d8.le hL), (d9.le hL)⟩
 refine zbO hO (zbg y5) zn2 rfl fun _ σ _ _ hO k8 y7 => ?_
 have hL := hL.trans k8
 have g3 := g3.le k8
 have g4 := g4.le k8
 have g5 := g5.le k8
 have g6 := g6.le k8
 obtain ⟨rfl, rfl⟩ := y7
 have hO := zop7 hO
 refine ze (zcQ (zg hO 9 [0, 5] [(49, .pointer (some ⟨h, 1, none⟩)), (50, zor i3 q0.prog.Funcs i4), (53, .pointer (some ⟨b5, 4, none⟩)), (54, zok i2)] [0, 1, 5] (And.intro (And.intro rfl rfl) (And.intro (And.intro rfl rfl) zoa)) fun j => ?_))
 obtain ⟨U, y8, hF⟩ := zoq hF
 refine zbG (T := zt) (V.le hL) hO.base rfl rfl y8 (by decide) fun a72 _ y9 t0 => ?_
 obtain ⟨H0, H1, rfl, p7, t1⟩ := y9
 obtain ⟨k9, l0, rfl, -⟩ := p7.form
 obtain ⟨t2, t3, rfl, -⟩ := t1.form
 refine zbh rfl ((t0.le hO.base).all rfl) ?_
 refine zbt (zbm hO fun t4 σ hO => ?_)
 have hO := zop8 hO
 refine ze (zbs ⟨(zA rfl ((t0.le hO.base).all rfl) rfl), (zA rfl (hO.val (i := 5) (off := 4) (agg := false) (n := 1) rfl rfl) rfl), (zA rfl (hO.val (i := 0) (off := 1) (agg := false) (n := 1) rfl rfl) rfl), trivial⟩ ?_)
 refine zu hO (i := 7) rfl (off := 0) rfl rfl rfl rfl (Nat.le_of_ble_eq_true rfl) rfl fun σ hO => ?_
 have hO := zop8 hO
 refine ze (zd hO [] [(7, .slice none 0 0)] [0, 1, 5, 6] zn8 fun j => ?_)
 refine zn (zd hO [7] [(58, zor k9 U.Params l0), (59, zok (U.Params.length : Int)), (60, zok 0)] [0, 1, 5, 6, 7] (And.intro (And.intro rfl rfl) zob) fun j => ?_)
 refine zbr ?_
 have hO := hO.no
 have hO := zop9 hO
 refine zcg (fun (n : Nat) e' σ' => ∃ (j1 : Option Addr) (j2 : Nat) (j3 : Ob) (f0 : List zI) (j4 : Option Addr) (j5 : Nat) (j6 : Ob) (f1 : List zE) (j7 : Option Addr) (j8 : Nat) (j9 : Ob) (f2 : List zG) (k0 : Option Addr) (k1 : Nat) (k2 : Ob) (f3 : List Int) (h6 : Option Addr) (h7 : Nat) (l5 : Ob) (d5 : List UInt8) (f8 : Int) (τ' : Hp), agr [(0, zol h), (1, zol b5), (5, zol b4), (6, zol t4), (7, zor h6 d5 h7), (58, zor k9 U.Params l0), (59, zok (U.Params.length : Int)), (60, zok f8)] e' ∧ Obs τ' σ' [zm h (zor m0 q0.prog.Structs m1) (zor i3 q0.prog.Funcs i4) (zor j1 f0 j2) q0.tree.Main (zor j4 f1 j5) q0.fn (zor j7 f2 j8) (zor k0 f3 k1), j3, j6, j9, k2, zb0 b5 (q1.Kind.toNat : Int) q1.Point g2 q1.Field i2 (zor m8 q1.Kids m9) (zor n0 q1.Body n1) (zor n2 q1.Else n3), zek b4 (g.Kind.toNat : Int) g.Line g.Name g.Field g.Call (g.Type_.Kind.toNat : Int) g.Type_.N g.Type_.Name (zor i7 g.Kids i8) (zor l2 g.Body l3) (zor i9 g.Else j0), zcc t4 U.Name U.Line (zor k9 U.Params l0) (U.Result.Kind.toNat : Int) U.Result.N U.Result.Name (zor t2 U.Body t3), l5] ∧ Hp.le τ τ' ∧ za zq 59 τ' (zor j1 f0 j2) f0 j3 ∧ za zr 87 τ' (zor j4 f1 j5) f1 j6 ∧ za zo 82 τ' (zor j7 f2 j8) f2 j9 ∧ za (Ty.int .i64) 3 τ' (zor k0 f3 k1) f3 k2 ∧ RdT zcJ τ' (zor k9 U.Params l0) U.Params ∧ RdT zH τ' (zor t2 U.Body t3) U.Body ∧ za Ty.u8 5 τ' (zor h6 d5 h7) d5 l5 ∧ RdT zcJ τ' (zor k9 U.Params l0) U.Params ∧ zem q0 q1 g g2 i2 U n f0 f1 f2 f3 d5 f8 = some rr) big ⟨n4, n5, n6, h2, n7, n8, n9, h3, o1, o2, o3, h4, o4, o5, o6, h5, none, 0, none, [], 0, _, zoj zoa, hO, hL, g3, g4, g5, g6, p7, t1, za.nil _ _ _, p7, hF⟩ ?_
 clear hF hO hL
 rintro k3 e σ ⟨j1, j2, j3, f0, j4, j5, j6, f1, j7, j8, j9, f2, k0, k1, k2, f3, h6, h7, l5, d5, f8, _, hA, hO, hL, h8, h9, i0, i1, W, X, p8, p9, hF⟩
 rw [← zW _ _ hA]
 cases k3 with
 | zero => exact nomatch (show none = some rr from hF)
 | succ k3 =>
 replace hF : zfO (zem q0 q1 g g2 i2 U k3) q0 q1 g g2 i2 U f0 f1 f2 f3 d5 f8 = some rr := hF
 unfold zfO at hF
 refine zd hO [] [(61, .bool (decide (f8 < (U.Params.length : Int))))] [0, 1, 5, 6, 7, 58, 59, 60] zoc fun j => ?_
 refine zz hF rfl (fun hF => ?_) fun hF => ?_
 ·refine zN (zbr ?_)
  obtain ⟨f6, v5, hF⟩ := zoq hF
  refine zbG (T := zcJ) p9 hO.base rfl rfl v5 (by decide) fun a357 _ v6 v7 => ?_
  obtain rfl : _ = ([.string f6.Name, .int .u8 f6.Type_.Kind.toNat, .int .i64 f6.Type_.N, .string f6.Type_.Name] : List Value) := v6
  refine zbh rfl ((v7.le hO.base).all rfl) ?_
  refine zbm hO fun B2 σ hO => ?_
  have hO := zop10 hO
  refine zu hO (i := 9) rfl (off := 0) rfl rfl rfl rfl (Nat.le_of_ble_eq_true rfl) rfl fun σ hO => ?_
  have hO := zop10 hO
  refine ze (zbi (zg hO 4 [9] [(64, zor h6 d5 h7), (67, .int .u8 (f6.Type_.Kind.toNat : Int))] [0, 1, 5, 6, 58, 59, 60] (And.intro (And.intro rfl rfl) zoc) fun j => ?_))
  obtain ⟨_, r9, hF⟩ := zoq hF
  refine zdt (T := Ty.u8) (y := f6.Type_.Kind) hO p8 (i := 8) rfl rfl (fun _ => rfl) rfl rfl rfl r9 (by decide) fun u _ σ v8 q2 hO => ?_
  obtain ⟨q3, q4, rfl, -⟩ := q2.form
  have hO := zop10 hO
  refine zd hO [] [(7, zor q3 (d5 ++ [f6.Type_.Kind]) q4)] [0, 1, 5, 6, 58, 59, 60] zob fun j => ?_
  refine zh (zX (zi (zbi (zd hO [] [(60, zok (IntKind.i64.wrap (f8 + 1)))] [0, 1, 5, 6, 7, 58, 59] zob fun j => ?_))))
  refine zh (zi ?_)
  have hO := hO.sel [0, 1, 2, 3, 4, 5, 6, 7, 8]
  exact ⟨k3, Nat.lt_succ_self _, j1, j2, j3, f0, j4, j5, j6, f1, j7, j8, j9, f2, k0, k1, k2, f3, q3, q4, v8, (d5 ++ [f6.Type_.Kind]), (IntKind.i64.wrap (f8 + 1)), _, zoj zoa, hO, hL, h8, h9, i0, i1, W, X, q2, p9, hF⟩
 refine zb9 (zbR (zbX (zi (zg hO 5 [6] [(71, zol b5), (72, zol h), (74, zor i7 g.Kids i8), (75, zor h6 d5 h7)] [0, 1, 6] (And.intro (And.intro rfl rfl) zoa) fun j => ?_))))
 obtain ⟨_, f9, g8, hO⟩ := p8.share hO (i := 8) rfl
 have hL := hL.trans f9
 have h8 := h8.le f9
 have h9 := h9.le f9
 have i0 := i0.le f9
 have i1 := i1.le f9
 have W := W.le f9
 have X := X.le f9
 have hO := zop9 hO
 have hO := hO.sel [5, 6, 7, 8, 0, 1, 2, 3, 4]
 rcases zP hF with ⟨B3, v9, hF⟩ | ⟨w2, w3, hF⟩
 ·refine zbo (hs := [_, _, _, _]) hO (zbC (q0 := (⟨(⟨q0.prog.Structs, q0.prog.Funcs⟩ : zs), (⟨f0, q0.tree.Main, f1⟩ : zx), q0.fn, f2, f3⟩ : zb)) (Y.le hL) (V.le hL) h8 h9 i0 i1 (l1.le hL) g8 v9) zn2 rfl fun _ σ _ _ hO k4 w4 => ?_
  have hL := hL.trans k4
  have g8 := g8.le k4
  have W := W.le k4
  have X := X.le k4
  obtain ⟨B4, B5, B6, B7, B8, B9, C0, C1, C2, C3, rfl, rfl, q5, q6, q7, q8, q9, r0⟩ := w4
  obtain ⟨C4, C5, rfl, -⟩ := q5.form
  obtain ⟨C6, C7, rfl, -⟩ := q6.form
  obtain ⟨C8, C9, rfl, -⟩ := q7.form
  obtain ⟨D0, D1, rfl, -⟩ := q8.form
  obtain ⟨D2, D3, rfl, -⟩ := q9.form
  obtain ⟨D4, D5, rfl, -⟩ := r0.form
  have hO := zop9 hO
  cases hF
  have hO := hO.sel [4, 5, 6, 7, 8, 0]
  exact hP _ _ _ _ hO hL ⟨_, _, _, _, _, _, _, _, _, _, _, _, _, rfl, rfl, q5, q6, q7, q8, q9, r0, (g1.le hL), (d8.le hL), (d9.le hL)⟩
 refine zbn (hs := [_, _, _, _]) hO (zbC (q0 := (⟨(⟨q0.prog.Structs, q0.prog.Funcs⟩ : zs), (⟨f0, q0.tree.Main, f1⟩ : zx), q0.fn, f2, f3⟩ : zb)) (Y.le hL) (V.le hL) h8 h9 i0 i1 (l1.le hL) g8 w3) zn2 rfl fun _ σ _ _ hO k5 w5 => ?_
 have hL := hL.trans k5
 have g8 := g8.le k5
 have W := W.le k5
 have X := X.le k5
 obtain ⟨D6, D7, D8, D9, E0, E1, E2, E3, E4, E5, E6, E7, rfl, rfl, g0, c0, c1, c2, c3, b6, c4⟩ := w5
 obtain ⟨E8, E9, rfl, -⟩ := g0.form
 obtain ⟨F0, F1, rfl, -⟩ := c0.form
 obtain ⟨F2, F3, rfl, -⟩ := c1.form
 obtain ⟨F4, F5, rfl, -⟩ := c2.form
 obtain ⟨F6, F7, rfl, -⟩ := c3.form
 obtain ⟨w6, w7, rfl, -⟩ := b6.form
 obtain ⟨F8, F9, rfl, -⟩ := c4.form
 have hO := zop10 hO
 refine zg hO 2 [] [(78, .pointer (some ⟨b5, 5, none⟩))] [0, 1, 6, 76] zn8 fun j => ?_
 refine zu hO (i := 0) rfl (off := 5) rfl rfl rfl rfl (Nat.le_of_ble_eq_true rfl) rfl fun σ hO => ?_
 have hO := zop10 hO
 refine ze (zgE (zg hO 6 [0] [(84, .bool (decide (g2 < 0)))] [0, 1, 6] (And.intro (And.intro rfl rfl) zn7) fun j => ?_))
 obtain ⟨w8, w9, hF⟩ := zoq hF
 refine zgy 2 [(101, .bool w8), (0, zol h), (1, zol b5)] (fun Q hQ => ?_) fun j => ?_
 ·have hF := w9
  rcases zb8 hF with ⟨g7, hF⟩ | ⟨g7, hF⟩
  ·refine zbI (zon g7) ?_
   refine zbf (zom g7) ?_
   refine ze ?_
   cases hF
   refine zh ?_
   exact hQ _ zn6
  refine zbA (zon g7) ?_
  refine zg hO 8 [5, 0] [(88, zor w6 w2.2.vars w7), (92, zok g2)] [0, 1, 6, 84] (And.intro (And.intro rfl rfl) (And.intro (And.intro rfl rfl) zn9)) fun j => ?_
  obtain ⟨x0, x1, hF⟩ := zoq hF
  refine zdg (T := zo) hO b6 (i := 8) rfl rfl rfl x1 (by decide) fun a442 _ x2 x3 G0 => ?_
  have x4 := x2
  obtain ⟨G1, rfl, x5⟩ := x4
  obtain ⟨G2, G3, rfl, -⟩ := x5.form
  refine zg hO 2 [] [(95, .pointer (some (a442.add 1)))] [0, 1, 6, 84] zn8 fun j => ?_
  refine zbh rfl (x3.one 1 rfl) ?_
  refine zg hO 4 [2] [(100, .bool ((x0.Type_.Kind.toNat : Int) == (U.Result.Kind.toNat : Int)))] [0, 1, 84] (And.intro (And.intro rfl rfl) zn7) fun j => ?_
  refine zbf (zom g7) ?_
  refine ze ?_
  cases hF
  refine zh ?_
  exact hQ _ zn6
 rcases zP hF with ⟨G4, x6, hF⟩ | ⟨G5, x7, hF⟩
 ·refine zbM hO (zbg x6) zn2 rfl fun _ σ _ _ hO d6 x8 => ?_
  have hL := hL.trans d6
  have g0 := g0.le d6
  have W := W.le d6
  have X := X.le d6
  have c0 := c0.le d6
  have c1 := c1.le d6
  have c2 := c2.le d6
  have c3 := c3.le d6
  have b6 := b6.le d6
  have c4 := c4.le d6
  obtain ⟨rfl, rfl⟩ := x8
  have hO := zop10 hO
  obtain ⟨_, f4, x9, hO⟩ := g0.share hO (i := 4) rfl
  have hL := hL.trans f4
  have W := W.le f4
  have X := X.le f4
  have c0 := c0.le f4
  have c1 := c1.le f4
  have c2 := c2.le f4
  have c3 := c3.le f4
  have b6 := b6.le f4
  have c4 := c4.le f4
  have hO := zop10 hO
  cases hF
  have hO := hO.sel [5, 6, 7, 8, 9, 0]
  exact hP _ _ _ _ hO hL ⟨_, _, _, _, _, _, _, _, _, _, _, _, _, rfl, rfl, c0, c1, c2, c3, b6, c4, x9, (d8.le hL), (d9.le hL)⟩
 refine zbO hO (zbg x7) zn2 rfl fun _ σ _ _ hO d7 y0 => ?_
 have hL := hL.trans d7
 have g0 := g0.le d7
 have W := W.le d7
 have X := X.le d7
 have c0 := c0.le d7
 have c1 := c1.le d7
 have c2 := c2.le d7
 have c3 := c3.le d7
 have b6 := b6.le d7
 have c4 := c4.le d7
 obtain ⟨rfl, rfl⟩ := y0
 have hO := zop10 hO
 refine ze (zh ?_)
 obtain ⟨_, f5, y1, hO⟩ := g0.share hO (i := 4) rfl
 have hL := hL.trans f5
 have W := W.le f5
 have X := X.le f5
 have c0 := c0.le f5
 have c1 := c1.le f5
 have c2 := c2.le f5
 have c3 := c3.le f5
 have b6 := b6.le f5
 have c4 := c4.le f5
 have hO := zop10 hO
 cases hF
 have hO := hO.sel [5, 6, 7, 8, 9, 0]
 refine (hQ _ _ _ _ _ rfl hO hL ?_).2
 exact ⟨_, _, _, _, _, _, _, _, _, _, _, _, _, rfl, rfl, c0, c1, c2, c3, b6, c4, y1, (d8.le hL), (d9.le hL)⟩
def zfX (gn : Nat) : Prop := ∀ {τ : Hp} {q0 : zb} {h : Nat} {c5 c6 c7 : Value} {Z : Ob} {c8 : Value} {b0 : Ob} {c9 : Value} {b1 : Ob} {d0 : Value} {b2 : Ob} {v1 : Value} {p1 : (List zf)} (Y : RdT zw τ c5 q0.prog.Structs) (V : RdT zt τ c6 q0.prog.Funcs) (b7 : za zq 59 τ c7 q0.tree.Bodies Z) (b8 : za zr 87 τ c8 q0.tree.Points b0) (b3 : za zo 82 τ c9 q0.vars b1) (b9 : za (Ty.int .i64) 3 τ d0 q0.scope b2) (r1 : RdT zH τ v1 p1) {rr : Except (Value × zb) ((List zj) × zb)} (hF : ((zbP gn).1) q0 p1 = some rr), zbu Try.prog 64 #[.pointer (some ⟨h, 0, none⟩), v1] τ [zm h c5 c6 c7 q0.tree.Main c8 q0.fn c9 d0, Z, b0, b1, b2] (fun v τ' vs' => match (generalizing := false) rr with | .ok rr => ∃ (v0 : Value) (o0 : Ob) (k o q : Value) (z : Ob) (B : Value) (D : Ob) (E : Value) (G : Ob) (I : Value) (S : Ob), v = v0 ∧ vs' = [o0, zm h k o q rr.2.tree.Main B rr.2.fn E I, z, D, G, S] ∧ za zba 115 τ' v0 rr.1 o0 ∧ RdT zw τ' k rr.2.prog.Structs ∧ RdT zt τ' o rr.2.prog.Funcs ∧ za zq 59 τ' q rr.2.tree.Bodies z ∧ za zr 87 τ' B rr.2.tree.Points D ∧ za zo 82 τ' E rr.2.vars G ∧ za (Ty.int .i64) 3 τ' I rr.2.scope S | .error _ => False) (fun ch τ' vs' => match (generalizing := false) rr with | .ok _ => False | .error ee => ∃ (k o q : Value) (z : Ob) (B : Value) (D : Ob) (E : Value) (G : Ob) (I : Value) (S : Ob), ch = [{ v := ee.1, recovered := false }] ∧ vs' = [zm h k o q ee.2.tree.Main B ee.2.fn E I, z, D, G, S] ∧ RdT zw τ' k ee.2.prog.Structs ∧ RdT zt τ' o ee.2.prog.Funcs ∧ za zq 59 τ' q ee.2.tree.Bodies z ∧ za zr 87 τ' B ee.2.tree.Points D ∧ za zo 82 τ' E ee.2.vars G ∧ za (Ty.int .i64) 3 τ' I ee.2.scope S)
def zgB (gn : Nat) : Prop := ∀ {τ : Hp} {q0 : zb} {h : Nat} {c5 c6 c7 : Value} {Z : Ob} {c8 : Value} {b0 : Ob} {c9 : Value} {b1 : Ob} {d0 : Value} {b2 : Ob} {p1 : zf} {r2 r3 o7 : Value} (Y : RdT zw τ c5 q0.prog.Structs) (V : RdT zt τ c6 q0.prog.Funcs) (b7 : za zq 59 τ c7 q0.tree.Bodies Z) (b8 : za zr 87 τ c8 q0.tree.Points b0) (b3 : za zo 82 τ c9 q0.vars b1) (b9 : za (Ty.int .i64) 3 τ d0 q0.scope b2) (G6 : RdT zZ τ r2 p1.Kids) (G7 : RdT zH τ r3 p1.Body) (A3 : RdT zH τ o7 p1.Else) {rr : Except (Value × zb) (zj × zb)} (hF : ((zbP gn).2) q0 p1 = some rr), zbu Try.prog 80 #[.pointer (some ⟨h, 0, none⟩), .agg #[.int .u8 p1.Kind.toNat, .int .i64 p1.Line, .string p1.Name, .string p1.Field, .string p1.Call, .int .u8 p1.Type_.Kind.toNat, .int .i64 p1.Type_.N, .string p1.Type_.Name, r2, r3, o7]] τ [zm h c5 c6 c7 q0.tree.Main c8 q0.fn c9 d0, Z, b0, b1, b2] (fun v τ' vs' => match (generalizing := false) rr with | .ok rr => ∃ (r4 r5 r6 k o q : Value) (z : Ob) (B : Value) (D : Ob) (E : Value) (G : Ob) (I : Value) (S : Ob), v = .agg #[.int .u8 rr.1.Kind.toNat, .int .i64 rr.1.Point, .int .i64 rr.1.Var, .int .i64 rr.1.Field, .int .i64 rr.1.Call, r4, r5, r6] ∧ vs' = [zm h k o q rr.2.tree.Main B rr.2.fn E I, z, D, G, S] ∧ RdT zbk τ' r4 rr.1.Kids ∧ RdT zba τ' r5 rr.1.Body ∧ RdT zba τ' r6 rr.1.Else ∧ RdT zw τ' k rr.2.prog.Structs ∧ RdT zt τ' o rr.2.prog.Funcs ∧ za zq 59 τ' q rr.2.tree.Bodies z ∧ za zr 87 τ' B rr.2.tree.Points D ∧ za zo 82 τ' E rr.2.vars G ∧ za (Ty.int .i64) 3 τ' I rr.2.scope S | .error _ => False) (fun ch τ' vs' => match (generalizing := false) rr with | .ok _ => False | .error ee => ∃ (k o q : Value) (z : Ob) (B : Value) (D : Ob) (E : Value) (G : Ob) (I : Value) (S : Ob), ch = [{ v := ee.1, recovered := false }] ∧ vs' = [zm h k o q ee.2.tree.Main B ee.2.fn E I, z, D, G, S] ∧ RdT zw τ' k ee.2.prog.Structs ∧ RdT zt τ' o ee.2.prog.Funcs ∧ za zq 59 τ' q ee.2.tree.Bodies z ∧ za zr 87 τ' B ee.2.tree.Points D ∧ za zo 82 τ' E ee.2.vars G ∧ za (Ty.int .i64) 3 τ' I ee.2.scope S)
end Go.Proofs.Ytakcaekikfcbpaa
