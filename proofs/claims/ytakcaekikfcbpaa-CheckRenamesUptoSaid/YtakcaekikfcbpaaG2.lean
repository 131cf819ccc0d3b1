import Derived.Test.YtakcaekikfcbpaaG1
namespace Go.Proofs.Ytakcaekikfcbpaa
open Go.Ab Go.RowKit
set_option linter.unusedVariables false
set_option linter.unusedSimpArgs false
set_option maxRecDepth 10000
set_option maxHeartbeats 1000000
theorem zl7 {τ : Hp} {p0 : Int} {g : zb} {bmf0 : Nat} {vmf0_0 vmf0_1 vmf0_2 : Value} {omf0_2 : Ob} {vmf0_4 : Value} {omf0_4 : Ob} {vmf0_6 : Value} {omf0_6 : Ob} {vmf0_7 : Value} {omf0_7 : Ob} {W : Addr} (rmf0_0 : RdT zx τ vmf0_0 g.prog.Structs) (rmf0_1 : RdT zr τ vmf0_1 g.prog.Funcs) (wmf0_2 : za zp 59 τ vmf0_2 g.tree.Bodies omf0_2) (wmf0_4 : za zo 87 τ vmf0_4 g.tree.Points omf0_4) (wmf0_6 : za zq 82 τ vmf0_6 g.vars omf0_6) (wmf0_7 : za (Ty.int .i64) 3 τ vmf0_7 g.scope omf0_7) (X : At τ W [.pointer (some ⟨bmf0, 0, none⟩)]) {rr : zb} (hF : zdP p0 g = some rr) :
  zfh Try.prog 79 #[.int .i64 p0, .pointer (some W)] τ [zn bmf0 vmf0_0 vmf0_1 vmf0_2 g.tree.Main vmf0_4 g.fn vmf0_6 vmf0_7, omf0_2, omf0_4, omf0_6, omf0_7] (fun v τ' vs' => ∃ (h o q : Value) (z : Ob) (D : Value) (G : Ob) (I : Value) (S : Ob) (U : Value) (V : Ob), v = .tuple #[] ∧ vs' = [zn bmf0 h o q rr.tree.Main D rr.fn I U, z, G, S, V] ∧ RdT zx τ' h rr.prog.Structs ∧ RdT zr τ' o rr.prog.Funcs ∧ za zp 59 τ' q rr.tree.Bodies z ∧ za zo 87 τ' D rr.tree.Points G ∧ za zq 82 τ' I rr.vars S ∧ za (Ty.int .i64) 3 τ' U rr.scope V) := by
 obtain ⟨Amf0_0, cmf0_0, rfl, -⟩ := rmf0_0.form
 obtain ⟨Amf0_1, cmf0_1, rfl, -⟩ := rmf0_1.form
 obtain ⟨Amf0_2, cmf0_2, rfl, -⟩ := wmf0_2.form
 obtain ⟨Amf0_4, cmf0_4, rfl, -⟩ := wmf0_4.form
 obtain ⟨Amf0_6, cmf0_6, rfl, -⟩ := wmf0_6.form
 obtain ⟨Amf0_7, cmf0_7, rfl, -⟩ := wmf0_7.form
 refine zpS (args := [.int .i64 p0, .pointer (some W)]) hm Try.func79 s79 rfl fun w0 σ hO Q hQ => ?_
 unfold zdP at hF
 have hL := Hp.le.refl τ
 show wpn _ _ a79.body _ _ _
 unfold a79
 dsimp only
 refine zeo (zE rfl ((X.le hL).le hO.base).fst ?_)
 refine zE rfl ((X.le hL).le hO.base).fst ?_
 refine zd hO 4 [0] [(7, zrn Amf0_7 g.scope cmf0_7), (8, zrg p0)] [1, 3] (And.intro (And.intro rfl rfl) zq3) fun j => ?_
 obtain ⟨y2, Z, hF⟩ := zrm hF
 refine zm8 (T := (Ty.int .i64)) (wmf0_7.le hL) rfl rfl Z fun w4 => ?_
 refine zd hO 2 [] [(11, .pointer (some ⟨bmf0, 7, none⟩))] [1, 9] zq2 fun j => ?_
 refine zC hO (i := 0) rfl (off := 7) rfl rfl rfl rfl (Nat.le_of_ble_eq_true rfl) rfl fun σ hO => ?_
 have hO := zrl5 hO
 refine zf (zg ?_)
 cases hF
 exact (hQ _ _ _ _ _ rfl hO hL ⟨_, _, _, _, _, _, _, _, _, _, rfl, rfl, (rmf0_0.le hL), (rmf0_1.le hL), (wmf0_2.le hL), (wmf0_4.le hL), (wmf0_6.le hL), w4⟩).2
abbrev zlZ (Y : Nat) (rr : Except (Value × zb) ((List zh) × zb)) : List PanicEntry → Hp → List Ob → Prop := fun ch τ' vs' => match (generalizing := false) rr with | .ok _ => False | .error ee => ∃ (h o q : Value) (z : Ob) (D : Value) (G : Ob) (I : Value) (S : Ob) (U : Value) (V : Ob), ch = [{ v := ee.1, recovered := false }] ∧ vs' = [zn Y h o q ee.2.tree.Main D ee.2.fn I U, z, G, S, V] ∧ RdT zx τ' h ee.2.prog.Structs ∧ RdT zr τ' o ee.2.prog.Funcs ∧ za zp 59 τ' q ee.2.tree.Bodies z ∧ za zo 87 τ' D ee.2.tree.Points G ∧ za zq 82 τ' I ee.2.vars S ∧ za (Ty.int .i64) 3 τ' U ee.2.scope V
def zim : zbe := (.seq (.reg [.s ⟨(some 5), .mv (.c (.slice none 0 0)), []⟩])
(.seq (.seq (.reg [.s ⟨(some 14), .mv (.t 1), []⟩,
 .s ⟨(some 15), .lenL (.t 14), []⟩,
 .s ⟨(some 16), .mv (.c (.int .i64 0)), []⟩])
(.block 0 (.loop (.seq (.reg [.s ⟨(some 17), .bin .lss (.t 16) (.t 15), []⟩])
(.seq (.cond (.t 17) .skip
(.exit 0))
(.seq (.block 1 (.seq (.reg [.s ⟨(some 18), .idx 11 (.t 14) (.t 16), []⟩,
 .s ⟨(some 19), .load true 11 (.t 18), []⟩,
 .s ⟨(some 7), .alloc 73 [(.int .u8 0), (.int .i64 0), (.string zqP), (.string zqP), (.string zqP), (.int .u8 0), (.int .i64 0), (.string zqP), (.slice none 0 0), (.slice none 0 0), (.slice none 0 0)], []⟩,
 .s ⟨none, .store 11 (.t 7) (.t 19), []⟩])
(.reg [.s ⟨(some 20), .mv (.t 5), []⟩,
 .s ⟨(some 21), .load false 1 (.t 2), []⟩,
 .s ⟨(some 22), .load true 11 (.t 7), []⟩,
 .s ⟨(some 23), .call 80 [(.t 21), (.t 22)], []⟩,
 .s ⟨(some 24), .bslice 115 1 [(.int .u8 0), (.int .i64 0), (.int .i64 0), (.int .i64 0), (.int .i64 0), (.slice none 0 0), (.slice none 0 0), (.slice none 0 0)] [(0, 8, (.t 23))], []⟩,
 .s ⟨(some 25), .app 115 8 112 (.t 20) (.t 24), []⟩,
 .s ⟨(some 5), .mv (.t 25), []⟩])))
(.reg [.s ⟨(some 26), .bin .add (.t 16) (.c (.int .i64 1)), []⟩,
 .s ⟨(some 16), .mv (.t 26), []⟩])))))))
(.seq (.reg [.s ⟨(some 27), .mv (.t 5), []⟩,
 .s ⟨(some 4), .mv (.t 27), []⟩])
.ret)))
theorem zlF {gn : Nat} (ih_check_checker_list : zgO gn) (ih_check_checker_stmt : zgW gn) {τ : Hp} {q0 : zb} {b1 : Nat} {f9 g0 g1 : Value} {b6 : Ob} {g2 : Value} {b7 : Ob} {g3 : Value} {b8 : Ob} {g4 : Value} {b9 : Ob} {v1 : Value} {p1 : (List zi)} {h1 : Addr} (g5 : RdT zx τ f9 q0.prog.Structs) (g6 : RdT zr τ g0 q0.prog.Funcs) (g7 : za zp 59 τ g1 q0.tree.Bodies b6) (g8 : za zo 87 τ g2 q0.tree.Points b7) (g9 : za zq 82 τ g3 q0.vars b8) (h0 : za (Ty.int .i64) 3 τ g4 q0.scope b9) (r1 : RdT zX τ v1 p1) (o6 : At τ h1 [.pointer (some ⟨b1, 0, none⟩)]) {w0 : Base} {σ : Hp} {Q : Exit → Env → Hp → Prop} {e0 : Env} {rr : Except (Value × zb) ((List zh) × zb)} (hF : zgo ((zb1 gn).1) ((zb1 gn).2) q0 p1 = some rr) (hP : ∀ ch σ' τ' vs', Obs τ' σ' vs' → Hp.le τ τ' → (zlZ b1 rr) ch τ' vs' → w0.pan ch σ') (hO : Obs τ σ [zn b1 f9 g0 g1 q0.tree.Main g2 q0.fn g3 g4, b6, b7, b8, b9]) (hQ : ∀ e σ' rs τ' vs', resvs e σ' [.t 4] = some rs → Obs τ' σ' vs' → Hp.le τ τ' → (fun v τ' vs' => match (generalizing := false) rr with | .ok rr => ∃ (v0 : Value) (o0 : Ob) (h2 h3 h4 : Value) (h5 : Ob) (h6 : Value) (h7 : Ob) (h8 : Value) (h9 : Ob) (i0 : Value) (i1 : Ob), v = v0 ∧ vs' = [o0, zn b1 h2 h3 h4 rr.2.tree.Main h6 rr.2.fn h8 i0, h5, h7, h9, i1] ∧ za zN 115 τ' v0 rr.1 o0 ∧ RdT zx τ' h2 rr.2.prog.Structs ∧ RdT zr τ' h3 rr.2.prog.Funcs ∧ za zp 59 τ' h4 rr.2.tree.Bodies h5 ∧ za zo 87 τ' h6 rr.2.tree.Points h7 ∧ za zq 82 τ' h8 rr.2.vars h9 ∧ za (Ty.int .i64) 3 τ' i0 rr.2.scope i1 | .error _ => False) (zct rs) τ' vs' → Q .ret e σ' ∧ Q .normal e σ') : wpn Try.prog w0 zim Q (sets [(0, .pointer (some ⟨b1, 0, none⟩)), (1, v1), (2, .pointer (some h1))] e0) σ := by
 obtain ⟨k0, k1, rfl, -⟩ := g5.form
 obtain ⟨k2, k3, rfl, -⟩ := g6.form
 obtain ⟨k4, k5, rfl, -⟩ := g7.form
 obtain ⟨k6, k7, rfl, -⟩ := g8.form
 obtain ⟨k8, k9, rfl, -⟩ := g9.form
 obtain ⟨l0, l1, rfl, -⟩ := h0.form
 obtain ⟨A1, c1, rfl, -⟩ := r1.form
 unfold zim
 unfold zgo at hF
 have hL := Hp.le.refl τ
 refine ze hO [] [(5, .slice none 0 0)] [0, 1, 2] zq3 fun j => ?_
 refine zl (ze hO [] [(14, zrn A1 p1 c1), (15, zrg (p1.length : Int)), (16, zrg 0)] [0, 2, 5] zq5 fun j => ?_)
 refine zY ?_
 have hO := hO.no
 have hO := zrl6 hO
 refine zbH (fun (n : Nat) e' σ' => ∃ (c2 : Option Addr) (c3 : Nat) (q : List zbh) (c4 : Option Addr) (c5 : Nat) (z : List zG) (c6 : Option Addr) (c7 : Nat) (c8 : Ob) (D : List zM) (Y : Int) (c9 : Option Addr) (d0 : Nat) (d5 : Ob) (G : List zH) (Z : Int) (d6 : Option Addr) (d7 : Nat) (d8 : Ob) (I : List zI) (d9 : Option Addr) (f0 : Nat) (f1 : Ob) (S : List Int) (b2 : Option Addr) (b3 : Nat) (f2 : Ob) (o : List zh) (U : Int) (τ' : Hp), agr [(0, zrh b1), (2, .pointer (some h1)), (5, zrn b2 o b3), (14, zrn A1 p1 c1), (15, zrg (p1.length : Int)), (16, zrg U)] e' ∧ Obs τ' σ' [zn b1 (zrn c2 q c3) (zrn c4 z c5) (zrn c6 D c7) Y (zrn c9 G d0) Z (zrn d6 I d7) (zrn d9 S f0), c8, d5, d8, f1, f2] ∧ Hp.le τ τ' ∧ RdT zx τ' (zrn c2 q c3) q ∧ RdT zr τ' (zrn c4 z c5) z ∧ za zp 59 τ' (zrn c6 D c7) D c8 ∧ za zo 87 τ' (zrn c9 G d0) G d5 ∧ za zq 82 τ' (zrn d6 I d7) I d8 ∧ za (Ty.int .i64) 3 τ' (zrn d9 S f0) S f1 ∧ za zN 115 τ' (zrn b2 o b3) o f2 ∧ zei (zb1 gn).2 p1 n q z D Y G Z I S o U = some rr) big ⟨k0, k1, q0.prog.Structs, k2, k3, q0.prog.Funcs, k4, k5, b6, q0.tree.Bodies, q0.tree.Main, k6, k7, b7, q0.tree.Points, q0.fn, k8, k9, b8, q0.vars, l0, l1, b9, q0.scope, none, 0, none, [], 0, _, zrf zq4, hO, hL, (g5.le hL), (g6.le hL), (g7.le hL), (g8.le hL), (g9.le hL), (h0.le hL), za.nil _ _ _, hF⟩ ?_
 clear hF hO hL
 rintro c0 e σ ⟨c2, c3, q, c4, c5, z, c6, c7, c8, D, Y, c9, d0, d5, G, Z, d6, d7, d8, I, d9, f0, f1, S, b2, b3, f2, o, U, _, hA, hO, hL, f3, f4, f5, f6, f7, f8, b0, hF⟩
 rw [← zV _ _ hA]
 cases c0 with
 | zero => exact nomatch (show none = some rr from hF)
 | succ c0 =>
 replace hF : zfU (zei (zb1 gn).2 p1 c0) (zb1 gn).2 p1 q z D Y G Z I S o U = some rr := hF
 unfold zfU at hF
 refine ze hO [] [(17, .bool (decide (U < (p1.length : Int))))] [0, 2, 5, 14, 15, 16] zq6 fun j => ?_
 refine zy hF rfl (fun hF => ?_) fun hF => ?_
 ·refine zF (zY ?_)
  obtain ⟨h, l3, hF⟩ := zrm hF
  refine zO (T := zX) (r1.le hL) hO.base rfl rfl l3 (by decide) fun a264 _ l4 l5 => ?_
  obtain ⟨p4, p5, p6, rfl, V, W, X⟩ := zfv l4
  obtain ⟨l6, l7, rfl, -⟩ := V.form
  obtain ⟨l8, l9, rfl, -⟩ := W.form
  obtain ⟨m0, m1, rfl, -⟩ := X.form
  refine zE rfl ((l5.le hO.base).all rfl) ?_
  refine zbl hO fun p7 σ hO => ?_
  have hO := zrl7 hO
  refine zC hO (i := 6) rfl (off := 0) rfl rfl rfl rfl (Nat.le_of_ble_eq_true rfl) rfl fun σ hO => ?_
  have hO := zrl7 hO
  refine zf (zbd (zd hO 1 [] [(20, zrn b2 o b3)] [0, 2, 7, 14, 15, 16] zq6 fun j => ?_))
  refine zE rfl ((o6.le hL).le hO.base).fst ?_
  refine zd hO 1 [6] [(22, .agg #[(.int .u8 (h.Kind.toNat : Int)), (.int .i64 h.Line), (.string h.Name), (.string h.Field), (.string h.Call), (.int .u8 (h.Type_.Kind.toNat : Int)), (.int .i64 h.Type_.N), (.string h.Type_.Name), (zrn l6 h.Kids l7), (zrn l8 h.Body l9), (zrn m0 h.Else m1)])] [0, 2, 14, 15, 16, 20, 21] (And.intro (And.intro rfl rfl) zq7) fun j => ?_
  have hO := hO.sel [5, 6, 0, 1, 2, 3, 4]
  rcases z9 hF with ⟨p8, m2, hF⟩ | ⟨g, m3, hF⟩
  ·refine zbs (hs := [_, _]) hO (ih_check_checker_stmt (q0 := (⟨(⟨q, z⟩ : zm), (⟨D, Y, G⟩ : zw), Z, I, S⟩ : zb)) f3 f4 f5 f6 f7 f8 V W X m2) zqY rfl fun _ σ _ _ hO b4 m4 => ?_
   have hL := hL.trans b4
   have b0 := b0.le b4
   have V := V.le b4
   have W := W.le b4
   have X := X.le b4
   obtain ⟨p9, q2, q3, q4, q5, q6, q7, q8, q9, r0, rfl, rfl, i2, i3, i4, i5, i6, i7⟩ := m4
   obtain ⟨r2, r3, rfl, -⟩ := i2.form
   obtain ⟨r4, r5, rfl, -⟩ := i3.form
   obtain ⟨r6, r7, rfl, -⟩ := i4.form
   obtain ⟨r8, r9, rfl, -⟩ := i5.form
   obtain ⟨t0, t1, rfl, -⟩ := i6.form
   obtain ⟨t2, t3, rfl, -⟩ := i7.form
   have hO := zrl7 hO
   cases hF
   have hO := hO.sel [2, 3, 4, 5, 6]
   exact hP _ _ _ _ hO hL ⟨_, _, _, _, _, _, _, _, _, _, rfl, rfl, i2, i3, i4, i5, i6, i7⟩
  refine zbq (hs := [_, _]) hO (ih_check_checker_stmt (q0 := (⟨(⟨q, z⟩ : zm), (⟨D, Y, G⟩ : zw), Z, I, S⟩ : zb)) f3 f4 f5 f6 f7 f8 V W X m3) zqY rfl fun _ σ _ _ hO b5 m5 => ?_
  have hL := hL.trans b5
  have b0 := b0.le b5
  have V := V.le b5
  have W := W.le b5
  have X := X.le b5
  obtain ⟨t4, t5, t6, t7, t8, t9, m6, u0, m7, u1, m8, u2, m9, rfl, rfl, i8, i9, j0, j1, j2, j3, j4, j5, j6⟩ := m5
  obtain ⟨u3, u4, rfl, -⟩ := i8.form
  obtain ⟨u5, u6, rfl, -⟩ := i9.form
  obtain ⟨u7, u9, rfl, -⟩ := j0.form
  obtain ⟨n0, n1, rfl, -⟩ := j1.form
  obtain ⟨n2, n3, rfl, -⟩ := j2.form
  obtain ⟨n4, n5, rfl, -⟩ := j3.form
  obtain ⟨n6, n7, rfl, -⟩ := j4.form
  obtain ⟨n8, n9, rfl, -⟩ := j5.form
  obtain ⟨o1, o2, rfl, -⟩ := j6.form
  have hO := zrl7 hO
  obtain ⟨_, l2, hF⟩ := zrm hF
  refine zdk (T := zN) (y := (⟨g.1.Kind, g.1.Point, g.1.Var, g.1.Field, g.1.Call, g.1.Kids, g.1.Body, g.1.Else⟩ : zh)) hO b0 (i := 0) rfl rfl (fun _ => rfl) rfl (zmW ⟨_, _, _, rfl, i8, i9, j0⟩) rfl l2 (by decide) fun u _ σ o3 j7 hO => ?_
  obtain ⟨j8, j9, rfl, -⟩ := j7.form
  have hO := zrl7 hO
  refine ze hO [] [(5, zrn j8 (o ++ [(⟨g.1.Kind, g.1.Point, g.1.Var, g.1.Field, g.1.Call, g.1.Kids, g.1.Body, g.1.Else⟩ : zh)]) j9)] [0, 2, 14, 15, 16] zq5 fun j => ?_
  refine zg (z3 (zk (zbd (ze hO [] [(16, zrg (IntKind.i64.wrap (U + 1)))] [0, 2, 5, 14, 15] zq5 fun j => ?_))))
  refine zg (zk ?_)
  have hO := hO.sel [2, 3, 4, 5, 6, 0]
  exact ⟨c0, Nat.lt_succ_self _, n0, n1, g.2.prog.Structs, n2, n3, g.2.prog.Funcs, n4, n5, m6, g.2.tree.Bodies, g.2.tree.Main, n6, n7, m7, g.2.tree.Points, g.2.fn, n8, n9, m8, g.2.vars, o1, o2, m9, g.2.scope, j8, j9, o3, (o ++ [(⟨g.1.Kind, g.1.Point, g.1.Var, g.1.Field, g.1.Call, g.1.Kids, g.1.Body, g.1.Else⟩ : zh)]), (IntKind.i64.wrap (U + 1)), _, zrf zq4, hO, hL, j1, j2, j3, j4, j5, j6, j7, hF⟩
 refine zbF (zbB (zbD (zk (ze hO [] [(4, zrn b2 o b3)] [0] zq1 fun j => ?_))))
 refine zba ?_
 cases hF
 have hO := hO.sel [5, 0, 1, 2, 3, 4]
 refine (hQ _ _ _ _ _ rfl hO hL ?_).1
 exact ⟨_, _, _, _, _, _, _, _, _, _, _, _, rfl, rfl, b0, f3, f4, f5, f6, f7, f8⟩
def a64 : zeM := ⟨28, [.t 4], (.pre (.reg [.s ⟨(some 2), .box 108 (.t 0), []⟩,
 .s ⟨(some 4), .mv (.c (.slice none 0 0)), []⟩])
(.dfr [.s ⟨(some 8), .mkfn (.func 79) [] [(.t 2)], []⟩,
 .s ⟨(some 9), .load false 1 (.t 2), []⟩,
 .s ⟨(some 10), .nilchk (.t 9), []⟩,
 .s ⟨(some 11), .faddr 7 (.t 10), []⟩,
 .s ⟨(some 12), .load false 1 (.t 11), []⟩,
 .s ⟨(some 13), .lenL (.t 12), []⟩] 8 [(.t 13)] zim))⟩
theorem s64 : zfQ Try.prog [] Try.f64 = some a64.fn := by kernel_rfl
theorem zpa {gn : Nat} (ih_check_checker_list : zgO gn) (ih_check_checker_stmt : zgW gn) {τ : Hp} {q0 : zb} {g : Nat} {b8 b9 c0 : Value} {c2 : Ob} {c3 : Value} {c4 : Ob} {c5 : Value} {c6 : Ob} {c7 : Value} {c8 : Ob} {v1 : Value} {p1 : (List zi)} (o : RdT zx τ b8 q0.prog.Structs) (D : RdT zr τ b9 q0.prog.Funcs) (G : za zp 59 τ c0 q0.tree.Bodies c2) (I : za zo 87 τ c3 q0.tree.Points c4) (S : za zq 82 τ c5 q0.vars c6) (U : za (Ty.int .i64) 3 τ c7 q0.scope c8) (r1 : RdT zX τ v1 p1) {rr : Except (Value × zb) ((List zh) × zb)} (hF : zga ((zb1 gn).1) ((zb1 gn).2) q0 p1 = some rr) :
  zbu Try.prog 64 #[.pointer (some ⟨g, 0, none⟩), v1] τ [zn g b8 b9 c0 q0.tree.Main c3 q0.fn c5 c7, c2, c4, c6, c8] (fun v τ' vs' => match (generalizing := false) rr with | .ok rr => ∃ (v0 : Value) (o0 : Ob) (V W X : Value) (Y : Ob) (Z : Value) (b0 : Ob) (b1 : Value) (b3 : Ob) (b4 : Value) (b5 : Ob), v = v0 ∧ vs' = [o0, zn g V W X rr.2.tree.Main Z rr.2.fn b1 b4, Y, b0, b3, b5] ∧ za zN 115 τ' v0 rr.1 o0 ∧ RdT zx τ' V rr.2.prog.Structs ∧ RdT zr τ' W rr.2.prog.Funcs ∧ za zp 59 τ' X rr.2.tree.Bodies Y ∧ za zo 87 τ' Z rr.2.tree.Points b0 ∧ za zq 82 τ' b1 rr.2.vars b3 ∧ za (Ty.int .i64) 3 τ' b4 rr.2.scope b5 | .error _ => False) (fun ch τ' vs' => match (generalizing := false) rr with | .ok _ => False | .error ee => ∃ (V W X : Value) (Y : Ob) (Z : Value) (b0 : Ob) (b1 : Value) (b3 : Ob) (b4 : Value) (b5 : Ob), ch = [{ v := ee.1, recovered := false }] ∧ vs' = [zn g V W X ee.2.tree.Main Z ee.2.fn b1 b4, Y, b0, b3, b5] ∧ RdT zx τ' V ee.2.prog.Structs ∧ RdT zr τ' W ee.2.prog.Funcs ∧ za zp 59 τ' X ee.2.tree.Bodies Y ∧ za zo 87 τ' Z ee.2.tree.Points b0 ∧ za zq 82 τ' b1 ee.2.vars b3 ∧ za (Ty.int .i64) 3 τ' b4 ee.2.scope b5) := by
 obtain ⟨i1, i2, rfl, -⟩ := o.form
 obtain ⟨i3, i4, rfl, -⟩ := D.form
 obtain ⟨i5, i6, rfl, -⟩ := G.form
 obtain ⟨i7, i8, rfl, -⟩ := I.form
 obtain ⟨i9, j0, rfl, -⟩ := S.form
 obtain ⟨j1, j2, rfl, -⟩ := U.form
 obtain ⟨A1, c1, rfl, -⟩ := r1.form
 unfold zga at hF
 obtain ⟨r, hB, hF⟩ := zrm hF
 refine zkJ (J := []) (af := a64) (args := [.pointer (some ⟨g, 0, none⟩), .slice A1 p1.length c1]) hm Try.func64 s64 rfl fun w0 σ hO Q hQ hP => ?_
 have hL := Hp.le.refl τ
 show zds _ _ _ a64.body _ _ _
 unfold a64
 dsimp only [zds]
 refine zbd (zbQ (n := 1) hO rfl rfl fun b2 σ hO => ?_)
 have hO := zrl6 hO
 refine zA hO [] [(0, zrh g), (1, zrn A1 p1 c1), (2, zrh b2)] ⟨rfl, rfl, rfl, trivial⟩ fun j => ?_
 refine zg ?_
 dsimp only [thn]
 refine zbd (zA hO [5, 0] [(0, zrh g), (1, zrn A1 p1 c1), (2, zrh b2), (8, .func (.func 79) #[] #[.pointer (some ⟨b2, 0, none⟩)]), (13, zrg (q0.scope.length : Int))] ⟨⟨rfl, rfl⟩, ⟨rfl, rfl⟩, rfl, rfl, rfl, rfl, rfl, trivial⟩ fun j => ?_)
 refine zg ?_
 refine ⟨rfl, 79, #[.pointer (some ⟨b2, 0, none⟩)], rfl, by kernel_rfl, ?_⟩
 obtain ⟨τ6, h6, m6, hO⟩ := hO.shareV (i := 5) rfl
 have hO := hO.sel [0, 1, 2, 3, 4]
 have hL := hL.trans h6
 have o := o.le h6
 have D := D.le h6
 have G := G.le h6
 have I := I.le h6
 have S := S.le h6
 have U := U.le h6
 have r1 := r1.le h6
 cases r with
 | ok c =>
  replace hF : ((zdP (q0.scope.length : Int) c.2).bind fun q => some (Except.ok (c.1, q))) = some rr := hF
  obtain ⟨q, hC, hF⟩ := zrm hF
  cases hF
  refine zcE (fun _ _ => False) rfl (fun _ _ _ h => h.elim) ?_
  refine (congrArg (fun z => wpn _ _ _ _ z _) (zV [(0, zrh g), (1, zrn A1 p1 c1), (2, zrh b2)] _ ⟨rfl, rfl, rfl, trivial⟩)).mp ?_
  refine zlF ih_check_checker_list ih_check_checker_stmt o D G I S U r1 m6 hB (fun _ _ _ _ _ _ h => h.elim) hO fun e σ' rs τ' vs' hrs hO' hle hK => ?_
  obtain ⟨v0, o0, u0, u1, u2, y2, u4, y4, u6, y6, u7, y7, hv, rfl, fv, f0, f1, f2, f4, f6, f7⟩ := hK
  have key : zch Try.prog w0 79 #[.int .i64 (q0.scope.length : Int), .pointer (some ⟨b2, 0, none⟩)] .returning σ' fun u' σ'' => settle u' = .returning ∧ Q .ret e σ'' := (zfh.fr .returning (hs := [_]) hO' (zl7 f0 f1 f2 f4 f6 f7 (m6.le hle) hC)).mono fun u' σ2 ⟨hu, _, τ2, i0, d6, hle2, d7⟩ => by
   subst hu
   obtain ⟨z0, z1, z2, t2, z4, t4, z6, t6, z7, t7, _, rfl, g0, g1, g2, g4, g6, g7⟩ := d7
   exact ⟨rfl, hQ e σ2 rs τ2 _ hrs d6 ((hL.trans hle).trans hle2) ⟨_, _, _, _, _, _, _, _, _, _, _, _, hv, rfl, fv.le hle2, g0, g1, g2, g4, g6, g7⟩⟩
  exact ⟨fun _ => key, fun _ => key⟩
 | error c =>
  replace hF : ((zdP (q0.scope.length : Int) c.2).bind fun q => some (Except.error (c.1, q))) = some rr := hF
  obtain ⟨q, hC, hF⟩ := zrm hF
  cases hF
  refine zcE (fun ch σ' => ∃ τ' vs', Obs τ' σ' vs' ∧ Hp.le τ6 τ' ∧ zlZ g (.error c) ch τ' vs') rfl (fun ch e σ' hpn _ => ?_) ?_
  rotate_left
  ·refine (congrArg (fun z => wpn _ _ _ _ z _) (zV [(0, zrh g), (1, zrn A1 p1 c1), (2, zrh b2)] _ ⟨rfl, rfl, rfl, trivial⟩)).mp ?_
   exact zlF ih_check_checker_list ih_check_checker_stmt o D G I S U r1 m6 hB (fun ch σ' τ' vs' h1 h2 h3 => ⟨τ', vs', h1, h2, h3⟩) hO fun e σ' rs τ' vs' _ hO' hle hK => hK.elim
  ·obtain ⟨τ', vs', hO', hle, u0, u1, u2, y2, u4, y4, u6, y6, u7, y7, rfl, rfl, f0, f1, f2, f4, f6, f7⟩ := hpn
   refine (zfh.fr _ (hs := []) hO' (zl7 f0 f1 f2 f4 f6 f7 (m6.le hle) hC)).mono fun u' σ2 ⟨hu, _, τ2, i0, d6, hle2, d7⟩ => ?_
   subst hu
   obtain ⟨z0, z1, z2, t2, z4, t4, z6, t6, z7, t7, _, rfl, g0, g1, g2, g4, g6, g7⟩ := d7
   exact .inr ⟨_, rfl, hP _ e σ2 τ2 _ d6 ((hL.trans hle).trans hle2) ⟨_, _, _, _, _, _, _, _, _, _, rfl, rfl, g0, g1, g2, g4, g6, g7⟩⟩
theorem znl {gn : Nat} (ih_check_checker_list : zgO gn) (ih_check_checker_stmt : zgW gn) {τ : Hp} {q0 : zb} {h : Nat} {x1 x2 x3 : Value} {i1 : Ob} {x4 : Value} {x5 : Ob} {x6 : Value} {i2 : Ob} {x7 : Value} {i3 : Ob} {p1 : zi} {K4 K5 x8 : Value} (o : RdT zx τ x1 q0.prog.Structs) (g : RdT zr τ x2 q0.prog.Funcs) (g4 : za zp 59 τ x3 q0.tree.Bodies i1) (x9 : za zo 87 τ x4 q0.tree.Points x5) (g5 : za zq 82 τ x6 q0.vars i2) (d6 : za (Ty.int .i64) 3 τ x7 q0.scope i3) (Z : RdT z5 τ K4 p1.Kids) (g6 : RdT zX τ K5 p1.Body) (c1 : RdT zX τ x8 p1.Else) {rr : Except (Value × zb) (zh × zb)} (hF : zgj ((zb1 gn).1) ((zb1 gn).2) q0 p1 = some rr) :
  zbu Try.prog 80 #[.pointer (some ⟨h, 0, none⟩), .agg #[.int .u8 p1.Kind.toNat, .int .i64 p1.Line, .string p1.Name, .string p1.Field, .string p1.Call, .int .u8 p1.Type_.Kind.toNat, .int .i64 p1.Type_.N, .string p1.Type_.Name, K4, K5, x8]] τ [zn h x1 x2 x3 q0.tree.Main x4 q0.fn x6 x7, i1, x5, i2, i3] (fun v τ' vs' => match (generalizing := false) rr with | .ok rr => ∃ (K6 K7 K8 p8 p9 q2 : Value) (q3 : Ob) (q4 : Value) (q5 : Ob) (q6 : Value) (q7 : Ob) (q8 : Value) (q9 : Ob), v = .agg #[.int .u8 rr.1.Kind.toNat, .int .i64 rr.1.Point, .int .i64 rr.1.Var, .int .i64 rr.1.Field, .int .i64 rr.1.Call, K6, K7, K8] ∧ vs' = [zn h p8 p9 q2 rr.2.tree.Main q4 rr.2.fn q6 q8, q3, q5, q7, q9] ∧ RdT zR τ' K6 rr.1.Kids ∧ RdT zN τ' K7 rr.1.Body ∧ RdT zN τ' K8 rr.1.Else ∧ RdT zx τ' p8 rr.2.prog.Structs ∧ RdT zr τ' p9 rr.2.prog.Funcs ∧ za zp 59 τ' q2 rr.2.tree.Bodies q3 ∧ za zo 87 τ' q4 rr.2.tree.Points q5 ∧ za zq 82 τ' q6 rr.2.vars q7 ∧ za (Ty.int .i64) 3 τ' q8 rr.2.scope q9 | .error _ => False) (fun ch τ' vs' => match (generalizing := false) rr with | .ok _ => False | .error ee => ∃ (p8 p9 q2 : Value) (q3 : Ob) (q4 : Value) (q5 : Ob) (q6 : Value) (q7 : Ob) (q8 : Value) (q9 : Ob), ch = [{ v := ee.1, recovered := false }] ∧ vs' = [zn h p8 p9 q2 ee.2.tree.Main q4 ee.2.fn q6 q8, q3, q5, q7, q9] ∧ RdT zx τ' p8 ee.2.prog.Structs ∧ RdT zr τ' p9 ee.2.prog.Funcs ∧ za zp 59 τ' q2 ee.2.tree.Bodies q3 ∧ za zo 87 τ' q4 ee.2.tree.Points q5 ∧ za zq 82 τ' q6 ee.2.vars q7 ∧ za (Ty.int .i64) 3 τ' q8 ee.2.scope q9) := by
 obtain ⟨y0, y1, rfl, -⟩ := o.form
 obtain ⟨r2, r3, rfl, -⟩ := g.form
 obtain ⟨m3, m4, rfl, -⟩ := g4.form
 obtain ⟨y2, y3, rfl, -⟩ := x9.form
 obtain ⟨m5, m6, rfl, -⟩ := g5.form
 obtain ⟨j7, j8, rfl, -⟩ := d6.form
 obtain ⟨d0, d5, rfl, -⟩ := Z.form
 obtain ⟨j5, j6, rfl, -⟩ := g6.form
 obtain ⟨g7, g8, rfl, -⟩ := c1.form
 refine zcH (args := [.pointer (some ⟨h, 0, none⟩), .agg #[.int .u8 p1.Kind.toNat, .int .i64 p1.Line, .string p1.Name, .string p1.Field, .string p1.Call, .int .u8 p1.Type_.Kind.toNat, .int .i64 p1.Type_.N, .string p1.Type_.Name, (.slice d0 p1.Kids.length d5), (.slice j5 p1.Body.length j6), (.slice g7 p1.Else.length g8)]]) hm Try.func80 s80 rfl fun w0 σ hP hO Q hQ => ?_
 unfold zgj at hF
 have hL := Hp.le.refl τ
 show wpn _ _ a80.body _ _ _
 unfold a80
 dsimp only
 refine zbQ (n := 11) hO rfl rfl fun b3 σ hO => ?_
 have hO := zrl6 hO
 refine zbl hO fun b4 σ hO => ?_
 have hO := zrl7 hO
 refine zf (zcw (zd hO 9 [5, 0] [(7, zrh b3), (8, .int .u8 (p1.Kind.toNat : Int)), (12, .pointer (some ⟨h, 4, none⟩)), (13, zrn y2 q0.tree.Points y3), (15, .agg #[(.int .u8 (p1.Kind.toNat : Int)), (.int .i64 (q0.tree.Points.length : Int)), (.int .i64 (-1)), (.int .i64 0), (.int .i64 (-1)), (.slice none 0 0), (.slice none 0 0), (.slice none 0 0)])] [0, 3, 4] (And.intro (And.intro rfl rfl) (And.intro (And.intro rfl rfl) zq7)) fun j => ?_))
 refine zcp (zbl hO fun b5 σ hO => ?_)
 have hO := zrl8 hO
 refine zf (zcj ⟨(zbp rfl (hO.val (i := 0) (off := 4) (agg := false) (n := 1) rfl rfl) rfl), (zbp rfl (hO.val (i := 5) (off := 0) (agg := false) (n := 1) rfl rfl) rfl), trivial⟩ ?_)
 refine zC hO (i := 7) rfl (off := 0) rfl rfl rfl rfl (Nat.le_of_ble_eq_true rfl) rfl fun σ hO => ?_
 have hO := zrl8 hO
 refine zf (zcw (zd hO 16 [0, 0, 5, 0] [(16, zrh h), (20, .pointer (some ⟨h, 4, none⟩)), (21, zrn y2 q0.tree.Points y3), (24, .pointer (some ⟨h, 5, none⟩)), (25, zrg q0.fn), (26, .pointer (some ⟨b3, 1, none⟩)), (27, zrg p1.Line), (31, zrn j7 q0.scope j8)] [0, 3, 4, 5] (And.intro (And.intro rfl rfl) (And.intro (And.intro rfl rfl) (And.intro (And.intro rfl rfl) (And.intro (And.intro rfl rfl) zrb)))) fun j => ?_))
 refine zcp ?_
 obtain ⟨c6, h7, hF⟩ := zrm hF
 have hO := hO.sel [0, 1, 2, 3, 5, 6, 7, 4]
 refine zce (hs := [_, _, _, _, _, _, _]) hO (Ctr.lendO (znU .i64) (d6.le hL) fun _ r => zpE r h7) rfl fun _ σ _ _ hO h8 h9 => ?_
 have hL := hL.trans h8
 obtain ⟨v10, o11, rfl, rfl, w12⟩ := h9
 obtain ⟨K9, L0, rfl, -⟩ := w12.form
 have hO := zrl9 hO
 have hO := hO.sel [0, 1, 2, 3, 8, 4, 5, 6, 7]
 have hO := zrl9 hO
 refine zf (zcj ⟨(zbp rfl (hO.val (i := 5) (off := 1) (agg := false) (n := 1) rfl rfl) rfl), (zbp rfl (hO.val (i := 0) (off := 5) (agg := false) (n := 1) rfl rfl) rfl), (zbp rfl (hO.val (i := 0) (off := 4) (agg := false) (n := 1) rfl rfl) rfl), trivial⟩ ?_)
 refine zd hO 1 [] [(33, .agg #[(.int .i64 q0.fn), (.int .i64 p1.Line), (zrn K9 c6 L0)])] [0, 3, 4, 5, 16, 20, 21] zq7 fun j => ?_
 refine zcp ?_
 obtain ⟨_, h16, L1, hO⟩ := w12.share hO (i := 8) rfl
 have hL := hL.trans h16
 have hO := zrl9 hO
 refine zbG (T := zo) (l := ([(⟨q0.fn, p1.Line, c6⟩ : zH)] : List zH)) (cs := [.int .i64 q0.fn, .int .i64 p1.Line, zrn K9 c6 L0]) hO rfl ⟨[.int .i64 q0.fn, .int .i64 p1.Line, zrn K9 c6 L0], _, rfl, ⟨_, rfl, L1⟩, rfl⟩ rfl (by decide) fun _ σ o19 w20 hO => ?_
 obtain ⟨A17, c18, rfl, -⟩ := w20.form
 have hO := zrl10 hO
 refine zf (zcj ⟨(zbp rfl (hO.val (i := 0) (off := 4) (agg := false) (n := 1) rfl rfl) rfl), trivial⟩ ?_)
 obtain ⟨_, h22, r21, hO⟩ := w20.share hO (i := 9) rfl
 have hL := hL.trans h22
 have L1 := L1.le h22
 have hO := zrl10 hO
 obtain ⟨_, b6x, hF⟩ := zrm hF
 refine ze2 (T := zo) hO (x9.le hL) (i := 2) rfl rfl rfl r21 b6x (by decide) fun _ σ y4 r0 hO => ?_
 obtain ⟨y5, y6, rfl, -⟩ := r0.form
 have hO := zrl10 hO
 refine zd hO 3 [] [(38, .pointer (some ⟨h, 4, none⟩))] [0, 3, 4, 5, 35] zq5 fun j => ?_
 refine zC hO (i := 0) rfl (off := 4) rfl rfl rfl rfl (Nat.le_of_ble_eq_true rfl) rfl fun σ hO => ?_
 have hO := zrl10 hO
 refine zf (zl (ze hO [5] [(40, .int .u8 (p1.Kind.toNat : Int))] [0, 3, 4, 5] (And.intro (And.intro rfl rfl) zq4) fun j => ?_))
 refine zgS (fun e' σ' => ∃ (r4 : Option Addr) (r5 : Nat) (j9 : List zbh) (r6 : Option Addr) (r7 : Nat) (k0 : List zG) (r8 : Option Addr) (r9 : Nat) (t0 : Ob) (k1 : List zM) (t1 : Int) (t2 : Option Addr) (t3 : Nat) (t4 : Ob) (k2 : List zH) (t5 : Int) (t6 : Option Addr) (t7 : Nat) (t8 : Ob) (k3 : List zI) (t9 : Option Addr) (u0 : Nat) (u1 : Ob) (k4 : List Int) (m7 : UInt8) (m8 m9 n0 n1 : Int) (n2 : Option Addr) (n3 : Nat) (i4 : List zj) (n4 : Option Addr) (n5 : Nat) (i5 : List zh) (n6 : Option Addr) (n7 : Nat) (i6 : List zh) (τ' : Hp), agr [(0, zrh h), (4, zrh b4), (5, zrh b5)] e' ∧ Obs τ' σ' [zn h (zrn r4 j9 r5) (zrn r6 k0 r7) (zrn r8 k1 r9) t1 (zrn t2 k2 t3) t5 (zrn t6 k3 t7) (zrn t9 k4 u0), t0, t4, t8, u1, zbP b4 0 0 0 0 0 (.slice none 0 0) (.slice none 0 0) (.slice none 0 0), zbP b5 (m7.toNat : Int) m8 m9 n0 n1 (zrn n2 i4 n3) (zrn n4 i5 n5) (zrn n6 i6 n7)] ∧ Hp.le τ τ' ∧ RdT zx τ' (zrn r4 j9 r5) j9 ∧ RdT zr τ' (zrn r6 k0 r7) k0 ∧ za zp 59 τ' (zrn r8 k1 r9) k1 t0 ∧ za zo 87 τ' (zrn t2 k2 t3) k2 t4 ∧ za zq 82 τ' (zrn t6 k3 t7) k3 t8 ∧ za (Ty.int .i64) 3 τ' (zrn t9 k4 u0) k4 u1 ∧ RdT zR τ' (zrn n2 i4 n3) i4 ∧ RdT zN τ' (zrn n4 i5 n5) i5 ∧ RdT zN τ' (zrn n6 i6 n7) i6 ∧ zcO j9 k0 k1 t1 k2 t5 k3 k4 m7 m8 m9 n0 n1 i4 i5 i6 = some rr) ?_ ?_
 ·refine ze hO [] [(46, .bool ((p1.Kind.toNat : Int) == 1))] [0, 3, 4, 5, 40] zq5 fun j => ?_
  refine zbC (zy hF rfl (fun hF => ?_) fun hF => ?_)
  ·refine zd hO 2 [5] [(48, zrh h), (49, .agg #[(.int .u8 (p1.Kind.toNat : Int)), (.int .i64 p1.Line), (.string p1.Name), (.string p1.Field), (.string p1.Call), (.int .u8 (p1.Type_.Kind.toNat : Int)), (.int .i64 p1.Type_.N), (.string p1.Type_.Name), (zrn d0 p1.Kids d5), (zrn j5 p1.Body j6), (zrn g7 p1.Else g8)])] [0, 4, 5] (And.intro (And.intro rfl rfl) zq4) fun j => ?_
   have hO := hO.sel [5, 6, 8, 9, 0, 1, 2, 3, 4, 7]
   rcases z9 hF with ⟨b7f, L2, hF⟩ | ⟨q, L3, hF⟩
   ·refine zbs (hs := [_, _, _, _]) hO (zkb (q0 := (⟨(⟨q0.prog.Structs, q0.prog.Funcs⟩ : zm), (⟨q0.tree.Bodies, q0.tree.Main, (q0.tree.Points ++ ([(⟨q0.fn, p1.Line, c6⟩ : zH)] : List zH))⟩ : zw), q0.fn, q0.vars, q0.scope⟩ : zb)) (q1 := (⟨p1.Kind, (q0.tree.Points.length : Int), (-1), 0, (-1), [], [], []⟩ : zh)) (o.le hL) (g.le hL) (g4.le hL) r0 (g5.le hL) (d6.le hL) (RdT.nil zR _) (RdT.nil zN _) (RdT.nil zN _) (Z.le hL) (g6.le hL) (c1.le hL) L2) zqY rfl fun _ σ _ _ hO L4 L5 => ?_
    have hL := hL.trans L4
    obtain ⟨b7g, b7h, b7k, b7m, b7n, b7p, b7q, b7r, b7t, b7v, b7w, b7x, b8b, rfl, rfl, y7, y8, y9, A0, A1, A2, L6, L7, L8⟩ := L5
    obtain ⟨b8c, b8d, rfl, -⟩ := y7.form
    obtain ⟨b8f, b8g, rfl, -⟩ := y8.form
    obtain ⟨b8h, b8k, rfl, -⟩ := y9.form
    obtain ⟨b8m, b8n, rfl, -⟩ := A0.form
    obtain ⟨b8p, b8q, rfl, -⟩ := A1.form
    obtain ⟨b8r, b8t, rfl, -⟩ := A2.form
    obtain ⟨b8v, b8w, rfl, -⟩ := L6.form
    obtain ⟨b8x, b9b, rfl, -⟩ := L7.form
    obtain ⟨b9c, b9d, rfl, -⟩ := L8.form
    have hO := zrl10 hO
    cases hF
    have hO := hO.sel [4, 5, 6, 7, 8]
    exact hP _ _ _ _ hO hL ⟨_, _, _, _, _, _, _, _, _, _, rfl, rfl, y7, y8, y9, A0, A1, A2⟩
   refine zbq (hs := [_, _, _, _]) hO (zkb (q0 := (⟨(⟨q0.prog.Structs, q0.prog.Funcs⟩ : zm), (⟨q0.tree.Bodies, q0.tree.Main, (q0.tree.Points ++ ([(⟨q0.fn, p1.Line, c6⟩ : zH)] : List zH))⟩ : zw), q0.fn, q0.vars, q0.scope⟩ : zb)) (q1 := (⟨p1.Kind, (q0.tree.Points.length : Int), (-1), 0, (-1), [], [], []⟩ : zh)) (o.le hL) (g.le hL) (g4.le hL) r0 (g5.le hL) (d6.le hL) (RdT.nil zR _) (RdT.nil zN _) (RdT.nil zN _) (Z.le hL) (g6.le hL) (c1.le hL) L3) zqY rfl fun _ σ _ _ hO L9 M0 => ?_
   have hL := hL.trans L9
   obtain ⟨b9f, b9g, b9h, M1, b9k, M2, b9m, M3, b9n, M4, b9p, b9q, b9r, rfl, rfl, A3, A4, A5, A6, A7, A8, A9, B0, B1⟩ := M0
   obtain ⟨M5, M6, rfl, -⟩ := A3.form
   obtain ⟨M7, M8, rfl, -⟩ := A4.form
   obtain ⟨M9, N0, rfl, -⟩ := A5.form
   obtain ⟨N1, N2, rfl, -⟩ := A6.form
   obtain ⟨N3, N4, rfl, -⟩ := A7.form
   obtain ⟨N5, N6, rfl, -⟩ := A8.form
   obtain ⟨N7, N8, rfl, -⟩ := A9.form
   obtain ⟨N9, O0, rfl, -⟩ := B0.form
   obtain ⟨O1, O2, rfl, -⟩ := B1.form
   have hO := zrl10 hO
   refine zf (zg (z3 (zk ?_)))
   have hO := hO.sel [4, 5, 6, 7, 8, 1, 9]
   exact ⟨M5, M6, q.1.prog.Structs, M7, M8, q.1.prog.Funcs, M9, N0, M1, q.1.tree.Bodies, q.1.tree.Main, N1, N2, M2, q.1.tree.Points, q.1.fn, N3, N4, M3, q.1.vars, N5, N6, M4, q.1.scope, q.2.Kind, q.2.Point, q.2.Var, q.2.Field, q.2.Call, N7, N8, q.2.Kids, N9, O0, q.2.Body, O1, O2, q.2.Else, _, zrf zq1, hO, hL, A3, A4, A5, A6, A7, A8, A9, B0, B1, hF⟩
  refine zl (zl (ze hO [] [(51, .bool ((p1.Kind.toNat : Int) == 2))] [0, 3, 4, 5, 40] zq5 fun j => ?_))
  refine zdD (fun e' σ' => ∃ (k5 : Option Addr) (k6 : Nat) (k7 : Ob) (b0 : List zM) (k8 : Option Addr) (k9 : Nat) (l0 : Ob) (b1 : List zH) (l1 : Option Addr) (l2 : Nat) (l3 : Ob) (b2 : List zI) (l4 : Option Addr) (l5 : Nat) (l6 : Ob) (b6 : List Int) (u2 : Bool) (τ' : Hp), agr [(0, zrh h), (3, zrh b3), (4, zrh b4), (5, zrh b5), (40, .int .u8 (p1.Kind.toNat : Int)), (51, .bool u2)] e' ∧ Obs τ' σ' [zn h (zrn y0 q0.prog.Structs y1) (zrn r2 q0.prog.Funcs r3) (zrn k5 b0 k6) q0.tree.Main (zrn k8 b1 k9) q0.fn (zrn l1 b2 l2) (zrn l4 b6 l5), k7, l0, l3, l6, zeH b3 (p1.Kind.toNat : Int) p1.Line p1.Name p1.Field p1.Call (p1.Type_.Kind.toNat : Int) p1.Type_.N p1.Type_.Name (zrn d0 p1.Kids d5) (zrn j5 p1.Body j6) (zrn g7 p1.Else g8), zbP b4 0 0 0 0 0 (.slice none 0 0) (.slice none 0 0) (.slice none 0 0), zbP b5 (p1.Kind.toNat : Int) (q0.tree.Points.length : Int) (-1) 0 (-1) (.slice none 0 0) (.slice none 0 0) (.slice none 0 0)] ∧ Hp.le τ τ' ∧ za zp 59 τ' (zrn k5 b0 k6) b0 k7 ∧ za zo 87 τ' (zrn k8 b1 k9) b1 l0 ∧ za zq 82 τ' (zrn l1 b2 l2) b2 l3 ∧ za (Ty.int .i64) 3 τ' (zrn l4 b6 l5) b6 l6 ∧ zdx (zb1 gn).1 q0 p1 b0 b1 b2 b6 u2 = some rr) ?_ ?_
  ·refine zbC (zy hF rfl (fun hF => ?_) fun hF => ?_)
   ·refine zF (zg (zk ?_))
    have hO := hO.sel [0, 1, 2, 3, 4, 5, 6, 7]
    exact ⟨m3, m4, i1, q0.tree.Bodies, y5, y6, y4, (q0.tree.Points ++ ([(⟨q0.fn, p1.Line, c6⟩ : zH)] : List zH)), m5, m6, i2, q0.vars, j7, j8, i3, q0.scope, ((p1.Kind.toNat : Int) == 2), _, zrf zq4, hO, hL, (g4.le hL), r0, (g5.le hL), (d6.le hL), hF⟩
   refine zl (ze hO [] [(51, .bool ((p1.Kind.toNat : Int) == 3))] [0, 3, 4, 5, 40] zq5 fun j => ?_)
   refine zy hF rfl (fun hF => ?_) fun hF => ?_
   ·refine zF (zg (zk ?_))
    have hO := hO.sel [0, 1, 2, 3, 4, 5, 6, 7]
    exact ⟨m3, m4, i1, q0.tree.Bodies, y5, y6, y4, (q0.tree.Points ++ ([(⟨q0.fn, p1.Line, c6⟩ : zH)] : List zH)), m5, m6, i2, q0.vars, j7, j8, i3, q0.scope, ((p1.Kind.toNat : Int) == 3), _, zrf zq4, hO, hL, (g4.le hL), r0, (g5.le hL), (d6.le hL), hF⟩
   refine zl (zA hO [] [(0, zrh h), (3, zrh b3), (4, zrh b4), (5, zrh b5), (40, .int .u8 (p1.Kind.toNat : Int)), (51, .bool ((p1.Kind.toNat : Int) == 4))] zq5 fun j => ?_)
   refine zy hF rfl (fun hF => ?_) fun hF => ?_
   ·refine zF (zg (zk ?_))
    have hO := hO.sel [0, 1, 2, 3, 4, 5, 6, 7]
    exact ⟨m3, m4, i1, q0.tree.Bodies, y5, y6, y4, (q0.tree.Points ++ ([(⟨q0.fn, p1.Line, c6⟩ : zH)] : List zH)), m5, m6, i2, q0.vars, j7, j8, i3, q0.scope, ((p1.Kind.toNat : Int) == 4), _, zrf zq4, hO, hL, (g4.le hL), r0, (g5.le hL), (d6.le hL), hF⟩
   refine ze hO [] [(51, .bool ((p1.Kind.toNat : Int) == 9))] [0, 3, 4, 5, 40] zq5 fun j => ?_
   refine zg (zk ?_)
   have hO := hO.sel [0, 1, 2, 3, 4, 5, 6, 7]
   exact ⟨m3, m4, i1, q0.tree.Bodies, y5, y6, y4, (q0.tree.Points ++ ([(⟨q0.fn, p1.Line, c6⟩ : zH)] : List zH)), m5, m6, i2, q0.vars, j7, j8, i3, q0.scope, ((p1.Kind.toNat : Int) == 9), _, zrf zq4, hO, hL, (g4.le hL), r0, (g5.le hL), (d6.le hL), hF⟩
  rintro e σ ⟨k5, k6, k7, b0, k8, k9, l0, b1, l1, l2, l3, b2, l4, l5, l6, b6, u2, _, hA, hO, hL, i7, i8, i9, j0, hF⟩
  rw [← zV _ _ hA]
  unfold zdx at hF
  refine zy hF rfl (fun hF => ?_) fun hF => ?_
  ·refine zd hO 2 [5] [(56, zrh h), (57, .agg #[(.int .u8 (p1.Kind.toNat : Int)), (.int .i64 p1.Line), (.string p1.Name), (.string p1.Field), (.string p1.Call), (.int .u8 (p1.Type_.Kind.toNat : Int)), (.int .i64 p1.Type_.N), (.string p1.Type_.Name), (zrn d0 p1.Kids d5), (zrn j5 p1.Body j6), (zrn g7 p1.Else g8)])] [0, 4, 5] (And.intro (And.intro rfl rfl) zq4) fun j => ?_
   have hO := hO.sel [5, 6, 0, 1, 2, 3, 4, 7]
   rcases z9 hF with ⟨b9t, O3, hF⟩ | ⟨z, O4, hF⟩
   ·refine zbs (hs := [_, _]) hO (zlo (q0 := (⟨(⟨q0.prog.Structs, q0.prog.Funcs⟩ : zm), (⟨b0, q0.tree.Main, b1⟩ : zw), q0.fn, b2, b6⟩ : zb)) (q1 := (⟨p1.Kind, (q0.tree.Points.length : Int), (-1), 0, (-1), [], [], []⟩ : zh)) (o.le hL) (g.le hL) i7 i8 i9 j0 (RdT.nil zR _) (RdT.nil zN _) (RdT.nil zN _) (Z.le hL) (g6.le hL) (c1.le hL) O3) zqY rfl fun _ σ _ _ hO O5 O6 => ?_
    have hL := hL.trans O5
    obtain ⟨b9v, b9w, b9x, c0b, c0c, c0d, c0f, c0g, c0h, c0k, c0m, c0n, c0p, rfl, rfl, B2, B3, B4, B5, B6, B7, O7, O8, O9⟩ := O6
    obtain ⟨c0q, c0r, rfl, -⟩ := B2.form
    obtain ⟨c0t, c0v, rfl, -⟩ := B3.form
    obtain ⟨c0w, c0x, rfl, -⟩ := B4.form
    obtain ⟨c1b, c1c, rfl, -⟩ := B5.form
    obtain ⟨c1d, c1f, rfl, -⟩ := B6.form
    obtain ⟨c1g, c1h, rfl, -⟩ := B7.form
    obtain ⟨c1k, c1m, rfl, -⟩ := O7.form
    obtain ⟨c1n, c1p, rfl, -⟩ := O8.form
    obtain ⟨c1q, c1r, rfl, -⟩ := O9.form
    have hO := zrl8 hO
    cases hF
    have hO := hO.sel [2, 3, 4, 5, 6]
    exact hP _ _ _ _ hO hL ⟨_, _, _, _, _, _, _, _, _, _, rfl, rfl, B2, B3, B4, B5, B6, B7⟩
   refine zbq (hs := [_, _]) hO (zlo (q0 := (⟨(⟨q0.prog.Structs, q0.prog.Funcs⟩ : zm), (⟨b0, q0.tree.Main, b1⟩ : zw), q0.fn, b2, b6⟩ : zb)) (q1 := (⟨p1.Kind, (q0.tree.Points.length : Int), (-1), 0, (-1), [], [], []⟩ : zh)) (o.le hL) (g.le hL) i7 i8 i9 j0 (RdT.nil zR _) (RdT.nil zN _) (RdT.nil zN _) (Z.le hL) (g6.le hL) (c1.le hL) O4) zqY rfl fun _ σ _ _ hO P0 P1 => ?_
   have hL := hL.trans P0
   obtain ⟨c1t, c1v, c1w, P2, c1x, P3, c2b, P4, c2c, P5, c2d, c2f, c2g, rfl, rfl, B8, B9, C0, C1, C2, C3, C4, C5, C6⟩ := P1
   obtain ⟨P6, P7, rfl, -⟩ := B8.form
   obtain ⟨P8, P9, rfl, -⟩ := B9.form
   obtain ⟨Q0, Q1, rfl, -⟩ := C0.form
   obtain ⟨Q2, Q3, rfl, -⟩ := C1.form
   obtain ⟨Q4, Q5, rfl, -⟩ := C2.form
   obtain ⟨Q6, Q7, rfl, -⟩ := C3.form
   obtain ⟨Q8, Q9, rfl, -⟩ := C4.form
   obtain ⟨R0, R6, rfl, -⟩ := C5.form
   obtain ⟨R7, R8, rfl, -⟩ := C6.form
   have hO := zrl8 hO
   refine zf (zg (z3 (zk ?_)))
   have hO := hO.sel [2, 3, 4, 5, 6, 1, 7]
   exact ⟨P6, P7, z.1.prog.Structs, P8, P9, z.1.prog.Funcs, Q0, Q1, P2, z.1.tree.Bodies, z.1.tree.Main, Q2, Q3, P3, z.1.tree.Points, z.1.fn, Q4, Q5, P4, z.1.vars, Q6, Q7, P5, z.1.scope, z.2.Kind, z.2.Point, z.2.Var, z.2.Field, z.2.Call, Q8, Q9, z.2.Kids, R0, R6, z.2.Body, R7, R8, z.2.Else, _, zrf zq1, hO, hL, B8, B9, C0, C1, C2, C3, C4, C5, C6, hF⟩
  refine zl (ze hO [] [(59, .bool ((p1.Kind.toNat : Int) == 5))] [0, 3, 4, 5, 40] zq5 fun j => ?_)
  refine zy hF rfl (fun hF => ?_) fun hF => ?_
  ·refine zd hO 2 [5] [(61, zrh h), (62, .agg #[(.int .u8 (p1.Kind.toNat : Int)), (.int .i64 p1.Line), (.string p1.Name), (.string p1.Field), (.string p1.Call), (.int .u8 (p1.Type_.Kind.toNat : Int)), (.int .i64 p1.Type_.N), (.string p1.Type_.Name), (zrn d0 p1.Kids d5), (zrn j5 p1.Body j6), (zrn g7 p1.Else g8)])] [0, 4, 5] (And.intro (And.intro rfl rfl) zq4) fun j => ?_
   have hO := hO.sel [5, 6, 0, 1, 2, 3, 4, 7]
   rcases z9 hF with ⟨c2h, R9, hF⟩ | ⟨D, S0, hF⟩
   ·refine zbs (hs := [_, _]) hO (zj3 (q0 := (⟨(⟨q0.prog.Structs, q0.prog.Funcs⟩ : zm), (⟨b0, q0.tree.Main, b1⟩ : zw), q0.fn, b2, b6⟩ : zb)) (q1 := (⟨p1.Kind, (q0.tree.Points.length : Int), (-1), 0, (-1), [], [], []⟩ : zh)) (o.le hL) (g.le hL) i7 i8 i9 j0 (RdT.nil zR _) (RdT.nil zN _) (RdT.nil zN _) (Z.le hL) (g6.le hL) (c1.le hL) R9) zqY rfl fun _ σ _ _ hO S1 S2 => ?_
    have hL := hL.trans S1
    obtain ⟨c2k, c2m, c2n, c2p, c2q, c2r, c2t, c2v, c2w, c2x, c3b, c3c, c3d, rfl, rfl, C7, C8, C9, D0, D1, D2, S3, S4, S5⟩ := S2
    obtain ⟨c3f, c3g, rfl, -⟩ := C7.form
    obtain ⟨c3h, c3k, rfl, -⟩ := C8.form
    obtain ⟨c3m, c3n, rfl, -⟩ := C9.form
    obtain ⟨c3p, c3q, rfl, -⟩ := D0.form
    obtain ⟨c3r, c3t, rfl, -⟩ := D1.form
    obtain ⟨c3v, c3w, rfl, -⟩ := D2.form
    obtain ⟨c3x, c4b, rfl, -⟩ := S3.form
    obtain ⟨c4c, c4d, rfl, -⟩ := S4.form
    obtain ⟨c4f, c4g, rfl, -⟩ := S5.form
    have hO := zrl8 hO
    cases hF
    have hO := hO.sel [2, 3, 4, 5, 6]
    exact hP _ _ _ _ hO hL ⟨_, _, _, _, _, _, _, _, _, _, rfl, rfl, C7, C8, C9, D0, D1, D2⟩
   refine zbq (hs := [_, _]) hO (zj3 (q0 := (⟨(⟨q0.prog.Structs, q0.prog.Funcs⟩ : zm), (⟨b0, q0.tree.Main, b1⟩ : zw), q0.fn, b2, b6⟩ : zb)) (q1 := (⟨p1.Kind, (q0.tree.Points.length : Int), (-1), 0, (-1), [], [], []⟩ : zh)) (o.le hL) (g.le hL) i7 i8 i9 j0 (RdT.nil zR _) (RdT.nil zN _) (RdT.nil zN _) (Z.le hL) (g6.le hL) (c1.le hL) S0) zqY rfl fun _ σ _ _ hO S6 S7 => ?_
   have hL := hL.trans S6
   obtain ⟨c4h, c4k, c4m, S8, c4n, S9, c4p, T0, c4q, T1, c4r, c4t, c4v, rfl, rfl, D3, D4, D5, D6, D7, D8, D9, E0, E1⟩ := S7
   obtain ⟨T2, T3, rfl, -⟩ := D3.form
   obtain ⟨T4, T5, rfl, -⟩ := D4.form
   obtain ⟨T6, T7, rfl, -⟩ := D5.form
   obtain ⟨T8, T9, rfl, -⟩ := D6.form
   obtain ⟨U0, U1, rfl, -⟩ := D7.form
   obtain ⟨U2, U3, rfl, -⟩ := D8.form
   obtain ⟨U4, U5, rfl, -⟩ := D9.form
   obtain ⟨U6, U7, rfl, -⟩ := E0.form
   obtain ⟨U8, U9, rfl, -⟩ := E1.form
   have hO := zrl8 hO
   refine zf (zg (z3 (zk ?_)))
   have hO := hO.sel [2, 3, 4, 5, 6, 1, 7]
   exact ⟨T2, T3, D.1.prog.Structs, T4, T5, D.1.prog.Funcs, T6, T7, S8, D.1.tree.Bodies, D.1.tree.Main, T8, T9, S9, D.1.tree.Points, D.1.fn, U0, U1, T0, D.1.vars, U2, U3, T1, D.1.scope, D.2.Kind, D.2.Point, D.2.Var, D.2.Field, D.2.Call, U4, U5, D.2.Kids, U6, U7, D.2.Body, U8, U9, D.2.Else, _, zrf zq1, hO, hL, D3, D4, D5, D6, D7, D8, D9, E0, E1, hF⟩
  refine zl (zl (ze hO [] [(64, .bool ((p1.Kind.toNat : Int) == 6))] [0, 3, 4, 5, 40] zq5 fun j => ?_))
  refine zdD (fun e' σ' => ∃ (u3 : Option Addr) (u4 : Nat) (u5 : Ob) (V : List zM) (u6 : Option Addr) (u7 : Nat) (u9 : Ob) (W : List zH) (v0 : Option Addr) (v1 : Nat) (v2 : Ob) (X : List zI) (v3 : Option Addr) (v4 : Nat) (v5 : Ob) (Y : List Int) (v6 : Bool) (τ' : Hp), agr [(0, zrh h), (3, zrh b3), (4, zrh b4), (5, zrh b5), (40, .int .u8 (p1.Kind.toNat : Int)), (64, .bool v6)] e' ∧ Obs τ' σ' [zn h (zrn y0 q0.prog.Structs y1) (zrn r2 q0.prog.Funcs r3) (zrn u3 V u4) q0.tree.Main (zrn u6 W u7) q0.fn (zrn v0 X v1) (zrn v3 Y v4), u5, u9, v2, v5, zeH b3 (p1.Kind.toNat : Int) p1.Line p1.Name p1.Field p1.Call (p1.Type_.Kind.toNat : Int) p1.Type_.N p1.Type_.Name (zrn d0 p1.Kids d5) (zrn j5 p1.Body j6) (zrn g7 p1.Else g8), zbP b4 0 0 0 0 0 (.slice none 0 0) (.slice none 0 0) (.slice none 0 0), zbP b5 (p1.Kind.toNat : Int) (q0.tree.Points.length : Int) (-1) 0 (-1) (.slice none 0 0) (.slice none 0 0) (.slice none 0 0)] ∧ Hp.le τ τ' ∧ za zp 59 τ' (zrn u3 V u4) V u5 ∧ za zo 87 τ' (zrn u6 W u7) W u9 ∧ za zq 82 τ' (zrn v0 X v1) X v2 ∧ za (Ty.int .i64) 3 τ' (zrn v3 Y v4) Y v5 ∧ zd1 (zb1 gn).1 q0 p1 V W X Y v6 = some rr) ?_ ?_
  ·refine zbC (zy hF rfl (fun hF => ?_) fun hF => ?_)
   ·refine zF (zg (zk ?_))
    exact ⟨k5, k6, k7, b0, k8, k9, l0, b1, l1, l2, l3, b2, l4, l5, l6, b6, ((p1.Kind.toNat : Int) == 6), _, zrf zq4, hO, hL, i7, i8, i9, j0, hF⟩
   refine ze hO [] [(64, .bool ((p1.Kind.toNat : Int) == 7))] [0, 3, 4, 5, 40] zq5 fun j => ?_
   refine zg (zk ?_)
   exact ⟨k5, k6, k7, b0, k8, k9, l0, b1, l1, l2, l3, b2, l4, l5, l6, b6, ((p1.Kind.toNat : Int) == 7), _, zrf zq4, hO, hL, i7, i8, i9, j0, hF⟩
  rintro e σ ⟨u3, u4, u5, V, u6, u7, u9, W, v0, v1, v2, X, v3, v4, v5, Y, v6, _, hA, hO, hL, G, I, S, U, hF⟩
  rw [← zV _ _ hA]
  unfold zd1 at hF
  refine zy hF rfl (fun hF => ?_) fun hF => ?_
  ·refine zl (zd hO 3 [5] [(67, zrh h), (69, zrn d0 p1.Kids d5)] [0, 3, 4, 5] (And.intro (And.intro rfl rfl) zq5) fun j => ?_)
   refine zbG (T := Ty.u8) (l := ([(2 : UInt8)] : List UInt8)) (cs := [.int .u8 2]) hO rfl ⟨[.int .u8 2], _, rfl, rfl, rfl⟩ rfl (by decide) fun _ σ c4w E2 hO => ?_
   obtain ⟨c4x, c5b, rfl, -⟩ := E2.form
   have hO := zrl9 hO
   obtain ⟨_, l7, j1, hO⟩ := E2.share hO (i := 8) rfl
   have hL := hL.trans l7
   have G := G.le l7
   have I := I.le l7
   have S := S.le l7
   have U := U.le l7
   have hO := zrl9 hO
   have hO := hO.sel [5, 6, 7, 8, 0, 1, 2, 3, 4]
   rcases z9 hF with ⟨c5c, V0, hF⟩ | ⟨E3, V1, hF⟩
   ·refine zbs (hs := [_, _, _, _]) hO (zbS (q0 := (⟨(⟨q0.prog.Structs, q0.prog.Funcs⟩ : zm), (⟨V, q0.tree.Main, W⟩ : zw), q0.fn, X, Y⟩ : zb)) (o.le hL) (g.le hL) G I S U (Z.le hL) j1 V0) zqY rfl fun _ σ _ _ hO E4 V2 => ?_
    have hL := hL.trans E4
    have j1 := j1.le E4
    obtain ⟨c5d, c5f, c5g, c5h, c5k, c5m, c5n, c5p, c5q, c5r, rfl, rfl, E5, E6, E7, E8, E9, F0⟩ := V2
    obtain ⟨c5t, c5v, rfl, -⟩ := E5.form
    obtain ⟨c5w, c5x, rfl, -⟩ := E6.form
    obtain ⟨c6b, c6c, rfl, -⟩ := E7.form
    obtain ⟨c6d, c6f, rfl, -⟩ := E8.form
    obtain ⟨c6g, c6h, rfl, -⟩ := E9.form
    obtain ⟨c6k, c6m, rfl, -⟩ := F0.form
    have hO := zrl9 hO
    cases hF
    have hO := hO.sel [4, 5, 6, 7, 8]
    exact hP _ _ _ _ hO hL ⟨_, _, _, _, _, _, _, _, _, _, rfl, rfl, E5, E6, E7, E8, E9, F0⟩
   refine zbq (hs := [_, _, _, _]) hO (zbS (q0 := (⟨(⟨q0.prog.Structs, q0.prog.Funcs⟩ : zm), (⟨V, q0.tree.Main, W⟩ : zw), q0.fn, X, Y⟩ : zb)) (o.le hL) (g.le hL) G I S U (Z.le hL) j1 V1) zqY rfl fun _ σ _ _ hO F1 V3 => ?_
   have hL := hL.trans F1
   have j1 := j1.le F1
   obtain ⟨c6n, c6p, c6q, c6r, c6t, c6v, c6w, c6x, c7b, c7c, c7d, c7f, rfl, rfl, b7, v7, v8, v9, w2, w3, w4⟩ := V3
   obtain ⟨F2, F3, rfl, -⟩ := b7.form
   obtain ⟨c7g, c7h, rfl, -⟩ := v7.form
   obtain ⟨c7k, c7m, rfl, -⟩ := v8.form
   obtain ⟨c7n, c7p, rfl, -⟩ := v9.form
   obtain ⟨c7q, c7r, rfl, -⟩ := w2.form
   obtain ⟨c7t, c7v, rfl, -⟩ := w3.form
   obtain ⟨c7w, c7x, rfl, -⟩ := w4.form
   have hO := zrl10 hO
   refine zd hO 1 [] [(72, .pointer (some ⟨b5, 5, none⟩))] [0, 3, 4, 5, 71] zq5 fun j => ?_
   refine zC hO (i := 2) rfl (off := 5) rfl rfl rfl rfl (Nat.le_of_ble_eq_true rfl) rfl fun σ hO => ?_
   have hO := zrl10 hO
   refine zf (zl (zd hO 3 [0] [(73, zrh h), (75, zrn j5 p1.Body j6)] [0, 3, 4, 5] (And.intro (And.intro rfl rfl) zq5) fun j => ?_))
   rcases z9 hF with ⟨c8b, V4, hF⟩ | ⟨c0, V5, hF⟩
   ·refine zbs (hs := [_, _, _, _, _]) hO (ih_check_checker_list v7 v8 v9 w2 w3 w4 (g6.le hL) V4) zqY rfl fun _ σ _ _ hO F4 V6 => ?_
    have hL := hL.trans F4
    have b7 := b7.le F4
    obtain ⟨c8c, c8d, c8f, c8g, c8h, c8k, c8m, c8n, c8p, c8q, rfl, rfl, F5, F6, F7, F8, F9, G0⟩ := V6
    obtain ⟨c8r, c8t, rfl, -⟩ := F5.form
    obtain ⟨c8v, c8w, rfl, -⟩ := F6.form
    obtain ⟨c8x, c9b, rfl, -⟩ := F7.form
    obtain ⟨c9c, c9d, rfl, -⟩ := F8.form
    obtain ⟨c9f, c9g, rfl, -⟩ := F9.form
    obtain ⟨c9h, c9k, rfl, -⟩ := G0.form
    have hO := zrl10 hO
    cases hF
    have hO := hO.sel [5, 6, 7, 8, 9]
    exact hP _ _ _ _ hO hL ⟨_, _, _, _, _, _, _, _, _, _, rfl, rfl, F5, F6, F7, F8, F9, G0⟩
   refine zbq (hs := [_, _, _, _, _]) hO (ih_check_checker_list v7 v8 v9 w2 w3 w4 (g6.le hL) V5) zqY rfl fun _ σ _ _ hO G1 V7 => ?_
   have hL := hL.trans G1
   have b7 := b7.le G1
   obtain ⟨c9m, c9n, c9p, c9q, c9r, V8, c9t, V9, c9v, W0, c9w, W1, rfl, rfl, b8, d7, d8, d9, f0, f1, f2⟩ := V7
   obtain ⟨G2, G3, rfl, -⟩ := b8.form
   obtain ⟨W2, W3, rfl, -⟩ := d7.form
   obtain ⟨W4, W5, rfl, -⟩ := d8.form
   obtain ⟨W6, W7, rfl, -⟩ := d9.form
   obtain ⟨W8, W9, rfl, -⟩ := f0.form
   obtain ⟨X0, X1, rfl, -⟩ := f1.form
   obtain ⟨X2, X3, rfl, -⟩ := f2.form
   have hO := zrl11 hO
   refine zd hO 1 [] [(77, .pointer (some ⟨b5, 6, none⟩))] [0, 3, 4, 5, 76] zq5 fun j => ?_
   refine zC hO (i := 2) rfl (off := 6) rfl rfl rfl rfl (Nat.le_of_ble_eq_true rfl) rfl fun σ hO => ?_
   have hO := zrl11 hO
   refine zf (zl (ze hO [0] [(80, .bool ((p1.Kind.toNat : Int) == 6))] [0, 3, 4, 5] (And.intro (And.intro rfl rfl) zq4) fun j => ?_))
   refine zy hF rfl (fun hF => ?_) fun hF => ?_
   ·refine zd hO 3 [0] [(81, zrh h), (83, zrn g7 p1.Else g8)] [0, 4, 5] (And.intro (And.intro rfl rfl) zq4) fun j => ?_
    rcases z9 hF with ⟨c9x, X4, hF⟩ | ⟨c2, X5, hF⟩
    ·refine zbs (hs := [_, _, _, _, _, _]) hO (ih_check_checker_list d7 d8 d9 f0 f1 f2 (c1.le hL) X4) zqY rfl fun _ σ _ _ hO w5 X6 => ?_
     have hL := hL.trans w5
     have b7 := b7.le w5
     have b8 := b8.le w5
     obtain ⟨d0b, d0c, d0d, d0f, d0g, d0h, d0k, d0m, d0n, d0p, rfl, rfl, G4, G5, G6, G7, G8, G9⟩ := X6
     obtain ⟨d0q, d0r, rfl, -⟩ := G4.form
     obtain ⟨d0t, d0v, rfl, -⟩ := G5.form
     obtain ⟨d0w, d0x, rfl, -⟩ := G6.form
     obtain ⟨d1b, d1c, rfl, -⟩ := G7.form
     obtain ⟨d1d, d1f, rfl, -⟩ := G8.form
     obtain ⟨d1g, d1h, rfl, -⟩ := G9.form
     have hO := zrl11 hO
     cases hF
     have hO := hO.sel [6, 7, 8, 9, 10]
     exact hP _ _ _ _ hO hL ⟨_, _, _, _, _, _, _, _, _, _, rfl, rfl, G4, G5, G6, G7, G8, G9⟩
    refine zbq (hs := [_, _, _, _, _, _]) hO (ih_check_checker_list d7 d8 d9 f0 f1 f2 (c1.le hL) X5) zqY rfl fun _ σ _ _ hO w6 X7 => ?_
    have hL := hL.trans w6
    have b7 := b7.le w6
    have b8 := b8.le w6
    obtain ⟨d1k, d1m, d1n, d1p, d1q, X8, d1r, X9, d1t, Y0, d1v, Y1, rfl, rfl, j2, f3, f4, f5, f6, f7, f8⟩ := X7
    obtain ⟨Y2, Y3, rfl, -⟩ := j2.form
    obtain ⟨Y4, Y5, rfl, -⟩ := f3.form
    obtain ⟨Y6, Y7, rfl, -⟩ := f4.form
    obtain ⟨Y8, Y9, rfl, -⟩ := f5.form
    obtain ⟨Z0, Z1, rfl, -⟩ := f6.form
    obtain ⟨Z2, Z3, rfl, -⟩ := f7.form
    obtain ⟨Z4, Z5, rfl, -⟩ := f8.form
    have hO := zrl12 hO
    refine zd hO 1 [] [(85, .pointer (some ⟨b5, 7, none⟩))] [0, 4, 5, 84] zq4 fun j => ?_
    refine zC hO (i := 2) rfl (off := 7) rfl rfl rfl rfl (Nat.le_of_ble_eq_true rfl) rfl fun σ hO => ?_
    have hO := zrl12 hO
    refine zf (zg (z3 (zk ?_)))
    obtain ⟨_, c3, l8, hO⟩ := b7.share hO (i := 4) rfl
    have hL := hL.trans c3
    have b8 := b8.le c3
    have j2 := j2.le c3
    have f3 := f3.le c3
    have f4 := f4.le c3
    have f5 := f5.le c3
    have f6 := f6.le c3
    have f7 := f7.le c3
    have f8 := f8.le c3
    have hO := zrl12 hO
    obtain ⟨_, c4, w7, hO⟩ := b8.share hO (i := 5) rfl
    have hL := hL.trans c4
    have l8 := l8.le c4
    have j2 := j2.le c4
    have f3 := f3.le c4
    have f4 := f4.le c4
    have f5 := f5.le c4
    have f6 := f6.le c4
    have f7 := f7.le c4
    have f8 := f8.le c4
    have hO := zrl12 hO
    obtain ⟨_, c5, Z6, hO⟩ := j2.share hO (i := 6) rfl
    have hL := hL.trans c5
    have l8 := l8.le c5
    have w7 := w7.le c5
    have f3 := f3.le c5
    have f4 := f4.le c5
    have f5 := f5.le c5
    have f6 := f6.le c5
    have f7 := f7.le c5
    have f8 := f8.le c5
    have hO := zrl12 hO
    have hO := hO.sel [7, 8, 9, 10, 11, 1, 2]
    exact ⟨Y4, Y5, c2.2.prog.Structs, Y6, Y7, c2.2.prog.Funcs, Y8, Y9, X8, c2.2.tree.Bodies, c2.2.tree.Main, Z0, Z1, X9, c2.2.tree.Points, c2.2.fn, Z2, Z3, Y0, c2.2.vars, Z4, Z5, Y1, c2.2.scope, p1.Kind, (q0.tree.Points.length : Int), (-1), 0, (-1), F2, F3, E3.1, G2, G3, c0.1, Y2, Y3, c2.1, _, zrf zq1, hO, hL, f3, f4, f5, f6, f7, f8, l8, w7, Z6, hF⟩
   refine zF (zg (z3 (zk ?_)))
   obtain ⟨_, f9, w8, hO⟩ := b7.share hO (i := 4) rfl
   have hL := hL.trans f9
   have b8 := b8.le f9
   have d7 := d7.le f9
   have d8 := d8.le f9
   have d9 := d9.le f9
   have f0 := f0.le f9
   have f1 := f1.le f9
   have f2 := f2.le f9
   have hO := zrl11 hO
   obtain ⟨_, g0, Z7, hO⟩ := b8.share hO (i := 5) rfl
   have hL := hL.trans g0
   have w8 := w8.le g0
   have d7 := d7.le g0
   have d8 := d8.le g0
   have d9 := d9.le g0
   have f0 := f0.le g0
   have f1 := f1.le g0
   have f2 := f2.le g0
   have hO := zrl11 hO
   have hO := hO.sel [6, 7, 8, 9, 10, 1, 2]
   exact ⟨W2, W3, c0.2.prog.Structs, W4, W5, c0.2.prog.Funcs, W6, W7, V8, c0.2.tree.Bodies, c0.2.tree.Main, W8, W9, V9, c0.2.tree.Points, c0.2.fn, X0, X1, W0, c0.2.vars, X2, X3, W1, c0.2.scope, p1.Kind, (q0.tree.Points.length : Int), (-1), 0, (-1), F2, F3, E3.1, G2, G3, c0.1, none, 0, [], _, zrf zq1, hO, hL, d7, d8, d9, f0, f1, f2, w8, Z7, RdT.nil _ _, hF⟩
  refine zl (ze hO [] [(86, .bool ((p1.Kind.toNat : Int) == 8))] [0, 3, 4, 5, 40] zq5 fun j => ?_)
  refine zy hF rfl (fun hF => ?_) fun hF => ?_
  ·refine zd hO 3 [5] [(88, zrh h), (90, zrn d0 p1.Kids d5)] [0, 4, 5] (And.intro (And.intro rfl rfl) zq4) fun j => ?_
   refine zbG (T := Ty.u8) (l := ([(1 : UInt8)] : List UInt8)) (cs := [.int .u8 1]) hO rfl ⟨[.int .u8 1], _, rfl, rfl, rfl⟩ rfl (by decide) fun _ σ d1w H0 hO => ?_
   obtain ⟨d1x, d2b, rfl, -⟩ := H0.form
   have hO := zrl9 hO
   obtain ⟨_, l9, j3, hO⟩ := H0.share hO (i := 8) rfl
   have hL := hL.trans l9
   have G := G.le l9
   have I := I.le l9
   have S := S.le l9
   have U := U.le l9
   have hO := zrl9 hO
   have hO := hO.sel [5, 6, 7, 8, 0, 1, 2, 3, 4]
   rcases z9 hF with ⟨d2c, Z8, hF⟩ | ⟨c7, Z9, hF⟩
   ·refine zbs (hs := [_, _, _, _]) hO (zbS (q0 := (⟨(⟨q0.prog.Structs, q0.prog.Funcs⟩ : zm), (⟨V, q0.tree.Main, W⟩ : zw), q0.fn, X, Y⟩ : zb)) (o.le hL) (g.le hL) G I S U (Z.le hL) j3 Z8) zqY rfl fun _ σ _ _ hO H1 b0b => ?_
    have hL := hL.trans H1
    have j3 := j3.le H1
    obtain ⟨d2d, d2f, d2g, d2h, d2k, d2m, d2n, d2p, d2q, d2r, rfl, rfl, H2, H3, H4, H5, H6, H7⟩ := b0b
    obtain ⟨d2t, d2v, rfl, -⟩ := H2.form
    obtain ⟨d2w, d2x, rfl, -⟩ := H3.form
    obtain ⟨d3b, d3c, rfl, -⟩ := H4.form
    obtain ⟨d3d, d3f, rfl, -⟩ := H5.form
    obtain ⟨d3g, d3h, rfl, -⟩ := H6.form
    obtain ⟨d3k, d3m, rfl, -⟩ := H7.form
    have hO := zrl9 hO
    cases hF
    have hO := hO.sel [4, 5, 6, 7, 8]
    exact hP _ _ _ _ hO hL ⟨_, _, _, _, _, _, _, _, _, _, rfl, rfl, H2, H3, H4, H5, H6, H7⟩
   refine zbq (hs := [_, _, _, _]) hO (zbS (q0 := (⟨(⟨q0.prog.Structs, q0.prog.Funcs⟩ : zm), (⟨V, q0.tree.Main, W⟩ : zw), q0.fn, X, Y⟩ : zb)) (o.le hL) (g.le hL) G I S U (Z.le hL) j3 Z9) zqY rfl fun _ σ _ _ hO H8 b0c => ?_
   have hL := hL.trans H8
   have j3 := j3.le H8
   obtain ⟨d3n, d3p, d3q, d3r, d3t, b0d, d3v, b0f, d3w, b0g, d3x, b0h, rfl, rfl, H9, n8, n9, o0, o1, o2, o3⟩ := b0c
   obtain ⟨b0k, b0m, rfl, -⟩ := H9.form
   obtain ⟨b0n, b0p, rfl, -⟩ := n8.form
   obtain ⟨b0q, b0r, rfl, -⟩ := n9.form
   obtain ⟨b0t, b0v, rfl, -⟩ := o0.form
   obtain ⟨b0w, b0x, rfl, -⟩ := o1.form
   obtain ⟨b1b, b1c, rfl, -⟩ := o2.form
   obtain ⟨b1d, b1f, rfl, -⟩ := o3.form
   have hO := zrl10 hO
   refine zd hO 1 [] [(93, .pointer (some ⟨b5, 5, none⟩))] [0, 4, 5, 92] zq4 fun j => ?_
   refine zC hO (i := 2) rfl (off := 5) rfl rfl rfl rfl (Nat.le_of_ble_eq_true rfl) rfl fun σ hO => ?_
   have hO := zrl10 hO
   refine zf (zg (z3 (zk ?_)))
   obtain ⟨_, g9, b1g, hO⟩ := H9.share hO (i := 4) rfl
   have hL := hL.trans g9
   have n8 := n8.le g9
   have n9 := n9.le g9
   have o0 := o0.le g9
   have o1 := o1.le g9
   have o2 := o2.le g9
   have o3 := o3.le g9
   have hO := zrl10 hO
   have hO := hO.sel [5, 6, 7, 8, 9, 1, 2]
   exact ⟨b0n, b0p, c7.2.prog.Structs, b0q, b0r, c7.2.prog.Funcs, b0t, b0v, b0d, c7.2.tree.Bodies, c7.2.tree.Main, b0w, b0x, b0f, c7.2.tree.Points, c7.2.fn, b1b, b1c, b0g, c7.2.vars, b1d, b1f, b0h, c7.2.scope, p1.Kind, (q0.tree.Points.length : Int), (-1), 0, (-1), b0k, b0m, c7.1, none, 0, [], none, 0, [], _, zrf zq1, hO, hL, n8, n9, o0, o1, o2, o3, b1g, RdT.nil _ _, RdT.nil _ _, hF⟩
  refine zl (ze hO [] [(94, .bool ((p1.Kind.toNat : Int) == 10))] [0, 3, 4, 5] zq4 fun j => ?_)
  refine zy hF rfl (fun hF => ?_) fun hF => ?_
  ·refine zl (zl (zcw (zd hO 9 [0, 0] [(99, .pointer (some ⟨h, 1, none⟩)), (100, zrn r2 q0.prog.Funcs r3), (103, .pointer (some ⟨h, 5, none⟩)), (104, zrg q0.fn)] [0, 3, 4, 5] (And.intro (And.intro rfl rfl) (And.intro (And.intro rfl rfl) zq7)) fun j => ?_)))
   obtain ⟨b9, b1h, hF⟩ := zrm hF
   refine zO (T := zr) (g.le hL) hO.base rfl rfl b1h (by decide) fun a1672 _ b1k I0 => ?_
   obtain ⟨d4b, d4c, rfl, b1m, b1n⟩ := b1k
   obtain ⟨d4d, d4f, rfl, -⟩ := b1m.form
   obtain ⟨d4g, d4h, rfl, -⟩ := b1n.form
   refine zd hO 1 [] [(106, .pointer (some (a1672.add 3)))] [0, 3, 4, 5, 99, 100, 103, 104] zq8 fun j => ?_
   refine zE rfl ((I0.le hO.base).part (off := 3) (ds := [.int .u8 (b9.Result.Kind.toNat : Int), .int .i64 b9.Result.N, .string b9.Result.Name]) rfl rfl) ?_
   refine zcp (zbl hO fun d4k σ hO => ?_)
   have hO := zrl9 hO
   refine zf (zcj ⟨(zbp rfl ((I0.le hO.base).part (off := 3) (ds := [.int .u8 (b9.Result.Kind.toNat : Int), .int .i64 b9.Result.N, .string b9.Result.Name]) rfl rfl) rfl), (zbp rfl (hO.val (i := 0) (off := 5) (agg := false) (n := 1) rfl rfl) rfl), (zbp rfl (hO.val (i := 0) (off := 1) (agg := false) (n := 1) rfl rfl) rfl), trivial⟩ ?_)
   refine zC hO (i := 8) rfl (off := 0) rfl rfl rfl rfl (Nat.le_of_ble_eq_true rfl) rfl fun σ hO => ?_
   have hO := zrl9 hO
   refine zf (zl (ze hO [8] [(110, .bool ((b9.Result.Kind.toNat : Int) != 0))] [0, 3, 4, 5, 6] (And.intro (And.intro rfl rfl) zq5) fun j => ?_))
   refine zy hF rfl (fun hF => ?_) fun hF => ?_
   ·refine zl (zd hO 5 [5, 8] [(111, zrh h), (113, zrn d0 p1.Kids d5), (115, .int .u8 (b9.Result.Kind.toNat : Int))] [0, 4, 5] (And.intro (And.intro rfl rfl) (And.intro (And.intro rfl rfl) zq5)) fun j => ?_)
    refine zbG (T := Ty.u8) (l := ([b9.Result.Kind] : List UInt8)) (cs := [.int .u8 (b9.Result.Kind.toNat : Int)]) hO rfl ⟨[.int .u8 (b9.Result.Kind.toNat : Int)], _, rfl, rfl, rfl⟩ rfl (by decide) fun _ σ d4m I1 hO => ?_
    obtain ⟨d4n, d4p, rfl, -⟩ := I1.form
    have hO := zrl10 hO
    obtain ⟨_, m0, j4, hO⟩ := I1.share hO (i := 9) rfl
    have hL := hL.trans m0
    have G := G.le m0
    have I := I.le m0
    have S := S.le m0
    have U := U.le m0
    have hO := zrl10 hO
    have hO := hO.sel [5, 6, 7, 8, 9, 0, 1, 2, 3, 4]
    rcases z9 hF with ⟨d4q, b1p, hF⟩ | ⟨c8, b1q, hF⟩
    ·refine zbs (hs := [_, _, _, _, _]) hO (zbS (q0 := (⟨(⟨q0.prog.Structs, q0.prog.Funcs⟩ : zm), (⟨V, q0.tree.Main, W⟩ : zw), q0.fn, X, Y⟩ : zb)) (o.le hL) (g.le hL) G I S U (Z.le hL) j4 b1p) zqY rfl fun _ σ _ _ hO I2 b1r => ?_
     have hL := hL.trans I2
     have j4 := j4.le I2
     obtain ⟨d4r, d4t, d4v, d4w, d4x, d5b, d5c, d5d, d5f, d5g, rfl, rfl, I3, I4, I5, I6, I7, I8⟩ := b1r
     obtain ⟨d5h, d5k, rfl, -⟩ := I3.form
     obtain ⟨d5m, d5n, rfl, -⟩ := I4.form
     obtain ⟨d5p, d5q, rfl, -⟩ := I5.form
     obtain ⟨d5r, d5t, rfl, -⟩ := I6.form
     obtain ⟨d5v, d5w, rfl, -⟩ := I7.form
     obtain ⟨d5x, d6b, rfl, -⟩ := I8.form
     have hO := zrl10 hO
     cases hF
     have hO := hO.sel [5, 6, 7, 8, 9]
     exact hP _ _ _ _ hO hL ⟨_, _, _, _, _, _, _, _, _, _, rfl, rfl, I3, I4, I5, I6, I7, I8⟩
    refine zbq (hs := [_, _, _, _, _]) hO (zbS (q0 := (⟨(⟨q0.prog.Structs, q0.prog.Funcs⟩ : zm), (⟨V, q0.tree.Main, W⟩ : zw), q0.fn, X, Y⟩ : zb)) (o.le hL) (g.le hL) G I S U (Z.le hL) j4 b1q) zqY rfl fun _ σ _ _ hO I9 b1t => ?_
    have hL := hL.trans I9
    have j4 := j4.le I9
    obtain ⟨d6c, d6d, d6f, d6g, d6h, b1v, d6k, b1w, d6m, b1x, d6n, b2b, rfl, rfl, J0, o4, o5, o6, o7, o8, o9⟩ := b1t
    obtain ⟨b2c, b2d, rfl, -⟩ := J0.form
    obtain ⟨b2f, b2g, rfl, -⟩ := o4.form
    obtain ⟨b2h, b2k, rfl, -⟩ := o5.form
    obtain ⟨b2m, b2n, rfl, -⟩ := o6.form
    obtain ⟨b2p, b2q, rfl, -⟩ := o7.form
    obtain ⟨b2r, b2t, rfl, -⟩ := o8.form
    obtain ⟨b2v, b2w, rfl, -⟩ := o9.form
    have hO := zrl11 hO
    refine zd hO 1 [] [(118, .pointer (some ⟨b5, 5, none⟩))] [0, 4, 5, 117] zq4 fun j => ?_
    refine zC hO (i := 2) rfl (off := 5) rfl rfl rfl rfl (Nat.le_of_ble_eq_true rfl) rfl fun σ hO => ?_
    have hO := zrl11 hO
    refine zf (zbF (zbD (zk ?_)))
    obtain ⟨_, h0, b2x, hO⟩ := J0.share hO (i := 5) rfl
    have hL := hL.trans h0
    have o4 := o4.le h0
    have o5 := o5.le h0
    have o6 := o6.le h0
    have o7 := o7.le h0
    have o8 := o8.le h0
    have o9 := o9.le h0
    have hO := zrl11 hO
    have hO := hO.sel [6, 7, 8, 9, 10, 1, 2]
    exact ⟨b2f, b2g, c8.2.prog.Structs, b2h, b2k, c8.2.prog.Funcs, b2m, b2n, b1v, c8.2.tree.Bodies, c8.2.tree.Main, b2p, b2q, b1w, c8.2.tree.Points, c8.2.fn, b2r, b2t, b1x, c8.2.vars, b2v, b2w, b2b, c8.2.scope, p1.Kind, (q0.tree.Points.length : Int), (-1), 0, (-1), b2c, b2d, c8.1, none, 0, [], none, 0, [], _, zrf zq1, hO, hL, o4, o5, o6, o7, o8, o9, b2x, RdT.nil _ _, RdT.nil _ _, hF⟩
   refine zF (zd hO 3 [5] [(119, zrh h), (121, zrn d0 p1.Kids d5)] [0, 4, 5] (And.intro (And.intro rfl rfl) zq4) fun j => ?_)
   have hO := hO.sel [5, 6, 7, 8, 0, 1, 2, 3, 4]
   rcases z9 hF with ⟨d6p, b3b, hF⟩ | ⟨c9, b3c, hF⟩
   ·refine zbs (hs := [_, _, _, _]) hO (zbS (q0 := (⟨(⟨q0.prog.Structs, q0.prog.Funcs⟩ : zm), (⟨V, q0.tree.Main, W⟩ : zw), q0.fn, X, Y⟩ : zb)) (o.le hL) (g.le hL) G I S U (Z.le hL) (RdT.nil Ty.u8 _) b3b) zqY rfl fun _ σ _ _ hO b3d b3f => ?_
    have hL := hL.trans b3d
    obtain ⟨d6q, d6r, d6t, d6v, d6w, d6x, d7b, d7c, d7d, d7f, rfl, rfl, J1, J2, J3, J4, J5, J6⟩ := b3f
    obtain ⟨d7g, d7h, rfl, -⟩ := J1.form
    obtain ⟨d7k, d7m, rfl, -⟩ := J2.form
    obtain ⟨d7n, d7p, rfl, -⟩ := J3.form
    obtain ⟨d7q, d7r, rfl, -⟩ := J4.form
    obtain ⟨d7t, d7v, rfl, -⟩ := J5.form
    obtain ⟨d7w, d7x, rfl, -⟩ := J6.form
    have hO := zrl9 hO
    cases hF
    have hO := hO.sel [4, 5, 6, 7, 8]
    exact hP _ _ _ _ hO hL ⟨_, _, _, _, _, _, _, _, _, _, rfl, rfl, J1, J2, J3, J4, J5, J6⟩
   refine zbq (hs := [_, _, _, _]) hO (zbS (q0 := (⟨(⟨q0.prog.Structs, q0.prog.Funcs⟩ : zm), (⟨V, q0.tree.Main, W⟩ : zw), q0.fn, X, Y⟩ : zb)) (o.le hL) (g.le hL) G I S U (Z.le hL) (RdT.nil Ty.u8 _) b3c) zqY rfl fun _ σ _ _ hO b3g b3h => ?_
   have hL := hL.trans b3g
   obtain ⟨d8b, d8c, d8d, d8f, d8g, b3k, d8h, b3m, d8k, b3n, d8m, b3p, rfl, rfl, J7, p2, p3, p4, p5, p6, p7⟩ := b3h
   obtain ⟨b3q, b3r, rfl, -⟩ := J7.form
   obtain ⟨b3t, b3v, rfl, -⟩ := p2.form
   obtain ⟨b3w, b3x, rfl, -⟩ := p3.form
   obtain ⟨b4b, b4c, rfl, -⟩ := p4.form
   obtain ⟨b4d, b4f, rfl, -⟩ := p5.form
   obtain ⟨b4g, b4h, rfl, -⟩ := p6.form
   obtain ⟨b4k, b4m, rfl, -⟩ := p7.form
   have hO := zrl10 hO
   refine zd hO 1 [] [(123, .pointer (some ⟨b5, 5, none⟩))] [0, 4, 5, 122] zq4 fun j => ?_
   refine zC hO (i := 2) rfl (off := 5) rfl rfl rfl rfl (Nat.le_of_ble_eq_true rfl) rfl fun σ hO => ?_
   have hO := zrl10 hO
   refine zf (zg (z3 (zk ?_)))
   obtain ⟨_, h1, b4n, hO⟩ := J7.share hO (i := 4) rfl
   have hL := hL.trans h1
   have p2 := p2.le h1
   have p3 := p3.le h1
   have p4 := p4.le h1
   have p5 := p5.le h1
   have p6 := p6.le h1
   have p7 := p7.le h1
   have hO := zrl10 hO
   have hO := hO.sel [5, 6, 7, 8, 9, 1, 2]
   exact ⟨b3t, b3v, c9.2.prog.Structs, b3w, b3x, c9.2.prog.Funcs, b4b, b4c, b3k, c9.2.tree.Bodies, c9.2.tree.Main, b4d, b4f, b3m, c9.2.tree.Points, c9.2.fn, b4g, b4h, b3n, c9.2.vars, b4k, b4m, b3p, c9.2.scope, p1.Kind, (q0.tree.Points.length : Int), (-1), 0, (-1), b3q, b3r, c9.1, none, 0, [], none, 0, [], _, zrf zq1, hO, hL, p2, p3, p4, p5, p6, p7, b4n, RdT.nil _ _, RdT.nil _ _, hF⟩
  refine zl (zd hO 3 [5] [(41, zrh h), (43, zrn d0 p1.Kids d5)] [0, 4, 5] (And.intro (And.intro rfl rfl) zq4) fun j => ?_)
  have hO := hO.sel [5, 6, 7, 0, 1, 2, 3, 4]
  rcases z9 hF with ⟨d8n, b4p, hF⟩ | ⟨g1, b4q, hF⟩
  ·refine zbs (hs := [_, _, _]) hO (zbS (q0 := (⟨(⟨q0.prog.Structs, q0.prog.Funcs⟩ : zm), (⟨V, q0.tree.Main, W⟩ : zw), q0.fn, X, Y⟩ : zb)) (o.le hL) (g.le hL) G I S U (Z.le hL) (RdT.nil Ty.u8 _) b4p) zqY rfl fun _ σ _ _ hO b4r b4t => ?_
   have hL := hL.trans b4r
   obtain ⟨d8p, d8q, d8r, d8t, d8v, d8w, d8x, d9b, d9c, d9d, rfl, rfl, J8, J9, K0, K1, K2, K3⟩ := b4t
   obtain ⟨d9f, d9g, rfl, -⟩ := J8.form
   obtain ⟨d9h, d9k, rfl, -⟩ := J9.form
   obtain ⟨d9m, d9n, rfl, -⟩ := K0.form
   obtain ⟨d9p, d9q, rfl, -⟩ := K1.form
   obtain ⟨d9r, d9t, rfl, -⟩ := K2.form
   obtain ⟨d9v, d9w, rfl, -⟩ := K3.form
   have hO := zrl8 hO
   cases hF
   have hO := hO.sel [3, 4, 5, 6, 7]
   exact hP _ _ _ _ hO hL ⟨_, _, _, _, _, _, _, _, _, _, rfl, rfl, J8, J9, K0, K1, K2, K3⟩
  refine zbq (hs := [_, _, _]) hO (zbS (q0 := (⟨(⟨q0.prog.Structs, q0.prog.Funcs⟩ : zm), (⟨V, q0.tree.Main, W⟩ : zw), q0.fn, X, Y⟩ : zb)) (o.le hL) (g.le hL) G I S U (Z.le hL) (RdT.nil Ty.u8 _) b4q) zqY rfl fun _ σ _ _ hO b4v b4w => ?_
  have hL := hL.trans b4v
  obtain ⟨d9x, f0b, f0c, f0d, f0f, b4x, f0g, b5b, f0h, b5c, f0k, b5d, rfl, rfl, m1, h2, h3, h4, h5, h6, i0⟩ := b4w
  obtain ⟨f0m, f0n, rfl, -⟩ := m1.form
  obtain ⟨b5f, b5g, rfl, -⟩ := h2.form
  obtain ⟨b5h, b5k, rfl, -⟩ := h3.form
  obtain ⟨b5m, b5n, rfl, -⟩ := h4.form
  obtain ⟨b5p, b5q, rfl, -⟩ := h5.form
  obtain ⟨b5r, b5t, rfl, -⟩ := h6.form
  obtain ⟨b5v, b5w, rfl, -⟩ := i0.form
  have hO := zrl9 hO
  refine zf ?_
  rcases z9 hF with ⟨f0p, b5x, hF⟩ | ⟨f0q, b6b, hF⟩
  ·refine zbV hO (zbk b5x) zqY rfl fun _ σ _ _ hO g2 b6c => ?_
   have hL := hL.trans g2
   have m1 := m1.le g2
   have h2 := h2.le g2
   have h3 := h3.le g2
   have h4 := h4.le g2
   have h5 := h5.le g2
   have h6 := h6.le g2
   have i0 := i0.le g2
   obtain ⟨rfl, rfl⟩ := b6c
   have hO := zrl9 hO
   cases hF
   have hO := hO.sel [4, 5, 6, 7, 8]
   exact hP _ _ _ _ hO hL ⟨_, _, _, _, _, _, _, _, _, _, rfl, rfl, h2, h3, h4, h5, h6, i0⟩
  refine zb0 hO (zbk b6b) zqY rfl fun _ σ _ _ hO g3 b6d => ?_
  have hL := hL.trans g3
  have m1 := m1.le g3
  have h2 := h2.le g3
  have h3 := h3.le g3
  have h4 := h4.le g3
  have h5 := h5.le g3
  have h6 := h6.le g3
  have i0 := i0.le g3
  obtain ⟨rfl, rfl⟩ := b6d
  have hO := zrl9 hO
  refine zf (zg (z3 (zk ?_)))
  have hO := hO.sel [4, 5, 6, 7, 8, 1, 2]
  exact ⟨b5f, b5g, g1.2.prog.Structs, b5h, b5k, g1.2.prog.Funcs, b5m, b5n, b4x, g1.2.tree.Bodies, g1.2.tree.Main, b5p, b5q, b5b, g1.2.tree.Points, g1.2.fn, b5r, b5t, b5c, g1.2.vars, b5v, b5w, b5d, g1.2.scope, p1.Kind, (q0.tree.Points.length : Int), (-1), 0, (-1), none, 0, [], none, 0, [], none, 0, [], _, zrf zq1, hO, hL, h2, h3, h4, h5, h6, i0, RdT.nil _ _, RdT.nil _ _, RdT.nil _ _, hF⟩
 rintro e σ ⟨r4, r5, j9, r6, r7, k0, r8, r9, t0, k1, t1, t2, t3, t4, k2, t5, t6, t7, t8, k3, t9, u0, u1, k4, m7, m8, m9, n0, n1, n2, n3, i4, n4, n5, i5, n6, n7, i6, _, hA, hO, hL, b6f, b6g, b6h, b6k, b6m, b6n, b6p, b6q, b6r, hF⟩
 rw [← zV _ _ hA]
 unfold zcO at hF
 refine zd hO 1 [6] [(124, .agg #[(.int .u8 (m7.toNat : Int)), (.int .i64 m8), (.int .i64 m9), (.int .i64 n0), (.int .i64 n1), (zrn n2 i4 n3), (zrn n4 i5 n5), (zrn n6 i6 n7)])] [0, 4] (And.intro (And.intro rfl rfl) zq2) fun j => ?_
 refine zC hO (i := 5) rfl (off := 0) rfl rfl rfl rfl (Nat.le_of_ble_eq_true rfl) rfl fun σ hO => ?_
 have hO := zrl7 hO
 refine zf (zba ?_)
 cases hF
 have hV0 := hO.val (i := 5) rfl (off := 0) (agg := true) (n := 8) rfl
 have hO := hO.sel [0, 1, 2, 3, 4]
 refine (hQ _ _ _ _ _ (zb8 rfl (hV0) rfl) hO hL ?_).1
 exact ⟨_, _, _, _, _, _, _, _, _, _, _, _, _, rfl, rfl, b6p, b6q, b6r, b6f, b6g, b6h, b6k, b6m, b6n⟩
theorem zoa (n : Nat) : zgO n ∧ zgW n := by
 induction n with
 | zero =>
  refine ⟨?_, ?_⟩
  ·intro τ q0 b0 z D G I S U V W X Y v1 p1 g h j o q v r1 rr hF; exact nomatch (show none = some rr from hF)
  ·intro τ q0 b0 z D G I S U V W X Y p1 b4 b5 b3 g h j o q v b1 b2 Z rr hF; exact nomatch (show none = some rr from hF)
 | succ n ih =>
  obtain ⟨i0, i1⟩ := ih
  refine ⟨?_, ?_⟩
  ·intro τ q0 b0 z D G I S U V W X Y v1 p1 g h j o q v r1 rr hF; exact zpa i0 i1 g h j o q v r1 hF
  ·intro τ q0 b0 z D G I S U V W X Y p1 b4 b5 b3 g h j o q v b1 b2 Z rr hF; exact znl i0 i1 g h j o q v b1 b2 Z hF
theorem zl9 : ∀ {τ : Hp} {q0 : zb} {U : Nat} {V W X : Value} {Y : Ob} {Z : Value} {b0 : Ob} {b1 : Value} {b2 : Ob} {b3 : Value} {b4 : Ob} {v1 : Value} {p1 : (List zi)} (b8 : RdT zx τ V q0.prog.Structs) (b9 : RdT zr τ W q0.prog.Funcs) (c0 : za zp 59 τ X q0.tree.Bodies Y) (c1 : za zo 87 τ Z q0.tree.Points b0) (c2 : za zq 82 τ b1 q0.vars b2) (c3 : za (Ty.int .i64) 3 τ b3 q0.scope b4) (r1 : RdT zX τ v1 p1) {rr : Except (Value × zb) ((List zh) × zb)} (hF : zfK q0 p1 = some rr), zbu Try.prog 64 #[.pointer (some ⟨U, 0, none⟩), v1] τ [zn U V W X q0.tree.Main Z q0.fn b1 b3, Y, b0, b2, b4] (fun v τ' vs' => match (generalizing := false) rr with | .ok rr => ∃ (v0 : Value) (o0 : Ob) (g h j : Value) (o : Ob) (q : Value) (z : Ob) (D : Value) (G : Ob) (I : Value) (S : Ob), v = v0 ∧ vs' = [o0, zn U g h j rr.2.tree.Main q rr.2.fn D I, o, z, G, S] ∧ za zN 115 τ' v0 rr.1 o0 ∧ RdT zx τ' g rr.2.prog.Structs ∧ RdT zr τ' h rr.2.prog.Funcs ∧ za zp 59 τ' j rr.2.tree.Bodies o ∧ za zo 87 τ' q rr.2.tree.Points z ∧ za zq 82 τ' D rr.2.vars G ∧ za (Ty.int .i64) 3 τ' I rr.2.scope S | .error _ => False) (fun ch τ' vs' => match (generalizing := false) rr with | .ok _ => False | .error ee => ∃ (g h j : Value) (o : Ob) (q : Value) (z : Ob) (D : Value) (G : Ob) (I : Value) (S : Ob), ch = [{ v := ee.1, recovered := false }] ∧ vs' = [zn U g h j ee.2.tree.Main q ee.2.fn D I, o, z, G, S] ∧ RdT zx τ' g ee.2.prog.Structs ∧ RdT zr τ' h ee.2.prog.Funcs ∧ za zp 59 τ' j ee.2.tree.Bodies o ∧ za zo 87 τ' q ee.2.tree.Points z ∧ za zq 82 τ' D ee.2.vars G ∧ za (Ty.int .i64) 3 τ' I ee.2.scope S) := (zoa big).1
def zk3 (gn : Nat) : Prop := ∀ {τ : Hp} {v0 : Value} {p0 : (List zi)} (r0 : RdT zX τ v0 p0) {rr : Bool} (hF : (zfa gn) p0 = some rr), Ctr Try.prog 65 #[v0] τ [] (fun v τ' vs' => v = .bool rr ∧ vs' = [])
theorem zpP {gn : Nat} (ih_check_returns : zk3 gn) {τ : Hp} {v0 : Value} {p0 : (List zi)} (r0 : RdT zX τ v0 p0) {rr : Bool} (hF : zgz (zfa gn) p0 = some rr) :
  Ctr Try.prog 65 #[v0] τ [] (fun v τ' vs' => v = .bool rr ∧ vs' = []) := by
 obtain ⟨A0, c0, rfl, -⟩ := r0.form
 refine zbi (args := [.slice A0 p0.length c0]) hm Try.func65 s65 rfl fun w0 σ hO Q hQ => ?_
 unfold zgz at hF
 have hL := Hp.le.refl τ
 show wpn _ _ a65.body _ _ _
 unfold a65
 dsimp only
 refine ze hO [] [] [0] zq0 fun j => ?_
 refine zl (ze hO [] [(6, .bool ((p0.length : Int) == 0))] [0] zq1 fun j => ?_)
 refine zy hF rfl (fun hF => ?_) fun hF => ?_
 ·refine zl (zA hO [] [(2, .bool false)] zq0 fun j => ?_)
  refine zbt ?_
  cases hF
  exact hQ _ _ _ _ _ rfl hO hL ⟨rfl, rfl⟩
 refine zF (zK hO 4 [] [(7, zrn A0 p0 c0), (10, zrg (IntKind.i64.wrap ((p0.length : Int) - 1)))] zq1 fun j => ?_)
 obtain ⟨o, g4, hF⟩ := zrm hF
 refine zO (T := zX) (r0.le hL) hO.base rfl rfl g4 (by decide) fun a5 _ k6 m7 => ?_
 obtain ⟨v8, d0, d5, rfl, z, q, h⟩ := zfv k6
 obtain ⟨b0, b1, rfl, -⟩ := z.form
 obtain ⟨Y, Z, rfl, -⟩ := q.form
 obtain ⟨S, U, rfl, -⟩ := h.form
 refine zE rfl ((m7.le hO.base).all rfl) ?_
 refine zbl hO fun b7 σ hO => ?_
 have hO := zrl1 hO
 refine zC hO (i := 0) rfl (off := 0) rfl rfl rfl rfl (Nat.le_of_ble_eq_true rfl) rfl fun σ hO => ?_
 have hO := zrl1 hO
 refine zf (zd hO 4 [0] [(16, .bool ((o.Kind.toNat : Int) == 10))] [3] (And.intro (And.intro rfl rfl) zq1) fun j => ?_)
 obtain ⟨b2, b8, hF⟩ := zrm hF
 refine zcA 6 (fun e' σ' => ∃ (τ' : Hp), agr [(30, .bool b2)] e' ∧ Obs τ' σ' [zeH b7 (o.Kind.toNat : Int) o.Line o.Name o.Field o.Call (o.Type_.Kind.toNat : Int) o.Type_.N o.Type_.Name (zrn b0 o.Kids b1) (zrn Y o.Body Z) (zrn S o.Else U)] ∧ Hp.le τ τ' ∧ RdT z5 τ' (zrn b0 o.Kids b1) o.Kids ∧ RdT zX τ' (zrn Y o.Body Z) o.Body ∧ RdT zX τ' (zrn S o.Else U) o.Else) ?_ ?_
 ·have hF := b8
  rcases zbL hF with ⟨g, hF⟩ | ⟨g, hF⟩
  ·refine zbz (zrj g) ?_
   refine zbz rfl ?_
   refine zbz (zrj g) ?_
   refine zbz rfl ?_
   refine zbz (zrj g) ?_
   refine zW (zri g) ?_
   refine zf ?_
   cases hF
   refine zg ?_
   exact ⟨rfl, _, zrf (trivial), hO, hL, z, q, h⟩
  refine zbn (zrj g) ?_
  refine zd hO 4 [0] [(20, .bool ((o.Kind.toNat : Int) == 6))] [3, 16] (And.intro (And.intro rfl rfl) zq2) fun j => ?_
  rcases zbL hF with ⟨D, hF⟩ | ⟨D, hF⟩
  ·refine zbn (zrk D) ?_
   refine zd hO 2 [0] [(22, zrn Y o.Body Z)] [3, 16, 20] (And.intro (And.intro rfl rfl) zq3) fun j => ?_
   obtain ⟨b9, c1, hF⟩ := zrm hF
   refine zL hO (ih_check_returns q c1) rfl fun _ σ _ _ hO V c2 => ?_
   have hL := hL.trans V
   have q := q.le V
   have z := z.le V
   have h := h.le V
   obtain ⟨rfl, rfl⟩ := c2
   have hO := zrl1 hO
   refine zbn (zrj g) ?_
   refine zW (zri D) ?_
   refine zd hO 1 [] [(25, .bool b9)] [3, 16] zq2 fun j => ?_
   rcases zbL hF with ⟨G, hF⟩ | ⟨G, hF⟩
   ·refine zbn (zrk G) ?_
    refine zd hO 2 [0] [(27, zrn S o.Else U)] [16, 25] (And.intro (And.intro rfl rfl) zq2) fun j => ?_
    obtain ⟨d6, c3, hF⟩ := zrm hF
    refine zL hO (ih_check_returns h c3) rfl fun _ σ _ _ hO W c4 => ?_
    have hL := hL.trans W
    have h := h.le W
    have z := z.le W
    have q := q.le W
    obtain ⟨rfl, rfl⟩ := c4
    have hO := zrl1 hO
    refine zbn (zrj g) ?_
    refine zW (zri G) ?_
    refine zW (zri g) ?_
    refine zf ?_
    cases hF
    refine zg ?_
    exact ⟨rfl, _, zrf (trivial), hO, hL, z, q, h⟩
   refine zbz (zrk G) ?_
   refine zbn (zrj g) ?_
   refine zW (zri G) ?_
   refine zW (zri g) ?_
   refine zf ?_
   cases hF
   refine zg ?_
   exact ⟨rfl, _, zrf (trivial), hO, hL, z, q, h⟩
  refine zbz (zrk D) ?_
  refine zbn (zrj g) ?_
  refine zW (zri D) ?_
  refine zd hO 1 [] [(25, .bool false)] [3, 16] zq2 fun j => ?_
  rcases zbL hF with ⟨I, hF⟩ | ⟨I, hF⟩
  ·refine zbn (zrk I) ?_
   refine zd hO 2 [0] [(27, zrn S o.Else U)] [16, 25] (And.intro (And.intro rfl rfl) zq2) fun j => ?_
   obtain ⟨d7, c5, hF⟩ := zrm hF
   refine zL hO (ih_check_returns h c5) rfl fun _ σ _ _ hO X c6 => ?_
   have hL := hL.trans X
   have h := h.le X
   have z := z.le X
   have q := q.le X
   obtain ⟨rfl, rfl⟩ := c6
   have hO := zrl1 hO
   refine zbn (zrj g) ?_
   refine zW (zri I) ?_
   refine zW (zri g) ?_
   refine zf ?_
   cases hF
   refine zg ?_
   exact ⟨rfl, _, zrf (trivial), hO, hL, z, q, h⟩
  refine zbz (zrk I) ?_
  refine zbn (zrj g) ?_
  refine zW (zri I) ?_
  refine zW (zri g) ?_
  refine zf ?_
  cases hF
  refine zg ?_
  exact ⟨rfl, _, zrf (trivial), hO, hL, z, q, h⟩
 rintro e σ ⟨_, hA, hO, hL, z, q, h⟩
 rw [← zV _ _ hA]
 refine zA hO [] [(2, .bool b2)] zq0 fun j => ?_
 refine zba ?_
 cases hF
 have hO := hO.sel []
 exact hQ _ _ _ _ _ rfl hO hL ⟨rfl, rfl⟩
theorem zqt (n : Nat) : zk3 n := by
 induction n with
 | zero =>
  intro τ h p0 g rr hF; exact nomatch (show none = some rr from hF)
 | succ n ih =>
  intro τ h p0 g rr hF; exact zpP ih g hF
theorem zoV : ∀ {τ : Hp} {g : Value} {p0 : (List zi)} (h : RdT zX τ g p0) {rr : Bool} (hF : zg5 p0 = some rr), Ctr Try.prog 65 #[g] τ [] (fun v τ' vs' => v = .bool rr ∧ vs' = []) := (zqt big)
theorem zlm {τ : Hp} {q0 : zb} {U : Nat} {g h o : Value} {q : Ob} {z : Value} {D : Ob} {G I : Value} {S : Ob} {p1 : ByteArray} (W : RdT zx τ g q0.prog.Structs) (V : RdT zr τ h q0.prog.Funcs) (X : za zp 59 τ o q0.tree.Bodies q) (Y : za zo 87 τ z q0.tree.Points D) (Z : RdT zq τ G q0.vars) (b0 : za (Ty.int .i64) 3 τ I q0.scope S) {rr : Int} (hF : zeN q0 p1 = some rr) :
  Ctr Try.prog 53 #[.pointer (some ⟨U, 0, none⟩), .string p1] τ [zn U g h o q0.tree.Main z q0.fn G I, q, D, S] (fun v τ' vs' => v = .int .i64 rr ∧ vs' = [zn U g h o q0.tree.Main z q0.fn G I, q, D, S]) := by
 obtain ⟨b6, b7, rfl, -⟩ := W.form
 obtain ⟨b1, b2, rfl, -⟩ := V.form
 obtain ⟨b8, b9, rfl, -⟩ := X.form
 obtain ⟨c0, c1, rfl, -⟩ := Y.form
 obtain ⟨c2, c3, rfl, -⟩ := Z.form
 obtain ⟨c4, c5, rfl, -⟩ := b0.form
 refine zbi (args := [.pointer (some ⟨U, 0, none⟩), .string p1]) hm Try.func53 s53 rfl fun w0 σ hO Q hQ => ?_
 unfold zeN at hF
 have hL := Hp.le.refl τ
 show wpn _ _ a53.body _ _ _
 unfold a53
 dsimp only
 refine zbQ (n := 1) hO rfl rfl fun b3 σ hO => ?_
 have hO := zrl5 hO
 refine ze hO [] [] [0, 3] zq1 fun j => ?_
 refine zd hO 6 [0] [(9, zrn b1 q0.prog.Funcs b2), (10, .func (.func 67) #[] #[(.pointer (some ⟨b3, 0, none⟩))])] [0] (And.intro (And.intro rfl rfl) zq2) fun j => ?_
 obtain ⟨_, h5, m4, hO⟩ := hO.shareV (i := 4) rfl
 have hL := hL.trans h5
 have hO := zrl5 hO
 obtain ⟨c6, h7, hF⟩ := zrm hF
 refine zL hO (zmj (V.le hL) m4 h7) rfl fun _ σ _ _ hO h8 h9 => ?_
 have hL := hL.trans h8
 have m4 := m4.le h8
 obtain ⟨rfl, rfl⟩ := h9
 have hO := zrl5 hO
 refine ze hO [] [(4, zrg c6)] [0] zq1 fun j => ?_
 refine zba ?_
 cases hF
 have hO := hO.sel [0, 1, 2, 3]
 exact hQ _ _ _ _ _ rfl hO hL ⟨rfl, rfl⟩
theorem zkO {τ : Hp} {q0 : zb} {V : Nat} {n0 n1 n2 : Value} {j2 : Ob} {n3 : Value} {j3 : Ob} {n4 n5 : Value} {n6 : Ob} {p1 : Int} (c3 : RdT zx τ n0 q0.prog.Structs) (c2 : RdT zr τ n1 q0.prog.Funcs) (j4 : za zp 59 τ n2 q0.tree.Bodies j2) (j5 : za zo 87 τ n3 q0.tree.Points j3) (l2 : RdT zq τ n4 q0.vars) (l3 : za (Ty.int .i64) 3 τ n5 q0.scope n6) {rr : Except (Value × zb) (zb)} (hF : zdw q0 p1 = some rr) :
  zbu Try.prog 52 #[.pointer (some ⟨V, 0, none⟩), .int .i64 p1] τ [zn V n0 n1 n2 q0.tree.Main n3 q0.fn n4 n5, j2, j3, n6] (fun v τ' vs' => match (generalizing := false) rr with | .ok rr => ∃ (j8 j9 k0 : Value) (k1 : Ob) (k2 : Value) (k3 : Ob) (k4 k5 : Value) (k7 : Ob), v = .tuple #[] ∧ vs' = [zn V j8 j9 k0 rr.tree.Main k2 rr.fn k4 k5, k1, k3, k7] ∧ RdT zx τ' j8 rr.prog.Structs ∧ RdT zr τ' j9 rr.prog.Funcs ∧ za zp 59 τ' k0 rr.tree.Bodies k1 ∧ za zo 87 τ' k2 rr.tree.Points k3 ∧ RdT zq τ' k4 rr.vars ∧ za (Ty.int .i64) 3 τ' k5 rr.scope k7 | .error _ => False) (fun ch τ' vs' => match (generalizing := false) rr with | .ok _ => False | .error ee => ∃ (j8 j9 k0 : Value) (k1 : Ob) (k2 : Value) (k3 : Ob) (k4 k5 : Value) (k7 : Ob), ch = [{ v := ee.1, recovered := false }] ∧ vs' = [zn V j8 j9 k0 ee.2.tree.Main k2 ee.2.fn k4 k5, k1, k3, k7] ∧ RdT zx τ' j8 ee.2.prog.Structs ∧ RdT zr τ' j9 ee.2.prog.Funcs ∧ za zp 59 τ' k0 ee.2.tree.Bodies k1 ∧ za zo 87 τ' k2 ee.2.tree.Points k3 ∧ RdT zq τ' k4 ee.2.vars ∧ za (Ty.int .i64) 3 τ' k5 ee.2.scope k7) := by
 obtain ⟨j6, j7, rfl, -⟩ := c3.form
 obtain ⟨i2, i3, rfl, -⟩ := c2.form
 obtain ⟨n7, n8, rfl, -⟩ := j4.form
 obtain ⟨n9, o0, rfl, -⟩ := j5.form
 obtain ⟨A6, A7, rfl, -⟩ := l2.form
 obtain ⟨A8, A9, rfl, -⟩ := l3.form
 refine zcH (args := [.pointer (some ⟨V, 0, none⟩), .int .i64 p1]) hm Try.func52 s52 rfl fun w0 σ hP hO Q hQ => ?_
 unfold zdw at hF
 have hL := Hp.le.refl τ
 show wpn _ _ a52.body _ _ _
 unfold a52
 dsimp only
 refine zd hO 6 [0] [(15, zrn i2 q0.prog.Funcs i3), (16, zrg p1)] [0, 1] (And.intro (And.intro rfl rfl) zq3) fun j => ?_
 obtain ⟨q, g4, hF⟩ := zrm hF
 refine zO (T := zr) (c2.le hL) hO.base rfl rfl g4 (by decide) fun a5 _ k6 m7 => ?_
 obtain ⟨v8, G1, rfl, r9, c6⟩ := k6
 obtain ⟨c0, c1, rfl, -⟩ := r9.form
 obtain ⟨f8, f9, rfl, -⟩ := c6.form
 refine zE rfl ((m7.le hO.base).all rfl) ?_
 refine zbl hO fun c5 σ hO => ?_
 have hO := zrl5 hO
 refine zC hO (i := 4) rfl (off := 0) rfl rfl rfl rfl (Nat.le_of_ble_eq_true rfl) rfl fun σ hO => ?_
 have hO := zrl5 hO
 refine zf (zd hO 3 [4] [(19, zrh V), (21, .string q.Name)] [0, 1, 4] (And.intro (And.intro rfl rfl) zq4) fun j => ?_)
 obtain ⟨y5, y6, hF⟩ := zrm hF
 have hO := hO.sel [4, 0, 1, 2, 3]
 refine zce (hs := [_]) hO (zlm (c3.le hL) (c2.le hL) (j4.le hL) (j5.le hL) (l2.le hL) (l3.le hL) y6) rfl fun _ σ _ _ hO o1 y7 => ?_
 have hL := hL.trans o1
 have r9 := r9.le o1
 have c6 := c6.le o1
 obtain ⟨rfl, rfl⟩ := y7
 have hO := zrl5 hO
 have hO := hO.sel [1, 2, 3, 4, 0]
 have hO := zrl5 hO
 refine zd hO 2 [] [(24, .bool (y5 == p1))] [0, 1, 4] zq3 fun j => ?_
 rcases z9 hF with ⟨G2, y8, hF⟩ | ⟨G3, y9, hF⟩
 ·refine zbV hO (zbk y8) zqY rfl fun _ σ _ _ hO o2 A0 => ?_
  have hL := hL.trans o2
  have r9 := r9.le o2
  have c6 := c6.le o2
  obtain ⟨rfl, rfl⟩ := A0
  have hO := zrl5 hO
  cases hF
  have hO := hO.sel [0, 1, 2, 3]
  exact hP _ _ _ _ hO hL ⟨_, _, _, _, _, _, _, _, _, rfl, rfl, (c3.le hL), (c2.le hL), (j4.le hL), (j5.le hL), (l2.le hL), (l3.le hL)⟩
 refine zb0 hO (zbk y9) zqY rfl fun _ σ _ _ hO o3 A1 => ?_
 have hL := hL.trans o3
 have r9 := r9.le o3
 have c6 := c6.le o3
 obtain ⟨rfl, rfl⟩ := A1
 have hO := zrl5 hO
 refine zf (zd hO 6 [] [(27, zrh V), (28, zrh V), (29, zrg p1), (31, .pointer (some ⟨V, 5, none⟩))] [0, 4] zq5 fun j => ?_)
 refine zC hO (i := 0) rfl (off := 5) rfl rfl rfl rfl (Nat.le_of_ble_eq_true rfl) rfl fun σ hO => ?_
 have hO := zrl5 hO
 refine zd hO 2 [] [(33, .pointer (some ⟨V, 6, none⟩))] [0, 4, 28] zq3 fun j => ?_
 refine zC hO (i := 0) rfl (off := 6) rfl rfl rfl rfl (Nat.le_of_ble_eq_true rfl) rfl fun σ hO => ?_
 have hO := zrl5 hO
 refine zd hO 2 [] [(35, .pointer (some ⟨V, 7, none⟩))] [0, 4] zq2 fun j => ?_
 refine zC hO (i := 0) rfl (off := 7) rfl rfl rfl rfl (Nat.le_of_ble_eq_true rfl) rfl fun σ hO => ?_
 have hO := zrl5 hO
 refine zf (ze hO [] [(5, .slice none 0 0)] [0, 4] zq2 fun j => ?_)
 refine zd hO 5 [4] [(40, .bool (decide ((q.Params.length : Int) ≤ 6)))] [0, 4, 5] (And.intro (And.intro rfl rfl) zq3) fun j => ?_
 have hO := hO.sel [0, 1, 2, 4]
 have hO := zrl4 hO
 obtain ⟨o4, A2, hF⟩ := zrm hF
 refine zcA 4 (fun e' σ' => ∃ (τ' : Hp), agr [(50, .bool o4), (0, zrh V), (4, zrh c5), (5, .slice none 0 0)] e' ∧ Obs τ' σ' [zn V (zrn j6 q0.prog.Structs j7) (zrn i2 q0.prog.Funcs i3) (zrn n7 q0.tree.Bodies n8) q0.tree.Main (zrn n9 q0.tree.Points o0) p1 (.slice none 0 0) (.slice none 0 0), j2, j3, zec c5 q.Name q.Line (zrn c0 q.Params c1) (q.Result.Kind.toNat : Int) q.Result.N q.Result.Name (zrn f8 q.Body f9)] ∧ Hp.le τ τ' ∧ RdT zb2 τ' (zrn c0 q.Params c1) q.Params ∧ RdT zX τ' (zrn f8 q.Body f9) q.Body) ?_ ?_
 ·have hF := A2
  rcases zbL hF with ⟨d7, hF⟩ | ⟨d7, hF⟩
  ·refine zbn (zrk d7) ?_
   refine zK hO 5 [3] [(0, zrh V), (4, zrh c5), (5, .slice none 0 0), (40, .bool (decide ((q.Params.length : Int) ≤ 6))), (45, .bool ((q.Result.Kind.toNat : Int) == 0))] (And.intro (And.intro rfl rfl) zq4) fun j => ?_
   rcases zbL hF with ⟨k8, hF⟩ | ⟨k8, hF⟩
   ·refine zbz (zrj k8) ?_
    refine zbn (zrk d7) ?_
    refine zW (zri k8) ?_
    refine zW (zri d7) ?_
    refine zf ?_
    cases hF
    refine zg ?_
    exact ⟨rfl, _, zrf zq2, hO, hL, r9, c6⟩
   refine zbn (zrj k8) ?_
   refine zd hO 2 [3] [(47, .agg #[(.int .u8 (q.Result.Kind.toNat : Int)), (.int .i64 q.Result.N), (.string q.Result.Name)])] [0, 4, 5, 40, 45] (And.intro (And.intro rfl rfl) zq5) fun j => ?_
   obtain ⟨G4, A3, hF⟩ := zrm hF
   refine zL hO (zgx A3) rfl fun _ σ _ _ hO o5 A4 => ?_
   have hL := hL.trans o5
   have r9 := r9.le o5
   have c6 := c6.le o5
   obtain ⟨rfl, rfl⟩ := A4
   have hO := zrl4 hO
   refine zbn (zrk d7) ?_
   refine zW (zri k8) ?_
   refine zW (zri d7) ?_
   refine zf ?_
   cases hF
   refine zg ?_
   exact ⟨rfl, _, zrf zq2, hO, hL, r9, c6⟩
  refine zbz (zrk d7) ?_
  refine zbz rfl ?_
  refine zbz (zrk d7) ?_
  refine zW (zri d7) ?_
  refine zf ?_
  cases hF
  refine zg ?_
  exact ⟨rfl, _, zrf zq2, hO, hL, r9, c6⟩
 rintro e σ ⟨_, hA, hO, hL, r9, c6⟩
 rw [← zV _ _ hA]
 refine zA hO [] [(0, zrh V), (4, zrh c5), (5, .slice none 0 0), (6, .bool o4)] zq3 fun j => ?_
 refine zl (ze hO [3] [(52, zrn c0 q.Params c1), (53, zrg (q.Params.length : Int)), (54, zrg 0)] [0, 4, 5, 6] (And.intro (And.intro rfl rfl) zq6) fun j => ?_)
 refine zY ?_
 have hO := hO.no
 have hO := zrl5 hO
 have hO := hO.no
 have hO := zrl6 hO
 have hO := hO.no
 have hO := zrl7 hO
 have hO := hO.sel [0, 1, 2, 4, 5, 3, 6]
 refine zbH (fun (n : Nat) e' σ' => ∃ (g0 : Option Addr) (g1 : Nat) (g2 : Ob) (b7 : List zM) (g3 : Option Addr) (g5 : Nat) (g6 : Ob) (b8 : List zH) (g7 : Option Addr) (g8 : Nat) (h4 : Ob) (b5 : List zI) (g9 : Option Addr) (h0 : Nat) (h5 : Ob) (b6 : List Int) (l4 : Option Addr) (l5 : Nat) (m2 : Ob) (b4 : List ByteArray) (d8 : Bool) (X : Int) (τ' : Hp), agr [(0, zrh V), (4, zrh c5), (5, zrn l4 b4 l5), (6, .bool d8), (52, zrn c0 q.Params c1), (53, zrg (q.Params.length : Int)), (54, zrg X)] e' ∧ Obs τ' σ' [zn V (zrn j6 q0.prog.Structs j7) (zrn i2 q0.prog.Funcs i3) (zrn g0 b7 g1) q0.tree.Main (zrn g3 b8 g5) p1 (zrn g7 b5 g8) (zrn g9 b6 h0), g2, g6, h4, h5, zec c5 q.Name q.Line (zrn c0 q.Params c1) (q.Result.Kind.toNat : Int) q.Result.N q.Result.Name (zrn f8 q.Body f9), m2] ∧ Hp.le τ τ' ∧ za zp 59 τ' (zrn g0 b7 g1) b7 g2 ∧ za zo 87 τ' (zrn g3 b8 g5) b8 g6 ∧ za zq 82 τ' (zrn g7 b5 g8) b5 h4 ∧ za (Ty.int .i64) 3 τ' (zrn g9 b6 h0) b6 h5 ∧ RdT zb2 τ' (zrn c0 q.Params c1) q.Params ∧ RdT zX τ' (zrn f8 q.Body f9) q.Body ∧ za Ty.str 9 τ' (zrn l4 b4 l5) b4 m2 ∧ RdT zb2 τ' (zrn c0 q.Params c1) q.Params ∧ zfb q0 p1 q n b7 b8 b5 b6 b4 d8 X = some rr) big ⟨n7, n8, j2, q0.tree.Bodies, n9, o0, j3, q0.tree.Points, none, 0, none, [], none, 0, none, [], none, 0, none, [], o4, 0, _, zrf zq5, hO, hL, (j4.le hL), (j5.le hL), za.nil _ _ _, za.nil _ _ _, r9, c6, za.nil _ _ _, r9, hF⟩ ?_
 clear hF hO hL
 rintro l6 e σ ⟨g0, g1, g2, b7, g3, g5, g6, b8, g7, g8, h4, b5, g9, h0, h5, b6, l4, l5, m2, b4, d8, X, _, hA, hO, hL, D, G, S, I, o, g, r4, Y, hF⟩
 rw [← zV _ _ hA]
 cases l6 with
 | zero => exact nomatch (show none = some rr from hF)
 | succ l6 =>
 replace hF : zfD (zfb q0 p1 q l6) q0 p1 q b7 b8 b5 b6 b4 d8 X = some rr := hF
 unfold zfD at hF
 refine ze hO [] [(55, .bool (decide (X < (q.Params.length : Int))))] [0, 4, 5, 6, 52, 53, 54] zq7 fun j => ?_
 refine zy hF rfl (fun hF => ?_) fun hF => ?_
 ·refine zF (zY (zd hO 1 [] [(56, zrg X)] [0, 4, 5, 6, 52, 53, 54] zq7 fun j => ?_))
  obtain ⟨z, r5, hF⟩ := zrm hF
  refine zO (T := zb2) Y hO.base rfl rfl r5 (by decide) fun a455 _ r6 r7 => ?_
  obtain rfl : _ = ([.string z.Name, .int .u8 z.Type_.Kind.toNat, .int .i64 z.Type_.N, .string z.Type_.Name] : List Value) := r6
  refine zE rfl ((r7.le hO.base).all rfl) ?_
  refine zbl hO fun h6 σ hO => ?_
  have hO := zrl8 hO
  refine zd hO 1 [] [(7, zrg X)] [0, 4, 5, 6, 8, 52, 53, 54, 58] zq9 fun j => ?_
  refine zC hO (i := 7) rfl (off := 0) rfl rfl rfl rfl (Nat.le_of_ble_eq_true rfl) rfl fun σ hO => ?_
  have hO := zrl8 hO
  refine zf (zd hO 3 [7] [(59, zrn l4 b4 l5), (61, .string z.Name)] [0, 4, 6, 7, 8, 52, 53, 54] (And.intro (And.intro rfl rfl) zq9) fun j => ?_)
  obtain ⟨_, r0, hF⟩ := zrm hF
  refine zdk (T := Ty.str) (y := z.Name) hO r4 (i := 6) rfl rfl (fun _ => rfl) rfl rfl rfl r0 (by decide) fun u _ σ k9 W hO => ?_
  obtain ⟨c7, c8, rfl, -⟩ := W.form
  have hO := zrl8 hO
  refine ze hO [] [(5, zrn c7 (b4 ++ [z.Name]) c8)] [0, 4, 6, 7, 8, 52, 53, 54] zq8 fun j => ?_
  refine zd hO 3 [7] [(64, zrh V), (66, .agg #[(.int .u8 (z.Type_.Kind.toNat : Int)), (.int .i64 z.Type_.N), (.string z.Type_.Name)])] [0, 4, 5, 6, 7, 8, 52, 53, 54] (And.intro (And.intro rfl rfl) zra) fun j => ?_
  obtain ⟨o6, r8, hF⟩ := zrm hF
  have hO := hO.sel [5, 6, 7, 0, 1, 2, 3, 4]
  refine zce (hs := [_, _, _]) hO (ziW (q0 := (⟨(⟨q0.prog.Structs, q0.prog.Funcs⟩ : zm), (⟨b7, q0.tree.Main, b8⟩ : zw), p1, b5, b6⟩ : zb)) (c3.le hL) (c2.le hL) D G S I r8) rfl fun _ σ _ _ hO d9 t0 => ?_
  have hL := hL.trans d9
  have W := W.le d9
  have Y := Y.le d9
  have o := o.le d9
  have g := g.le d9
  have D := D.le d9
  have G := G.le d9
  have S := S.le d9
  have I := I.le d9
  obtain ⟨rfl, rfl⟩ := t0
  have hO := zrl8 hO
  have hO := hO.sel [3, 4, 5, 6, 7, 0, 1, 2]
  have hO := zrl8 hO
  refine zd hO 1 [] [(68, .bool o6)] [0, 4, 5, 6, 7, 8, 52, 53, 54] zq9 fun j => ?_
  obtain ⟨t1, t2, hF⟩ := zrm hF
  refine zcA 2 (fun e' σ' => ∃ (τ' : Hp), agr [(72, .bool t1), (0, zrh V), (4, zrh c5), (5, zrn c7 (b4 ++ [z.Name]) c8), (6, .bool d8), (7, zrg X), (8, zrh h6), (52, zrn c0 q.Params c1), (53, zrg (q.Params.length : Int)), (54, zrg X)] e' ∧ Obs τ' σ' [zn V (zrn j6 q0.prog.Structs j7) (zrn i2 q0.prog.Funcs i3) (zrn g0 b7 g1) q0.tree.Main (zrn g3 b8 g5) p1 (zrn g7 b5 g8) (zrn g9 b6 h0), g2, g6, h4, h5, zec c5 q.Name q.Line (zrn c0 q.Params c1) (q.Result.Kind.toNat : Int) q.Result.N q.Result.Name (zrn f8 q.Body f9), k9, zlH h6 z.Name (z.Type_.Kind.toNat : Int) z.Type_.N z.Type_.Name] ∧ Hp.le τ τ' ∧ za Ty.str 9 τ' (zrn c7 (b4 ++ [z.Name]) c8) (b4 ++ [z.Name]) k9 ∧ RdT zb2 τ' (zrn c0 q.Params c1) q.Params ∧ za zp 59 τ' (zrn g0 b7 g1) b7 g2 ∧ za zo 87 τ' (zrn g3 b8 g5) b8 g6 ∧ za zq 82 τ' (zrn g7 b5 g8) b5 h4 ∧ za (Ty.int .i64) 3 τ' (zrn g9 b6 h0) b6 h5 ∧ RdT zb2 τ' (zrn c0 q.Params c1) q.Params ∧ RdT zX τ' (zrn f8 q.Body f9) q.Body) ?_ ?_
  ·have hF := t2
   rcases zbL hF with ⟨i4, hF⟩ | ⟨i4, hF⟩
   ·refine zbn (zrk i4) ?_
    refine zd hO 1 [] [(69, zrn c7 (b4 ++ [z.Name]) c8)] [0, 4, 5, 6, 7, 8, 52, 53, 54, 68] zra fun j => ?_
    obtain ⟨t3, t4, hF⟩ := zrm hF
    have hO := hO.sel [0, 1, 2, 3, 4, 5, 7, 6]
    refine zce (hs := [_, _, _, _, _, _, _]) hO (Ctr.lendG W (fun _ _ _ _ h => h) fun _ G5 A5 => zma A5 t4) rfl fun _ σ _ _ hO f0 t5 => ?_
    have hL := hL.trans f0
    have W := W.le f0
    have Y := Y.le f0
    have D := D.le f0
    have G := G.le f0
    have S := S.le f0
    have I := I.le f0
    have o := o.le f0
    have g := g.le f0
    obtain ⟨_, rfl, rfl, rfl⟩ := t5
    have hO := zrl8 hO
    have hO := hO.sel [0, 1, 2, 3, 4, 5, 7, 6]
    have hO := zrl8 hO
    refine zK hO 1 [] [(0, zrh V), (4, zrh c5), (5, zrn c7 (b4 ++ [z.Name]) c8), (6, .bool d8), (7, zrg X), (8, zrh h6), (52, zrn c0 q.Params c1), (53, zrg (q.Params.length : Int)), (54, zrg X), (68, .bool o6), (71, .bool (!t3))] zra fun j => ?_
    refine zW (zri i4) ?_
    refine zf ?_
    cases hF
    refine zg ?_
    exact ⟨rfl, _, zrf zq8, hO, hL, W, Y, D, G, S, I, o, g⟩
   refine zbz (zrk i4) ?_
   refine zW (zri i4) ?_
   refine zf ?_
   cases hF
   refine zg ?_
   exact ⟨rfl, _, zrf zq8, hO, hL, W, Y, D, G, S, I, o, g⟩
  rintro e σ ⟨_, hA, hO, hL, W, Y, D, G, S, I, o, g⟩
  rw [← zV _ _ hA]
  rcases z9 hF with ⟨B3, t6, hF⟩ | ⟨B4, t7, hF⟩
  ·refine zbV hO (zbk t6) zqY rfl fun _ σ _ _ hO f1 t8 => ?_
   have hL := hL.trans f1
   have W := W.le f1
   have Y := Y.le f1
   have D := D.le f1
   have G := G.le f1
   have S := S.le f1
   have I := I.le f1
   have o := o.le f1
   have g := g.le f1
   obtain ⟨rfl, rfl⟩ := t8
   have hO := zrl8 hO
   obtain ⟨_, h1, t9, hO⟩ := S.share hO (i := 3) rfl
   have hL := hL.trans h1
   have W := W.le h1
   have Y := Y.le h1
   have D := D.le h1
   have G := G.le h1
   have I := I.le h1
   have o := o.le h1
   have g := g.le h1
   have hO := zrl8 hO
   cases hF
   have hO := hO.sel [0, 1, 2, 4]
   exact hP _ _ _ _ hO hL ⟨_, _, _, _, _, _, _, _, _, rfl, rfl, (c3.le hL), (c2.le hL), D, G, t9, I⟩
  refine zb0 hO (zbk t7) zqY rfl fun _ σ _ _ hO f2 u0 => ?_
  have hL := hL.trans f2
  have W := W.le f2
  have Y := Y.le f2
  have D := D.le f2
  have G := G.le f2
  have S := S.le f2
  have I := I.le f2
  have o := o.le f2
  have g := g.le f2
  obtain ⟨rfl, rfl⟩ := u0
  have hO := zrl8 hO
  refine zf (zd hO 2 [] [(75, .bool d8)] [0, 4, 5, 7, 8, 52, 53, 54] zq8 fun j => ?_)
  obtain ⟨m3, u1, hF⟩ := zrm hF
  refine zcA 2 (fun e' σ' => ∃ (τ' : Hp), agr [(79, .bool m3), (0, zrh V), (4, zrh c5), (5, zrn c7 (b4 ++ [z.Name]) c8), (7, zrg X), (8, zrh h6), (52, zrn c0 q.Params c1), (53, zrg (q.Params.length : Int)), (54, zrg X)] e' ∧ Obs τ' σ' [zn V (zrn j6 q0.prog.Structs j7) (zrn i2 q0.prog.Funcs i3) (zrn g0 b7 g1) q0.tree.Main (zrn g3 b8 g5) p1 (zrn g7 b5 g8) (zrn g9 b6 h0), g2, g6, h4, h5, zec c5 q.Name q.Line (zrn c0 q.Params c1) (q.Result.Kind.toNat : Int) q.Result.N q.Result.Name (zrn f8 q.Body f9), k9, zlH h6 z.Name (z.Type_.Kind.toNat : Int) z.Type_.N z.Type_.Name] ∧ Hp.le τ τ' ∧ za Ty.str 9 τ' (zrn c7 (b4 ++ [z.Name]) c8) (b4 ++ [z.Name]) k9 ∧ RdT zb2 τ' (zrn c0 q.Params c1) q.Params ∧ za zp 59 τ' (zrn g0 b7 g1) b7 g2 ∧ za zo 87 τ' (zrn g3 b8 g5) b8 g6 ∧ za zq 82 τ' (zrn g7 b5 g8) b5 h4 ∧ za (Ty.int .i64) 3 τ' (zrn g9 b6 h0) b6 h5 ∧ RdT zb2 τ' (zrn c0 q.Params c1) q.Params ∧ RdT zX τ' (zrn f8 q.Body f9) q.Body) ?_ ?_
  ·have hF := u1
   rcases zbL hF with ⟨i5, hF⟩ | ⟨i5, hF⟩
   ·refine zbn (zrk i5) ?_
    refine zK hO 2 [7] [(0, zrh V), (4, zrh c5), (5, zrn c7 (b4 ++ [z.Name]) c8), (7, zrg X), (8, zrh h6), (52, zrn c0 q.Params c1), (53, zrg (q.Params.length : Int)), (54, zrg X), (75, .bool d8), (77, .agg #[(.int .u8 (z.Type_.Kind.toNat : Int)), (.int .i64 z.Type_.N), (.string z.Type_.Name)])] (And.intro (And.intro rfl rfl) zq9) fun j => ?_
    obtain ⟨B5, u2, hF⟩ := zrm hF
    refine zL hO (zgx u2) rfl fun _ σ _ _ hO f3 u3 => ?_
    have hL := hL.trans f3
    have W := W.le f3
    have Y := Y.le f3
    have D := D.le f3
    have G := G.le f3
    have S := S.le f3
    have I := I.le f3
    have o := o.le f3
    have g := g.le f3
    obtain ⟨rfl, rfl⟩ := u3
    have hO := zrl8 hO
    refine zW (zri i5) ?_
    refine zf ?_
    cases hF
    refine zg ?_
    exact ⟨rfl, _, zrf zq7, hO, hL, W, Y, D, G, S, I, o, g⟩
   refine zbz (zrk i5) ?_
   refine zW (zri i5) ?_
   refine zf ?_
   cases hF
   refine zg ?_
   exact ⟨rfl, _, zrf zq7, hO, hL, W, Y, D, G, S, I, o, g⟩
  rintro e σ ⟨_, hA, hO, hL, W, Y, D, G, S, I, o, g⟩
  rw [← zV _ _ hA]
  refine zA hO [] [(0, zrh V), (4, zrh c5), (5, zrn c7 (b4 ++ [z.Name]) c8), (6, .bool m3), (7, zrg X), (8, zrh h6), (52, zrn c0 q.Params c1), (53, zrg (q.Params.length : Int)), (54, zrg X)] zq8 fun j => ?_
  refine zcw (zd hO 10 [0, 7, 7] [(80, zrh V), (83, .pointer (some ⟨V, 6, none⟩)), (84, zrn g7 b5 g8), (89, .agg #[(.string z.Name), (.int .u8 (z.Type_.Kind.toNat : Int)), (.int .i64 z.Type_.N), (.string z.Type_.Name), (.int .i64 1), (.slice none 0 0)])] [0, 4, 5, 6, 7, 52, 53, 54] (And.intro (And.intro rfl rfl) (And.intro (And.intro rfl rfl) (And.intro (And.intro rfl rfl) zrb))) fun j => ?_)
  refine zcp (zbG (T := zq) (l := ([(⟨z.Name, (⟨z.Type_.Kind, z.Type_.N, z.Type_.Name⟩ : zz), 1, []⟩ : zI)] : List zI)) (cs := [.string z.Name, .int .u8 (z.Type_.Kind.toNat : Int), .int .i64 z.Type_.N, .string z.Type_.Name, .int .i64 1, .slice none 0 0]) hO rfl ⟨[.string z.Name, .int .u8 (z.Type_.Kind.toNat : Int), .int .i64 z.Type_.N, .string z.Type_.Name, .int .i64 1, .slice none 0 0], _, rfl, ⟨_, rfl, RdT.nil _ _⟩, rfl⟩ rfl (by decide) fun _ σ B6 o7 hO => ?_)
  obtain ⟨B7, B8, rfl, -⟩ := o7.form
  have hO := zrl9 hO
  refine zf (zcj ⟨(zbp rfl (hO.val (i := 0) (off := 6) (agg := false) (n := 1) rfl rfl) rfl), trivial⟩ ?_)
  obtain ⟨_, f4, u4, hO⟩ := o7.share hO (i := 8) rfl
  have hL := hL.trans f4
  have W := W.le f4
  have Y := Y.le f4
  have S := S.le f4
  have D := D.le f4
  have G := G.le f4
  have I := I.le f4
  have o := o.le f4
  have g := g.le f4
  have hO := zrl9 hO
  obtain ⟨_, r1, hF⟩ := zrm hF
  refine ze2 (T := zq) hO S (i := 3) rfl rfl rfl u4 r1 (by decide) fun _ σ u5 o8 hO => ?_
  obtain ⟨u6, u7, rfl, -⟩ := o8.form
  have hO := zrl9 hO
  refine zd hO 2 [] [(93, .pointer (some ⟨V, 6, none⟩))] [0, 4, 5, 6, 7, 52, 53, 54, 91] zq9 fun j => ?_
  refine zC hO (i := 0) rfl (off := 6) rfl rfl rfl rfl (Nat.le_of_ble_eq_true rfl) rfl fun σ hO => ?_
  have hO := zrl9 hO
  refine zf (zbd (zd hO 6 [0] [(94, zrh V), (98, zrn g9 b6 h0), (99, zrg X)] [0, 4, 5, 6, 52, 53, 54] (And.intro (And.intro rfl rfl) zq9) fun j => ?_))
  obtain ⟨_, r2, hF⟩ := zrm hF
  refine zdk (T := (Ty.int .i64)) (y := X) hO I (i := 4) rfl rfl (fun _ => rfl) rfl rfl rfl r2 (by decide) fun u _ σ u9 o9 hO => ?_
  obtain ⟨v0, v1, rfl, -⟩ := o9.form
  have hO := zrl9 hO
  refine zd hO 2 [] [(103, .pointer (some ⟨V, 7, none⟩))] [0, 4, 5, 6, 52, 53, 54, 101] zq8 fun j => ?_
  refine zC hO (i := 0) rfl (off := 7) rfl rfl rfl rfl (Nat.le_of_ble_eq_true rfl) rfl fun σ hO => ?_
  have hO := zrl9 hO
  refine zf (zg (z3 (zk (zbd (ze hO [] [(54, zrg (IntKind.i64.wrap (X + 1)))] [0, 4, 5, 6, 52, 53] zq6 fun j => ?_)))))
  refine zg (zk ?_)
  have hO := hO.sel [0, 1, 2, 3, 4, 5, 6]
  exact ⟨l6, Nat.lt_succ_self _, g0, g1, g2, b7, g3, g5, g6, b8, u6, u7, u5, (b5 ++ ([(⟨z.Name, (⟨z.Type_.Kind, z.Type_.N, z.Type_.Name⟩ : zz), 1, []⟩ : zI)] : List zI)), v0, v1, u9, (b6 ++ [X]), c7, c8, k9, (b4 ++ [z.Name]), m3, (IntKind.i64.wrap (X + 1)), _, zrf zq5, hO, hL, D, G, o8, o9, o, g, W, Y, hF⟩
 refine zbF (zbB (zbD (zk (zd hO 3 [5] [(105, zrh V), (107, .agg #[(.int .u8 (q.Result.Kind.toNat : Int)), (.int .i64 q.Result.N), (.string q.Result.Name)])] [0, 4, 6] (And.intro (And.intro rfl rfl) zq4) fun j => ?_))))
 obtain ⟨B9, v2, hF⟩ := zrm hF
 have hO := hO.sel [5, 6, 0, 1, 2, 3, 4]
 refine zce (hs := [_, _]) hO (ziW (q0 := (⟨(⟨q0.prog.Structs, q0.prog.Funcs⟩ : zm), (⟨b7, q0.tree.Main, b8⟩ : zw), p1, b5, b6⟩ : zb)) (c3.le hL) (c2.le hL) D G S I v2) rfl fun _ σ _ _ hO h7 v3 => ?_
 have hL := hL.trans h7
 have o := o.le h7
 have g := g.le h7
 have D := D.le h7
 have G := G.le h7
 have S := S.le h7
 have I := I.le h7
 obtain ⟨rfl, rfl⟩ := v3
 have hO := zrl7 hO
 have hO := hO.sel [2, 3, 4, 5, 6, 0, 1]
 have hO := zrl7 hO
 rcases z9 hF with ⟨C0, v4, hF⟩ | ⟨C1, v5, hF⟩
 ·refine zbV hO (zbk v4) zqY rfl fun _ σ _ _ hO h8 v6 => ?_
  have hL := hL.trans h8
  have D := D.le h8
  have G := G.le h8
  have S := S.le h8
  have I := I.le h8
  have o := o.le h8
  have g := g.le h8
  obtain ⟨rfl, rfl⟩ := v6
  have hO := zrl7 hO
  obtain ⟨_, i7, v7, hO⟩ := S.share hO (i := 3) rfl
  have hL := hL.trans i7
  have D := D.le i7
  have G := G.le i7
  have I := I.le i7
  have o := o.le i7
  have g := g.le i7
  have hO := zrl7 hO
  cases hF
  have hO := hO.sel [0, 1, 2, 4]
  exact hP _ _ _ _ hO hL ⟨_, _, _, _, _, _, _, _, _, rfl, rfl, (c3.le hL), (c2.le hL), D, G, v7, I⟩
 refine zb0 hO (zbk v5) zqY rfl fun _ σ _ _ hO h9 v9 => ?_
 have hL := hL.trans h9
 have D := D.le h9
 have G := G.le h9
 have S := S.le h9
 have I := I.le h9
 have o := o.le h9
 have g := g.le h9
 obtain ⟨rfl, rfl⟩ := v9
 have hO := zrl7 hO
 refine zf (zd hO 1 [] [(110, .bool d8)] [0, 4] zq2 fun j => ?_)
 rcases z9 hF with ⟨C2, w2, hF⟩ | ⟨C3, w3, hF⟩
 ·refine zbV hO (zbk w2) zqY rfl fun _ σ _ _ hO i0 w4 => ?_
  have hL := hL.trans i0
  have D := D.le i0
  have G := G.le i0
  have S := S.le i0
  have I := I.le i0
  have o := o.le i0
  have g := g.le i0
  obtain ⟨rfl, rfl⟩ := w4
  have hO := zrl7 hO
  obtain ⟨_, i8, w5, hO⟩ := S.share hO (i := 3) rfl
  have hL := hL.trans i8
  have D := D.le i8
  have G := G.le i8
  have I := I.le i8
  have o := o.le i8
  have g := g.le i8
  have hO := zrl7 hO
  cases hF
  have hO := hO.sel [0, 1, 2, 4]
  exact hP _ _ _ _ hO hL ⟨_, _, _, _, _, _, _, _, _, rfl, rfl, (c3.le hL), (c2.le hL), D, G, w5, I⟩
 refine zb0 hO (zbk w3) zqY rfl fun _ σ _ _ hO i1 w6 => ?_
 have hL := hL.trans i1
 have D := D.le i1
 have G := G.le i1
 have S := S.le i1
 have I := I.le i1
 have o := o.le i1
 have g := g.le i1
 obtain ⟨rfl, rfl⟩ := w6
 have hO := zrl7 hO
 refine zf (zd hO 3 [5] [(112, zrh V), (114, zrn f8 q.Body f9)] [0, 4] (And.intro (And.intro rfl rfl) zq3) fun j => ?_)
 have hO := hO.sel [5, 6, 0, 1, 2, 3, 4]
 rcases z9 hF with ⟨C4, w7, hF⟩ | ⟨U, w8, hF⟩
 ·refine zbs (hs := [_, _]) hO (zl9 (q0 := (⟨(⟨q0.prog.Structs, q0.prog.Funcs⟩ : zm), (⟨b7, q0.tree.Main, b8⟩ : zw), p1, b5, b6⟩ : zb)) (c3.le hL) (c2.le hL) D G S I g w7) zqY rfl fun _ σ _ _ hO m4 w9 => ?_
  have hL := hL.trans m4
  have g := g.le m4
  have o := o.le m4
  obtain ⟨C5, C6, C7, C8, C9, D0, D1, D2, D3, D4, rfl, rfl, l7, l8, l9, m0, p2, m1⟩ := w9
  obtain ⟨D5, D6, rfl, -⟩ := l7.form
  obtain ⟨D7, D8, rfl, -⟩ := l8.form
  obtain ⟨D9, E0, rfl, -⟩ := l9.form
  obtain ⟨E1, E2, rfl, -⟩ := m0.form
  obtain ⟨E3, E4, rfl, -⟩ := p2.form
  obtain ⟨E5, E6, rfl, -⟩ := m1.form
  have hO := zrl7 hO
  obtain ⟨_, h2, x0, hO⟩ := p2.share hO (i := 5) rfl
  have hL := hL.trans h2
  have g := g.le h2
  have o := o.le h2
  have l7 := l7.le h2
  have l8 := l8.le h2
  have l9 := l9.le h2
  have m0 := m0.le h2
  have m1 := m1.le h2
  have hO := zrl7 hO
  cases hF
  have hO := hO.sel [2, 3, 4, 6]
  exact hP _ _ _ _ hO hL ⟨_, _, _, _, _, _, _, _, _, rfl, rfl, l7, l8, l9, m0, x0, m1⟩
 refine zbq (hs := [_, _]) hO (zl9 (q0 := (⟨(⟨q0.prog.Structs, q0.prog.Funcs⟩ : zm), (⟨b7, q0.tree.Main, b8⟩ : zw), p1, b5, b6⟩ : zb)) (c3.le hL) (c2.le hL) D G S I g w8) zqY rfl fun _ σ _ _ hO m5 x1 => ?_
 have hL := hL.trans m5
 have g := g.le m5
 have o := o.le m5
 obtain ⟨E7, p3, E8, E9, F0, p4, F1, p5, F2, p6, F3, p7, rfl, rfl, b9, Z, b0, b1, b2, c4, b3⟩ := x1
 obtain ⟨i9, j0, rfl, -⟩ := b9.form
 obtain ⟨p8, p9, rfl, -⟩ := Z.form
 obtain ⟨q2, q3, rfl, -⟩ := b0.form
 obtain ⟨m6, m8, rfl, -⟩ := b1.form
 obtain ⟨q4, q5, rfl, -⟩ := b2.form
 obtain ⟨l0, l1, rfl, -⟩ := c4.form
 obtain ⟨q6, q7, rfl, -⟩ := b3.form
 have hO := zrl8 hO
 refine ze hO [] [(9, zrn i9 U.1 j0)] [0, 4] zq2 fun j => ?_
 refine ze hO [0] [(10, .bool ((q.Result.Kind.toNat : Int) != 0))] [0, 4, 9] (And.intro (And.intro rfl rfl) zq3) fun j => ?_
 refine zd hO 3 [] [(122, .bool (!((q.Result.Kind.toNat : Int) != 0)))] [0, 4, 9, 10] zq4 fun j => ?_
 have hO := hO.sel [0, 2, 3, 4, 5, 6, 7]
 have hO := zrl7 hO
 obtain ⟨x2, x3, hF⟩ := zrm hF
 refine zcA 2 (fun e' σ' => ∃ (τ' : Hp), agr [(126, .bool x2), (0, zrh V), (4, zrh c5), (9, zrn i9 U.1 j0), (10, .bool ((q.Result.Kind.toNat : Int) != 0))] e' ∧ Obs τ' σ' [zec c5 q.Name q.Line (zrn c0 q.Params c1) (q.Result.Kind.toNat : Int) q.Result.N q.Result.Name (zrn f8 q.Body f9), p3, zn V (zrn p8 U.2.prog.Structs p9) (zrn q2 U.2.prog.Funcs q3) (zrn m6 U.2.tree.Bodies m8) U.2.tree.Main (zrn q4 U.2.tree.Points q5) U.2.fn (zrn l0 U.2.vars l1) (zrn q6 U.2.scope q7), p4, p5, p6, p7] ∧ Hp.le τ τ' ∧ za zN 115 τ' (zrn i9 U.1 j0) U.1 p3 ∧ RdT zb2 τ' (zrn c0 q.Params c1) q.Params ∧ RdT zX τ' (zrn f8 q.Body f9) q.Body ∧ RdT zx τ' (zrn p8 U.2.prog.Structs p9) U.2.prog.Structs ∧ RdT zr τ' (zrn q2 U.2.prog.Funcs q3) U.2.prog.Funcs ∧ za zp 59 τ' (zrn m6 U.2.tree.Bodies m8) U.2.tree.Bodies p4 ∧ za zo 87 τ' (zrn q4 U.2.tree.Points q5) U.2.tree.Points p5 ∧ za zq 82 τ' (zrn l0 U.2.vars l1) U.2.vars p6 ∧ za (Ty.int .i64) 3 τ' (zrn q6 U.2.scope q7) U.2.scope p7) ?_ ?_
 ·have hF := x3
  rcases zbL hF with ⟨i6, hF⟩ | ⟨i6, hF⟩
  ·refine zbz (zrj i6) ?_
   refine zW (zri i6) ?_
   refine zf ?_
   cases hF
   refine zg ?_
   exact ⟨rfl, _, zrf zq3, hO, hL, b9, o, g, Z, b0, b1, b2, c4, b3⟩
  refine zbn (zrj i6) ?_
  refine zd hO 2 [0] [(124, zrn f8 q.Body f9)] [0, 4, 9, 10, 122] (And.intro (And.intro rfl rfl) zq5) fun j => ?_
  obtain ⟨F4, x4, hF⟩ := zrm hF
  refine zL hO (zoV g x4) rfl fun _ σ _ _ hO c9 x5 => ?_
  have hL := hL.trans c9
  have b9 := b9.le c9
  have g := g.le c9
  have o := o.le c9
  have Z := Z.le c9
  have b0 := b0.le c9
  have b1 := b1.le c9
  have b2 := b2.le c9
  have c4 := c4.le c9
  have b3 := b3.le c9
  obtain ⟨rfl, rfl⟩ := x5
  have hO := zrl7 hO
  refine zW (zri i6) ?_
  refine zf ?_
  cases hF
  refine zg ?_
  exact ⟨rfl, _, zrf zq3, hO, hL, b9, o, g, Z, b0, b1, b2, c4, b3⟩
 rintro e σ ⟨_, hA, hO, hL, b9, o, g, Z, b0, b1, b2, c4, b3⟩
 rw [← zV _ _ hA]
 rcases z9 hF with ⟨F5, x6, hF⟩ | ⟨F6, x7, hF⟩
 ·refine zbV hO (zbk x6) zqY rfl fun _ σ _ _ hO d0 x8 => ?_
  have hL := hL.trans d0
  have b9 := b9.le d0
  have o := o.le d0
  have g := g.le d0
  have Z := Z.le d0
  have b0 := b0.le d0
  have b1 := b1.le d0
  have b2 := b2.le d0
  have c4 := c4.le d0
  have b3 := b3.le d0
  obtain ⟨rfl, rfl⟩ := x8
  have hO := zrl7 hO
  obtain ⟨_, f5, x9, hO⟩ := c4.share hO (i := 5) rfl
  have hL := hL.trans f5
  have b9 := b9.le f5
  have o := o.le f5
  have g := g.le f5
  have Z := Z.le f5
  have b0 := b0.le f5
  have b1 := b1.le f5
  have b2 := b2.le f5
  have b3 := b3.le f5
  have hO := zrl7 hO
  cases hF
  have hO := hO.sel [2, 3, 4, 6]
  exact hP _ _ _ _ hO hL ⟨_, _, _, _, _, _, _, _, _, rfl, rfl, Z, b0, b1, b2, x9, b3⟩
 refine zb0 hO (zbk x7) zqY rfl fun _ σ _ _ hO d5 y0 => ?_
 have hL := hL.trans d5
 have b9 := b9.le d5
 have o := o.le d5
 have g := g.le d5
 have Z := Z.le d5
 have b0 := b0.le d5
 have b1 := b1.le d5
 have b2 := b2.le d5
 have c4 := c4.le d5
 have b3 := b3.le d5
 obtain ⟨rfl, rfl⟩ := y0
 have hO := zrl7 hO
 refine zf (zeo (zd hO 18 [2, 0, 0, 2] [(128, zrh V), (132, .pointer (some ⟨V, 2, none⟩)), (133, zrn m6 U.2.tree.Bodies m8), (145, .agg #[(.string q.Name), (.int .i64 (q.Params.length : Int)), (.bool ((q.Result.Kind.toNat : Int) != 0)), (zrn l0 U.2.vars l1), (zrn i9 U.1 j0)])] [0] (And.intro (And.intro rfl rfl) (And.intro (And.intro rfl rfl) (And.intro (And.intro rfl rfl) (And.intro (And.intro rfl rfl) zq4)))) fun j => ?_))
 refine zcp ?_
 obtain ⟨_, f6, j1, hO⟩ := c4.share hO (i := 5) rfl
 have hL := hL.trans f6
 have b1 := b1.le f6
 have b9 := b9.le f6
 have o := o.le f6
 have g := g.le f6
 have Z := Z.le f6
 have b0 := b0.le f6
 have b2 := b2.le f6
 have b3 := b3.le f6
 have hO := zrl7 hO
 obtain ⟨_, f7, m9, hO⟩ := b9.share hO (i := 1) rfl
 have hL := hL.trans f7
 have b1 := b1.le f7
 have j1 := j1.le f7
 have o := o.le f7
 have g := g.le f7
 have Z := Z.le f7
 have b0 := b0.le f7
 have b2 := b2.le f7
 have b3 := b3.le f7
 have hO := zrl7 hO
 refine zbG (T := zp) (l := ([(⟨q.Name, (q.Params.length : Int), ((q.Result.Kind.toNat : Int) != 0), U.2.vars, U.1⟩ : zM)] : List zM)) (cs := [.string q.Name, .int .i64 (q.Params.length : Int), .bool ((q.Result.Kind.toNat : Int) != 0), zrn l0 U.2.vars l1, zrn i9 U.1 j0]) hO rfl ⟨[.string q.Name, .int .i64 (q.Params.length : Int), .bool ((q.Result.Kind.toNat : Int) != 0), zrn l0 U.2.vars l1, zrn i9 U.1 j0], _, rfl, ⟨_, _, rfl, j1, m9⟩, rfl⟩ rfl (by decide) fun _ σ F7 q8 hO => ?_
 obtain ⟨F8, F9, rfl, -⟩ := q8.form
 have hO := zrl8 hO
 refine zf (zcj ⟨(zbp rfl (hO.val (i := 2) (off := 2) (agg := false) (n := 1) rfl rfl) rfl), trivial⟩ ?_)
 obtain ⟨_, d6, y1, hO⟩ := q8.share hO (i := 7) rfl
 have hL := hL.trans d6
 have b1 := b1.le d6
 have j1 := j1.le d6
 have m9 := m9.le d6
 have o := o.le d6
 have g := g.le d6
 have Z := Z.le d6
 have b0 := b0.le d6
 have b2 := b2.le d6
 have b3 := b3.le d6
 have hO := zrl8 hO
 obtain ⟨_, r3, hF⟩ := zrm hF
 refine ze2 (T := zp) hO b1 (i := 3) rfl rfl rfl y1 r3 (by decide) fun _ σ G0 q9 hO => ?_
 obtain ⟨y2, y4, rfl, -⟩ := q9.form
 have hO := zrl8 hO
 refine zK hO 3 [] [(0, zrh V), (147, .slice y2 (U.2.tree.Bodies ++ ([(⟨q.Name, (q.Params.length : Int), ((q.Result.Kind.toNat : Int) != 0), U.2.vars, U.1⟩ : zM)] : List zM)).length y4), (150, .pointer (some ⟨V, 2, none⟩))] zq2 fun j => ?_
 refine zC hO (i := 2) rfl (off := 2) rfl rfl rfl rfl (Nat.le_of_ble_eq_true rfl) rfl fun σ hO => ?_
 have hO := zrl8 hO
 refine zf (zg ?_)
 cases hF
 have hO := hO.sel [2, 3, 4, 6]
 refine (hQ _ _ _ _ _ rfl hO hL ?_).2
 exact ⟨_, _, _, _, _, _, _, _, _, rfl, rfl, Z, b0, q9, b2, j1, b3⟩
theorem zlS {τ : Hp} {q0 : zb} {D : Nat} {G I S : Value} {o : Ob} {U : Value} {q : Ob} {V W : Value} {z : Ob} {p1 : Int} (b0 : RdT zx τ G q0.prog.Structs) (b8 : RdT zr τ I q0.prog.Funcs) (b9 : za zp 59 τ S q0.tree.Bodies o) (c0 : za zo 87 τ U q0.tree.Points q) (c1 : RdT zq τ V q0.vars) (c2 : za (Ty.int .i64) 3 τ W q0.scope z) {rr : Except (Value) (Unit)} (hF : zdB q0 p1 = some rr) :
  zbu Try.prog 51 #[.pointer (some ⟨D, 0, none⟩), .int .i64 p1] τ [zn D G I S q0.tree.Main U q0.fn V W, o, q, z] (fun v τ' vs' => match (generalizing := false) rr with | .ok rr => v = .tuple #[] ∧ vs' = [zn D G I S q0.tree.Main U q0.fn V W, o, q, z] | .error _ => False) (fun ch τ' vs' => match (generalizing := false) rr with | .ok _ => False | .error ee => ch = [{ v := ee, recovered := false }] ∧ vs' = [zn D G I S q0.tree.Main U q0.fn V W, o, q, z]) := by
 obtain ⟨b1, b2, rfl, -⟩ := b0.form
 obtain ⟨c3, c4, rfl, -⟩ := b8.form
 obtain ⟨c5, c6, rfl, -⟩ := b9.form
 obtain ⟨c7, c8, rfl, -⟩ := c0.form
 obtain ⟨c9, d0, rfl, -⟩ := c1.form
 obtain ⟨d5, d6, rfl, -⟩ := c2.form
 refine zcH (args := [.pointer (some ⟨D, 0, none⟩), .int .i64 p1]) hm Try.func51 s51 rfl fun w0 σ hP hO Q hQ => ?_
 unfold zdB at hF
 have hL := Hp.le.refl τ
 show wpn _ _ a51.body _ _ _
 unfold a51
 dsimp only
 refine zd hO 6 [0] [(10, zrn b1 q0.prog.Structs b2), (11, zrg p1)] [0, 1] (And.intro (And.intro rfl rfl) zq3) fun j => ?_
 obtain ⟨y3, g4, hF⟩ := zrm hF
 refine zO (T := zx) (b0.le hL) hO.base rfl rfl g4 (by decide) fun a5 _ k6 m7 => ?_
 obtain ⟨v8, rfl, h⟩ := k6
 obtain ⟨d7, d8, rfl, -⟩ := h.form
 refine zE rfl ((m7.le hO.base).all rfl) ?_
 refine zbl hO fun Z σ hO => ?_
 have hO := zrl5 hO
 refine zC hO (i := 4) rfl (off := 0) rfl rfl rfl rfl (Nat.le_of_ble_eq_true rfl) rfl fun σ hO => ?_
 have hO := zrl5 hO
 refine zf (zd hO 6 [0] [(18, zrn b1 q0.prog.Structs b2), (19, .func (.func 60) #[] #[(.pointer (some ⟨Z, 0, none⟩))])] [0, 1, 4] (And.intro (And.intro rfl rfl) zq4) fun j => ?_)
 obtain ⟨_, d9, g, hO⟩ := hO.shareV (i := 4) rfl
 have hL := hL.trans d9
 have h := h.le d9
 have hO := zrl5 hO
 obtain ⟨f0, f1, hF⟩ := zrm hF
 refine zL hO (zqA (b0.le hL) h g f1) rfl fun _ σ _ _ hO b4 f2 => ?_
 have hL := hL.trans b4
 have g := g.le b4
 have h := h.le b4
 obtain ⟨rfl, rfl⟩ := f2
 have hO := zrl5 hO
 refine ze hO [] [(5, zrg f0)] [0, 1, 4] zq3 fun j => ?_
 refine zd hO 4 [] [(24, .bool (f0 == p1))] [0, 4] zq2 fun j => ?_
 have hO := hO.sel [0, 1, 2, 3]
 have hO := zrl4 hO
 obtain ⟨f3, f4, hF⟩ := zrm hF
 refine zcA 2 (fun e' σ' => ∃ (τ' : Hp), agr [(29, .bool f3), (0, zrh D), (4, .pointer (some (⟨Z, 0, none⟩ : Addr)))] e' ∧ Obs τ' σ' [zn D (zrn b1 q0.prog.Structs b2) (zrn c3 q0.prog.Funcs c4) (zrn c5 q0.tree.Bodies c6) q0.tree.Main (zrn c7 q0.tree.Points c8) q0.fn (zrn c9 q0.vars d0) (zrn d5 q0.scope d6), o, q, z] ∧ Hp.le τ τ' ∧ At τ' (⟨Z, 0, none⟩ : Addr) [.string y3.Name, zrn d7 y3.Fields d8] ∧ RdT Ty.str τ' (zrn d7 y3.Fields d8) y3.Fields) ?_ ?_
 ·have hF := f4
  rcases zbL hF with ⟨X, hF⟩ | ⟨X, hF⟩
  ·refine zbn (zrk X) ?_
   refine zd hO 1 [] [(25, .pointer (some ((⟨Z, 0, none⟩ : Addr).add 1)))] [0, 4, 24] zq3 fun j => ?_
   refine zE rfl ((g.le hO.base).one 1 rfl) ?_
   obtain ⟨f5, f6, hF⟩ := zrm hF
   refine zL hO (zma h f6) rfl fun _ σ _ _ hO b5 f7 => ?_
   have hL := hL.trans b5
   have g := g.le b5
   have h := h.le b5
   obtain ⟨rfl, rfl⟩ := f7
   have hO := zrl4 hO
   refine zd hO 1 [] [(28, .bool (!f5))] [0, 4, 24] zq3 fun j => ?_
   refine zW (zri X) ?_
   refine zf ?_
   cases hF
   refine zg ?_
   exact ⟨rfl, _, zrf zq1, hO, hL, g, h⟩
  refine zbz (zrk X) ?_
  refine zW (zri X) ?_
  refine zf ?_
  cases hF
  refine zg ?_
  exact ⟨rfl, _, zrf zq1, hO, hL, g, h⟩
 rintro e σ ⟨_, hA, hO, hL, g, h⟩
 rw [← zV _ _ hA]
 rcases z9 hF with ⟨h4, f8, hF⟩ | ⟨h5, f9, hF⟩
 ·refine zbV hO (zbk f8) zqY rfl fun _ σ _ _ hO b6 g0 => ?_
  have hL := hL.trans b6
  have g := g.le b6
  have h := h.le b6
  obtain ⟨rfl, rfl⟩ := g0
  have hO := zrl4 hO
  cases hF
  exact hP _ _ _ _ hO hL ⟨rfl, rfl⟩
 refine zb0 hO (zbk f9) zqY rfl fun _ σ _ _ hO b7 g1 => ?_
 have hL := hL.trans b7
 have g := g.le b7
 have h := h.le b7
 obtain ⟨rfl, rfl⟩ := g1
 have hO := zrl4 hO
 refine zf (zbd (zd hO 1 [] [(31, .pointer (some ((⟨Z, 0, none⟩ : Addr).add 1)))] [0, 4] zq2 fun j => ?_))
 refine zE rfl ((g.le hO.base).one 1 rfl) ?_
 refine zd hO 3 [] [(35, .bool (decide ((y3.Fields.length : Int) ≥ 1)))] [0, 4] zq2 fun j => ?_
 obtain ⟨g2, g3, hF⟩ := zrm hF
 refine zdF 2 [(40, .bool g2), (0, zrh D)] (fun Q hQ => ?_) fun j => ?_
 ·have hF := g3
  rcases zbL hF with ⟨Y, hF⟩ | ⟨Y, hF⟩
  ·refine zbn (zrk Y) ?_
   refine zd hO 1 [] [(36, .pointer (some ((⟨Z, 0, none⟩ : Addr).add 1)))] [0, 35] zq2 fun j => ?_
   refine zE rfl ((g.le hO.base).one 1 rfl) ?_
   refine zd hO 2 [] [(39, .bool (decide ((y3.Fields.length : Int) ≤ 8)))] [0, 35] zq2 fun j => ?_
   refine zW (zri Y) ?_
   refine zf ?_
   cases hF
   refine zg ?_
   exact hQ _ zq1
  refine zbz (zrk Y) ?_
  refine zW (zri Y) ?_
  refine zf ?_
  cases hF
  refine zg ?_
  exact hQ _ zq1
 rcases z9 hF with ⟨h6, g5, hF⟩ | ⟨h7, g6, hF⟩
 ·refine zbV hO (zbk g5) zqY rfl fun _ σ _ _ hO g7 g8 => ?_
  have hL := hL.trans g7
  obtain ⟨rfl, rfl⟩ := g8
  have hO := zrl4 hO
  cases hF
  exact hP _ _ _ _ hO hL ⟨rfl, rfl⟩
 refine zb0 hO (zbk g6) zqY rfl fun _ σ _ _ hO g9 h0 => ?_
 have hL := hL.trans g9
 obtain ⟨rfl, rfl⟩ := h0
 have hO := zrl4 hO
 refine zf (zg ?_)
 cases hF
 refine (hQ _ _ _ _ _ rfl hO hL ?_).2
 exact ⟨rfl, rfl⟩
end Go.Proofs.Ytakcaekikfcbpaa
